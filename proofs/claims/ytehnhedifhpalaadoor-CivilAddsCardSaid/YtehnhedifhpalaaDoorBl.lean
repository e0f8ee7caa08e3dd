/- Texts as lists of numbers. -/
import Derived.Test.YtehnhedifhpalaaDoorCf
set_option linter.unusedVariables false
set_option linter.unusedSimpArgs false
namespace Go.Proofs.YtehnhedifhpalaaDoor.Cp
open Go.RowKit Go.Proofs.YtehnhedifhpalaaDoorW.PrintWords Go.Proofs.YtehnhedifhpalaaDoorW.PrintLast Go.Proofs.YtehnhedifhpalaaDoorW.PrintMore

/-- The bytes of a text. -/
def nb (s : ByteArray) : List Int := s.data.toList.map fun b => (b.toNat : Int)

theorem nb_len (s : ByteArray) : (nb s).length = s.size := by
  unfold nb ByteArray.size
  rw [List.length_map, Array.length_toList]

theorem nb_bd (s : ByteArray) : ∀ b ∈ nb s, 0 ≤ b ∧ b ≤ 255 := by
  intro b h
  obtain ⟨c, _, rfl⟩ := List.mem_map.1 h
  have := c.toNat_lt
  omega

theorem str_nb (s : ByteArray) : strOfNums (nb s) = s := by
  unfold strOfNums nb
  rw [List.map_map]
  have : ((fun n : Int => UInt8.ofNat n.toNat) ∘ fun b : UInt8 => (b.toNat : Int)) = id := by funext b; simp
  rw [this]
  simp

theorem nb_str {l : List Int} (h : ∀ b ∈ l, 0 ≤ b ∧ b ≤ 255) : nb (strOfNums l) = l := by
  unfold nb
  rw [strOfNums_data, List.map_map]
  refine Eq.trans (List.map_congr_left (g := id) fun b hb => ?_) (List.map_id l)
  have := h b hb
  simp
  omega

theorem nb_inj {s t : ByteArray} (h : nb s = nb t) : s = t := by rw [← str_nb s, h, str_nb]

theorem nb_append (s t : ByteArray) : nb (s ++ t) = nb s ++ nb t := by
  unfold nb
  rw [← List.map_append]
  congr 1

theorem str_append (l m : List Int) : strOfNums l ++ strOfNums m = strOfNums (l ++ m) := by
  apply ByteArray.ext
  simp [strOfNums]

theorem nb_extract (s : ByteArray) (a b : Nat) : nb (s.extract a b) = ((nb s).take b).drop a := by
  unfold nb
  rw [← List.map_take, ← List.map_drop, ByteArray.data_extract]
  congr 1
  simp [List.drop_take]

theorem bt_nb (s : ByteArray) (i : Nat) (h : i < (nb s).length) : bt s (i : Int) = (nb s)[i] := by
  have h' : (i : Int).toNat < s.size := by rw [nb_len] at h; omega
  unfold bt
  rw [dif_pos h']
  simp [nb]
  rfl

theorem loop_data (s : ByteArray) : ∀ (d i : Nat) (r : List UInt8), s.size - i = d → ByteArray.toList.loop s i r = r.reverse ++ s.data.toList.drop i := by
  intro d
  induction d with
  | zero =>
    intro i r hd
    rw [ByteArray.toList.loop.eq_def, if_neg (by omega), List.drop_of_length_le (by simp only [Array.length_toList]; exact Nat.le_of_sub_eq_zero hd), List.append_nil]
  | succ d ih =>
    intro i r hd
    have hi : i < s.size := by omega
    have hi' : i < s.data.toList.length := hi
    rw [ByteArray.toList.loop.eq_def, if_pos hi, ih (i + 1) _ (by omega), List.drop_eq_getElem_cons hi', List.reverse_cons, List.append_assoc]
    congr 2
    have h2 : i < s.data.size := hi
    simp only [ByteArray.get!]
    rw [getElem!_pos s.data i h2]
    rfl

theorem toList_data (s : ByteArray) : s.toList = s.data.toList := by
  unfold ByteArray.toList
  rw [loop_data s _ 0 [] rfl]
  simp

theorem toList_nb {s t : ByteArray} : s.toList = t.toList ↔ nb s = nb t := by
  constructor
  · intro h
    rw [toList_data, toList_data] at h
    unfold nb
    rw [h]
  · intro h
    rw [nb_inj h]

end Go.Proofs.YtehnhedifhpalaaDoor.Cp
