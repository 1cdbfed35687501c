import Derived.Test.YtigcgdhihaibbaaDoorZ9
namespace Go.Proofs.YtigcgdhihaibbaaDoor.PLz
open Go.RowKit Go.Proofs.YtigcgdhihaibbaaDoorW.PrintWords Go.Proofs.YtigcgdhihaibbaaDoorW.PrintLast Go.Proofs.YtigcgdhihaibbaaDoorW.PrintMore
set_option linter.unusedVariables false
set_option linter.unusedSimpArgs false
/-- a list of bytes -/
def IsB (l : List Int) : Prop := ∀ x ∈ l, 0 ≤ x ∧ x < 256
theorem isB_take {l : List Int} (h : IsB l) (n : Nat) : IsB (l.take n) := fun x hx => h x (List.mem_of_mem_take hx)
theorem isB_drop {l : List Int} (h : IsB l) (n : Nat) : IsB (l.drop n) := fun x hx => h x (List.mem_of_mem_drop hx)
theorem isB_app {a b : List Int} (h : IsB a) (k : IsB b) : IsB (a ++ b) := fun x hx => (List.mem_append.1 hx).elim (h x) (k x)
theorem isB_nil : IsB [] := fun x hx => by cases hx
theorem isB_get {l : List Int} (h : IsB l) (i : Nat) : 0 ≤ l.getD i 0 ∧ l.getD i 0 < 256 := by
  by_cases hi : i < l.length
  · rw [List.getD_eq_getElem?_getD, List.getElem?_eq_getElem hi]; exact h _ (List.getElem_mem hi)
  · rw [List.getD_eq_getElem?_getD, List.getElem?_eq_none (by omega)]; simp
theorem str_app (a b : List Int) : strOfNums (a ++ b) = strOfNums a ++ strOfNums b := by
  unfold strOfNums
  rw [List.map_append]
  apply ByteArray.ext
  simp
theorem str_size (l : List Int) : (strOfNums l).size = l.length := by
  unfold strOfNums
  show (Array.size _) = _
  simp
theorem str_bt {l : List Int} (h : IsB l) (i : Int) (h0 : 0 ≤ i) (h1 : i < l.length) : bt (strOfNums l) i = l.getD i.toNat 0 := by
  have hi : i.toNat < l.length := by omega
  unfold bt
  rw [dif_pos (by rw [str_size]; exact hi)]
  have e : (strOfNums l)[i.toNat]'(by rw [str_size]; exact hi) = UInt8.ofNat (l[i.toNat]).toNat := by
    show (strOfNums l).data[i.toNat]'_ = _
    unfold strOfNums
    simp
  rw [e, List.getD_eq_getElem?_getD, List.getElem?_eq_getElem hi]
  have := h _ (List.getElem_mem hi)
  simp only [Option.getD_some]
  rw [UInt8.toNat_ofNat']
  omega
theorem str_cut (l : List Int) (i j : Nat) : (strOfNums l).extract i j = strOfNums ((l.drop i).take (j - i)) := by
  apply ByteArray.ext
  unfold strOfNums
  rw [ByteArray.data_extract]
  apply Array.ext'
  simp [List.map_drop, List.map_take, List.extract_eq_drop_take']
end Go.Proofs.YtigcgdhihaibbaaDoor.PLz
