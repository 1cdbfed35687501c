/- Path: the way back from a tile (search.way). No condition. -/
import Derived.Test.YtkbimhngbdbgdaaTake
import Derived.Test.YtkbimhngbdbgdaaPPathFindsx2
namespace Go.Proofs.Ytkbimhngbdbgdaa.PPathFinds
open Go.RowKit Go.Proofs.YtkbimhngbdbgdaaW.PrintWords Go.Proofs.YtkbimhngbdbgdaaW.PrintLast Go.Proofs.YtkbimhngbdbgdaaW.PrintMore
attribute [local go_sem] max2_int min2_int max_two min_two max_three min_three max_four min_four   -- for this text's walks alone
set_option linter.unusedVariables false
set_option linter.unusedSimpArgs false
set_option maxHeartbeats 8000000
set_option maxRecDepth 20000
/-- turned round up to i, from both ends -/
def rv (l : List Int) (i : Nat) : List Int := (List.range l.length).map fun p => if p < i ∨ l.length - 1 - i < p then l.getD (l.length - 1 - p) 0 else l.getD p 0
theorem rv_len (l : List Int) (i : Nat) : (rv l i).length = l.length := by simp [rv]
theorem rv_get (l : List Int) (i p : Nat) (h : p < l.length) : (rv l i).getD p 0 = if p < i ∨ l.length - 1 - i < p then l.getD (l.length - 1 - p) 0 else l.getD p 0 := by
  rw [List.getD_eq_getElem?_getD, List.getElem?_eq_getElem (by rw [rv_len]; exact h)]
  simp [rv]
theorem getD_ext {a b : List Int} (hl : a.length = b.length) (h : ∀ p, p < a.length → a.getD p 0 = b.getD p 0) : a = b := by
  apply List.ext_getElem hl
  intro p h1 h2
  have := h p h1
  rw [List.getD_eq_getElem?_getD, List.getD_eq_getElem?_getD, List.getElem?_eq_getElem h1, List.getElem?_eq_getElem h2] at this
  simpa using this
theorem getD_set (a : List Int) (i p : Nat) (x : Int) (h : i < a.length) : (a.set i x).getD p 0 = if p = i then x else a.getD p 0 := by
  rw [List.getD_eq_getElem?_getD, List.getElem?_set]
  by_cases hp : i = p
  · subst hp; simp [h]
  · rw [if_neg hp, if_neg (fun e => hp e.symm), List.getD_eq_getElem?_getD]
theorem rv_step (l : List Int) (i j : Nat) (hj : j = l.length - 1 - i) (h : i < j) : ((rv l i).set i ((rv l i).getD j 0)).set j ((rv l i).getD i 0) = rv l (i + 1) := by
  have hjl : j < l.length := by omega
  apply getD_ext (by simp [rv_len])
  intro p hp
  have hp : p < l.length := by simpa [rv_len] using hp
  rw [getD_set _ _ _ _ (by simp [rv_len]; exact hjl), getD_set _ _ _ _ (by rw [rv_len]; omega), rv_get _ _ _ hp, rv_get _ _ _ hjl, rv_get _ _ _ (by omega : i < l.length), rv_get _ _ _ hp]
  have e1 : ¬ (j < i ∨ l.length - 1 - i < j) := by omega
  have e2 : ¬ (i < i ∨ l.length - 1 - i < i) := by omega
  rw [if_neg e1, if_neg e2]
  by_cases h1 : p = j
  · subst h1
    rw [if_pos rfl, if_pos (by omega)]
    congr 1; omega
  · rw [if_neg h1]
    by_cases h2 : p = i
    · subst h2
      rw [if_pos rfl, if_pos (by omega)]
      congr 1
    · rw [if_neg h2]
      by_cases h3 : p < i ∨ l.length - 1 - i < p
      · rw [if_pos h3, if_pos (by omega)]
      · rw [if_neg h3, if_neg (by omega)]
theorem rv_end (l : List Int) (i : Nat) (h : l.length ≤ 2 * i + 1) : rv l i = l.reverse := by
  apply getD_ext (by simp [rv_len])
  intro p hp
  have hp : p < l.length := by simpa [rv_len] using hp
  rw [rv_get _ _ _ hp]
  have hr : l.reverse.getD p 0 = l.getD (l.length - 1 - p) 0 := by
    rw [List.getD_eq_getElem?_getD, List.getElem?_reverse hp, List.getD_eq_getElem?_getD]
  rw [hr]
  split
  · rfl
  · congr 1; omega
theorem rv_zero (l : List Int) : rv l 0 = l := by
  apply getD_ext (by simp [rv_len])
  intro p hp
  have hp : p < l.length := by simpa [rv_len] using hp
  rw [rv_get _ _ _ hp, if_neg (by omega)]
theorem rev_l0 (l : List Int) (hl : l.length ≤ 1000000) : ∀ (m i : Nat), l.length ≤ 2 * i + m → 2 * i ≤ l.length + 1 → slices_Reverse_int_int.l0 (m + 1) (rv l i) i ((l.length : Int) - 1 - i) = some l.reverse
  | 0, i, h, h2 => by
    unfold slices_Reverse_int_int.l0
    rw [if_neg (by omega), rv_end l i (by omega)]
  | m + 1, i, h, h2 => by
    unfold slices_Reverse_int_int.l0
    by_cases hij : (i : Int) < (l.length : Int) - 1 - i
    · obtain ⟨j, hj⟩ : ∃ j : Nat, j = l.length - 1 - i := ⟨_, rfl⟩
      have ej : (l.length : Int) - 1 - i = (j : Int) := by omega
      rw [ej] at hij ⊢
      rw [if_pos hij, if_pos (by omega), if_pos (by rw [rv_len]; omega), if_pos (by omega), if_pos (by rw [rv_len]; omega)]
      have e1 : rd (rv l i) (j : Int) = (rv l i).getD j 0 := by unfold rd; rw [Int.toNat_natCast]
      have e2 : rd (rv l i) (i : Int) = (rv l i).getD i 0 := by unfold rd; rw [Int.toNat_natCast]
      have w1 : wrap64 ((i : Int) + 1) = ((i + 1 : Nat) : Int) := by unfold wrap64; omega
      have w2 : wrap64 ((j : Int) - 1) = (l.length : Int) - 1 - ((i + 1 : Nat) : Int) := by unfold wrap64; omega
      rw [e1, e2, Int.toNat_natCast, Int.toNat_natCast, rv_step l i j hj (by omega), w1, w2]
      exact rev_l0 l hl m (i + 1) (by omega) (by omega)
    · rw [if_neg hij, rv_end l i (by omega)]
theorem rev_eq (l : List Int) (hl : l.length ≤ 1000000) : slices_Reverse_int_int.f (l.length + 1) l = some l.reverse := by
  unfold slices_Reverse_int_int.f
  have w : wrap64 ((l.length : Int) - 1) = (l.length : Int) - 1 - ((0 : Nat) : Int) := by unfold wrap64; omega
  rw [w]
  have := rev_l0 l hl l.length 0 (by omega) (by omega)
  rw [rv_zero] at this
  exact this
/-- the way, from its end -/
def wy : Nat → (Int → Option (Int × Int × Bool)) → Int → Option (List Int)
  | 0, _, _ => none
  | k + 1, F, t => if 0 < ((F t).getD (0, 0, false)).1 then (wy k F ((F t).getD (0, 0, false)).2.1).map (t :: ·) else some []
theorem way_calls (k : Nat) (w W : World) (g : Nat) (q : SP) (v : Value) (l : List S51) (F : Int → Option (Int × Int × Bool)) (t : Int) (r : List Int) (hr : wy k F t = some r) (hl : r.length ≤ 100000) (H : Ss w W g q v l F) :
    Calls Try.prog 19 #[.pointer (some ⟨g, 0, none⟩), .int .i64 t] W fun e W' => ∃ vo, e = .returned vo ∧ Kd.R (Kd.int .i64) 3 W' W.heap.size (fun _ => True) vo r.reverse ∧ Below W.heap.size W W' := by
  have HH := Lib.hid H
  have HR := Lib.hid hr
  have info3' := info3
  clear H hr
  go_enter Try.func19, Try.ntmps19
  go_wp2
  go_loopg [1, 5] k (fun kq v1 v5 w' => ∃ (tt : Int) (out rest : List Int), v1 = .int .i64 tt ∧ RowKit.Hid (wy kq F tt = some rest) ∧ RowKit.Hid (out ++ rest = r) ∧ RowKit.Hid (Kd.R (Kd.int .i64) 3 w' W.heap.size (fun _ => True) v5 out) ∧ RowKit.Hid (Below W.heap.size W w') ∧ kq ≤ k)
  case atStart => exact ⟨t, [], r, rfl, HR, Lib.hid rfl, Lib.hid (Kd.R_nil _ _ _ _ _), Lib.hid (Below.refl _ _), Nat.le_refl _⟩
  case round =>
    clear HR
    obtain ⟨tt, out, rest, rfl, HE, HO, HV, HB, hkq⟩ := hrel
    have HS := HH.out.next HB.out
    obtain ⟨a, b, c, d, hr1, hr2, hz, hi⟩ := HS.find tt
    have hc7 : wr.cell? ⟨g, 7, none⟩ = some (.map (some q.gm)) := (blk_cell HS.hp.blk 7).trans rfl
    cases gk with
    | zero => exact absurd HE.out (by simp [wy])
    | succ k1 =>
      have hE := HE.out
      unfold wy at hE
      rw [hz] at hE
      simp only at hE
      have HZ := Lib.hid hz
      clear HE HS hr1 hi hz
      have hf0 : ∀ w' : World, (Instr.field 55 (.agg #[.int .i64 a, .int .i64 b, .bool c]) 0).run Try.prog w' = .ok (.int .i64 a) w' := fun _ => by kernel_rfl
      have hf1 : ∀ w' : World, (Instr.field 55 (.agg #[.int .i64 a, .int .i64 b, .bool c]) 1).run Try.prog w' = .ok (.int .i64 b) w' := fun _ => by kernel_rfl
      by_cases ha : 0 < a
      · rw [if_pos ha] at hE
        obtain ⟨rest2, hw, hx⟩ := Option.map_eq_some_iff.1 hE
        have HE2 := Lib.hid hw
        have HO2 := Lib.hid (show (out ++ [tt]) ++ rest2 = r by rw [List.append_assoc, List.singleton_append, hx]; exact HO.out)
        have hol : out.length ≤ 100000 := by have := congrArg List.length HO.out; simp at this; omega
        clear hE hw hx HO
        have hda : decide (0 < a) = true := decide_eq_true ha
        go_wp2_with (at_builtin; refine Kd.R_append (Kd.int .i64) (w0 := W) W.heap.size rfl (.tmp 21) (.tmp 23) 22 3 (.int .i64 0) 8 rfl Try.underlying22 info3 rfl (by decide) (by omega) _ out tt [.int .i64 tt] (fun _ => True) (fun _ => False) rfl rfl ?aP (fun _ hk => hk.elim) ?aF ?aO ?aB ?aS ?aL ?_; (case aP => exact rfl); (case aB => exact HB.out); (case aF => exact (fun _ _ => trivial)); (case aO => exact HV.out); (case aS => exact HB.out.size); (case aL => omega); intro v9 v9w ho hb hg hat; have HV9 := Lib.hid ho; have HB9 := Lib.hid hb; obtain ⟨a', b', c', d', hr1', hr2', hz', hi'⟩ := (HH.out.next hb).find tt; obtain ⟨rfl, rfl, rfl⟩ : a = a' ∧ b = b' ∧ c = c' := (by rw [HZ.out] at hz'; simpa using hz'); have hc79 : v9w.cell? ⟨g, 7, none⟩ = some (.map (some q.gm)) := (blk_cell (HH.out.next hb).hp.blk 7).trans rfl; clear HV HB ho hb hg hat hr1' hi' hz')
        go_roundg k1
        case measure => omega
        case rel => exact ⟨b, out ++ [tt], rest2, rfl, HE2, HO2, HV9, HB9, by omega⟩
      · rw [if_neg ha] at hE
        obtain rfl := Option.some.inj hE
        have hO := HO.out
        rw [List.append_nil] at hO
        subst hO
        clear hE HO
        have hda : decide (0 < a) = false := decide_eq_false ha
        have hrv := rev_eq out (by omega)
        have RC := Lib.hid (slices_Reverse_int_int.calls (out.length + 1) (fun _ => True) u5 out out.reverse W wr HB.out HV.out hrv)
        clear hrv
        go_wp2_with (first | (refine RC.out.mono ?_; rintro e W1 ⟨rfl, hR, hB, hK⟩; have HR1 := Lib.hid hR; have HB1 := Lib.hid hB; clear RC hR hB hK) | fail)
        go_ret
        exact ⟨_, rfl, Kd.R_mono HR1.out (fun _ _ => trivial), HB1.out⟩
end Go.Proofs.Ytkbimhngbdbgdaa.PPathFinds
