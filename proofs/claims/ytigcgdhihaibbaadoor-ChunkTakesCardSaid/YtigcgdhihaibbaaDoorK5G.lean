/- Chunk: Take for any limit: the walk. No condition. -/
import Derived.Test.YtigcgdhihaibbaaDoorK5
import Derived.Test.YtigcgdhihaibbaaDoorZG
namespace Go.Proofs.YtigcgdhihaibbaaDoor.PLzG
open Go.Proofs.YtigcgdhihaibbaaDoor.PLz
open Go.RowKit Go.Proofs.YtigcgdhihaibbaaDoorW.PrintWords Go.Proofs.YtigcgdhihaibbaaDoorW.PrintLast Go.Proofs.YtigcgdhihaibbaaDoorW.PrintMore
attribute [local go_sem] max2_int min2_int max_two min_two max_three min_three max_four min_four   -- for this text's walks alone
set_option linter.unusedVariables false
set_option linter.unusedSimpArgs false
set_option maxHeartbeats 4000000
set_option maxRecDepth 20000
def lz_Unpack.f (l0 : List Int) (a1 : Int) : Option (List Int × Int) := if wire_bytes l0 = true ∧ l0.length ≤ 6000 ∧ a1 ≤ 2147483647 then some (lz_unF (max 0 a1) (l0.length + 1) l0 []) else none
theorem lz_Unpack.calls (A0 : Option Addr) (c0 : Nat) (l0 : List Int) (a1 : Int) (r1 : List Int) (r2 : Int) (w : World) (hr0 : Kd.C (Kd.int .u8) w A0 l0.length l0) (hc0 : l0.length ≤ c0) (h : lz_Unpack.f l0 a1 = some (r1, r2)) :
    Calls Tryd.prog 26 #[.slice A0 l0.length c0, .int .i64 a1] w fun e w' => ∃ v0_ : Value, e = .returned (.tuple #[v0_, .int .i64 r2]) ∧ Kd.R (Kd.int .u8) 5 w' w.heap.size (fun _ => True) v0_ r1 ∧ Below w.heap.size w w' := by
  unfold lz_Unpack.f at h
  by_cases hd : wire_bytes l0 = true ∧ l0.length ≤ 6000 ∧ a1 ≤ 2147483647
  · rw [if_pos hd] at h
    exact lz_Unpack_calls A0 c0 l0 a1 w hr0 hc0 hd.2.1 hd.2.2 (lz_bytes_all hd.1) (r1, r2) (Option.some.inj h)
  · rw [if_neg hd] at h; cases h
/-- a chunk's data, too -/
def ck_take (b : List Int) (at_ most : Int) : Option (Int × List Int × Int × Int) :=
  (ck_read b at_).bind fun r => if r.2.2.2.2.2 ≠ 0 then some (0, [], 0, r.2.2.2.2.2) else if most < r.2.2.1 then some (0, [], 0, 6) else
    if r.2.1 = 0 then some (r.1, r.2.2.2.1, r.2.2.2.2.1, 0) else
      (lz_Unpack.f r.2.2.2.1 r.2.2.1).bind fun u => if u.2 ≠ 0 ∨ (u.1.length : Int) ≠ r.2.2.1 then some (0, [], 0, 4) else some (r.1, u.1, r.2.2.2.2.1, 0)
def ck_takePost (w : World) (kind : Int) (d : List Int) (next e : Int) (en : Ending) (w' : World) : Prop :=
  ∃ (A : Option Addr) (c : Nat), en = .returned (.tuple #[.int .u8 kind, .slice A d.length c, .int .i64 next, .int .i64 e]) ∧ d.length ≤ c ∧ Kd.R (Kd.int .u8) 5 w' w.heap.size (fun _ => True) (.slice A d.length c) d ∧ Below w.heap.size w w'
theorem ck_Take_calls (A0 : Option Addr) (c0 : Nat) (b : List Int) (at_ most : Int) (kind : Int) (d : List Int) (next e : Int) (w : World) (hr0 : Kd.C (Kd.int .u8) w A0 b.length b) (hc0 : b.length ≤ c0) (hb : IsB b) (hbl : b.length ≤ 1000000) (hT : Tab w)
    (h : ck_take b at_ most = some (kind, d, next, e)) :
    Calls Tryd.prog 11 #[.slice A0 b.length c0, .int .i64 at_, .int .i64 most] w (ck_takePost w kind d next e) := by
  unfold ck_take at h
  obtain ⟨⟨k1, how, size, body, nx, e1⟩, hrd, hX⟩ := Option.bind_eq_some_iff.1 h
  clear h
  have h := hX
  clear hX
  simp only at h
  have RC := Lib.hid (ck_read_calls A0 c0 b at_ k1 how size body nx e1 w hr0 hc0 hb hbl hT hrd)
  have HH := Lib.hid h
  clear hr0 hb hT hrd h
  go_enter Tryd.func11, Tryd.ntmps11
  go_wp2_with fail
  refine RC.out.mono ?_; rintro en w1 ⟨rv, A, c, rfl, hq, hC, hB⟩
  have hn := blk_new w1 (.cells #[.pointer rv, .int .u8 k1, .int .u8 how, .int .i64 size, .slice A body.length c, .int .i64 nx] 53)
  have HBN := Lib.hid hn
  have HB2 := Lib.hid (below_alloc hB (.cells #[.pointer rv, .int .u8 k1, .int .u8 how, .int .i64 size, .slice A body.length c, .int .i64 nx] 53))
  have HC2 := Lib.hid (Kd.R_below hC (below_alloc (Below.refl _ _) (.cells #[.pointer rv, .int .u8 k1, .int .u8 how, .int .i64 size, .slice A body.length c, .int .i64 nx] 53)))
  obtain ⟨p, hp⟩ : ∃ p, w1.heap.size = p := ⟨_, rfl⟩
  obtain ⟨W, hW⟩ : ∃ W, w1.alloc (.cells #[.pointer rv, .int .u8 k1, .int .u8 how, .int .i64 size, .slice A body.length c, .int .i64 nx] 53) = W := ⟨_, rfl⟩
  have HZ := Lib.hid (blk_new w1 (.cells #[.pointer none, .int .u8 0, .int .u8 0, .int .i64 0, .slice none 0 0, .int .i64 0] 53))
  have HW := Lib.hid hW
  have HWS := Lib.hid (show (w1.alloc (.cells #[.pointer none, .int .u8 0, .int .u8 0, .int .i64 0, .slice none 0 0, .int .i64 0] 53)).setRow p #[.pointer rv, .int .u8 k1, .int .u8 how, .int .i64 size, .slice A body.length c, .int .i64 nx] = W by rw [← hW, ← hp]; exact World.setRow_alloc_new _ _ _ _)
  rw [hp, hW] at HBN
  rw [hp] at HZ
  rw [hW] at HB2 HC2
  clear hC hB hn RC hW
  have c1 : W.cell? ⟨p, 1, none⟩ = some (.int .u8 k1) := blk_cell HBN.out 1
  have c2 : W.cell? ⟨p, 2, none⟩ = some (.int .u8 how) := blk_cell HBN.out 2
  have c3 : W.cell? ⟨p, 3, none⟩ = some (.int .i64 size) := blk_cell HBN.out 3
  have c4 : W.cell? ⟨p, 4, none⟩ = some (.slice A body.length c) := blk_cell HBN.out 4
  have c5 : W.cell? ⟨p, 5, none⟩ = some (.int .i64 nx) := blk_cell HBN.out 5
  have h := HH.out
  clear HH
  by_cases he : e1 = 0
  · subst he
    rw [if_neg (by simp)] at h
    by_cases hm : most < size
    · rw [if_pos hm] at h
      injection h with h
      simp only [Prod.mk.injEq] at h
      obtain ⟨r1, r2, r3, r4⟩ := h
      subst r1 r2 r3 r4
      go_wp2_with (first | ((with_reducible refine gate_store (p := 10) rfl ?_); refine wpList_store_row rfl 53 (.tmp 10) (.tmp 17) rfl p #[.pointer rv, .int .u8 k1, .int .u8 how, .int .i64 size, .slice A body.length c, .int .i64 nx] rfl rfl 53 _ HZ.out (by kernel_rfl) rfl (by simp [Value.oneCell']) ?_; rw [HWS.out]))
      refine bodyPost_ret (results_list (rs := [.tmp 6, .tmp 7, .tmp 8, .tmp 9]) rfl (by simp) (.tmp (.tmp (.tmp (.tmp .nil))))) rfl ?_
      exact ⟨none, 0, rfl, Nat.le_refl _, Kd.R_nil _ _ _ _ _, HB2.out⟩
    · rw [if_neg hm] at h
      by_cases hz : how = 0
      · subst hz
        rw [if_pos rfl] at h
        injection h with h
        simp only [Prod.mk.injEq] at h
        obtain ⟨r1, r2, r3, r4⟩ := h
        subst r1 r2 r3 r4
        go_wp2_with (first | ((with_reducible refine gate_store (p := 10) rfl ?_); refine wpList_store_row rfl 53 (.tmp 10) (.tmp 17) rfl p #[.pointer rv, .int .u8 k1, .int .u8 0, .int .i64 size, .slice A body.length c, .int .i64 nx] rfl rfl 53 _ HZ.out (by kernel_rfl) rfl (by simp [Value.oneCell']) ?_; rw [HWS.out]))
        go_quiet (fail)
        try go_wp2
        refine bodyPost_ret (results_list (rs := [.tmp 6, .tmp 7, .tmp 8, .tmp 9]) rfl (by simp) (.tmp (.tmp (.tmp (.tmp .nil))))) rfl ?_
        exact ⟨A, c, rfl, hq, by first | exact Kd.R_below HC2.out (by apply pw_below_drewN; exact Below.refl _ _), by apply pw_below_drewN; exact HB2.out⟩
      · rw [if_neg hz] at h
        obtain ⟨⟨u, ue⟩, hu, hX⟩ := Option.bind_eq_some_iff.1 h
        clear h
        have h := hX
        clear hX
        simp only at h
        have RU := Lib.hid (lz_Unpack.calls A c body size u ue W (wire_R_C' HC2.out) hq hu)
        have HH := Lib.hid h
        clear h hu
        have hz1 : (how == (0 : Int)) = false := by simpa using hz
        go_wp2_with (first | ((with_reducible refine gate_store (p := 10) rfl ?_); refine wpList_store_row rfl 53 (.tmp 10) (.tmp 17) rfl p #[.pointer rv, .int .u8 k1, .int .u8 how, .int .i64 size, .slice A body.length c, .int .i64 nx] rfl rfl 53 _ HZ.out (by kernel_rfl) rfl (by simp [Value.oneCell']) ?_; rw [HWS.out]))
        refine RU.out.mono ?_; rintro en w3 ⟨v3, rfl, R3, b3⟩
        obtain ⟨A3, c3', rfl, q3, C3⟩ := wire_form R3
        have HB3 := Lib.hid (below_then HB2.out HB2.out.size b3)
        have HC3 := Lib.hid (wire_R_lower R3 HB2.out.size)
        have g1 : w3.cell? ⟨p, 1, none⟩ = some (.int .u8 k1) := pw_cell_below b3 c1
        have g3 : w3.cell? ⟨p, 3, none⟩ = some (.int .i64 size) := pw_cell_below b3 c3
        have g5 : w3.cell? ⟨p, 5, none⟩ = some (.int .i64 nx) := pw_cell_below b3 c5
        clear R3 C3 RU c1 c2 c3 c4 c5 b3
        have h := HH.out
        clear HH
        by_cases hue : ue = 0
        · subst hue
          by_cases hul : (u.length : Int) = size
          · rw [if_neg (by simp [hul])] at h
            injection h with h
            simp only [Prod.mk.injEq] at h
            obtain ⟨r1, r2, r3, r4⟩ := h
            subst r1 r2 r3 r4
            go_wp2_with fail
            go_quiet (fail)
            try go_wp2
            refine bodyPost_ret (results_list (rs := [.tmp 6, .tmp 7, .tmp 8, .tmp 9]) rfl (by simp) (.tmp (.tmp (.tmp (.tmp .nil))))) rfl ?_
            exact ⟨A3, c3', rfl, q3, Kd.R_below HC3.out (by apply pw_below_drewN; exact Below.refl _ _), by apply pw_below_drewN; exact HB3.out⟩
          · rw [if_pos (.inr hul)] at h
            injection h with h
            simp only [Prod.mk.injEq] at h
            obtain ⟨r1, r2, r3, r4⟩ := h
            subst r1 r2 r3 r4
            have hl1 : ((u.length : Int) == size) = false := by simpa using hul
            have hl2 : ((u.length : Int) != size) = true := by simpa using hul
            go_wp2_with fail
            refine bodyPost_ret (results_list (rs := [.tmp 6, .tmp 7, .tmp 8, .tmp 9]) rfl (by simp) (.tmp (.tmp (.tmp (.tmp .nil))))) rfl ?_
            exact ⟨none, 0, rfl, Nat.le_refl _, Kd.R_nil _ _ _ _ _, HB3.out⟩
        · rw [if_pos (.inl hue)] at h
          injection h with h
          simp only [Prod.mk.injEq] at h
          obtain ⟨r1, r2, r3, r4⟩ := h
          subst r1 r2 r3 r4
          have hl1 : (ue == (0 : Int)) = false := by simpa using hue
          have hl2 : (ue != (0 : Int)) = true := by simpa using hue
          go_wp2_with fail
          refine bodyPost_ret (results_list (rs := [.tmp 6, .tmp 7, .tmp 8, .tmp 9]) rfl (by simp) (.tmp (.tmp (.tmp (.tmp .nil))))) rfl ?_
          exact ⟨none, 0, rfl, Nat.le_refl _, Kd.R_nil _ _ _ _ _, HB3.out⟩
  · rw [if_pos he] at h
    injection h with h
    simp only [Prod.mk.injEq] at h
    obtain ⟨r1, r2, r3, r4⟩ := h
    subst r1 r2 r3 r4
    have he1 : (e1 == (0 : Int)) = false := by simpa using he
    have he2 : (e1 != (0 : Int)) = true := by simpa using he
    go_wp2_with (first | ((with_reducible refine gate_store (p := 10) rfl ?_); refine wpList_store_row rfl 53 (.tmp 10) (.tmp 17) rfl p #[.pointer rv, .int .u8 k1, .int .u8 how, .int .i64 size, .slice A body.length c, .int .i64 nx] rfl rfl 53 _ HZ.out (by kernel_rfl) rfl (by simp [Value.oneCell']) ?_; rw [HWS.out]))
    refine bodyPost_ret (results_list (rs := [.tmp 6, .tmp 7, .tmp 8, .tmp 9]) rfl (by simp) (.tmp (.tmp (.tmp (.tmp .nil))))) rfl ?_
    exact ⟨none, 0, rfl, Nat.le_refl _, Kd.R_nil _ _ _ _ _, HB2.out⟩
end Go.Proofs.YtigcgdhihaibbaaDoor.PLzG
