/- Chunk: the document's Take: its walk. No condition. -/
import Derived.Test.YtigcgdhihaibbaaDoorKT1
namespace Go.Proofs.YtigcgdhihaibbaaDoor.PLz
open Go.Proofs.YtigcgdhihaibbaaDoor.PTk
open Go.RowKit Go.Proofs.YtigcgdhihaibbaaDoorW.PrintWords Go.Proofs.YtigcgdhihaibbaaDoorW.PrintLast Go.Proofs.YtigcgdhihaibbaaDoorW.PrintMore
attribute [local go_sem] max2_int min2_int max_two min_two max_three min_three max_four min_four   -- for this text's walks alone
set_option linter.unusedVariables false
set_option linter.unusedSimpArgs false
set_option maxHeartbeats 4000000
set_option maxRecDepth 20000

/-- the document's Take -/
def rf_take (k : Nat) (s : ByteArray) (at_ most : Int) : Option (Int × ByteArray × Int × Int) :=
  (rf_read k s at_).bind fun r => if r.2.2.2.2.2 ≠ 0 then some (0, ⟨#[]⟩, 0, r.2.2.2.2.2) else if most < r.2.2.1 then some (0, ⟨#[]⟩, 0, 6) else
    if r.2.1 = false then some (r.1, r.2.2.2.1, r.2.2.2.2.1, 0) else
      (rematchref04_Unpack.f k r.2.2.2.1 r.2.2.1).bind fun u => if u.2 ≠ 0 ∨ (u.1.size : Int) ≠ r.2.2.1 then some (0, ⟨#[]⟩, 0, 4) else some (r.1, u.1, r.2.2.2.2.1, 0)
def rf_takePost (w : World) (kind : Int) (d : ByteArray) (next e : Int) (en : Ending) (w' : World) : Prop :=
  en = .returned (.tuple #[.int .u8 kind, .string d, .int .i64 next, .int .i64 e]) ∧ Below w.heap.size w w'
theorem rf_take_calls (k : Nat) (s : ByteArray) (at_ most : Int) (kind : Int) (d : ByteArray) (next e : Int) (w : World) (hs : s.size ≤ 100000)
    (h : rf_take k s at_ most = some (kind, d, next, e)) : Calls Tryd.prog 12 #[.string s, .int .i64 at_, .int .i64 most] w (rf_takePost w kind d next e) := by
  unfold rf_take at h
  obtain ⟨⟨k1, pk, size, body, nx, e1⟩, hrd, hX⟩ := Option.bind_eq_some_iff.1 h
  clear h
  have h := hX
  clear hX
  simp only at h
  have RC := Lib.hid (rf_read_calls k s at_ k1 pk size body nx e1 w hs hrd)
  have HH := Lib.hid h
  clear hrd h
  go_enter Tryd.func12, Tryd.ntmps12
  go_wp2_with fail
  refine RC.out.mono ?_; rintro en w1 ⟨rfl, hB⟩
  have hn := blk_new w1 (.cells #[.int .u8 k1, .bool pk, .int .i64 size, .string body, .int .i64 nx] 31)
  have HBN := Lib.hid hn
  have HB2 := Lib.hid (below_alloc hB (.cells #[.int .u8 k1, .bool pk, .int .i64 size, .string body, .int .i64 nx] 31))
  obtain ⟨p, hp⟩ : ∃ p, w1.heap.size = p := ⟨_, rfl⟩
  obtain ⟨W, hW⟩ : ∃ W, w1.alloc (.cells #[.int .u8 k1, .bool pk, .int .i64 size, .string body, .int .i64 nx] 31) = W := ⟨_, rfl⟩
  have HZ := Lib.hid (blk_new w1 (.cells #[.int .u8 0, .bool false, .int .i64 0, .string ⟨#[]⟩, .int .i64 0] 31))
  have HWS := Lib.hid (show (w1.alloc (.cells #[.int .u8 0, .bool false, .int .i64 0, .string ⟨#[]⟩, .int .i64 0] 31)).setRow p #[.int .u8 k1, .bool pk, .int .i64 size, .string body, .int .i64 nx] = W by rw [← hW, ← hp]; exact World.setRow_alloc_new _ _ _ _)
  rw [hp, hW] at HBN
  rw [hp] at HZ
  rw [hW] at HB2
  have HW := Lib.hid hW
  clear hB hn RC hW
  have c0 : W.cell? ⟨p, 0, none⟩ = some (.int .u8 k1) := blk_cell HBN.out 0
  have c1 : W.cell? ⟨p, 1, none⟩ = some (.bool pk) := blk_cell HBN.out 1
  have c2 : W.cell? ⟨p, 2, none⟩ = some (.int .i64 size) := blk_cell HBN.out 2
  have c3 : W.cell? ⟨p, 3, none⟩ = some (.string body) := blk_cell HBN.out 3
  have c4 : W.cell? ⟨p, 4, none⟩ = some (.int .i64 nx) := blk_cell HBN.out 4
  have h := HH.out
  clear HH
  by_cases he : e1 = 0
  · subst he
    rw [if_neg (by simp)] at h
    by_cases hm : most < size
    · rw [if_pos hm] at h
      injection h with h
      simp only [Prod.mk.injEq] at h
      obtain ⟨z1, z2, z3, z4⟩ := h
      subst z1 z2 z3 z4
      go_wp2_with (first | ((with_reducible refine gate_store (p := 10) rfl ?_); refine wpList_store_row rfl 31 (.tmp 10) (.tmp 18) rfl p #[.int .u8 k1, .bool pk, .int .i64 size, .string body, .int .i64 nx] rfl rfl 31 _ HZ.out (by kernel_rfl) rfl (by simp [Value.oneCell']) ?_; rw [HWS.out]))
      refine bodyPost_ret (results_list (rs := [.tmp 6, .tmp 7, .tmp 8, .tmp 9]) rfl (by simp) (.tmp (.tmp (.tmp (.tmp .nil))))) rfl ?_
      exact ⟨rfl, HB2.out⟩
    · rw [if_neg hm] at h
      cases pk with
      | false =>
        rw [if_pos rfl] at h
        injection h with h
        simp only [Prod.mk.injEq] at h
        obtain ⟨z1, z2, z3, z4⟩ := h
        subst z1 z2 z3 z4
        go_wp2_with (first | ((with_reducible refine gate_store (p := 10) rfl ?_); refine wpList_store_row rfl 31 (.tmp 10) (.tmp 18) rfl p #[.int .u8 k1, .bool false, .int .i64 size, .string body, .int .i64 nx] rfl rfl 31 _ HZ.out (by kernel_rfl) rfl (by simp [Value.oneCell']) ?_; rw [HWS.out]))
        go_quiet (fail)
        try go_wp2
        refine bodyPost_ret (results_list (rs := [.tmp 6, .tmp 7, .tmp 8, .tmp 9]) rfl (by simp) (.tmp (.tmp (.tmp (.tmp .nil))))) rfl ?_
        exact ⟨rfl, by apply pw_below_drewN; exact HB2.out⟩
      | true =>
        rw [if_neg (by decide)] at h
        obtain ⟨⟨u, ue⟩, hu, hX⟩ := Option.bind_eq_some_iff.1 h
        clear h
        have h := hX
        clear hX
        simp only at h
        have RU := Lib.hid (fun W => rematchref04_Unpack.calls k body size u ue W hu)
        have HH := Lib.hid h
        clear h hu
        go_wp2_with (first | ((with_reducible refine gate_store (p := 10) rfl ?_); refine wpList_store_row rfl 31 (.tmp 10) (.tmp 18) rfl p #[.int .u8 k1, .bool true, .int .i64 size, .string body, .int .i64 nx] rfl rfl 31 _ HZ.out (by kernel_rfl) rfl (by simp [Value.oneCell']) ?_; rw [HWS.out]))
        refine (RU.out _).mono ?_; rintro en w3 ⟨rfl, b3⟩
        have HB3 := Lib.hid (below_then HB2.out HB2.out.size b3)
        have g0 : w3.cell? ⟨p, 0, none⟩ = some (.int .u8 k1) := pw_cell_below b3 c0
        have g2 : w3.cell? ⟨p, 2, none⟩ = some (.int .i64 size) := pw_cell_below b3 c2
        have g4 : w3.cell? ⟨p, 4, none⟩ = some (.int .i64 nx) := pw_cell_below b3 c4
        clear RU c0 c1 c2 c3 c4 b3
        have h := HH.out
        clear HH
        by_cases hue : ue = 0
        · subst hue
          by_cases hul : (u.size : Int) = size
          · rw [if_neg (by simp [hul])] at h
            injection h with h
            simp only [Prod.mk.injEq] at h
            obtain ⟨z1, z2, z3, z4⟩ := h
            subst z1 z2 z3 z4
            have hl1 : ((u.size : Int) == size) = true := by simpa using hul
            go_wp2_with fail
            go_quiet (fail)
            try go_wp2
            refine bodyPost_ret (results_list (rs := [.tmp 6, .tmp 7, .tmp 8, .tmp 9]) rfl (by simp) (.tmp (.tmp (.tmp (.tmp .nil))))) rfl ?_
            exact ⟨rfl, by apply pw_below_drewN; exact HB3.out⟩
          · rw [if_pos (.inr hul)] at h
            injection h with h
            simp only [Prod.mk.injEq] at h
            obtain ⟨z1, z2, z3, z4⟩ := h
            subst z1 z2 z3 z4
            have hl1 : ((u.size : Int) == size) = false := by simpa using hul
            have hl2 : ((u.size : Int) != size) = true := by simpa using hul
            go_wp2_with fail
            refine bodyPost_ret (results_list (rs := [.tmp 6, .tmp 7, .tmp 8, .tmp 9]) rfl (by simp) (.tmp (.tmp (.tmp (.tmp .nil))))) rfl ?_
            exact ⟨rfl, HB3.out⟩
        · rw [if_pos (.inl hue)] at h
          injection h with h
          simp only [Prod.mk.injEq] at h
          obtain ⟨z1, z2, z3, z4⟩ := h
          subst z1 z2 z3 z4
          have hl1 : (ue == (0 : Int)) = false := by simpa using hue
          have hl2 : (ue != (0 : Int)) = true := by simpa using hue
          go_wp2_with fail
          refine bodyPost_ret (results_list (rs := [.tmp 6, .tmp 7, .tmp 8, .tmp 9]) rfl (by simp) (.tmp (.tmp (.tmp (.tmp .nil))))) rfl ?_
          exact ⟨rfl, HB3.out⟩
  · rw [if_pos he] at h
    injection h with h
    simp only [Prod.mk.injEq] at h
    obtain ⟨z1, z2, z3, z4⟩ := h
    subst z1 z2 z3 z4
    have he1 : (e1 == (0 : Int)) = false := by simpa using he
    have he2 : (e1 != (0 : Int)) = true := by simpa using he
    go_wp2_with (first | ((with_reducible refine gate_store (p := 10) rfl ?_); refine wpList_store_row rfl 31 (.tmp 10) (.tmp 18) rfl p #[.int .u8 k1, .bool pk, .int .i64 size, .string body, .int .i64 nx] rfl rfl 31 _ HZ.out (by kernel_rfl) rfl (by simp [Value.oneCell']) ?_; rw [HWS.out]))
    refine bodyPost_ret (results_list (rs := [.tmp 6, .tmp 7, .tmp 8, .tmp 9]) rfl (by simp) (.tmp (.tmp (.tmp (.tmp .nil))))) rfl ?_
    exact ⟨rfl, HB2.out⟩
end Go.Proofs.YtigcgdhihaibbaaDoor.PLz
