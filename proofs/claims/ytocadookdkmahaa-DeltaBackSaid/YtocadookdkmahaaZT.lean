/- The reader's Text. No condition. -/
import Derived.Test.YtocadookdkmahaaZR
namespace Go.Proofs.Ytocadookdkmahaa.PLz
open Go.RowKit Go.Proofs.YtocadookdkmahaaW.PrintWords Go.Proofs.YtocadookdkmahaaW.PrintLast Go.Proofs.YtocadookdkmahaaW.PrintMore
attribute [local go_sem] max2_int min2_int max_two min_two max_three min_three max_four min_four   -- for this text's walks alone
set_option linter.unusedVariables false
set_option linter.unusedSimpArgs false
/-- what a text's reader tells of a varint: how many bytes, the error, and the text's numbers -/
def wire_tx (l : List Int) (m v c e : Int) : Int × Int × List Int :=
  if e ≠ 0 then (0, e, []) else if m < 0 ∨ m < v then (0, 4, []) else if (l.length : Int) - c < v then (0, 3, []) else (c + v, 0, (l.drop c.toNat).take v.toNat)
theorem wire_c54_err (W : World) (A : Option Addr) (c : Nat) (l : List Int) (p o : Nat) (m r1 r2 r3 : Int) (hr : Kd.C (Kd.int .u8) W A l.length l) (hc : l.length ≤ c) (hf : wire_varint.f l = some (r1, r2, r3)) (he : r3 ≠ 0) :
    Calls Try.prog 47 #[.slice A l.length c, .pointer (some ⟨p, 0, none⟩), .pointer (some ⟨o, 0, none⟩)] W fun e w' => e = .returned (.tuple #[.int .i64 0, .int .i64 r3]) ∧ w' = W := by
  go_enter Try.func47, Try.ntmps47
  go_wp2_with fail
  refine (wire_varint.calls A c l r1 r2 r3 _ hr hc hf).mono ?_; rintro e w1 ⟨rfl, rfl⟩
  go_wp2_with fail
  go_ret2
  exact ⟨rfl, rfl⟩
set_option maxHeartbeats 1000000 in
theorem wire_c54_form (W : World) (A : Option Addr) (c : Nat) (l : List Int) (p o : Nat) (m r1 r2 r3 : Int) (hr : Kd.C (Kd.int .u8) W A l.length l) (hc : l.length ≤ c) (hf : wire_varint.f l = some (r1, r2, r3)) (he : r3 = 0) (hm : m < 0 ∨ (0 ≤ m ∧ m < r1)) (hmm : m < 9223372036854775808) (hp : W.cell? ⟨p, 0, none⟩ = some (.int .i64 m)) :
    Calls Try.prog 47 #[.slice A l.length c, .pointer (some ⟨p, 0, none⟩), .pointer (some ⟨o, 0, none⟩)] W fun e w' => e = .returned (.tuple #[.int .i64 0, .int .i64 4]) ∧ w' = W := by
  subst he
  rcases hm with hm | ⟨hm0, hm⟩
  · go_enter Try.func47, Try.ntmps47
    go_wp2_with fail
    refine (wire_varint.calls A c l r1 r2 0 _ hr hc hf).mono ?_; rintro e w1 ⟨rfl, rfl⟩
    go_wp2_with fail
    go_ret2
    exact ⟨rfl, rfl⟩
  · have hw : IntKind.u64.wrap m = m := by rw [IntKind.wrap_u64]; omega
    go_enter Try.func47, Try.ntmps47
    go_wp2_with fail
    refine (wire_varint.calls A c l r1 r2 0 _ hr hc hf).mono ?_; rintro e w1 ⟨rfl, rfl⟩
    go_wp2_with fail
    go_ret2
    exact ⟨rfl, rfl⟩
set_option maxHeartbeats 1000000 in
theorem wire_c54_short (W : World) (A : Option Addr) (c : Nat) (l : List Int) (p o : Nat) (m r1 r2 r3 : Int) (hr : Kd.C (Kd.int .u8) W A l.length l) (hc : l.length ≤ c) (hf : wire_varint.f l = some (r1, r2, r3)) (he : r3 = 0) (h0 : 0 ≤ r1) (hm : r1 ≤ m) (hmm : m < 9223372036854775808) (hp : W.cell? ⟨p, 0, none⟩ = some (.int .i64 m)) (hcl : r2 ≤ l.length) (hll : l.length ≤ 140737488355328) (hs : (l.length : Int) - r2 < r1) :
    Calls Try.prog 47 #[.slice A l.length c, .pointer (some ⟨p, 0, none⟩), .pointer (some ⟨o, 0, none⟩)] W fun e w' => e = .returned (.tuple #[.int .i64 0, .int .i64 3]) ∧ w' = W := by
  subst he
  have hcc := wire_varint_count hf
  have hw : IntKind.u64.wrap m = m := by rw [IntKind.wrap_u64]; omega
  have hw2 : IntKind.u64.wrap ((l.length : Int) - r2) = (l.length : Int) - r2 := by rw [IntKind.wrap_u64]; omega
  go_enter Try.func47, Try.ntmps47
  go_wp2_with fail
  refine (wire_varint.calls A c l r1 r2 0 _ hr hc hf).mono ?_; rintro e w1 ⟨rfl, rfl⟩
  go_wp2_with fail
  go_ret2
  exact ⟨rfl, rfl⟩
set_option maxHeartbeats 1000000 in
theorem wire_c54 (W : World) (A : Option Addr) (c : Nat) (l : List Int) (p o : Nat) (m r1 r2 r3 : Int) (hr : Kd.C (Kd.int .u8) W A l.length l) (hc : l.length ≤ c) (hf : wire_varint.f l = some (r1, r2, r3)) (he : r3 = 0) (h0 : 0 ≤ r1) (hm : r1 ≤ m) (hmm : m < 9223372036854775808) (hp : W.cell? ⟨p, 0, none⟩ = some (.int .i64 m)) (hcl : r2 ≤ l.length) (hll : l.length ≤ 140737488355328) (hs : ¬ (l.length : Int) - r2 < r1)
    (x0 : Value) (hcell : W.cell? ⟨o, 0, none⟩ = some x0) (hfr : W.frozen? ⟨o, 0, none⟩ = false) :
    Calls Try.prog 47 #[.slice A l.length c, .pointer (some ⟨p, 0, none⟩), .pointer (some ⟨o, 0, none⟩)] W fun e w' => e = .returned (.tuple #[.int .i64 (r2 + r1), .int .i64 0]) ∧ w' = W.setCell ⟨o, 0, none⟩ (.string (strOfNums ((l.drop r2.toNat).take r1.toNat))) := by
  subst he
  have hcc := wire_varint_count hf
  have hw : IntKind.u64.wrap m = m := by rw [IntKind.wrap_u64]; omega
  have hw2 : IntKind.u64.wrap ((l.length : Int) - r2) = (l.length : Int) - r2 := by rw [IntKind.wrap_u64]; omega
  have hC := Kd.C_take (m := r1.toNat) (Kd.C_drop (m := r2.toNat) (c := c) hr (by omega) hc) (by rw [List.length_drop]; omega)
  have hn : ((l.drop r2.toNat).take r1.toNat).length = (r2 + r1).toNat - r2.toNat := by rw [List.length_take, List.length_drop]; omega
  rw [hn, show r2.toNat * (Kd.int .u8).sz = r2.toNat by show r2.toNat * 1 = _; omega] at hC
  by_cases hcr : c = r2.toNat
  · subst hcr
    rw [if_pos rfl] at hC
    have hn2 : r2.toNat - r2.toNat = 0 := by omega
    have hconv := Kd.C_string (P := Try.prog) (src := 22) (dst := 9) (c := r2.toNat - r2.toNat) Try.underlying22 (by kernel_rfl) Try.underlying9 hC
    rw [hn2] at hconv
    clear hC hn hn2
    go_enter Try.func47, Try.ntmps47
    go_wp2_with fail
    refine (wire_varint.calls A r2.toNat l r1 r2 0 _ hr hc hf).mono ?_; rintro e w1 ⟨rfl, rfl⟩
    go_wp2_with fail
    go_ret2
    exact ⟨rfl, rfl⟩
  · rw [if_neg hcr] at hC
    have hconv := Kd.C_string (P := Try.prog) (src := 22) (dst := 9) (c := c - r2.toNat) Try.underlying22 (by kernel_rfl) Try.underlying9 hC
    clear hC hn
    go_enter Try.func47, Try.ntmps47
    go_wp2_with fail
    refine (wire_varint.calls A c l r1 r2 0 _ hr hc hf).mono ?_; rintro e w1 ⟨rfl, rfl⟩
    go_wp2_with fail
    go_ret2
    exact ⟨rfl, rfl⟩
def wire_Text_out (s0_1 a1 : Int) (l : List Int) (v : Int × Int × Int) : Option (ByteArray × Int × Int) :=
  if v.2.2 ≠ 0 then some (⟨#[]⟩, s0_1, v.2.2) else if a1 < 0 then some (⟨#[]⟩, s0_1, 4) else if a1 < v.1 then some (⟨#[]⟩, s0_1, 4) else if v.1 < 0 then none else if (l.length : Int) - v.2.1 < v.1 then some (⟨#[]⟩, s0_1, 3) else some (strOfNums ((l.drop v.2.1.toNat).take v.1.toNat), s0_1 + (v.2.1 + v.1), 0)
def wire_Reader_Text.f (s0_0 : List Int) (s0_1 s0_2 : Int) (a1 : Int) : Option (ByteArray × Int × Int) :=
  if s0_2 = 0 then (if 0 ≤ s0_1 ∧ s0_1 ≤ s0_0.length ∧ s0_0.length ≤ 140737488355328 ∧ a1 < 9223372036854775808 then (wire_varint.f (s0_0.drop s0_1.toNat)).bind fun v => wire_Text_out s0_1 a1 (s0_0.drop s0_1.toNat) v else none) else some (⟨#[]⟩, s0_1, s0_2)
set_option maxHeartbeats 1000000 in
theorem wire_Text_quiet (g : Nat) (s0_0 : List Int) (s0_1 : Int) (a1 n e : Int) (w0 w : World) (hI : IsS72 w0 w g s0_0 s0_1 0) (hB : Below w0.heap.size w0 w) (hd : 0 ≤ s0_1 ∧ s0_1 ≤ s0_0.length) (hn : n = 0) (he : e ≠ 0) (hlen : s0_0.length ≤ 140737488355328)
    (hcl : ∀ (W : World) (A : Option Addr) (c : Nat), W.cell? ⟨w.heap.size, 0, none⟩ = some (.int .i64 a1) → Kd.C (Kd.int .u8) W A (s0_0.drop s0_1.toNat).length (s0_0.drop s0_1.toNat) → (s0_0.drop s0_1.toNat).length ≤ c → Calls Try.prog 47 #[.slice A (s0_0.drop s0_1.toNat).length c, .pointer (some ⟨w.heap.size, 0, none⟩), .pointer (some ⟨w.heap.size + 1, 0, none⟩)] W fun e' w' => e' = .returned (.tuple #[.int .i64 n, .int .i64 e]) ∧ w' = W) :
    Calls Try.prog 28 #[.pointer (some ⟨g, 0, none⟩), .int .i64 a1] w fun e' w' => e' = .returned (.string ⟨#[]⟩) ∧ IsS72 w0 w' g s0_0 s0_1 e ∧ Below w0.heap.size w0 w' ∧ KeepBut w w' g none := by
  subst hn
  have h0 := hB.size
  have hne : g ≠ w.heap.size + 1 := by have := hI.lt; omega
  have RD := wire_rd g s0_0 s0_1 w0 (wire_W2 w a1 (.string ⟨#[]⟩) 9) (hI.below (wire_W2_b ..)) (below_then hB hB.size (wire_W2_b ..)) 47 (fun args W => wire_enter Try.func47 (by rfl) rfl args W) #[.pointer (some ⟨w.heap.size, 0, none⟩), .pointer (some ⟨w.heap.size + 1, 0, none⟩)] 0 e (fun w' => w' = (wire_W2 w a1 (.string ⟨#[]⟩) 9).drew) hd (by omega)
    (fun W A c' hW hC hcc => by subst hW; exact hcl _ A c' (blk_cell (wire_W2_p ..) 0) hC hcc)
    (fun w' hw => by subst hw; rfl)
  have RD := Lib.hid RD
  clear hcl
  go_enter Try.func28, Try.ntmps28
  go_wp2_with fail
  refine RD.out.mono ?_; rintro e' w2 ⟨rfl, w1, hw1, hw2⟩
  have F := wire_fin (o := w.heap.size + 1) (v := .string ⟨#[]⟩) (t := 9) hI hB (w1 := w1) (by subst hw1; exact below_drew1 (wire_W2_b ..)) (by subst hw1; exact wire_W2_o ..) (by omega) hw2
  rw [if_neg he] at F
  clear hw1 hw2
  have k0 : w2.cell? ⟨w.heap.size + 1, 0, none⟩ = some (.string ⟨#[]⟩) := blk_cell F.blk 0
  have kf := blk_frozen F.blk 0
  have F2 := F.set (u := .string ⟨#[]⟩) (by omega) (by omega) hne
  go_wp2_with fail
  refine bodyPost_ret (wire_res rfl _ _ ⟨w.heap.size + 1, 0, none⟩ _ _ rfl Try.underlying9 rfl (blk_cell F2.blk 0)) rfl ?_
  exact ⟨rfl, F2.st, F2.b0, F2.kp⟩
set_option maxHeartbeats 1000000 in
theorem wire_Reader_Text.calls (g : Nat) (s0_0 : List Int) (s0_1 : Int) (s0_2 : Int) (a1 : Int) (r1 : ByteArray) (r2 : Int) (r3 : Int) (w0 w : World) (hI : IsS72 w0 w g s0_0 s0_1 s0_2) (hB : Below w0.heap.size w0 w) (h : wire_Reader_Text.f s0_0 s0_1 s0_2 a1 = some (r1, r2, r3)) :
    Calls Try.prog 28 #[.pointer (some ⟨g, 0, none⟩), .int .i64 a1] w fun e w' => e = .returned (.string r1) ∧ IsS72 w0 w' g s0_0 r2 r3 ∧ Below w0.heap.size w0 w' ∧ KeepBut w w' g none := by
  have h0 := hB.size
  have hne : g ≠ w.heap.size + 1 := by have := hI.lt; omega
  unfold wire_Reader_Text.f at h
  by_cases h2 : s0_2 = 0
  · subst h2
    rw [if_pos rfl] at h
    by_cases hd : 0 ≤ s0_1 ∧ s0_1 ≤ s0_0.length ∧ s0_0.length ≤ 140737488355328 ∧ a1 < 9223372036854775808
    · rw [if_pos hd] at h
      obtain ⟨⟨v, c, e⟩, hv, hr⟩ := Option.bind_eq_some_iff.1 h
      have hc := wire_varint_count hv
      have hcl := wire_varint_len hv
      have hll : (s0_0.drop s0_1.toNat).length ≤ 140737488355328 := by rw [List.length_drop]; omega
      clear h
      unfold wire_Text_out at hr
      simp only [] at hr
      by_cases he : e ≠ 0
      · rw [if_pos he] at hr
        obtain ⟨rfl, rfl, rfl⟩ : (⟨#[]⟩ : ByteArray) = r1 ∧ s0_1 = r2 ∧ e = r3 := by simpa using hr
        exact wire_Text_quiet g s0_0 s0_1 a1 0 e w0 w hI hB ⟨hd.1, hd.2.1⟩ rfl he hd.2.2.1 (fun W A c' _ hC hcc => wire_c54_err W A c' _ _ _ a1 v c e hC hcc hv he)
      · rw [if_neg he] at hr
        have he : e = 0 := by omega
        by_cases hm : a1 < 0
        · rw [if_pos hm] at hr
          obtain ⟨rfl, rfl, rfl⟩ : (⟨#[]⟩ : ByteArray) = r1 ∧ s0_1 = r2 ∧ 4 = r3 := by simpa using hr
          exact wire_Text_quiet g s0_0 s0_1 a1 0 4 w0 w hI hB ⟨hd.1, hd.2.1⟩ rfl (by decide) hd.2.2.1 (fun W A c' hp hC hcc => wire_c54_form W A c' _ _ _ a1 v c e hC hcc hv he (.inl hm) hd.2.2.2 hp)
        · rw [if_neg hm] at hr
          by_cases hm2 : a1 < v
          · rw [if_pos hm2] at hr
            obtain ⟨rfl, rfl, rfl⟩ : (⟨#[]⟩ : ByteArray) = r1 ∧ s0_1 = r2 ∧ 4 = r3 := by simpa using hr
            exact wire_Text_quiet g s0_0 s0_1 a1 0 4 w0 w hI hB ⟨hd.1, hd.2.1⟩ rfl (by decide) hd.2.2.1 (fun W A c' hp hC hcc => wire_c54_form W A c' _ _ _ a1 v c e hC hcc hv he (.inr ⟨by omega, hm2⟩) hd.2.2.2 hp)
          · rw [if_neg hm2] at hr
            by_cases hv0 : v < 0
            · rw [if_pos hv0] at hr; cases hr
            · rw [if_neg hv0] at hr
              by_cases hs : ((s0_0.drop s0_1.toNat).length : Int) - c < v
              · rw [if_pos hs] at hr
                obtain ⟨rfl, rfl, rfl⟩ : (⟨#[]⟩ : ByteArray) = r1 ∧ s0_1 = r2 ∧ 3 = r3 := by simpa using hr
                exact wire_Text_quiet g s0_0 s0_1 a1 0 3 w0 w hI hB ⟨hd.1, hd.2.1⟩ rfl (by decide) hd.2.2.1 (fun W A c' hp hC hcc => wire_c54_short W A c' _ _ _ a1 v c e hC hcc hv he (by omega) (by omega) hd.2.2.2 hp hcl hll hs)
              · rw [if_neg hs] at hr
                obtain ⟨hr1, rfl, rfl⟩ : strOfNums (((s0_0.drop s0_1.toNat).drop c.toNat).take v.toNat) = r1 ∧ s0_1 + (c + v) = r2 ∧ 0 = r3 := by simpa using hr
                have RD := wire_rd g s0_0 s0_1 w0 (wire_W2 w a1 (.string ⟨#[]⟩) 9) (hI.below (wire_W2_b ..)) (below_then hB hB.size (wire_W2_b ..)) 47 (fun args W => wire_enter Try.func47 (by rfl) rfl args W) #[.pointer (some ⟨w.heap.size, 0, none⟩), .pointer (some ⟨w.heap.size + 1, 0, none⟩)] (c + v) 0 (fun w' => w' = (wire_W2 w a1 (.string ⟨#[]⟩) 9).drew.setCell ⟨w.heap.size + 1, 0, none⟩ (.string r1)) ⟨hd.1, hd.2.1⟩ (by omega)
                  (fun W A c' hW hC hcc => by subst hW; rw [← hr1]; exact wire_c54 _ A c' _ _ _ a1 v c e hC hcc hv he (by omega) (by omega) hd.2.2.2 (blk_cell (wire_W2_p ..) 0) hcl hll hs _ (blk_cell (wire_W2_o ..) 0) (blk_frozen (wire_W2_o ..) 0))
                  (fun w' hw => by subst hw; exact Below.heap_setCell _ _ _ _ hne)
                have RD := Lib.hid RD
                clear hr hv hr1 hs
                go_enter Try.func28, Try.ntmps28
                go_wp2_with fail
                refine RD.out.mono ?_; rintro e' w2 ⟨rfl, w1, hw1, hw2⟩
                have hw3 : w2 = w1.setCell ⟨g, 1, none⟩ (.int .i64 (s0_1 + (c + v))) := by simpa using hw2
                have F := wire_fin (o := w.heap.size + 1) (v := .string r1) (t := 9) (w2 := w2) (n := c + v) (e := 0) hI hB (w1 := w1) (by subst hw1; exact below_set (below_drew1 (wire_W2_b ..)) (by omega)) (by subst hw1; simpa using blk_set (w := (wire_W2 w a1 (.string ⟨#[]⟩) 9).drew) (wire_W2_o ..) 0 (.string r1)) (by omega) (by rw [if_pos rfl]; exact hw3)
                rw [if_pos rfl] at F
                clear hw1 hw2 hw3
                have k0 : w2.cell? ⟨w.heap.size + 1, 0, none⟩ = some (.string r1) := blk_cell F.blk 0
                have kf := blk_frozen F.blk 0
                have F2 := F.set (u := .string r1) (by omega) (by omega) hne
                go_wp2_with fail
                refine bodyPost_ret (wire_res rfl _ _ ⟨w.heap.size + 1, 0, none⟩ _ _ rfl Try.underlying9 rfl (blk_cell F2.blk 0)) rfl ?_
                exact ⟨rfl, F2.st, F2.b0, F2.kp⟩
    · rw [if_neg hd] at h
      cases h
  · rw [if_neg h2] at h
    obtain ⟨rfl, rfl, rfl⟩ : (⟨#[]⟩ : ByteArray) = r1 ∧ s0_1 = r2 ∧ s0_2 = r3 := by simpa using h
    have RD := wire_rd_gone g s0_0 s0_1 s0_2 w0 (wire_W2 w a1 (.string ⟨#[]⟩) 9) (hI.below (wire_W2_b ..)) 47 #[.pointer (some ⟨w.heap.size, 0, none⟩), .pointer (some ⟨w.heap.size + 1, 0, none⟩)] h2
    have RD := Lib.hid RD
    clear h
    have F : wire_Fin w0 w (wire_W2 w a1 (.string ⟨#[]⟩) 9) (w.heap.size + 1) g (.string ⟨#[]⟩) 9 s0_0 s0_1 s0_2 := ⟨wire_W2_o .., hI.below (wire_W2_b ..), below_then hB hB.size (wire_W2_b ..), KeepBut.of_below (wire_W2_b ..) g none⟩
    have F2 := F.set (u := .string ⟨#[]⟩) (by omega) (by omega) hne
    have k0 : (wire_W2 w a1 (.string ⟨#[]⟩) 9).cell? ⟨w.heap.size + 1, 0, none⟩ = some (.string ⟨#[]⟩) := blk_cell F.blk 0
    have kf := blk_frozen F.blk 0
    go_enter Try.func28, Try.ntmps28
    go_wp2_with fail
    refine RD.out.mono ?_; rintro e' w2 ⟨rfl, rfl⟩
    go_wp2_with fail
    refine bodyPost_ret (wire_res rfl _ _ ⟨w.heap.size + 1, 0, none⟩ _ _ rfl Try.underlying9 rfl (blk_cell F2.blk 0)) rfl ?_
    exact ⟨rfl, F2.st, F2.b0, F2.kp⟩

end Go.Proofs.Ytocadookdkmahaa.PLz
