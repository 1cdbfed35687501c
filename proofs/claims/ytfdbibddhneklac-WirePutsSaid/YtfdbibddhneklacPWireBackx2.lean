-- by a program of ours (the kit's print, turned, and hand texts beside it), out of the translation; not trusted: Lean checks it
import Derived.Test.YtfdbibddhneklacPWireBackx0
import Derived.Test.YtfdbibddhneklacPWireBackx1
namespace Go.Proofs.Ytfdbibddhneklac.PWireBack
open Go.RowKit Go.Proofs.YtfdbibddhneklacW.PrintWords Go.Proofs.YtfdbibddhneklacW.PrintLast Go.Proofs.YtfdbibddhneklacW.PrintMore
attribute [local go_sem] max2_int min2_int max_two min_two max_three min_three max_four min_four   -- for this text's walks alone
set_option linter.unusedVariables false
set_option linter.unusedSimpArgs false

/-! ### wire_Reader_Bytes: function 43 -/
theorem wire_C_none {W : World} {l : List Int} (h : Kd.C (Kd.int .u8) W none l.length l) : l = [] := by
  have := (wire_none none l W h rfl).1
  exact List.length_eq_zero_iff.1 this
set_option maxHeartbeats 1000000 in
theorem wire_clone (A : Option Addr) (c : Nat) (l : List Int) (w : World) (hr : Kd.C (Kd.int .u8) w A l.length l) (hc : l.length ≤ c) (hl : l.length ≤ 140737488355328) :
    Calls Try.prog 57 #[.slice A l.length c] w fun e w' => ∃ v : Value, e = .returned v ∧ Kd.R (Kd.int .u8) 5 w' w.heap.size (fun _ => True) v l ∧ Below w.heap.size w w' := by
  have heq := fun A => run_eql_slice_nil (P := Try.prog) w 43 5 A l.length c Try.underlying43
  have heq0 := heq none
  cases A with
  | none =>
    have hz := wire_C_none hr
    have hn : l.length = 0 := by rw [hz]; rfl
    clear hr heq
    rw [hn] at hc heq0 ⊢
    go_enter Try.func57, Try.ntmps57
    go_wp2_with fail
    go_ret
    rw [hz]
    exact ⟨_, rfl, Kd.R_nil _ _ _ _ _, Below.refl _ _⟩
  | some b =>
    have HR := Lib.hid hr
    have heq := heq (some b)
    clear hr heq0
    have hh : (w.alloc (.cells #[] 5)).heap[w.heap.size]? = some (.cells #[] 5 (0, 0)) := heap_alloc_new w _
    have hBa : Below w.heap.size w (w.alloc (.cells #[] 5)) := below_alloc (Below.refl _ _) _
    have HC : Kd.C (Kd.int .u8) (w.alloc (.cells #[] 5)) (some b) l.length l := Kd.C_below HR.out hBa
    have HO : Kd.R (Kd.int .u8) 5 (w.alloc (.cells #[] 5)) w.heap.size (fun _ => True) (.slice (some ⟨w.heap.size, 0, none⟩) 0 0) [] := wire_R_of_own (n := 0) (xs := []) rfl ⟨rfl, .inr ⟨w.heap.size, 0, #[], rfl, Nat.le_refl _, hh, Nat.le_refl _, Nat.zero_le _, rfl, rfl⟩⟩
    have HS := hBa.size
    have HC := Lib.hid HC
    have HO := Lib.hid HO
    have HB := Lib.hid hBa
    clear hh hBa HR
    go_enter Try.func57, Try.ntmps57
    go_wp2_with (at_builtin; refine Kd.R_append_row (Value.int .u8) (0 : Int) (w0 := w) w.heap.size rfl (.tmp 5) (.tmp 6) 43 5 (.int .u8 0) 1 rfl Try.underlying43 info5 rfl (by decide) _ [] l (some b) l.length c (fun _ => True) rfl rfl (fun _ _ => trivial) HO.out HC.out HB.out HS (by simp; omega) ?_; intro v1 w1 ho hb hg hat)
    go_wp2_with fail
    go_ret
    exact ⟨_, rfl, ho, hb⟩
theorem wire_c56_form (W : World) (A : Option Addr) (c m : Nat) (p o : Nat) (n : Int) (hp : W.cell? ⟨p, 0, none⟩ = some (.int .i64 n)) (hn : n < 0) :
    Calls Try.prog 56 #[.slice A m c, .pointer (some ⟨p, 0, none⟩), .pointer (some ⟨o, 0, none⟩)] W fun e w' => e = .returned (.tuple #[.int .i64 0, .int .i64 4]) ∧ w' = W := by
  go_enter Try.func56, Try.ntmps56
  go_wp2_with fail
  go_ret2
  exact ⟨rfl, rfl⟩
theorem wire_c56_short (W : World) (A : Option Addr) (c m : Nat) (p o : Nat) (n : Int) (hp : W.cell? ⟨p, 0, none⟩ = some (.int .i64 n)) (hn : (m : Int) < n) :
    Calls Try.prog 56 #[.slice A m c, .pointer (some ⟨p, 0, none⟩), .pointer (some ⟨o, 0, none⟩)] W fun e w' => e = .returned (.tuple #[.int .i64 0, .int .i64 3]) ∧ w' = W := by
  go_enter Try.func56, Try.ntmps56
  go_wp2_with fail
  go_ret2
  exact ⟨rfl, rfl⟩
theorem wire_c56 (W : World) (A : Option Addr) (c : Nat) (l : List Int) (p o : Nat) (n : Int) (hr : Kd.C (Kd.int .u8) W A l.length l) (hc : l.length ≤ c) (hl : l.length ≤ 140737488355328) (hp : W.cell? ⟨p, 0, none⟩ = some (.int .i64 n)) (hn : 0 ≤ n ∧ n ≤ l.length) (hpo : p ≠ o)
    (x0 : Value) (hcell : W.cell? ⟨o, 0, none⟩ = some x0) (hfr : W.frozen? ⟨o, 0, none⟩ = false) (hfr2 : ∀ w1, Below W.heap.size W w1 → w1.frozen? ⟨o, 0, none⟩ = false) :
    Calls Try.prog 56 #[.slice A l.length c, .pointer (some ⟨p, 0, none⟩), .pointer (some ⟨o, 0, none⟩)] W fun e w' => e = .returned (.tuple #[.int .i64 n, .int .i64 0]) ∧ ∃ v w1, Kd.R (Kd.int .u8) 5 w1 W.heap.size (fun _ => True) v (l.take n.toNat) ∧ Below W.heap.size W w1 ∧ w' = w1.setCell ⟨o, 0, none⟩ v := by
  have hlen : (l.take n.toNat).length = n.toNat := by rw [List.length_take]; omega
  have hcl := wire_clone A c (l.take n.toNat) W (Kd.C_take (m := n.toNat) hr (by omega)) (by rw [hlen]; omega) (by rw [hlen]; omega)
  rw [hlen] at hcl
  have CL := Lib.hid hcl
  clear hcl hr
  go_enter Try.func56, Try.ntmps56
  go_wp2_with fail
  refine CL.out.mono ?_; rintro e w1 ⟨v, rfl, hR, hB⟩
  rcases (Kd.own_of_R hR).2 with ⟨rfl, _⟩ | ⟨g', cap, cur, rfl, _⟩
  · have q1 : w1.cell? ⟨o, 0, none⟩ = some x0 := pw_cell_below hB hcell
    have q2 := hfr2 w1 hB
    have q3 : w1.cell? ⟨p, 0, none⟩ = some (.int .i64 n) := pw_cell_below hB hp
    have q4 : (w1.setCell ⟨o, 0, none⟩ (.slice none 0 0)).cell? ⟨p, 0, none⟩ = some (.int .i64 n) := by
      rw [World.cell?_setCell_other (w := w1) (a := ⟨o, 0, none⟩) (b := ⟨p, 0, none⟩) (h := by intro e; injection e with e1; exact hpo e1.symm)]
      exact q3
    have hB := Lib.hid hB
    have hR := Lib.hid hR
    clear hcell hfr hfr2 hp
    go_wp2_with fail
    go_ret2
    exact ⟨rfl, _, w1, hR.out, hB.out, rfl⟩
  · rw [hlen] at hR
    have q1 : w1.cell? ⟨o, 0, none⟩ = some x0 := pw_cell_below hB hcell
    have q2 := hfr2 w1 hB
    have q3 : w1.cell? ⟨p, 0, none⟩ = some (.int .i64 n) := pw_cell_below hB hp
    have q4 : (w1.setCell ⟨o, 0, none⟩ (.slice (some ⟨g', 0, none⟩) n.toNat cap)).cell? ⟨p, 0, none⟩ = some (.int .i64 n) := by
      rw [World.cell?_setCell_other (w := w1) (a := ⟨o, 0, none⟩) (b := ⟨p, 0, none⟩) (h := by intro e; injection e with e1; exact hpo e1.symm)]
      exact q3
    have hB := Lib.hid hB
    have hR := Lib.hid hR
    clear hcell hfr hfr2 hp
    go_wp2_with fail
    go_ret2
    exact ⟨rfl, _, w1, hR.out, hB.out, rfl⟩
theorem wire_R_lower {W : World} {b b' e : Nat} {ok : Nat → Prop} {v : Value} {xs : List Int} (h : Kd.R (Kd.int .u8) e W b ok v xs) (hb : b' ≤ b) : Kd.R (Kd.int .u8) e W b' ok v xs := Kd.R_of_own (wire_ownsRow_base hb (Kd.own_of_R h)) h.1
def wire_Reader_Bytes.f (s0_0 : List Int) (s0_1 s0_2 : Int) (a1 : Int) : Option (List Int × Int × Int) :=
  if s0_2 = 0 then (if 0 ≤ s0_1 ∧ s0_1 ≤ s0_0.length ∧ s0_0.length ≤ 140737488355328 then (if a1 < 0 then some ([], s0_1, 4) else if ((s0_0.drop s0_1.toNat).length : Int) < a1 then some ([], s0_1, 3) else some ((s0_0.drop s0_1.toNat).take a1.toNat, s0_1 + a1, 0)) else none) else some ([], s0_1, s0_2)
set_option maxHeartbeats 1000000 in
theorem wire_Bytes_quiet (g : Nat) (s0_0 : List Int) (s0_1 : Int) (a1 n e : Int) (w0 w : World) (hI : IsS74 w0 w g s0_0 s0_1 0) (hB : Below w0.heap.size w0 w) (hd : 0 ≤ s0_1 ∧ s0_1 ≤ s0_0.length) (hn : n = 0) (he : e ≠ 0) (hlen : s0_0.length ≤ 140737488355328)
    (hcl : ∀ (W : World) (A : Option Addr) (c : Nat), W.cell? ⟨w.heap.size, 0, none⟩ = some (.int .i64 a1) → Calls Try.prog 56 #[.slice A (s0_0.drop s0_1.toNat).length c, .pointer (some ⟨w.heap.size, 0, none⟩), .pointer (some ⟨w.heap.size + 1, 0, none⟩)] W fun e' w' => e' = .returned (.tuple #[.int .i64 n, .int .i64 e]) ∧ w' = W) :
    Calls Try.prog 43 #[.pointer (some ⟨g, 0, none⟩), .int .i64 a1] w fun e' w' => e' = .returned (.slice none 0 0) ∧ IsS74 w0 w' g s0_0 s0_1 e ∧ Below w0.heap.size w0 w' ∧ KeepBut w w' g none := by
  subst hn
  have h0 := hB.size
  have hne : g ≠ w.heap.size + 1 := by have := hI.lt; omega
  have RD := wire_rd g s0_0 s0_1 w0 (wire_W2 w a1 (.slice none 0 0) 43) (hI.below (wire_W2_b ..)) (below_then hB hB.size (wire_W2_b ..)) 56 (fun args W => wire_enter Try.func56 (by rfl) rfl args W) #[.pointer (some ⟨w.heap.size, 0, none⟩), .pointer (some ⟨w.heap.size + 1, 0, none⟩)] 0 e (fun w' => w' = (wire_W2 w a1 (.slice none 0 0) 43).drew) hd (by omega)
    (fun W A c' hW hC hcc => by subst hW; exact hcl _ A c' (blk_cell (wire_W2_p ..) 0))
    (fun w' hw => by subst hw; rfl)
  have RD := Lib.hid RD
  clear hcl
  go_enter Try.func43, Try.ntmps43
  go_wp2_with fail
  refine RD.out.mono ?_; rintro e' w2 ⟨rfl, w1, hw1, hw2⟩
  have F := wire_fin (o := w.heap.size + 1) (v := .slice none 0 0) (t := 43) hI hB (w1 := w1) (by subst hw1; exact below_drew1 (wire_W2_b ..)) (by subst hw1; exact wire_W2_o ..) (by omega) hw2
  rw [if_neg he] at F
  clear hw1 hw2
  have k0 : w2.cell? ⟨w.heap.size + 1, 0, none⟩ = some (.slice none 0 0) := blk_cell F.blk 0
  have kf := blk_frozen F.blk 0
  have F2 := F.set (u := .slice none 0 0) (by omega) (by omega) hne
  go_wp2_with fail
  refine bodyPost_ret (wire_res rfl _ _ ⟨w.heap.size + 1, 0, none⟩ _ _ rfl Try.underlying43 rfl (blk_cell F2.blk 0)) rfl ?_
  exact ⟨rfl, F2.st, F2.b0, F2.kp⟩
/-- the world behind the call of Bytes' closure -/
def wire_Z (w : World) (l : List Int) (w' : World) : Prop := ∃ v, w'.heap[w.heap.size + 1]? = some (.cells #[v] 43 (0, 0)) ∧ Below w.heap.size w w' ∧ Kd.R (Kd.int .u8) 5 w' w.heap.size (fun k => w.heap.size + 2 ≤ k) v l
theorem wire_Z_of (w W w1 w' : World) (a1 : Int) (l : List Int) (v : Value) (hW : W = (wire_W2 w a1 (.slice none 0 0) 43).drew) (hR : Kd.R (Kd.int .u8) 5 w1 W.heap.size (fun _ => True) v l) (hB : Below W.heap.size W w1) (hw : w' = w1.setCell ⟨w.heap.size + 1, 0, none⟩ v) : wire_Z w l w' := by
  subst hw
  have hs : W.heap.size = w.heap.size + 2 := by subst hW; simp [wire_W2]
  have hWb : Below w.heap.size w W := by subst hW; exact below_drew1 (wire_W2_b ..)
  have ho : W.heap[w.heap.size + 1]? = some (.cells #[.slice none 0 0] 43 (0, 0)) := by subst hW; exact wire_W2_o ..
  have ho1 : w1.heap[w.heap.size + 1]? = some (.cells #[.slice none 0 0] 43 (0, 0)) := (hB.block _ (by omega)).trans ho
  have hR2 := Kd.R_keep (g := w.heap.size + 1) (Kd.R_bound hR) ((KeepBut.refl w1 (w.heap.size + 1) none).set_ 0 v) (fun k hk => by have := hk.2.1; omega)
  refine ⟨v, by simpa using blk_set ho1 0 v, below_set (below_then hWb hWb.size hB) (by omega), wire_R_lower (Kd.R_mono hR2 (fun k hk => by have := hk.2.1; omega)) (by omega)⟩
set_option maxHeartbeats 1000000 in
theorem wire_Reader_Bytes.calls (g : Nat) (s0_0 : List Int) (s0_1 : Int) (s0_2 : Int) (a1 : Int) (r1 : List Int) (r2 : Int) (r3 : Int) (w0 w : World) (hI : IsS74 w0 w g s0_0 s0_1 s0_2) (hB : Below w0.heap.size w0 w) (h : wire_Reader_Bytes.f s0_0 s0_1 s0_2 a1 = some (r1, r2, r3)) :
    Calls Try.prog 43 #[.pointer (some ⟨g, 0, none⟩), .int .i64 a1] w fun e w' => ∃ v0_ : Value, e = .returned (v0_) ∧ Kd.R (Kd.int .u8) 5 w' w.heap.size (fun _ => True) v0_ r1 ∧ IsS74 w0 w' g s0_0 r2 r3 ∧ Below w0.heap.size w0 w' ∧ KeepBut w w' g none := by
  have h0 := hB.size
  have hne : g ≠ w.heap.size + 1 := by have := hI.lt; omega
  unfold wire_Reader_Bytes.f at h
  by_cases h2 : s0_2 = 0
  · subst h2
    rw [if_pos rfl] at h
    by_cases hd : 0 ≤ s0_1 ∧ s0_1 ≤ s0_0.length ∧ s0_0.length ≤ 140737488355328
    · rw [if_pos hd] at h
      have hll : (s0_0.drop s0_1.toNat).length ≤ 140737488355328 := by rw [List.length_drop]; omega
      by_cases hm : a1 < 0
      · rw [if_pos hm] at h
        obtain ⟨rfl, rfl, rfl⟩ : [] = r1 ∧ s0_1 = r2 ∧ 4 = r3 := by simpa using h
        refine (wire_Bytes_quiet g s0_0 s0_1 a1 0 4 w0 w hI hB ⟨hd.1, hd.2.1⟩ rfl (by decide) hd.2.2 (fun W A c' hp => wire_c56_form W A c' _ _ _ a1 hp hm)).mono ?_
        rintro e' w' ⟨rfl, hs, hb, hk⟩
        exact ⟨_, rfl, Kd.R_nil _ _ _ _ _, hs, hb, hk⟩
      · rw [if_neg hm] at h
        by_cases hs : ((s0_0.drop s0_1.toNat).length : Int) < a1
        · rw [if_pos hs] at h
          obtain ⟨rfl, rfl, rfl⟩ : [] = r1 ∧ s0_1 = r2 ∧ 3 = r3 := by simpa using h
          refine (wire_Bytes_quiet g s0_0 s0_1 a1 0 3 w0 w hI hB ⟨hd.1, hd.2.1⟩ rfl (by decide) hd.2.2 (fun W A c' hp => wire_c56_short W A c' _ _ _ a1 hp hs)).mono ?_
          rintro e' w' ⟨rfl, hs, hb, hk⟩
          exact ⟨_, rfl, Kd.R_nil _ _ _ _ _, hs, hb, hk⟩
        · rw [if_neg hs] at h
          obtain ⟨hr1, rfl, rfl⟩ : (s0_0.drop s0_1.toNat).take a1.toNat = r1 ∧ s0_1 + a1 = r2 ∧ 0 = r3 := by simpa using h
          have RD := wire_rd g s0_0 s0_1 w0 (wire_W2 w a1 (.slice none 0 0) 43) (hI.below (wire_W2_b ..)) (below_then hB hB.size (wire_W2_b ..)) 56 (fun args W => wire_enter Try.func56 (by rfl) rfl args W) #[.pointer (some ⟨w.heap.size, 0, none⟩), .pointer (some ⟨w.heap.size + 1, 0, none⟩)] a1 0 (wire_Z w r1) ⟨hd.1, hd.2.1⟩ (by rw [List.length_drop] at hs; omega)
            (fun W A c' hW hC hcc => by
              refine (wire_c56 W A c' _ w.heap.size (w.heap.size + 1) a1 hC hcc hll (by subst hW; exact blk_cell (wire_W2_p ..) 0) (by omega) (by omega) (.slice none 0 0) (by subst hW; exact blk_cell (wire_W2_o ..) 0) (by subst hW; exact blk_frozen (wire_W2_o ..) 0) (fun w1 hb => by subst hW; exact blk_frozen ((hb.block _ (by simp [wire_W2])).trans (wire_W2_o ..)) 0)).mono ?_
              rintro e' w' ⟨rfl, v, w1, hR, hb, hw⟩
              rw [hr1] at hR
              exact ⟨rfl, wire_Z_of w W w1 w' a1 r1 v hW hR hb hw⟩)
            (fun w' hz => by
              obtain ⟨v, _, hb, _⟩ := hz
              rw [hb.block _ hI.lt, (wire_W2_b w a1 (.slice none 0 0) 43).block _ hI.lt])
          have RD := Lib.hid RD
          clear h hr1 hs
          go_enter Try.func43, Try.ntmps43
          go_wp2_with fail
          refine RD.out.mono ?_; rintro e' w2 ⟨rfl, w1, hw1, hw2⟩
          have hw3 : w2 = w1.setCell ⟨g, 1, none⟩ (.int .i64 (s0_1 + a1)) := by simpa using hw2
          obtain ⟨v, hblk, hbw, hR⟩ := hw1
          have F := wire_fin (o := w.heap.size + 1) (v := v) (t := 43) (w2 := w2) (n := a1) (e := 0) hI hB (w1 := w1) hbw hblk (by omega) (by rw [if_pos rfl]; exact hw3)
          rw [if_pos rfl] at F
          have hlt := hI.lt
          have R2 : Kd.R (Kd.int .u8) 5 w2 w.heap.size (fun k => w.heap.size + 2 ≤ k) v r1 := by
            subst hw3
            exact Kd.R_keep (g := g) hR ((KeepBut.refl w1 g none).set_ 1 _) (fun k hk => by omega)
          have F2 := F.set (u := v) (by omega) (by omega) hne
          have R3 : Kd.R (Kd.int .u8) 5 (w2.setCell ⟨w.heap.size + 1, 0, none⟩ v) w.heap.size (fun _ => True) v r1 := Kd.R_mono (Kd.R_keep (g := w.heap.size + 1) R2 ((KeepBut.refl w2 _ none).set_ 0 v) (fun k hk => by omega)) (fun _ _ => trivial)
          have k0 : w2.cell? ⟨w.heap.size + 1, 0, none⟩ = some v := blk_cell F.blk 0
          have kf := blk_frozen F.blk 0
          clear hw2 hw3 hR hblk hbw R2
          have R3 := Lib.hid R3
          rcases (Kd.own_of_R R3.out).2 with ⟨rfl, _⟩ | ⟨g', cap, cur, rfl, _⟩
          · go_wp2_with fail
            refine bodyPost_ret (wire_res rfl _ _ ⟨w.heap.size + 1, 0, none⟩ _ _ rfl Try.underlying43 rfl (blk_cell F2.blk 0)) rfl ?_
            exact ⟨_, rfl, R3.out, F2.st, F2.b0, F2.kp⟩
          · go_wp2_with fail
            refine bodyPost_ret (wire_res rfl _ _ ⟨w.heap.size + 1, 0, none⟩ _ _ rfl Try.underlying43 rfl (blk_cell F2.blk 0)) rfl ?_
            exact ⟨_, rfl, R3.out, F2.st, F2.b0, F2.kp⟩
    · rw [if_neg hd] at h
      cases h
  · rw [if_neg h2] at h
    obtain ⟨rfl, rfl, rfl⟩ : [] = r1 ∧ s0_1 = r2 ∧ s0_2 = r3 := by simpa using h
    have RD := wire_rd_gone g s0_0 s0_1 s0_2 w0 (wire_W2 w a1 (.slice none 0 0) 43) (hI.below (wire_W2_b ..)) 56 #[.pointer (some ⟨w.heap.size, 0, none⟩), .pointer (some ⟨w.heap.size + 1, 0, none⟩)] h2
    have RD := Lib.hid RD
    clear h
    have F : wire_Fin w0 w (wire_W2 w a1 (.slice none 0 0) 43) (w.heap.size + 1) g (.slice none 0 0) 43 s0_0 s0_1 s0_2 := ⟨wire_W2_o .., hI.below (wire_W2_b ..), below_then hB hB.size (wire_W2_b ..), KeepBut.of_below (wire_W2_b ..) g none⟩
    have F2 := F.set (u := .slice none 0 0) (by omega) (by omega) hne
    have k0 : (wire_W2 w a1 (.slice none 0 0) 43).cell? ⟨w.heap.size + 1, 0, none⟩ = some (.slice none 0 0) := blk_cell F.blk 0
    have kf := blk_frozen F.blk 0
    go_enter Try.func43, Try.ntmps43
    go_wp2_with fail
    refine RD.out.mono ?_; rintro e' w2 ⟨rfl, rfl⟩
    go_wp2_with fail
    refine bodyPost_ret (wire_res rfl _ _ ⟨w.heap.size + 1, 0, none⟩ _ _ rfl Try.underlying43 rfl (blk_cell F2.blk 0)) rfl ?_
    exact ⟨_, rfl, Kd.R_nil _ _ _ _ _, F2.st, F2.b0, F2.kp⟩


/-! ### wire_Reader_Fixed: function 37 -/
def wire_Reader_Fixed.l0 : Nat → Int → List Int → Int → Int → List Int → Int → Int → Option (Int × Int × Int)
  | 0, _, _, _, _, _, _, _ => none
  | k + 1, x2, x6, x7, x8, x1000, x1001, x1002 => if x8 < x7 then (if 0 ≤ x8 then (if x8 < (x6.length : Int) then (wire_Reader_Fixed.l0 k (Go.bits .or .u32 ((x2 * 256) % 4294967296) ((rd x6 x8) % 4294967296)) x6 x7 (wrap64 (x8 + 1)) x1000 x1001 x1002) else (none)) else (none)) else (some (x2, x1001, x1002))
def wire_Reader_Fixed.f (k : Nat) (s0_0 : List Int) (s0_1 : Int) (s0_2 : Int) : Option (Int × Int × Int) := (wire_Reader_Bytes.f s0_0 s0_1 s0_2 4).bind fun bt111 => (wire_Reader_Fixed.l0 k 0 bt111.1 (bt111.1.length : Int) 0 s0_0 bt111.2.1 bt111.2.2)
theorem wire_Reader_Fixed.mono_l : ∀ k, (∀ y0 y1 y2 y3 y4 y5 y6, LeO (wire_Reader_Fixed.l0 k y0 y1 y2 y3 y4 y5 y6) (wire_Reader_Fixed.l0 (k + 1) y0 y1 y2 y3 y4 y5 y6))
  | 0 => fun _ _ _ _ _ _ _ r h => by simp [wire_Reader_Fixed.l0] at h
  | k + 1 => by
    have ih0 := wire_Reader_Fixed.mono_l k
    · intro y0 y1 y2 y3 y4 y5 y6
      unfold wire_Reader_Fixed.l0
      repeat' first
      | (with_reducible exact ih0 _ _ _ _ _ _ _)
      | (with_reducible exact LeO.refl _)
      | (with_reducible exact LeO.none _)
      | (with_reducible refine LeO.ite ?_ ?_)
      | (with_reducible refine LeO.bind ?_ (fun _ => ?_))
      | exact ih0 _ _ _ _ _ _ _
      | exact LeO.none _
      | refine LeO.ite ?_ ?_
      | refine LeO.bind ?_ (fun _ => ?_)
theorem wire_Reader_Fixed.mono : ∀ a0 a1 a2 k, LeO (wire_Reader_Fixed.f k a0 a1 a2) (wire_Reader_Fixed.f (k + 1) a0 a1 a2) := by
  intro a0 a1 a2 k
  have ih0 := wire_Reader_Fixed.mono_l k
  unfold wire_Reader_Fixed.f
  repeat' first
      | (with_reducible exact ih0 _ _ _ _ _ _ _)
      | (with_reducible exact LeO.refl _)
      | (with_reducible exact LeO.none _)
      | (with_reducible refine LeO.ite ?_ ?_)
      | (with_reducible refine LeO.bind ?_ (fun _ => ?_))
      | exact ih0 _ _ _ _ _ _ _
      | exact LeO.none _
      | refine LeO.ite ?_ ?_
      | refine LeO.bind ?_ (fun _ => ?_)
set_option maxHeartbeats 8000000 in
set_option maxRecDepth 100000 in
theorem wire_Reader_Fixed.calls (k : Nat) (g : Nat) (s0_0 : List Int) (s0_1 : Int) (s0_2 : Int) (r1 : Int) (r2 : Int) (r3 : Int) (w0 w : World) (hI : IsS74 w0 w g s0_0 s0_1 s0_2) (hB : Below w0.heap.size w0 w) (h : wire_Reader_Fixed.f k s0_0 s0_1 s0_2 = some (r1, r2, r3)) :
    Calls Try.prog 37 #[.pointer (some ⟨g, 0, none⟩)] w fun e w' => e = .returned (.int .u32 r1) ∧ IsS74 w0 w' g s0_0 r2 r3 ∧ Below w0.heap.size w0 w' ∧ KeepBut w w' g none := by
  have HI0 := Aside0.mk hI
  have HK := Aside0.mk (KeepBut.refl w g none)
  have HL := Aside0.mk hB.size
  clear hI
  have HW0 := Aside0.mk hB.size
  have HB := Aside0.mk hB
  clear hB
  have H : ((wire_Reader_Bytes.f s0_0 s0_1 s0_2 4).bind fun bt111 => (wire_Reader_Fixed.l0 k 0 bt111.1 (bt111.1.length : Int) 0 s0_0 bt111.2.1 bt111.2.2)) = some (r1, r2, r3) := h
  clear h
  replace H := Option.bind_eq_some_iff.mp H
  obtain ⟨⟨t111, t114, t115⟩, A20, H⟩ := H
  replace H : (wire_Reader_Fixed.l0 k 0 t111 (t111.length : Int) 0 s0_0 t114 t115) = some (r1, r2, r3) := H
  have A2 := Aside0.mk A20
  clear A20
  have H' := Aside0.mk H
  clear H
  go_enter Try.func37, Try.ntmps37
  go_wp2_with (first | ((with_reducible refine gate_callee (f := 43) rfl ?_); refine goesL_ (some 6) rfl rfl Try.func43 (by kernel_rfl) rfl #[.pointer (some ⟨g, 0, none⟩), .int .i64 4] rfl (by (try simp only [List.map_toArray, List.map_cons, List.map_nil]); first | done | rfl | (simp only [List.length_drop, List.length_take]; rfl)) ?_; (with_reducible refine (wire_Reader_Bytes.calls g s0_0 s0_1 s0_2 4 t111 t114 t115 w0 _ ?side1 ?side2 A2.out).mono ?_); (case side1 => repeat (first | (with_reducible first | exact HI0.out | apply IsS74.alloc | apply IsS74.drewN | apply IsS74.drew | apply IsS74.set_1 | apply IsS74.set_2) | exact HI0.out)); (case side2 => repeat (first | (with_reducible first | exact HB.out | apply below_alloc | apply pw_below_drewN | apply below_drew1 | refine below_set ?_ (IsS74.ge HI0.out)) | exact HB.out)); rintro e w3 ⟨v112, rfl, ho0, hi, hb, hk⟩; refine ⟨_, rfl, ?_⟩; have n0_ := Aside0.mk (Kd.R_lower ho0 (keep_size (w := w) (g := g) (row := none) (by repeat (first | (with_reducible first | exact HK.out | apply KeepBut.set_ | apply keep_drewN | apply keep_drew | apply keep_alloc) | exact HK.out)))); have n1_ := Aside0.mk (KeepBut.trans (by repeat (first | (with_reducible first | exact HK.out | apply KeepBut.set_ | apply keep_drewN | apply keep_drew | apply keep_alloc) | exact HK.out)) hk (.inl rfl)); have n2_ := Aside0.mk (hb); have n3_ := Aside0.mk (hi); clear HK; clear HB; clear HI0; have HO113 := n0_; have HK := n1_; have HB := n2_; have HI0 := n3_; clear n0_ n1_ n2_ n3_; (try clear hb); (try clear hb2); (try clear hk); (try clear hi); (try clear ho0); obtain ⟨Ao4, co4, eo4⟩ := Kd.R_slice HO113.out; subst eo4))
  go_loopg [2, 8] k (fun kq v2 v8 w' => ∃ (x2_1 : Int) (x8_1 : Int), v2 = .int .u32 x2_1 ∧ v8 = .int .i64 x8_1 ∧ Aside0 (wire_Reader_Fixed.l0 kq x2_1 t111 (t111.length : Int) x8_1 s0_0 t114 t115 = some (r1, r2, r3)) ∧ Aside0 (kq ≤ k) ∧ Aside0 (Kd.R (Kd.int .u8) 5 w' w.heap.size (fun _ => True) (.slice Ao4 t111.length co4) t111) ∧ Aside0 (IsS74 w0 w' g s0_0 t114 t115) ∧ Aside0 (KeepBut w w' g none) ∧ Aside0 (Below w0.heap.size w0 w'))
  case atStart => exact ⟨(0), (0), (by first | rfl | (simp; done) | (simp [*]; done)), (by first | rfl | (simp; done) | (simp [*]; done)), H', ⟨Nat.le_refl _⟩, ⟨by (with_reducible repeat (first | apply Kd.R_alloc | apply Kd.R_drewN | apply Kd.R_drew)); exact HO113.out⟩, ⟨by repeat (first | (with_reducible first | exact HI0.out | apply IsS74.alloc | apply IsS74.drewN | apply IsS74.drew | apply IsS74.set_1 | apply IsS74.set_2) | exact HI0.out)⟩, ⟨by repeat (first | (with_reducible first | exact HK.out | apply KeepBut.set_ | apply keep_drewN | apply keep_drew | apply keep_alloc) | exact HK.out)⟩, ⟨by repeat (first | (with_reducible first | exact HB.out | apply below_alloc | apply pw_below_drewN | apply below_drew1 | refine below_set ?_ (IsS74.ge HI0.out)) | exact HB.out)⟩⟩
  case round =>
    clear H'
    try clear p2
    try clear c3
    try clear c4
    obtain ⟨x2_1, x8_1, rfl, rfl, HA, HK1, HO_6, HI0, HK, HB⟩ := hrel
    cases gk with
    | zero => exact absurd HA.out (by simp [wire_Reader_Fixed.l0])
    | succ k1 =>
      have H := HA.out
      clear HA
      simp only [wire_Reader_Fixed.l0] at H
      by_cases c5 : x8_1 < (t111.length : Int)
      · rw [if_pos c5] at H
        have c5b0 : decide (x8_1 < (t111.length : Int)) = true := decide_eq_true c5
        clear c5
        by_cases c6 : 0 ≤ x8_1
        · rw [if_pos c6] at H
          have c6b0 : decide (0 ≤ x8_1) = true := decide_eq_true c6
          clear c6
          by_cases c7 : x8_1 < (t111.length : Int)
          · rw [if_pos c7] at H
            have c7b0 : decide (x8_1 < (t111.length : Int)) = true := decide_eq_true c7
            clear c7
            have H' := Aside0.mk H
            clear H
            have p116 : 0 ≤ (x8_1 : Int) := of_decide_eq_true (by first | (with_reducible assumption) | assumption)
            have q116 : x8_1 < (t111.length : Int) := of_decide_eq_true (by first | (with_reducible assumption) | assumption)
            obtain ⟨ad116, e116, hx116_0⟩ := Kd.at_int (Kd.R_reads' HO_6.out).2.2 x8_1 p116 q116
            cases e116
            replace p116 := eq_true p116
            replace q116 := eq_true q116
            go_wp2
            go_roundg k1
            case measure => have := HK1.out; omega
            case rel => exact ⟨(Go.bits .or .u32 ((x2_1 * 256) % 4294967296) ((rd t111 x8_1) % 4294967296)), (wrap64 (x8_1 + 1)), (by first | rfl | (simp; done) | (simp [*]; done)), (by first | rfl | (simp; done) | (simp [*]; done)), H', ⟨by have := HK1.out; omega⟩, ⟨by (with_reducible repeat (first | apply Kd.R_alloc | apply Kd.R_drewN | apply Kd.R_drew)); exact HO_6.out⟩, ⟨by repeat (first | (with_reducible first | exact HI0.out | apply IsS74.alloc | apply IsS74.drewN | apply IsS74.drew | apply IsS74.set_1 | apply IsS74.set_2) | exact HI0.out)⟩, ⟨by repeat (first | (with_reducible first | exact HK.out | apply KeepBut.set_ | apply keep_drewN | apply keep_drew | apply keep_alloc) | exact HK.out)⟩, ⟨by repeat (first | (with_reducible first | exact HB.out | apply below_alloc | apply pw_below_drewN | apply below_drew1 | refine below_set ?_ (IsS74.ge HI0.out)) | exact HB.out)⟩⟩
          · rw [if_neg c7] at H
            exact absurd H (by simp)
        · rw [if_neg c6] at H
          exact absurd H (by simp)
      · rw [if_neg c5] at H
        have c5b0 : decide (x8_1 < (t111.length : Int)) = false := decide_eq_false c5
        clear c5
        simp only [Option.some.injEq, Prod.mk.injEq] at H
        obtain ⟨rfl, rfl, rfl⟩ := H
        go_wp2
        go_ret
        exact ⟨by first | rfl | (simp [errW_none, errW_some] <;> rfl) | (simp [*, errW_none, errW_some] <;> rfl), by repeat (first | (with_reducible first | exact HI0.out | apply IsS74.alloc | apply IsS74.drewN | apply IsS74.drew | apply IsS74.set_1 | apply IsS74.set_2) | exact HI0.out), by repeat (first | (with_reducible first | exact HB.out | apply below_alloc | apply pw_below_drewN | apply below_drew1 | refine below_set ?_ (IsS74.ge HI0.out)) | exact HB.out), by repeat (first | (with_reducible first | exact HK.out | apply KeepBut.set_ | apply keep_drewN | apply keep_drew | apply keep_alloc) | exact HK.out)⟩

/-! ### wire_Reader_Text: function 38 -/
/-- what a text's reader tells of a varint: how many bytes, the error, and the text's numbers -/
def wire_tx (l : List Int) (m v c e : Int) : Int × Int × List Int :=
  if e ≠ 0 then (0, e, []) else if m < 0 ∨ m < v then (0, 4, []) else if (l.length : Int) - c < v then (0, 3, []) else (c + v, 0, (l.drop c.toNat).take v.toNat)
theorem wire_c54_err (W : World) (A : Option Addr) (c : Nat) (l : List Int) (p o : Nat) (m r1 r2 r3 : Int) (hr : Kd.C (Kd.int .u8) W A l.length l) (hc : l.length ≤ c) (hf : wire_varint.f l = some (r1, r2, r3)) (he : r3 ≠ 0) :
    Calls Try.prog 54 #[.slice A l.length c, .pointer (some ⟨p, 0, none⟩), .pointer (some ⟨o, 0, none⟩)] W fun e w' => e = .returned (.tuple #[.int .i64 0, .int .i64 r3]) ∧ w' = W := by
  go_enter Try.func54, Try.ntmps54
  go_wp2_with fail
  refine (wire_varint.calls A c l r1 r2 r3 _ hr hc hf).mono ?_; rintro e w1 ⟨rfl, rfl⟩
  go_wp2_with fail
  go_ret2
  exact ⟨rfl, rfl⟩
set_option maxHeartbeats 1000000 in
theorem wire_c54_form (W : World) (A : Option Addr) (c : Nat) (l : List Int) (p o : Nat) (m r1 r2 r3 : Int) (hr : Kd.C (Kd.int .u8) W A l.length l) (hc : l.length ≤ c) (hf : wire_varint.f l = some (r1, r2, r3)) (he : r3 = 0) (hm : m < 0 ∨ (0 ≤ m ∧ m < r1)) (hmm : m < 9223372036854775808) (hp : W.cell? ⟨p, 0, none⟩ = some (.int .i64 m)) :
    Calls Try.prog 54 #[.slice A l.length c, .pointer (some ⟨p, 0, none⟩), .pointer (some ⟨o, 0, none⟩)] W fun e w' => e = .returned (.tuple #[.int .i64 0, .int .i64 4]) ∧ w' = W := by
  subst he
  rcases hm with hm | ⟨hm0, hm⟩
  · go_enter Try.func54, Try.ntmps54
    go_wp2_with fail
    refine (wire_varint.calls A c l r1 r2 0 _ hr hc hf).mono ?_; rintro e w1 ⟨rfl, rfl⟩
    go_wp2_with fail
    go_ret2
    exact ⟨rfl, rfl⟩
  · have hw : IntKind.u64.wrap m = m := by rw [IntKind.wrap_u64]; omega
    go_enter Try.func54, Try.ntmps54
    go_wp2_with fail
    refine (wire_varint.calls A c l r1 r2 0 _ hr hc hf).mono ?_; rintro e w1 ⟨rfl, rfl⟩
    go_wp2_with fail
    go_ret2
    exact ⟨rfl, rfl⟩
set_option maxHeartbeats 1000000 in
theorem wire_c54_short (W : World) (A : Option Addr) (c : Nat) (l : List Int) (p o : Nat) (m r1 r2 r3 : Int) (hr : Kd.C (Kd.int .u8) W A l.length l) (hc : l.length ≤ c) (hf : wire_varint.f l = some (r1, r2, r3)) (he : r3 = 0) (h0 : 0 ≤ r1) (hm : r1 ≤ m) (hmm : m < 9223372036854775808) (hp : W.cell? ⟨p, 0, none⟩ = some (.int .i64 m)) (hcl : r2 ≤ l.length) (hll : l.length ≤ 140737488355328) (hs : (l.length : Int) - r2 < r1) :
    Calls Try.prog 54 #[.slice A l.length c, .pointer (some ⟨p, 0, none⟩), .pointer (some ⟨o, 0, none⟩)] W fun e w' => e = .returned (.tuple #[.int .i64 0, .int .i64 3]) ∧ w' = W := by
  subst he
  have hcc := wire_varint_count hf
  have hw : IntKind.u64.wrap m = m := by rw [IntKind.wrap_u64]; omega
  have hw2 : IntKind.u64.wrap ((l.length : Int) - r2) = (l.length : Int) - r2 := by rw [IntKind.wrap_u64]; omega
  go_enter Try.func54, Try.ntmps54
  go_wp2_with fail
  refine (wire_varint.calls A c l r1 r2 0 _ hr hc hf).mono ?_; rintro e w1 ⟨rfl, rfl⟩
  go_wp2_with fail
  go_ret2
  exact ⟨rfl, rfl⟩
set_option maxHeartbeats 1000000 in
theorem wire_c54 (W : World) (A : Option Addr) (c : Nat) (l : List Int) (p o : Nat) (m r1 r2 r3 : Int) (hr : Kd.C (Kd.int .u8) W A l.length l) (hc : l.length ≤ c) (hf : wire_varint.f l = some (r1, r2, r3)) (he : r3 = 0) (h0 : 0 ≤ r1) (hm : r1 ≤ m) (hmm : m < 9223372036854775808) (hp : W.cell? ⟨p, 0, none⟩ = some (.int .i64 m)) (hcl : r2 ≤ l.length) (hll : l.length ≤ 140737488355328) (hs : ¬ (l.length : Int) - r2 < r1)
    (x0 : Value) (hcell : W.cell? ⟨o, 0, none⟩ = some x0) (hfr : W.frozen? ⟨o, 0, none⟩ = false) :
    Calls Try.prog 54 #[.slice A l.length c, .pointer (some ⟨p, 0, none⟩), .pointer (some ⟨o, 0, none⟩)] W fun e w' => e = .returned (.tuple #[.int .i64 (r2 + r1), .int .i64 0]) ∧ w' = W.setCell ⟨o, 0, none⟩ (.string (strOfNums ((l.drop r2.toNat).take r1.toNat))) := by
  subst he
  have hcc := wire_varint_count hf
  have hw : IntKind.u64.wrap m = m := by rw [IntKind.wrap_u64]; omega
  have hw2 : IntKind.u64.wrap ((l.length : Int) - r2) = (l.length : Int) - r2 := by rw [IntKind.wrap_u64]; omega
  have hC := Kd.C_take (m := r1.toNat) (Kd.C_drop (m := r2.toNat) (c := c) hr (by omega) hc) (by rw [List.length_drop]; omega)
  have hn : ((l.drop r2.toNat).take r1.toNat).length = (r2 + r1).toNat - r2.toNat := by rw [List.length_take, List.length_drop]; omega
  rw [hn, show r2.toNat * (Kd.int .u8).sz = r2.toNat by show r2.toNat * 1 = _; omega] at hC
  by_cases hcr : c = r2.toNat
  · subst hcr
    rw [if_pos rfl] at hC
    have hn2 : r2.toNat - r2.toNat = 0 := by omega
    have hconv := Kd.C_string (P := Try.prog) (src := 43) (dst := 9) (c := r2.toNat - r2.toNat) Try.underlying43 (by kernel_rfl) Try.underlying9 hC
    rw [hn2] at hconv
    clear hC hn hn2
    go_enter Try.func54, Try.ntmps54
    go_wp2_with fail
    refine (wire_varint.calls A r2.toNat l r1 r2 0 _ hr hc hf).mono ?_; rintro e w1 ⟨rfl, rfl⟩
    go_wp2_with fail
    go_ret2
    exact ⟨rfl, rfl⟩
  · rw [if_neg hcr] at hC
    have hconv := Kd.C_string (P := Try.prog) (src := 43) (dst := 9) (c := c - r2.toNat) Try.underlying43 (by kernel_rfl) Try.underlying9 hC
    clear hC hn
    go_enter Try.func54, Try.ntmps54
    go_wp2_with fail
    refine (wire_varint.calls A c l r1 r2 0 _ hr hc hf).mono ?_; rintro e w1 ⟨rfl, rfl⟩
    go_wp2_with fail
    go_ret2
    exact ⟨rfl, rfl⟩
def wire_Text_out (s0_1 a1 : Int) (l : List Int) (v : Int × Int × Int) : Option (ByteArray × Int × Int) :=
  if v.2.2 ≠ 0 then some (⟨#[]⟩, s0_1, v.2.2) else if a1 < 0 then some (⟨#[]⟩, s0_1, 4) else if a1 < v.1 then some (⟨#[]⟩, s0_1, 4) else if v.1 < 0 then none else if (l.length : Int) - v.2.1 < v.1 then some (⟨#[]⟩, s0_1, 3) else some (strOfNums ((l.drop v.2.1.toNat).take v.1.toNat), s0_1 + (v.2.1 + v.1), 0)
def wire_Reader_Text.f (s0_0 : List Int) (s0_1 s0_2 : Int) (a1 : Int) : Option (ByteArray × Int × Int) :=
  if s0_2 = 0 then (if 0 ≤ s0_1 ∧ s0_1 ≤ s0_0.length ∧ s0_0.length ≤ 140737488355328 ∧ a1 < 9223372036854775808 then (wire_varint.f (s0_0.drop s0_1.toNat)).bind fun v => wire_Text_out s0_1 a1 (s0_0.drop s0_1.toNat) v else none) else some (⟨#[]⟩, s0_1, s0_2)
set_option maxHeartbeats 1000000 in
theorem wire_Text_quiet (g : Nat) (s0_0 : List Int) (s0_1 : Int) (a1 n e : Int) (w0 w : World) (hI : IsS74 w0 w g s0_0 s0_1 0) (hB : Below w0.heap.size w0 w) (hd : 0 ≤ s0_1 ∧ s0_1 ≤ s0_0.length) (hn : n = 0) (he : e ≠ 0) (hlen : s0_0.length ≤ 140737488355328)
    (hcl : ∀ (W : World) (A : Option Addr) (c : Nat), W.cell? ⟨w.heap.size, 0, none⟩ = some (.int .i64 a1) → Kd.C (Kd.int .u8) W A (s0_0.drop s0_1.toNat).length (s0_0.drop s0_1.toNat) → (s0_0.drop s0_1.toNat).length ≤ c → Calls Try.prog 54 #[.slice A (s0_0.drop s0_1.toNat).length c, .pointer (some ⟨w.heap.size, 0, none⟩), .pointer (some ⟨w.heap.size + 1, 0, none⟩)] W fun e' w' => e' = .returned (.tuple #[.int .i64 n, .int .i64 e]) ∧ w' = W) :
    Calls Try.prog 38 #[.pointer (some ⟨g, 0, none⟩), .int .i64 a1] w fun e' w' => e' = .returned (.string ⟨#[]⟩) ∧ IsS74 w0 w' g s0_0 s0_1 e ∧ Below w0.heap.size w0 w' ∧ KeepBut w w' g none := by
  subst hn
  have h0 := hB.size
  have hne : g ≠ w.heap.size + 1 := by have := hI.lt; omega
  have RD := wire_rd g s0_0 s0_1 w0 (wire_W2 w a1 (.string ⟨#[]⟩) 9) (hI.below (wire_W2_b ..)) (below_then hB hB.size (wire_W2_b ..)) 54 (fun args W => wire_enter Try.func54 (by rfl) rfl args W) #[.pointer (some ⟨w.heap.size, 0, none⟩), .pointer (some ⟨w.heap.size + 1, 0, none⟩)] 0 e (fun w' => w' = (wire_W2 w a1 (.string ⟨#[]⟩) 9).drew) hd (by omega)
    (fun W A c' hW hC hcc => by subst hW; exact hcl _ A c' (blk_cell (wire_W2_p ..) 0) hC hcc)
    (fun w' hw => by subst hw; rfl)
  have RD := Lib.hid RD
  clear hcl
  go_enter Try.func38, Try.ntmps38
  go_wp2_with fail
  refine RD.out.mono ?_; rintro e' w2 ⟨rfl, w1, hw1, hw2⟩
  have F := wire_fin (o := w.heap.size + 1) (v := .string ⟨#[]⟩) (t := 9) hI hB (w1 := w1) (by subst hw1; exact below_drew1 (wire_W2_b ..)) (by subst hw1; exact wire_W2_o ..) (by omega) hw2
  rw [if_neg he] at F
  clear hw1 hw2
  have k0 : w2.cell? ⟨w.heap.size + 1, 0, none⟩ = some (.string ⟨#[]⟩) := blk_cell F.blk 0
  have kf := blk_frozen F.blk 0
  have F2 := F.set (u := .string ⟨#[]⟩) (by omega) (by omega) hne
  go_wp2_with fail
  refine bodyPost_ret (wire_res rfl _ _ ⟨w.heap.size + 1, 0, none⟩ _ _ rfl Try.underlying9 rfl (blk_cell F2.blk 0)) rfl ?_
  exact ⟨rfl, F2.st, F2.b0, F2.kp⟩
set_option maxHeartbeats 1000000 in
theorem wire_Reader_Text.calls (g : Nat) (s0_0 : List Int) (s0_1 : Int) (s0_2 : Int) (a1 : Int) (r1 : ByteArray) (r2 : Int) (r3 : Int) (w0 w : World) (hI : IsS74 w0 w g s0_0 s0_1 s0_2) (hB : Below w0.heap.size w0 w) (h : wire_Reader_Text.f s0_0 s0_1 s0_2 a1 = some (r1, r2, r3)) :
    Calls Try.prog 38 #[.pointer (some ⟨g, 0, none⟩), .int .i64 a1] w fun e w' => e = .returned (.string r1) ∧ IsS74 w0 w' g s0_0 r2 r3 ∧ Below w0.heap.size w0 w' ∧ KeepBut w w' g none := by
  have h0 := hB.size
  have hne : g ≠ w.heap.size + 1 := by have := hI.lt; omega
  unfold wire_Reader_Text.f at h
  by_cases h2 : s0_2 = 0
  · subst h2
    rw [if_pos rfl] at h
    by_cases hd : 0 ≤ s0_1 ∧ s0_1 ≤ s0_0.length ∧ s0_0.length ≤ 140737488355328 ∧ a1 < 9223372036854775808
    · rw [if_pos hd] at h
      obtain ⟨⟨v, c, e⟩, hv, hr⟩ := Option.bind_eq_some_iff.1 h
      have hc := wire_varint_count hv
      have hcl := wire_varint_len hv
      have hll : (s0_0.drop s0_1.toNat).length ≤ 140737488355328 := by rw [List.length_drop]; omega
      clear h
      unfold wire_Text_out at hr
      simp only [] at hr
      by_cases he : e ≠ 0
      · rw [if_pos he] at hr
        obtain ⟨rfl, rfl, rfl⟩ : (⟨#[]⟩ : ByteArray) = r1 ∧ s0_1 = r2 ∧ e = r3 := by simpa using hr
        exact wire_Text_quiet g s0_0 s0_1 a1 0 e w0 w hI hB ⟨hd.1, hd.2.1⟩ rfl he hd.2.2.1 (fun W A c' _ hC hcc => wire_c54_err W A c' _ _ _ a1 v c e hC hcc hv he)
      · rw [if_neg he] at hr
        have he : e = 0 := by omega
        by_cases hm : a1 < 0
        · rw [if_pos hm] at hr
          obtain ⟨rfl, rfl, rfl⟩ : (⟨#[]⟩ : ByteArray) = r1 ∧ s0_1 = r2 ∧ 4 = r3 := by simpa using hr
          exact wire_Text_quiet g s0_0 s0_1 a1 0 4 w0 w hI hB ⟨hd.1, hd.2.1⟩ rfl (by decide) hd.2.2.1 (fun W A c' hp hC hcc => wire_c54_form W A c' _ _ _ a1 v c e hC hcc hv he (.inl hm) hd.2.2.2 hp)
        · rw [if_neg hm] at hr
          by_cases hm2 : a1 < v
          · rw [if_pos hm2] at hr
            obtain ⟨rfl, rfl, rfl⟩ : (⟨#[]⟩ : ByteArray) = r1 ∧ s0_1 = r2 ∧ 4 = r3 := by simpa using hr
            exact wire_Text_quiet g s0_0 s0_1 a1 0 4 w0 w hI hB ⟨hd.1, hd.2.1⟩ rfl (by decide) hd.2.2.1 (fun W A c' hp hC hcc => wire_c54_form W A c' _ _ _ a1 v c e hC hcc hv he (.inr ⟨by omega, hm2⟩) hd.2.2.2 hp)
          · rw [if_neg hm2] at hr
            by_cases hv0 : v < 0
            · rw [if_pos hv0] at hr; cases hr
            · rw [if_neg hv0] at hr
              by_cases hs : ((s0_0.drop s0_1.toNat).length : Int) - c < v
              · rw [if_pos hs] at hr
                obtain ⟨rfl, rfl, rfl⟩ : (⟨#[]⟩ : ByteArray) = r1 ∧ s0_1 = r2 ∧ 3 = r3 := by simpa using hr
                exact wire_Text_quiet g s0_0 s0_1 a1 0 3 w0 w hI hB ⟨hd.1, hd.2.1⟩ rfl (by decide) hd.2.2.1 (fun W A c' hp hC hcc => wire_c54_short W A c' _ _ _ a1 v c e hC hcc hv he (by omega) (by omega) hd.2.2.2 hp hcl hll hs)
              · rw [if_neg hs] at hr
                obtain ⟨hr1, rfl, rfl⟩ : strOfNums (((s0_0.drop s0_1.toNat).drop c.toNat).take v.toNat) = r1 ∧ s0_1 + (c + v) = r2 ∧ 0 = r3 := by simpa using hr
                have RD := wire_rd g s0_0 s0_1 w0 (wire_W2 w a1 (.string ⟨#[]⟩) 9) (hI.below (wire_W2_b ..)) (below_then hB hB.size (wire_W2_b ..)) 54 (fun args W => wire_enter Try.func54 (by rfl) rfl args W) #[.pointer (some ⟨w.heap.size, 0, none⟩), .pointer (some ⟨w.heap.size + 1, 0, none⟩)] (c + v) 0 (fun w' => w' = (wire_W2 w a1 (.string ⟨#[]⟩) 9).drew.setCell ⟨w.heap.size + 1, 0, none⟩ (.string r1)) ⟨hd.1, hd.2.1⟩ (by omega)
                  (fun W A c' hW hC hcc => by subst hW; rw [← hr1]; exact wire_c54 _ A c' _ _ _ a1 v c e hC hcc hv he (by omega) (by omega) hd.2.2.2 (blk_cell (wire_W2_p ..) 0) hcl hll hs _ (blk_cell (wire_W2_o ..) 0) (blk_frozen (wire_W2_o ..) 0))
                  (fun w' hw => by subst hw; exact Below.heap_setCell _ _ _ _ hne)
                have RD := Lib.hid RD
                clear hr hv hr1 hs
                go_enter Try.func38, Try.ntmps38
                go_wp2_with fail
                refine RD.out.mono ?_; rintro e' w2 ⟨rfl, w1, hw1, hw2⟩
                have hw3 : w2 = w1.setCell ⟨g, 1, none⟩ (.int .i64 (s0_1 + (c + v))) := by simpa using hw2
                have F := wire_fin (o := w.heap.size + 1) (v := .string r1) (t := 9) (w2 := w2) (n := c + v) (e := 0) hI hB (w1 := w1) (by subst hw1; exact below_set (below_drew1 (wire_W2_b ..)) (by omega)) (by subst hw1; simpa using blk_set (w := (wire_W2 w a1 (.string ⟨#[]⟩) 9).drew) (wire_W2_o ..) 0 (.string r1)) (by omega) (by rw [if_pos rfl]; exact hw3)
                rw [if_pos rfl] at F
                clear hw1 hw2 hw3
                have k0 : w2.cell? ⟨w.heap.size + 1, 0, none⟩ = some (.string r1) := blk_cell F.blk 0
                have kf := blk_frozen F.blk 0
                have F2 := F.set (u := .string r1) (by omega) (by omega) hne
                go_wp2_with fail
                refine bodyPost_ret (wire_res rfl _ _ ⟨w.heap.size + 1, 0, none⟩ _ _ rfl Try.underlying9 rfl (blk_cell F2.blk 0)) rfl ?_
                exact ⟨rfl, F2.st, F2.b0, F2.kp⟩
    · rw [if_neg hd] at h
      cases h
  · rw [if_neg h2] at h
    obtain ⟨rfl, rfl, rfl⟩ : (⟨#[]⟩ : ByteArray) = r1 ∧ s0_1 = r2 ∧ s0_2 = r3 := by simpa using h
    have RD := wire_rd_gone g s0_0 s0_1 s0_2 w0 (wire_W2 w a1 (.string ⟨#[]⟩) 9) (hI.below (wire_W2_b ..)) 54 #[.pointer (some ⟨w.heap.size, 0, none⟩), .pointer (some ⟨w.heap.size + 1, 0, none⟩)] h2
    have RD := Lib.hid RD
    clear h
    have F : wire_Fin w0 w (wire_W2 w a1 (.string ⟨#[]⟩) 9) (w.heap.size + 1) g (.string ⟨#[]⟩) 9 s0_0 s0_1 s0_2 := ⟨wire_W2_o .., hI.below (wire_W2_b ..), below_then hB hB.size (wire_W2_b ..), KeepBut.of_below (wire_W2_b ..) g none⟩
    have F2 := F.set (u := .string ⟨#[]⟩) (by omega) (by omega) hne
    have k0 : (wire_W2 w a1 (.string ⟨#[]⟩) 9).cell? ⟨w.heap.size + 1, 0, none⟩ = some (.string ⟨#[]⟩) := blk_cell F.blk 0
    have kf := blk_frozen F.blk 0
    go_enter Try.func38, Try.ntmps38
    go_wp2_with fail
    refine RD.out.mono ?_; rintro e' w2 ⟨rfl, rfl⟩
    go_wp2_with fail
    refine bodyPost_ret (wire_res rfl _ _ ⟨w.heap.size + 1, 0, none⟩ _ _ rfl Try.underlying9 rfl (blk_cell F2.blk 0)) rfl ?_
    exact ⟨rfl, F2.st, F2.b0, F2.kp⟩


/-! ### wire_Reader_Err: function 39 -/
def wire_Reader_Err.f (s0_0 : List Int) (s0_1 : Int) (s0_2 : Int) : Option (Int × Int × Int) := some (s0_2, s0_1, s0_2)
set_option maxHeartbeats 8000000 in
set_option maxRecDepth 100000 in
theorem wire_Reader_Err.calls (g : Nat) (s0_0 : List Int) (s0_1 : Int) (s0_2 : Int) (r1 : Int) (r2 : Int) (r3 : Int) (w0 w : World) (hI : IsS74 w0 w g s0_0 s0_1 s0_2) (hB : Below w0.heap.size w0 w) (h : wire_Reader_Err.f s0_0 s0_1 s0_2 = some (r1, r2, r3)) :
    Calls Try.prog 39 #[.pointer (some ⟨g, 0, none⟩)] w fun e w' => e = .returned (.int .i64 r1) ∧ IsS74 w0 w' g s0_0 r2 r3 ∧ Below w0.heap.size w0 w' ∧ KeepBut w w' g none := by
  have HI0 := Aside0.mk hI
  have HK := Aside0.mk (KeepBut.refl w g none)
  have HL := Aside0.mk hB.size
  clear hI
  have HW0 := Aside0.mk hB.size
  have HB := Aside0.mk hB
  clear hB
  have H : (some (s0_2, s0_1, s0_2)) = some (r1, r2, r3) := h
  clear h
  simp only [Option.some.injEq, Prod.mk.injEq] at H
  obtain ⟨rfl, rfl, rfl⟩ := H
  obtain ⟨ASz2_0, cSz2_0, HGz2, hgz2, HSz2_0, _⟩ := HI0.out
  have hcz2_0 := cellS74_0 HGz2
  have hcz2_1 := cellS74_1 HGz2
  have hcz2_2 := cellS74_2 HGz2
  have hfz2_1 := blk_frozen HGz2 1
  have hfz2_2 := blk_frozen HGz2 2
  clear HGz2 hgz2
  go_enter Try.func39, Try.ntmps39
  go_wp2
  go_ret
  exact ⟨by first | rfl | (simp [errW_none, errW_some] <;> rfl) | (simp [*, errW_none, errW_some] <;> rfl), by repeat (first | (with_reducible first | exact HI0.out | apply IsS74.alloc | apply IsS74.drewN | apply IsS74.drew | apply IsS74.set_1 | apply IsS74.set_2) | exact HI0.out), by repeat (first | (with_reducible first | exact HB.out | apply below_alloc | apply pw_below_drewN | apply below_drew1 | refine below_set ?_ (IsS74.ge HI0.out)) | exact HB.out), by repeat (first | (with_reducible first | exact HK.out | apply KeepBut.set_ | apply keep_drewN | apply keep_drew | apply keep_alloc) | exact HK.out)⟩

/-! ### wire_Reader_Left: function 40 -/
def wire_Reader_Left.f (s0_0 : List Int) (s0_1 : Int) (s0_2 : Int) : Option (Int × Int × Int) := some (wrap64 ((s0_0.length : Int) - s0_1), s0_1, s0_2)
set_option maxHeartbeats 8000000 in
set_option maxRecDepth 100000 in
theorem wire_Reader_Left.calls (g : Nat) (s0_0 : List Int) (s0_1 : Int) (s0_2 : Int) (r1 : Int) (r2 : Int) (r3 : Int) (w0 w : World) (hI : IsS74 w0 w g s0_0 s0_1 s0_2) (hB : Below w0.heap.size w0 w) (h : wire_Reader_Left.f s0_0 s0_1 s0_2 = some (r1, r2, r3)) :
    Calls Try.prog 40 #[.pointer (some ⟨g, 0, none⟩)] w fun e w' => e = .returned (.int .i64 r1) ∧ IsS74 w0 w' g s0_0 r2 r3 ∧ Below w0.heap.size w0 w' ∧ KeepBut w w' g none := by
  have HI0 := Aside0.mk hI
  have HK := Aside0.mk (KeepBut.refl w g none)
  have HL := Aside0.mk hB.size
  clear hI
  have HW0 := Aside0.mk hB.size
  have HB := Aside0.mk hB
  clear hB
  have H : (some (wrap64 ((s0_0.length : Int) - s0_1), s0_1, s0_2)) = some (r1, r2, r3) := h
  clear h
  simp only [Option.some.injEq, Prod.mk.injEq] at H
  obtain ⟨rfl, rfl, rfl⟩ := H
  obtain ⟨ASz2_0, cSz2_0, HGz2, hgz2, HSz2_0, _⟩ := HI0.out
  have hcz2_0 := cellS74_0 HGz2
  have hcz2_1 := cellS74_1 HGz2
  have hcz2_2 := cellS74_2 HGz2
  have hfz2_1 := blk_frozen HGz2 1
  have hfz2_2 := blk_frozen HGz2 2
  clear HGz2 hgz2
  go_enter Try.func40, Try.ntmps40
  go_wp2
  repeat (go_quiet (fail); try go_wp2)
  go_ret
  exact ⟨by first | rfl | (simp [errW_none, errW_some] <;> rfl) | (simp [*, errW_none, errW_some] <;> rfl), by repeat (first | (with_reducible first | exact HI0.out | apply IsS74.alloc | apply IsS74.drewN | apply IsS74.drew | apply IsS74.set_1 | apply IsS74.set_2) | exact HI0.out), by repeat (first | (with_reducible first | exact HB.out | apply below_alloc | apply pw_below_drewN | apply below_drew1 | refine below_set ?_ (IsS74.ge HI0.out)) | exact HB.out), by repeat (first | (with_reducible first | exact HK.out | apply KeepBut.set_ | apply keep_drewN | apply keep_drew | apply keep_alloc) | exact HK.out)⟩

/-! ### wire_Reader_End: function 44 -/
def wire_Reader_End.f (s0_0 : List Int) (s0_1 : Int) (s0_2 : Int) : Option (Int × Int × Int) := (wire_Reader_Err.f s0_0 s0_1 s0_2).bind fun bt117 => (if bt117.1 = 0 then ((wire_Reader_Left.f s0_0 bt117.2.1 bt117.2.2).bind fun bt120 => (if bt120.1 > 0 then (some (4, bt120.2.1, bt120.2.2)) else (some (0, bt120.2.1, bt120.2.2)))) else (some (bt117.1, bt117.2.1, bt117.2.2)))
set_option maxHeartbeats 8000000 in
set_option maxRecDepth 100000 in
theorem wire_Reader_End.calls (g : Nat) (s0_0 : List Int) (s0_1 : Int) (s0_2 : Int) (r1 : Int) (r2 : Int) (r3 : Int) (w0 w : World) (hI : IsS74 w0 w g s0_0 s0_1 s0_2) (hB : Below w0.heap.size w0 w) (h : wire_Reader_End.f s0_0 s0_1 s0_2 = some (r1, r2, r3)) :
    Calls Try.prog 44 #[.pointer (some ⟨g, 0, none⟩)] w fun e w' => e = .returned (.int .i64 r1) ∧ IsS74 w0 w' g s0_0 r2 r3 ∧ Below w0.heap.size w0 w' ∧ KeepBut w w' g none := by
  have HI0 := Aside0.mk hI
  have HK := Aside0.mk (KeepBut.refl w g none)
  have HL := Aside0.mk hB.size
  clear hI
  have HW0 := Aside0.mk hB.size
  have HB := Aside0.mk hB
  clear hB
  have H : ((wire_Reader_Err.f s0_0 s0_1 s0_2).bind fun bt117 => (if bt117.1 = 0 then ((wire_Reader_Left.f s0_0 bt117.2.1 bt117.2.2).bind fun bt120 => (if bt120.1 > 0 then (some (4, bt120.2.1, bt120.2.2)) else (some (0, bt120.2.1, bt120.2.2)))) else (some (bt117.1, bt117.2.1, bt117.2.2)))) = some (r1, r2, r3) := h
  clear h
  replace H := Option.bind_eq_some_iff.mp H
  obtain ⟨⟨t117, t118, t119⟩, A20, H⟩ := H
  replace H : (if t117 = 0 then ((wire_Reader_Left.f s0_0 t118 t119).bind fun bt120 => (if bt120.1 > 0 then (some (4, bt120.2.1, bt120.2.2)) else (some (0, bt120.2.1, bt120.2.2)))) else (some (t117, t118, t119))) = some (r1, r2, r3) := H
  have A2 := Aside0.mk A20
  clear A20
  by_cases c3 : t117 = 0
  · rw [if_pos c3] at H
    have c3b0 : (t117 == 0) = true := beq_iff_eq.mpr c3
    have c3b1 : (t117 != 0) = false := bne_eq_false_iff_eq.mpr c3
    clear c3
    replace H := Option.bind_eq_some_iff.mp H
    obtain ⟨⟨t120, t121, t122⟩, A40, H⟩ := H
    replace H : (if t120 > 0 then (some (4, t121, t122)) else (some (0, t121, t122))) = some (r1, r2, r3) := H
    have A4 := Aside0.mk A40
    clear A40
    by_cases c5 : t120 > 0
    · rw [if_pos c5] at H
      have c5b0 : decide (0 < t120) = true := decide_eq_true c5
      clear c5
      simp only [Option.some.injEq, Prod.mk.injEq] at H
      obtain ⟨rfl, rfl, rfl⟩ := H
      go_enter Try.func44, Try.ntmps44
      go_wp2_with (first | ((with_reducible refine gate_callee (f := 39) rfl ?_); refine goesL_ (some 5) rfl rfl Try.func39 (by kernel_rfl) rfl #[.pointer (some ⟨g, 0, none⟩)] rfl (by (try simp only [List.map_toArray, List.map_cons, List.map_nil]); first | done | rfl | (simp only [List.length_drop, List.length_take]; rfl)) ?_; (with_reducible refine (wire_Reader_Err.calls g s0_0 s0_1 s0_2 t117 t118 t119 w0 _ ?side1 ?side2 A2.out).mono ?_); (case side1 => repeat (first | (with_reducible first | exact HI0.out | apply IsS74.alloc | apply IsS74.drewN | apply IsS74.drew | apply IsS74.set_1 | apply IsS74.set_2) | exact HI0.out)); (case side2 => repeat (first | (with_reducible first | exact HB.out | apply below_alloc | apply pw_below_drewN | apply below_drew1 | refine below_set ?_ (IsS74.ge HI0.out)) | exact HB.out)); rintro e w6 ⟨rfl, hi, hb, hk⟩; refine ⟨_, rfl, ?_⟩; have n0_ := Aside0.mk (KeepBut.trans (by repeat (first | (with_reducible first | exact HK.out | apply KeepBut.set_ | apply keep_drewN | apply keep_drew | apply keep_alloc) | exact HK.out)) hk (.inl rfl)); have n1_ := Aside0.mk (hb); have n2_ := Aside0.mk (hi); clear HK; clear HB; clear HI0; have HK := n0_; have HB := n1_; have HI0 := n2_; clear n0_ n1_ n2_; (try clear hb); (try clear hb2); (try clear hk); (try clear hi)) | ((with_reducible refine gate_callee (f := 40) rfl ?_); refine goesL_ (some 10) rfl rfl Try.func40 (by kernel_rfl) rfl #[.pointer (some ⟨g, 0, none⟩)] rfl (by (try simp only [List.map_toArray, List.map_cons, List.map_nil]); first | done | rfl | (simp only [List.length_drop, List.length_take]; rfl)) ?_; (with_reducible refine (wire_Reader_Left.calls g s0_0 t118 t119 t120 t121 t122 w0 _ ?side1 ?side2 A4.out).mono ?_); (case side1 => repeat (first | (with_reducible first | exact HI0.out | apply IsS74.alloc | apply IsS74.drewN | apply IsS74.drew | apply IsS74.set_1 | apply IsS74.set_2) | exact HI0.out)); (case side2 => repeat (first | (with_reducible first | exact HB.out | apply below_alloc | apply pw_below_drewN | apply below_drew1 | refine below_set ?_ (IsS74.ge HI0.out)) | exact HB.out)); rintro e w7 ⟨rfl, hi, hb, hk⟩; refine ⟨_, rfl, ?_⟩; have n0_ := Aside0.mk (KeepBut.trans (by repeat (first | (with_reducible first | exact HK.out | apply KeepBut.set_ | apply keep_drewN | apply keep_drew | apply keep_alloc) | exact HK.out)) hk (.inl rfl)); have n1_ := Aside0.mk (hb); have n2_ := Aside0.mk (hi); clear HK; clear HB; clear HI0; have HK := n0_; have HB := n1_; have HI0 := n2_; clear n0_ n1_ n2_; (try clear hb); (try clear hb2); (try clear hk); (try clear hi)))
      go_ret
      exact ⟨by first | rfl | (simp [errW_none, errW_some] <;> rfl) | (simp [*, errW_none, errW_some] <;> rfl), by repeat (first | (with_reducible first | exact HI0.out | apply IsS74.alloc | apply IsS74.drewN | apply IsS74.drew | apply IsS74.set_1 | apply IsS74.set_2) | exact HI0.out), by repeat (first | (with_reducible first | exact HB.out | apply below_alloc | apply pw_below_drewN | apply below_drew1 | refine below_set ?_ (IsS74.ge HI0.out)) | exact HB.out), by repeat (first | (with_reducible first | exact HK.out | apply KeepBut.set_ | apply keep_drewN | apply keep_drew | apply keep_alloc) | exact HK.out)⟩
    · rw [if_neg c5] at H
      have c5b0 : decide (0 < t120) = false := decide_eq_false c5
      clear c5
      simp only [Option.some.injEq, Prod.mk.injEq] at H
      obtain ⟨rfl, rfl, rfl⟩ := H
      go_enter Try.func44, Try.ntmps44
      go_wp2_with (first | ((with_reducible refine gate_callee (f := 39) rfl ?_); refine goesL_ (some 5) rfl rfl Try.func39 (by kernel_rfl) rfl #[.pointer (some ⟨g, 0, none⟩)] rfl (by (try simp only [List.map_toArray, List.map_cons, List.map_nil]); first | done | rfl | (simp only [List.length_drop, List.length_take]; rfl)) ?_; (with_reducible refine (wire_Reader_Err.calls g s0_0 s0_1 s0_2 t117 t118 t119 w0 _ ?side1 ?side2 A2.out).mono ?_); (case side1 => repeat (first | (with_reducible first | exact HI0.out | apply IsS74.alloc | apply IsS74.drewN | apply IsS74.drew | apply IsS74.set_1 | apply IsS74.set_2) | exact HI0.out)); (case side2 => repeat (first | (with_reducible first | exact HB.out | apply below_alloc | apply pw_below_drewN | apply below_drew1 | refine below_set ?_ (IsS74.ge HI0.out)) | exact HB.out)); rintro e w8 ⟨rfl, hi, hb, hk⟩; refine ⟨_, rfl, ?_⟩; have n0_ := Aside0.mk (KeepBut.trans (by repeat (first | (with_reducible first | exact HK.out | apply KeepBut.set_ | apply keep_drewN | apply keep_drew | apply keep_alloc) | exact HK.out)) hk (.inl rfl)); have n1_ := Aside0.mk (hb); have n2_ := Aside0.mk (hi); clear HK; clear HB; clear HI0; have HK := n0_; have HB := n1_; have HI0 := n2_; clear n0_ n1_ n2_; (try clear hb); (try clear hb2); (try clear hk); (try clear hi)) | ((with_reducible refine gate_callee (f := 40) rfl ?_); refine goesL_ (some 10) rfl rfl Try.func40 (by kernel_rfl) rfl #[.pointer (some ⟨g, 0, none⟩)] rfl (by (try simp only [List.map_toArray, List.map_cons, List.map_nil]); first | done | rfl | (simp only [List.length_drop, List.length_take]; rfl)) ?_; (with_reducible refine (wire_Reader_Left.calls g s0_0 t118 t119 t120 t121 t122 w0 _ ?side1 ?side2 A4.out).mono ?_); (case side1 => repeat (first | (with_reducible first | exact HI0.out | apply IsS74.alloc | apply IsS74.drewN | apply IsS74.drew | apply IsS74.set_1 | apply IsS74.set_2) | exact HI0.out)); (case side2 => repeat (first | (with_reducible first | exact HB.out | apply below_alloc | apply pw_below_drewN | apply below_drew1 | refine below_set ?_ (IsS74.ge HI0.out)) | exact HB.out)); rintro e w9 ⟨rfl, hi, hb, hk⟩; refine ⟨_, rfl, ?_⟩; have n0_ := Aside0.mk (KeepBut.trans (by repeat (first | (with_reducible first | exact HK.out | apply KeepBut.set_ | apply keep_drewN | apply keep_drew | apply keep_alloc) | exact HK.out)) hk (.inl rfl)); have n1_ := Aside0.mk (hb); have n2_ := Aside0.mk (hi); clear HK; clear HB; clear HI0; have HK := n0_; have HB := n1_; have HI0 := n2_; clear n0_ n1_ n2_; (try clear hb); (try clear hb2); (try clear hk); (try clear hi)))
      go_ret
      exact ⟨by first | rfl | (simp [errW_none, errW_some] <;> rfl) | (simp [*, errW_none, errW_some] <;> rfl), by repeat (first | (with_reducible first | exact HI0.out | apply IsS74.alloc | apply IsS74.drewN | apply IsS74.drew | apply IsS74.set_1 | apply IsS74.set_2) | exact HI0.out), by repeat (first | (with_reducible first | exact HB.out | apply below_alloc | apply pw_below_drewN | apply below_drew1 | refine below_set ?_ (IsS74.ge HI0.out)) | exact HB.out), by repeat (first | (with_reducible first | exact HK.out | apply KeepBut.set_ | apply keep_drewN | apply keep_drew | apply keep_alloc) | exact HK.out)⟩
  · rw [if_neg c3] at H
    have c3b0 : (t117 == 0) = false := beq_eq_false_iff_ne.mpr c3
    have c3b1 : (t117 != 0) = true := bne_iff_ne.mpr c3
    simp only [Option.some.injEq, Prod.mk.injEq] at H
    obtain ⟨rfl, rfl, rfl⟩ := H
    go_enter Try.func44, Try.ntmps44
    go_wp2_with (first | ((with_reducible refine gate_callee (f := 39) rfl ?_); refine goesL_ (some 5) rfl rfl Try.func39 (by kernel_rfl) rfl #[.pointer (some ⟨g, 0, none⟩)] rfl (by (try simp only [List.map_toArray, List.map_cons, List.map_nil]); first | done | rfl | (simp only [List.length_drop, List.length_take]; rfl)) ?_; (with_reducible refine (wire_Reader_Err.calls g s0_0 s0_1 s0_2 t117 t118 t119 w0 _ ?side1 ?side2 A2.out).mono ?_); (case side1 => repeat (first | (with_reducible first | exact HI0.out | apply IsS74.alloc | apply IsS74.drewN | apply IsS74.drew | apply IsS74.set_1 | apply IsS74.set_2) | exact HI0.out)); (case side2 => repeat (first | (with_reducible first | exact HB.out | apply below_alloc | apply pw_below_drewN | apply below_drew1 | refine below_set ?_ (IsS74.ge HI0.out)) | exact HB.out)); rintro e w10 ⟨rfl, hi, hb, hk⟩; refine ⟨_, rfl, ?_⟩; have n0_ := Aside0.mk (KeepBut.trans (by repeat (first | (with_reducible first | exact HK.out | apply KeepBut.set_ | apply keep_drewN | apply keep_drew | apply keep_alloc) | exact HK.out)) hk (.inl rfl)); have n1_ := Aside0.mk (hb); have n2_ := Aside0.mk (hi); clear HK; clear HB; clear HI0; have HK := n0_; have HB := n1_; have HI0 := n2_; clear n0_ n1_ n2_; (try clear hb); (try clear hb2); (try clear hk); (try clear hi)))
    go_ret
    exact ⟨by first | rfl | (simp [errW_none, errW_some] <;> rfl) | (simp [*, errW_none, errW_some] <;> rfl), by repeat (first | (with_reducible first | exact HI0.out | apply IsS74.alloc | apply IsS74.drewN | apply IsS74.drew | apply IsS74.set_1 | apply IsS74.set_2) | exact HI0.out), by repeat (first | (with_reducible first | exact HB.out | apply below_alloc | apply pw_below_drewN | apply below_drew1 | refine below_set ?_ (IsS74.ge HI0.out)) | exact HB.out), by repeat (first | (with_reducible first | exact HK.out | apply KeepBut.set_ | apply keep_drewN | apply keep_drew | apply keep_alloc) | exact HK.out)⟩

-- NOT PRINTED: function 26 (rematchlaw01_wakes)

/-! ### wire_Reader_Signed: function 36 -/
def wire_Reader_Signed.f (s0_0 : List Int) (s0_1 : Int) (s0_2 : Int) : Option (Int × Int × Int) := (wire_Reader_Num.f s0_0 s0_1 s0_2).bind fun bt167 => (some (Go.bits .xor .i64 (wrap64 (bt167.1 / 2)) (wrap64 (-(wrap64 (Go.bits .and .u64 bt167.1 1)))), bt167.2.1, bt167.2.2))
set_option maxHeartbeats 8000000 in
set_option maxRecDepth 100000 in
theorem wire_Reader_Signed.calls (g : Nat) (s0_0 : List Int) (s0_1 : Int) (s0_2 : Int) (r1 : Int) (r2 : Int) (r3 : Int) (w0 w : World) (hI : IsS74 w0 w g s0_0 s0_1 s0_2) (hB : Below w0.heap.size w0 w) (h : wire_Reader_Signed.f s0_0 s0_1 s0_2 = some (r1, r2, r3)) :
    Calls Try.prog 36 #[.pointer (some ⟨g, 0, none⟩)] w fun e w' => e = .returned (.int .i64 r1) ∧ IsS74 w0 w' g s0_0 r2 r3 ∧ Below w0.heap.size w0 w' ∧ KeepBut w w' g none := by
  have HI0 := Aside0.mk hI
  have HK := Aside0.mk (KeepBut.refl w g none)
  have HL := Aside0.mk hB.size
  clear hI
  have HW0 := Aside0.mk hB.size
  have HB := Aside0.mk hB
  clear hB
  have H : ((wire_Reader_Num.f s0_0 s0_1 s0_2).bind fun bt167 => (some (Go.bits .xor .i64 (wrap64 (bt167.1 / 2)) (wrap64 (-(wrap64 (Go.bits .and .u64 bt167.1 1)))), bt167.2.1, bt167.2.2))) = some (r1, r2, r3) := h
  clear h
  replace H := Option.bind_eq_some_iff.mp H
  obtain ⟨⟨t167, t168, t169⟩, A20, H⟩ := H
  replace H : (some (Go.bits .xor .i64 (wrap64 (t167 / 2)) (wrap64 (-(wrap64 (Go.bits .and .u64 t167 1)))), t168, t169)) = some (r1, r2, r3) := H
  have A2 := Aside0.mk A20
  clear A20
  simp only [Option.some.injEq, Prod.mk.injEq] at H
  obtain ⟨rfl, rfl, rfl⟩ := H
  go_enter Try.func36, Try.ntmps36
  go_wp2_with (first | ((with_reducible refine gate_callee (f := 35) rfl ?_); refine goesL_ (some 5) rfl rfl Try.func35 (by kernel_rfl) rfl #[.pointer (some ⟨g, 0, none⟩)] rfl (by (try simp only [List.map_toArray, List.map_cons, List.map_nil]); first | done | rfl | (simp only [List.length_drop, List.length_take]; rfl)) ?_; (with_reducible refine (wire_Reader_Num.calls g s0_0 s0_1 s0_2 t167 t168 t169 w0 _ ?side1 ?side2 A2.out).mono ?_); (case side1 => repeat (first | (with_reducible first | exact HI0.out | apply IsS74.alloc | apply IsS74.drewN | apply IsS74.drew | apply IsS74.set_1 | apply IsS74.set_2) | exact HI0.out)); (case side2 => repeat (first | (with_reducible first | exact HB.out | apply below_alloc | apply pw_below_drewN | apply below_drew1 | refine below_set ?_ (IsS74.ge HI0.out)) | exact HB.out)); rintro e w3 ⟨rfl, hi, hb, hk⟩; refine ⟨_, rfl, ?_⟩; have n0_ := Aside0.mk (KeepBut.trans (by repeat (first | (with_reducible first | exact HK.out | apply KeepBut.set_ | apply keep_drewN | apply keep_drew | apply keep_alloc) | exact HK.out)) hk (.inl rfl)); have n1_ := Aside0.mk (hb); have n2_ := Aside0.mk (hi); clear HK; clear HB; clear HI0; have HK := n0_; have HB := n1_; have HI0 := n2_; clear n0_ n1_ n2_; (try clear hb); (try clear hb2); (try clear hk); (try clear hi)))
  go_ret
  exact ⟨by first | rfl | (simp [errW_none, errW_some] <;> rfl) | (simp [*, errW_none, errW_some] <;> rfl), by repeat (first | (with_reducible first | exact HI0.out | apply IsS74.alloc | apply IsS74.drewN | apply IsS74.drew | apply IsS74.set_1 | apply IsS74.set_2) | exact HI0.out), by repeat (first | (with_reducible first | exact HB.out | apply below_alloc | apply pw_below_drewN | apply below_drew1 | refine below_set ?_ (IsS74.ge HI0.out)) | exact HB.out), by repeat (first | (with_reducible first | exact HK.out | apply KeepBut.set_ | apply keep_drewN | apply keep_drew | apply keep_alloc) | exact HK.out)⟩

/-! ### wire_Reader_At: function 41 -/
def wire_Reader_At.f (s0_0 : List Int) (s0_1 : Int) (s0_2 : Int) : Option (Int × Int × Int) := some (s0_1, s0_1, s0_2)
set_option maxHeartbeats 8000000 in
set_option maxRecDepth 100000 in
theorem wire_Reader_At.calls (g : Nat) (s0_0 : List Int) (s0_1 : Int) (s0_2 : Int) (r1 : Int) (r2 : Int) (r3 : Int) (w0 w : World) (hI : IsS74 w0 w g s0_0 s0_1 s0_2) (hB : Below w0.heap.size w0 w) (h : wire_Reader_At.f s0_0 s0_1 s0_2 = some (r1, r2, r3)) :
    Calls Try.prog 41 #[.pointer (some ⟨g, 0, none⟩)] w fun e w' => e = .returned (.int .i64 r1) ∧ IsS74 w0 w' g s0_0 r2 r3 ∧ Below w0.heap.size w0 w' ∧ KeepBut w w' g none := by
  have HI0 := Aside0.mk hI
  have HK := Aside0.mk (KeepBut.refl w g none)
  have HL := Aside0.mk hB.size
  clear hI
  have HW0 := Aside0.mk hB.size
  have HB := Aside0.mk hB
  clear hB
  have H : (some (s0_1, s0_1, s0_2)) = some (r1, r2, r3) := h
  clear h
  simp only [Option.some.injEq, Prod.mk.injEq] at H
  obtain ⟨rfl, rfl, rfl⟩ := H
  obtain ⟨ASz2_0, cSz2_0, HGz2, hgz2, HSz2_0, _⟩ := HI0.out
  have hcz2_0 := cellS74_0 HGz2
  have hcz2_1 := cellS74_1 HGz2
  have hcz2_2 := cellS74_2 HGz2
  have hfz2_1 := blk_frozen HGz2 1
  have hfz2_2 := blk_frozen HGz2 2
  clear HGz2 hgz2
  go_enter Try.func41, Try.ntmps41
  go_wp2
  go_ret
  exact ⟨by first | rfl | (simp [errW_none, errW_some] <;> rfl) | (simp [*, errW_none, errW_some] <;> rfl), by repeat (first | (with_reducible first | exact HI0.out | apply IsS74.alloc | apply IsS74.drewN | apply IsS74.drew | apply IsS74.set_1 | apply IsS74.set_2) | exact HI0.out), by repeat (first | (with_reducible first | exact HB.out | apply below_alloc | apply pw_below_drewN | apply below_drew1 | refine below_set ?_ (IsS74.ge HI0.out)) | exact HB.out), by repeat (first | (with_reducible first | exact HK.out | apply KeepBut.set_ | apply keep_drewN | apply keep_drew | apply keep_alloc) | exact HK.out)⟩

-- NOT PRINTED: function 5 (rematchlaw01_WireBack)

end Go.Proofs.Ytfdbibddhneklac.PWireBack
