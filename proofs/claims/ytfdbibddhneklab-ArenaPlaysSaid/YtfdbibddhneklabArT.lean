import Derived.Test.YtfdbibddhneklabArS
import Derived.Test.YtfdbibddhneklabArC
namespace Go.Proofs.Ytfdbibddhneklab.Arena
open Go.RowKit
set_option linter.unusedVariables false
set_option linter.unusedSimpArgs false
set_option maxRecDepth 100000
set_option maxHeartbeats 1000000
theorem results_cell2 {P : Program} {fn : Func} {p t1 : Tmp} {ty : TypeId} (h : fn.results = #[.cell p ty, .tmp t1]) (tmps : Array Value) (w : World) (g : Nat) (t : TypeId) (cs : Array Value) (fr : Nat × Nat) (d : TypeDesc)
    (hp : tmps.getD p undef = .pointer (some ⟨g, 0, none⟩)) (hg : w.heap[g]? = some (.cells cs t fr))
    (hu : P.underlying ty = some d) (hd : (match d with | .struct _ | .array _ _ => true | _ => false) = true) (hi : (P.info? ty).map (·.size) = some cs.size) :
    (results fn tmps).run P w = .ok (.tuple #[.agg cs, tmps.getD t1 undef]) w := by
  have hp' : tmps[p]?.getD undef = .pointer (some ⟨g, 0, none⟩) := by simpa using hp
  simp [results, h, hp', asAddr, run_loadVar_row w g t ty cs fr d hg hu hd hi]
def addW (L : List Sl) : Int := match firstF L with | some m => (m : Int) + 128 * sG L m | none => -1

theorem addR_any (L : List Sl) (x : Int) (hL : L.length = 128) (hg : ∀ j, j < 128 → 0 ≤ sG L j ∧ sG L j ≤ 1000) (w : World) : Calls Try.prog 29 #[.agg (rcs L), .int .i64 x] w fun e w' => e = .returned (.tuple #[.agg (rcs (addL L x)), .int .i64 (addW L)]) ∧ Below w.heap.size w w' := by
  have HI := Lib.hid (info67 L hL)
  have HL := Lib.hid hL
  have HG := Lib.hid hg
  have hz := zero67' (w.alloc (.cells (rcs L) 67))
  have P0 := Lib.hid (liesR_past _ (.cells (rcs Z0) 67) L w.heap.size (liesR_new w L w.heap.size rfl))
  have P1 := Lib.hid (liesR_new (w.alloc (.cells (rcs L) 67)) Z0 (w.heap.size + 1) (by simp))
  have HB := Lib.hid (((Below.refl w.heap.size w).alloc (Nat.le_refl _) (.cells (rcs L) 67)).alloc (by simp) (.cells (rcs Z0) 67))
  clear hL hg
  go_enter Try.func29, Try.ntmps29
  go_wp2_with fail
  go_loopw [6] (fun v wr => ∃ k : Nat, v = .int .i64 k ∧ k ≤ 128 ∧ (∀ m, m < k → addable L m = false) ∧ LiesR wr w.heap.size L ∧ LiesR wr (w.heap.size + 1) Z0 ∧ Below w.heap.size w wr) (fun v _ => 128 - (intOf v).toNat)
  case atStart => exact ⟨0, rfl, by omega, fun m hm => by omega, P0.out, P1.out, HB.out⟩
  case round =>
    clear P0 P1 HB hz
    obtain ⟨k, rfl, hk, hb, r0, r1, rB⟩ := hrel
    have P0 := Lib.hid r0
    have P1 := Lib.hid r1
    have HB := Lib.hid rB
    clear r0 r1 rB
    by_cases h : k < 128
    · have k0 : (0 : Int) ≤ (k : Int) := by omega
      have k1 : (k : Int) < 128 := by omega
      have c2 := P0.out.cell (256 + k)
      rw [rcs_u L HL.out k h] at c2
      have c1 := P0.out.cell (128 + k)
      rw [rcs_x L HL.out k h] at c1
      have c0 := P0.out.cell k
      rw [rcs_g L HL.out k h] at c0
      have f1 := P0.out.frozen (128 + k)
      have f2 := P0.out.frozen (256 + k)
      cases hu : sU L k
      · by_cases hs : sG L k < 512
        · have hA : addable L k = true := by simp [addable, hu]; omega
          have hF := firstF_some h hA hb
          obtain ⟨LC, hLC⟩ : ∃ A, A = L.set k (x, sG L k, true) := ⟨_, rfl⟩
          have e1 : Hid (addL L x = LC) := Lib.hid (by unfold addL; rw [hF, hLC])
          have e2 : Hid (addW L = (k : Int) + 128 * sG L k) := Lib.hid (by unfold addW; rw [hF])
          obtain ⟨LA, hLA⟩ : ∃ A, A = L.set k (sX L k, sG L k, true) := ⟨_, rfl⟩
          have hjl : k < L.length := by rw [HL.out]; exact h
          have lA : LA.length = 128 := by rw [hLA, List.length_set]; exact HL.out
          have lC : LC.length = 128 := by rw [hLC, List.length_set]; exact HL.out
          have sA := sX_set L k hjl (sX L k) (sG L k) true
          rw [← hLA] at sA
          have sC := sX_set L k hjl x (sG L k) true
          rw [← hLC] at sC
          have q1 := P0.out.setu HL.out k h true
          rw [← hLA] at q1
          have q2 := q1.setx lA k h x
          rw [show LA.set k (x, sG LA k, sU LA k) = LC by rw [sA.2.1, sA.2.2, hLA, hLC, set3 _ _ hjl]] at q2
          have Q0 := Lib.hid q2
          have Q1 := Lib.hid ((P1.out.far ⟨w.heap.size, 256 + k, none⟩ (.bool true) (by simp)).far ⟨w.heap.size, 128 + k, none⟩ (.int .i64 x) (by simp))
          have QB := Lib.hid ((HB.out.setCell (p := ⟨w.heap.size, 256 + k, none⟩) (Nat.le_refl _) (.bool true)).setCell (p := ⟨w.heap.size, 128 + k, none⟩) (Nat.le_refl _) (.int .i64 x))
          have HK := Lib.hid (info67 LC lC)
          have HY := Lib.hid (show (rcs Z0).size = (rcs LC).size by rw [rcs_size, rcs_size, lC, Z0_len])
          have g3 := q2.cell k
          rw [rcs_g LC lC k h, sC.2.1] at g3
          obtain ⟨y0, y1⟩ := HG.out k h
          have hw1' : IntKind.i64.wrap (128 * sG L k) = 128 * sG L k := by rw [IntKind.wrap_i64]; omega
          have hw2' : IntKind.i64.wrap ((k : Int) + 128 * sG L k) = (k : Int) + 128 * sG L k := by rw [IntKind.wrap_i64]; omega
          rw [hu] at c2
          have hs2 : sG L k < 512 := hs
          have HGC := Lib.hid (show (rcs LC)[k]? = some (.int .i64 (sG L k)) by rw [rcs_g LC lC k h, sC.2.1])
          have HLC := Lib.hid lC
          clear hF hA hLC hLA lA lC sA sC q1 q2 g3
          go_wp2_with fail
          have Q0d := Lib.hid (LiesR.next Q0.out ((Below.refl _ _).drew))
          have Q1d := Lib.hid (LiesR.next Q1.out ((Below.refl _ _).drew))
          have QBd := Lib.hid (QB.out.drew)
          have w1 := Lib.hid hw1'
          have w2 := Lib.hid hw2'
          clear hw1' hw2' Q0 Q1 QB P0 P1 HB c0 c1 c2 f1 f2
          refine wp_region_inv (fun a0 w0 b a' w' => ∃ x30 x31 x32 x33 x34 x35 x36 x37 x5 : Value, a' = (((((((((a0.put (some 30) x30).put (some 31) x31).put (some 32) x32).put (some 33) x33).put (some 34) x34).put (some 35) x35).put (some 36) x36).put (some 37) x37).put (some 5) x5) ∧ LiesR w' w.heap.size LC ∧ (∃ R : List Sl, LiesR w' (w.heap.size + 1) R ∧ R.length = 128 ∧ (b 8 = true → R = LC)) ∧ Below w.heap.size w w' ∧ (b 0 = true → x30 = .agg (rcs LC)) ∧ (b 1 = true → x31 = .int .i64 k) ∧ (b 2 = true → x32 = .int .i64 k) ∧ (b 3 = true → x33 = .pointer (some ⟨w.heap.size, 0, none⟩)) ∧ (b 4 = true → x34 = .pointer (some ⟨w.heap.size, k, none⟩)) ∧ (b 5 = true → x35 = .int .i64 (sG L k)) ∧ (b 6 = true → x36 = .int .i64 (128 * sG L k)) ∧ (b 7 = true → x37 = .int .i64 ((k : Int) + 128 * sG L k)) ∧ (b 9 = true → x5 = .int .i64 ((k : Int) + 128 * sG L k))) (by kernel_rfl) (by kernel_rfl) ?start ⟨?op0, ?op1, ?op2, ?op3, ?op4, ?op5, ?op6, ?op7, ?op8, ?op9, trivial⟩ ?done
          case start => exact ⟨_, _, _, _, _, _, _, _, _, by simp only [Act.put, List.setIfInBounds_toArray, List.set_cons_zero, List.set_cons_succ]; rfl, Q0d.out, ⟨Z0, Q1d.out, Z0_len, fun h => absurd h (by decide)⟩, QBd.out, fun h => absurd h (by decide), fun h => absurd h (by decide), fun h => absurd h (by decide), fun h => absurd h (by decide), fun h => absurd h (by decide), fun h => absurd h (by decide), fun h => absurd h (by decide), fun h => absurd h (by decide), fun h => absurd h (by decide)⟩
          case op0 =>
            rintro bb _ w' ⟨x30, x31, x32, x33, x34, x35, x36, x37, x5, rfl, t0, ⟨R, t1, tl, tb⟩, B, p30, p31, p32, p33, p34, p35, p36, p37, p5⟩ hb hd K hK
            simp only [Act.put, List.setIfInBounds_toArray, List.set_cons_zero, List.set_cons_succ]
            rw [if_pos (by rfl)]
            refine wp_load_row 67 (.tmp 2) rfl _ rfl _ _ _ _ t0 Try.underlying67 rfl HK.out ?_
            try simp only [Act.put, List.setIfInBounds_toArray, List.set_cons_zero, List.set_cons_succ]
            exact hK _ _ ⟨.agg (rcs LC), x31, x32, x33, x34, x35, x36, x37, x5, by simp only [Act.put, List.setIfInBounds_toArray, List.set_cons_zero, List.set_cons_succ], t0, ⟨R, t1, tl, fun h => tb (by simpa [upb] using h)⟩, B, fun _ => rfl, fun h => p31 (by simpa [upb] using h), fun h => p32 (by simpa [upb] using h), fun h => p33 (by simpa [upb] using h), fun h => p34 (by simpa [upb] using h), fun h => p35 (by simpa [upb] using h), fun h => p36 (by simpa [upb] using h), fun h => p37 (by simpa [upb] using h), fun h => p5 (by simpa [upb] using h)⟩
          case op1 =>
            rintro bb _ w' ⟨x30, x31, x32, x33, x34, x35, x36, x37, x5, rfl, t0, ⟨R, t1, tl, tb⟩, B, p30, p31, p32, p33, p34, p35, p36, p37, p5⟩ hb hd K hK
            simp only [Act.put, List.setIfInBounds_toArray, List.set_cons_zero, List.set_cons_succ]
            rw [if_pos (by rfl)]
            go_simp
            exact hK _ _ ⟨x30, .int .i64 k, x32, x33, x34, x35, x36, x37, x5, by simp only [Act.put, List.setIfInBounds_toArray, List.set_cons_zero, List.set_cons_succ], t0, ⟨R, t1, tl, fun h => tb (by simpa [upb] using h)⟩, B, fun h => p30 (by simpa [upb] using h), fun _ => rfl, fun h => p32 (by simpa [upb] using h), fun h => p33 (by simpa [upb] using h), fun h => p34 (by simpa [upb] using h), fun h => p35 (by simpa [upb] using h), fun h => p36 (by simpa [upb] using h), fun h => p37 (by simpa [upb] using h), fun h => p5 (by simpa [upb] using h)⟩
          case op2 =>
            rintro bb _ w' ⟨x30, x31, x32, x33, x34, x35, x36, x37, x5, rfl, t0, ⟨R, t1, tl, tb⟩, B, p30, p31, p32, p33, p34, p35, p36, p37, p5⟩ hb hd K hK
            simp only [Act.put, List.setIfInBounds_toArray, List.set_cons_zero, List.set_cons_succ]
            rw [if_pos (by rfl)]
            go_simp
            exact hK _ _ ⟨x30, x31, .int .i64 k, x33, x34, x35, x36, x37, x5, by simp only [Act.put, List.setIfInBounds_toArray, List.set_cons_zero, List.set_cons_succ], t0, ⟨R, t1, tl, fun h => tb (by simpa [upb] using h)⟩, B, fun h => p30 (by simpa [upb] using h), fun h => p31 (by simpa [upb] using h), fun _ => rfl, fun h => p33 (by simpa [upb] using h), fun h => p34 (by simpa [upb] using h), fun h => p35 (by simpa [upb] using h), fun h => p36 (by simpa [upb] using h), fun h => p37 (by simpa [upb] using h), fun h => p5 (by simpa [upb] using h)⟩
          case op3 =>
            rintro bb _ w' ⟨x30, x31, x32, x33, x34, x35, x36, x37, x5, rfl, t0, ⟨R, t1, tl, tb⟩, B, p30, p31, p32, p33, p34, p35, p36, p37, p5⟩ hb hd K hK
            simp only [Act.put, List.setIfInBounds_toArray, List.set_cons_zero, List.set_cons_succ]
            rw [if_pos (by rfl)]
            go_simp
            exact hK _ _ ⟨x30, x31, x32, .pointer (some ⟨w.heap.size, 0, none⟩), x34, x35, x36, x37, x5, by simp only [Act.put, List.setIfInBounds_toArray, List.set_cons_zero, List.set_cons_succ], t0, ⟨R, t1, tl, fun h => tb (by simpa [upb] using h)⟩, B, fun h => p30 (by simpa [upb] using h), fun h => p31 (by simpa [upb] using h), fun h => p32 (by simpa [upb] using h), fun _ => rfl, fun h => p34 (by simpa [upb] using h), fun h => p35 (by simpa [upb] using h), fun h => p36 (by simpa [upb] using h), fun h => p37 (by simpa [upb] using h), fun h => p5 (by simpa [upb] using h)⟩
          case op4 =>
            rintro bb _ w' ⟨x30, x31, x32, x33, x34, x35, x36, x37, x5, rfl, t0, ⟨R, t1, tl, tb⟩, B, p30, p31, p32, p33, p34, p35, p36, p37, p5⟩ hb hd K hK
            simp only [Act.put, List.setIfInBounds_toArray, List.set_cons_zero, List.set_cons_succ]
            obtain rfl := p32 (hd 2 (by decide))
            obtain rfl := p33 (hd 3 (by decide))
            rw [if_pos (by rfl)]
            go_simp
            exact hK _ _ ⟨x30, x31, .int .i64 k, .pointer (some ⟨w.heap.size, 0, none⟩), .pointer (some ⟨w.heap.size, k, none⟩), x35, x36, x37, x5, by simp only [Act.put, List.setIfInBounds_toArray, List.set_cons_zero, List.set_cons_succ], t0, ⟨R, t1, tl, fun h => tb (by simpa [upb] using h)⟩, B, fun h => p30 (by simpa [upb] using h), fun h => p31 (by simpa [upb] using h), fun _ => rfl, fun _ => rfl, fun _ => rfl, fun h => p35 (by simpa [upb] using h), fun h => p36 (by simpa [upb] using h), fun h => p37 (by simpa [upb] using h), fun h => p5 (by simpa [upb] using h)⟩
          case op5 =>
            rintro bb _ w' ⟨x30, x31, x32, x33, x34, x35, x36, x37, x5, rfl, t0, ⟨R, t1, tl, tb⟩, B, p30, p31, p32, p33, p34, p35, p36, p37, p5⟩ hb hd K hK
            simp only [Act.put, List.setIfInBounds_toArray, List.set_cons_zero, List.set_cons_succ]
            obtain rfl := p34 (hd 4 (by decide))
            rw [if_pos (by rfl)]
            have cc := t0.cell k
            rw [HGC.out] at cc
            go_simp
            exact hK _ _ ⟨x30, x31, x32, x33, .pointer (some ⟨w.heap.size, k, none⟩), .int .i64 (sG L k), x36, x37, x5, by simp only [Act.put, List.setIfInBounds_toArray, List.set_cons_zero, List.set_cons_succ], t0, ⟨R, t1, tl, fun h => tb (by simpa [upb] using h)⟩, B, fun h => p30 (by simpa [upb] using h), fun h => p31 (by simpa [upb] using h), fun h => p32 (by simpa [upb] using h), fun h => p33 (by simpa [upb] using h), fun _ => rfl, fun _ => rfl, fun h => p36 (by simpa [upb] using h), fun h => p37 (by simpa [upb] using h), fun h => p5 (by simpa [upb] using h)⟩
          case op6 =>
            rintro bb _ w' ⟨x30, x31, x32, x33, x34, x35, x36, x37, x5, rfl, t0, ⟨R, t1, tl, tb⟩, B, p30, p31, p32, p33, p34, p35, p36, p37, p5⟩ hb hd K hK
            simp only [Act.put, List.setIfInBounds_toArray, List.set_cons_zero, List.set_cons_succ]
            obtain rfl := p35 (hd 5 (by decide))
            rw [if_pos (by rfl)]
            go_simp
            try rw [w1.out]
            try simp only [w1.out]
            exact hK _ _ ⟨x30, x31, x32, x33, x34, .int .i64 (sG L k), .int .i64 (128 * sG L k), x37, x5, by simp only [Act.put, List.setIfInBounds_toArray, List.set_cons_zero, List.set_cons_succ], t0, ⟨R, t1, tl, fun h => tb (by simpa [upb] using h)⟩, B, fun h => p30 (by simpa [upb] using h), fun h => p31 (by simpa [upb] using h), fun h => p32 (by simpa [upb] using h), fun h => p33 (by simpa [upb] using h), fun h => p34 (by simpa [upb] using h), fun _ => rfl, fun _ => rfl, fun h => p37 (by simpa [upb] using h), fun h => p5 (by simpa [upb] using h)⟩
          case op7 =>
            rintro bb _ w' ⟨x30, x31, x32, x33, x34, x35, x36, x37, x5, rfl, t0, ⟨R, t1, tl, tb⟩, B, p30, p31, p32, p33, p34, p35, p36, p37, p5⟩ hb hd K hK
            simp only [Act.put, List.setIfInBounds_toArray, List.set_cons_zero, List.set_cons_succ]
            obtain rfl := p31 (hd 1 (by decide))
            obtain rfl := p36 (hd 6 (by decide))
            rw [if_pos (by rfl)]
            go_simp
            try rw [w2.out]
            try simp only [w2.out]
            exact hK _ _ ⟨x30, .int .i64 k, x32, x33, x34, x35, .int .i64 (128 * sG L k), .int .i64 ((k : Int) + 128 * sG L k), x5, by simp only [Act.put, List.setIfInBounds_toArray, List.set_cons_zero, List.set_cons_succ], t0, ⟨R, t1, tl, fun h => tb (by simpa [upb] using h)⟩, B, fun h => p30 (by simpa [upb] using h), fun _ => rfl, fun h => p32 (by simpa [upb] using h), fun h => p33 (by simpa [upb] using h), fun h => p34 (by simpa [upb] using h), fun h => p35 (by simpa [upb] using h), fun _ => rfl, fun _ => rfl, fun h => p5 (by simpa [upb] using h)⟩
          case op8 =>
            rintro bb _ w' ⟨x30, x31, x32, x33, x34, x35, x36, x37, x5, rfl, t0, ⟨R, t1, tl, tb⟩, B, p30, p31, p32, p33, p34, p35, p36, p37, p5⟩ hb hd K hK
            simp only [Act.put, List.setIfInBounds_toArray, List.set_cons_zero, List.set_cons_succ]
            obtain rfl := p30 (hd 0 (by decide))
            rw [if_pos (by rfl)]
            refine wp_store_row 67 (.tmp 4) (.tmp 30) rfl _ _ rfl rfl _ _ t1 HK.out (by rw [rcs_size, rcs_size, tl, HLC.out]) (rcs_one _) ?_
            try simp only [Act.put, List.setIfInBounds_toArray, List.set_cons_zero, List.set_cons_succ]
            exact hK _ _ ⟨.agg (rcs LC), x31, x32, x33, x34, x35, x36, x37, x5, by simp only [Act.put, List.setIfInBounds_toArray, List.set_cons_zero, List.set_cons_succ], t0.row (by omega) _, ⟨_, t1.same _, HLC.out, fun _ => rfl⟩, below_setRow B (by omega) _, fun _ => rfl, fun h => p31 (by simpa [upb] using h), fun h => p32 (by simpa [upb] using h), fun h => p33 (by simpa [upb] using h), fun h => p34 (by simpa [upb] using h), fun h => p35 (by simpa [upb] using h), fun h => p36 (by simpa [upb] using h), fun h => p37 (by simpa [upb] using h), fun h => p5 (by simpa [upb] using h)⟩
          case op9 =>
            rintro bb _ w' ⟨x30, x31, x32, x33, x34, x35, x36, x37, x5, rfl, t0, ⟨R, t1, tl, tb⟩, B, p30, p31, p32, p33, p34, p35, p36, p37, p5⟩ hb hd K hK
            simp only [Act.put, List.setIfInBounds_toArray, List.set_cons_zero, List.set_cons_succ]
            obtain rfl := p37 (hd 7 (by decide))
            rw [if_pos (by rfl)]
            go_simp
            exact hK _ _ ⟨x30, x31, x32, x33, x34, x35, x36, .int .i64 ((k : Int) + 128 * sG L k), .int .i64 ((k : Int) + 128 * sG L k), by simp only [Act.put, List.setIfInBounds_toArray, List.set_cons_zero, List.set_cons_succ], t0, ⟨R, t1, tl, fun h => tb (by simpa [upb] using h)⟩, B, fun h => p30 (by simpa [upb] using h), fun h => p31 (by simpa [upb] using h), fun h => p32 (by simpa [upb] using h), fun h => p33 (by simpa [upb] using h), fun h => p34 (by simpa [upb] using h), fun h => p35 (by simpa [upb] using h), fun h => p36 (by simpa [upb] using h), fun _ => rfl, fun _ => rfl⟩
          case done =>
            rintro bb _ w' hb ⟨x30, x31, x32, x33, x34, x35, x36, x37, x5, rfl, t0, ⟨R, t1, tl, tb⟩, B, p30, p31, p32, p33, p34, p35, p36, p37, p5⟩
            obtain rfl := p30 (hb 0 (by decide))
            obtain rfl := p31 (hb 1 (by decide))
            obtain rfl := p32 (hb 2 (by decide))
            obtain rfl := p33 (hb 3 (by decide))
            obtain rfl := p34 (hb 4 (by decide))
            obtain rfl := p35 (hb 5 (by decide))
            obtain rfl := p36 (hb 6 (by decide))
            obtain rfl := p37 (hb 7 (by decide))
            obtain rfl := p5 (hb 9 (by decide))
            simp only [Act.put, List.setIfInBounds_toArray, List.set_cons_zero, List.set_cons_succ]
            have hRe := tb (hb 8 (by decide))
            rw [hRe] at t1
            clear hRe tb
            have B := Lib.hid B
            go_wp2_with fail
            refine bodyPost_ret (results_cell2 rfl _ _ _ _ _ _ _ rfl t1 Try.underlying67 rfl HK.out) rfl ?_
            rw [e1.out, e2.out]
            exact ⟨rfl, B.out⟩
        · have hA : addable L k = false := by simp [addable, hu]; omega
          rw [hu] at c2
          go_wp2_with fail
          exact ⟨⟨k + 1, by go_num, by omega, fun m hm => (if e : m = k then by rw [e]; exact hA else hb m (by omega)), P0.out, P1.out, HB.out⟩, by simp [intOf]; omega⟩
      · have hA : addable L k = false := by simp [addable, hu]
        rw [hu] at c2
        go_wp2_with fail
        exact ⟨⟨k + 1, by go_num, by omega, fun m hm => (if e : m = k then by rw [e]; exact hA else hb m (by omega)), P0.out, P1.out, HB.out⟩, by simp [intOf]; omega⟩
    · obtain rfl : k = 128 := by omega
      have hF := firstF_none hb
      have e1 : Hid (addL L x = L) := Lib.hid (by unfold addL; rw [hF])
      have e2 : Hid (addW L = -1) := Lib.hid (by unfold addW; rw [hF])
      have HY := Lib.hid (show (rcs Z0).size = (rcs L).size by rw [rcs_size, rcs_size, HL.out, Z0_len])
      clear hF
      go_wp2_with (first | (refine wpList_load_row rfl 67 (.tmp 2) rfl _ rfl _ _ _ _ P0.out Try.underlying67 rfl HI.out ?_) | (refine wpList_store_row rfl 67 (.tmp 4) (.tmp 38) rfl _ _ rfl rfl _ _ P1.out HI.out HY.out (rcs_one _) ?_))
      have hR := setRow_heap _ (w.heap.size + 1) (rcs Z0) (rcs L) 67 (0, 0) P1.out
      refine bodyPost_ret (results_cell2 rfl _ _ _ _ _ _ _ rfl hR Try.underlying67 rfl HI.out) rfl ?_
      rw [e1.out, e2.out]
      exact ⟨rfl, below_setRow HB.out (by omega) _⟩
end Go.Proofs.Ytfdbibddhneklab.Arena
