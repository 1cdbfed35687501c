/- Path: Find: what it answers is told by a plain function. No condition. -/
import Derived.Test.YtkbimhngbdbgdaaWay
namespace Go.Proofs.Ytkbimhngbdbgdaa.PPathFinds
open Go.RowKit Go.Proofs.YtkbimhngbdbgdaaW.PrintWords Go.Proofs.YtkbimhngbdbgdaaW.PrintLast Go.Proofs.YtkbimhngbdbgdaaW.PrintMore
attribute [local go_sem] max2_int min2_int max_two min_two max_three min_three max_four min_four   -- for this text's walks alone
set_option linter.unusedVariables false
set_option linter.unusedSimpArgs false
set_option maxHeartbeats 8000000
set_option maxRecDepth 20000
def farO (q : SP) (x : Int) : Option Int := grid_Map_Far.f 5 q.mw q.mh q.ms x q.goal
def fvO (q : SP) (d : Int) : Int := if q.near < d then d - q.near else 0
/-- the tiles next to one are come to -/
def fd_in (q : SP) (B : Int → Bool) (tile : Int) : List Int → List S51 → (Int → Option (Int × Int × Bool)) → Option (List S51 × (Int → Option (Int × Int × Bool)))
  | [], l, F => some (l, F)
  | x :: r, l, F => (grid_Map_Walk.f q.mw q.mh q.ms x).bind fun wk => if wk = true ∧ B x = false then
      (farO q x).bind fun d => if -1 ≤ d ∧ d ≤ 100000 ∧ 0 ≤ ((F tile).getD (0, 0, false)).1 + 1 ∧ ((F tile).getD (0, 0, false)).1 + 1 ≤ 1000000 ∧ l.length < 1000000 then
        fd_in q B tile r (cm_l F l x (((F tile).getD (0, 0, false)).1 + 1) (fvO q d)) (cm_F F x tile (((F tile).getD (0, 0, false)).1 + 1)) else none
    else fd_in q B tile r l F
/-- the search, n tiles more -/
def fd (q : SP) (B : Int → Bool) : Nat → List S51 → (Int → Option (Int × Int × Bool)) → Option (List Int × Bool)
  | 0, _, _ => some ([], false)
  | n + 1, l, F => if l.length ≤ 1000000 then (if (tk (l.length + 1) l F).1 = false then some ([], false) else
      if (tk (l.length + 1) l F).2.1.f1 = 0 then (wy 1000 (tk (l.length + 1) l F).2.2.2 (tk (l.length + 1) l F).2.1.f2).bind fun r => if r.length ≤ 100000 then some (r.reverse, true) else none
      else (grid_Map_Next.f q.mw q.mh q.ms (tk (l.length + 1) l F).2.1.f2).bind fun nx => if nx.length ≤ 1000 then (fd_in q B (tk (l.length + 1) l F).2.1.f2 nx (tk (l.length + 1) l F).2.2.1 (tk (l.length + 1) l F).2.2.2).bind fun s => fd q B n s.1 s.2 else none) else none
/-- what 'busy' may be -/
def Bz (w : World) (bz : Value) (B : Int → Bool) : Prop :=
  (bz = .nilFunc ∧ ∀ t, B t = false) ∨ (bz = .func (.func 16) #[] #[] ∧ ∀ t, B t = decide (t = 1)) ∨
  (∃ a gb f, bz = .func (.func 12) #[] #[.pointer (some a)] ∧ w.cell? a = some (.map (some gb)) ∧ MapIs w gb f ∧ ∀ t, (f t).getD (.bool false) = .bool (B t))
theorem cells3 {W : World} {k t : Nat} {a b c : Value} (h : W.heap[k]? = some (.cells #[a, b, c] t (0, 0))) : W.cell? ⟨k, 0, none⟩ = some a ∧ W.cell? ⟨k, 1, none⟩ = some b ∧ W.cell? ⟨k, 2, none⟩ = some c :=
  ⟨(blk_cell h 0).trans rfl, (blk_cell h 1).trans rfl, (blk_cell h 2).trans rfl⟩
/-- the search begins -/
theorem ss_new {w w2 : World} (hB : Below w.heap.size w w2) (mw mh : Int) (ms : ByteArray) (bz : Value) (goal near : Int) :
    Ss w ((w2.alloc (.map #[] 0)).alloc (.cells ((⟨mw, mh, ms, bz, goal, near, w2.heap.size⟩ : SP).cel (.slice none 0 0)) 48)) (w2.heap.size + 1) ⟨mw, mh, ms, bz, goal, near, w2.heap.size⟩ (.slice none 0 0) [] (fun _ => none) := by
  have hb1 := below_alloc hB (.map #[] 0)
  have hb2 := below_alloc hb1 (.cells ((⟨mw, mh, ms, bz, goal, near, w2.heap.size⟩ : SP).cel (.slice none 0 0)) 48)
  have hs : (w2.alloc (.map #[] 0)).heap.size = w2.heap.size + 1 := by simp
  have hn := blk_new (w2.alloc (.map #[] 0)) (.cells ((⟨mw, mh, ms, bz, goal, near, w2.heap.size⟩ : SP).cel (.slice none 0 0)) 48)
  rw [hs] at hn
  refine ⟨⟨hb2, hn, by have := hB.size; omega, Kd.R_nil _ _ _ _ _⟩, ?_, hB.size⟩
  have hm := (map_new w2).keep ((below_alloc (Below.refl (w2.alloc (.map #[] 0)).heap.size (w2.alloc (.map #[] 0))) (.cells ((⟨mw, mh, ms, bz, goal, near, w2.heap.size⟩ : SP).cel (.slice none 0 0)) 48)).block w2.heap.size (by rw [hs]; omega))
  exact hm
/-- a row of numbers is none of what the search turns -/
theorem R_fr {w W W' : World} {g : Nat} {q : SP} {v : Value} {l : List S51} {F : Int → Option (Int × Int × Bool)} {base : Nat} {u : Value} {xs : List Int} (hS : Ss w W g q v l F) (hF : Fr W W' g q.gm v.ownBlock) (h : Kd.R (Kd.int .i64) 3 W base (fun _ => True) u xs) : Kd.R (Kd.int .i64) 3 W' base (fun _ => True) u xs := by
  refine Kd.R_mono (Kd.R_step (Kd.R_bound h) (fun k hk hlt => ?_)) (fun _ _ => trivial)
  obtain ⟨_, _, _, t, ht, cells, hc⟩ := hk
  have e3 : t = 3 := by simpa [Kd.int, Kd.scalar] using ht
  subst e3
  refine hF.2 k hlt ?_ (hS.map.ne_cells hc) (Kd.R_ne hS.hp.own hc (by decide))
  rintro rfl
  rw [hS.hp.blk] at hc
  injection hc with hc
  injection hc with _ hc
  exact absurd hc (by decide)
theorem busy9 {w W : World} {a : Addr} {gb : Nat} {f : Int → Option Value} {x : Int} {b : Bool} (ha : w.cell? a = some (.map (some gb))) (hm : MapIs w gb f) (hb : Below w.heap.size w W) (hfx : (f x).getD (.bool false) = .bool b) :
    Calls Try.prog 12 #[.int .i64 x, .pointer (some a)] W fun e W' => e = .returned (.bool b) ∧ Below W.heap.size W W' := by
  have hc : W.cell? a = some (.map (some gb)) := (hb.cell (World.block_lt_of_cell? w a ha)).trans ha
  have hm2 := hm.keep (hb.block gb hm.lt)
  have hz : (zeroValue 4).run Try.prog W = .ok (.bool false) W := by kernel_rfl
  have hl := map_lookup Try.underlying32 hz hm2 x
  rw [hfx] at hl
  clear hm2 hz hfx hm ha hb
  go_enter Try.func12, Try.ntmps12
  go_wp2
  go_ret
  exact ⟨rfl, Below.refl _ _⟩
theorem busy16 (x : Int) (W : World) : Calls Try.prog 16 #[.int .i64 x] W fun e W' => e = .returned (.bool (decide (x = 1))) ∧ Below W.heap.size W W' := by
  obtain ⟨b, hb⟩ : ∃ b, decide (x = 1) = b := ⟨_, rfl⟩
  have hb2 : (x == 1) = b := hb
  rw [hb]
  clear hb
  go_enter Try.func16, Try.ntmps16
  go_wp2
  go_ret
  exact ⟨rfl, Below.refl _ _⟩
theorem find_yes (w : World) (mw mh : Int) (ms : ByteArray) (bz : Value) (B : Int → Bool) (from_ goal near d : Int) (R : List Int × Bool) (hbz : Bz w bz B) (h1 : 0 ≤ from_ ∧ from_ < ms.size) (h2 : 0 ≤ goal ∧ goal < ms.size) (h3 : 0 ≤ near ∧ near ≤ 9223372036854775807)
    (hd : grid_Map_Far.f 5 mw mh ms from_ goal = some d) (hd2 : -1 ≤ d ∧ d ≤ 100000)
    (hR : ∀ gm, fd ⟨mw, mh, ms, bz, goal, near, gm⟩ B 600 (cm_l (fun _ => none) [] from_ 0 (if near < d then d - near else 0)) (cm_F (fun _ => none) from_ from_ 0) = some R) :
    Calls Try.prog 8 #[.agg #[.int .i64 mw, .int .i64 mh, .string ms], bz, .int .i64 from_, .int .i64 goal, .int .i64 near] w fun e W' => ∃ vo, e = .returned (.tuple #[vo, .bool R.2]) ∧ Kd.R (Kd.int .i64) 3 W' w.heap.size (fun _ => True) vo R.1 ∧ Below w.heap.size w W' := by
  have O1 := Lib.hid (fun W => grid_Map_On.calls mw mh ms from_ true W (by unfold grid_Map_On.f; rw [if_pos h1.1]; simp [h1.2]))
  have O2 := Lib.hid (fun W => grid_Map_On.calls mw mh ms goal true W (by unfold grid_Map_On.f; rw [if_pos h2.1]; simp [h2.2]))
  have hd3 : decide (near < 0) = false := decide_eq_false (by omega)
  have hba := below_alloc (Below.refl w.heap.size w) (.cells #[.int .i64 mw, .int .i64 mh, .string ms] 25)
  have hb5 := blk_new w (.cells #[.int .i64 mw, .int .i64 mh, .string ms] 25)
  have HBA := Lib.hid hba
  have H5 := Lib.hid hb5
  have HBZ := Lib.hid hbz
  have HRR := Lib.hid hR
  have HD := Lib.hid hd
  clear hba hb5 hbz hR hd
  obtain ⟨Cm, hCm⟩ : ∃ C, (fun (w2 : World) (hb : Below w.heap.size w w2) => comes_calls 5 w ((w2.alloc (.map #[] 0)).alloc (.cells ((⟨mw, mh, ms, bz, goal, near, w2.heap.size⟩ : SP).cel (.slice none 0 0)) 48)) (w2.heap.size + 1) ⟨mw, mh, ms, bz, goal, near, w2.heap.size⟩ (.slice none 0 0) [] (fun _ => none) from_ from_ 0 d (if near < d then d - near else 0) rfl HD.out hd2 h3 (by omega) (by simp) (ss_new hb mw mh ms bz goal near)) = C := ⟨_, rfl⟩
  have CM := Lib.hid Cm
  clear hCm Cm
  obtain ⟨fv0, hfv0⟩ : ∃ x, (if near < d then d - near else 0) = x := ⟨_, rfl⟩
  rw [hfv0] at CM HRR
  clear hfv0
  have hbm : bz.cells = #[bz] := by rcases HBZ.out with ⟨rfl, _⟩ | ⟨rfl, _⟩ | ⟨_, _, _, rfl, _⟩ <;> rfl
  unfold Value.cells at hbm
  go_enter Try.func8, Try.ntmps8
  go_wp2_with (first
    | (refine (O1.out _).mono ?_; rintro e w1 ⟨rfl, hb1⟩; have HB1 := Lib.hid (below_then HBA.out HBA.out.size hb1); have h5 := (hb1.block w.heap.size (blk_lt H5.out)).trans H5.out; have H51 := Lib.hid h5; obtain ⟨c0, c1, c2⟩ := cells3 h5; clear O1 H5 HBA hb1 h5)
    | (refine (O2.out _).mono ?_; rintro e w2 ⟨rfl, hb2⟩; have HB2 := Lib.hid (below_then HB1.out HB1.out.size hb2); have h5 := (hb2.block w.heap.size (blk_lt H51.out)).trans H51.out; have H52 := Lib.hid h5; have C2 := CM.out w2 HB2.out; have mk := run_makeMap (P := Try.prog) 44 w2; obtain ⟨c0', c1', c2'⟩ := cells3 h5; clear O2 H51 HB1 hb2 h5 CM c0 c1 c2)
    | (refine C2.mono ?_; rintro e w3 ⟨rfl, v3, hs3, hf3, hm3⟩; have HS3 := Lib.hid hs3; have HF3 := Lib.hid hf3; have HM3 := Lib.hid hm3; clear C2 hs3 hf3 hm3 c0' c1' c2')
    | fail)
  have hk5 := blk_lt H52.out
  have hne1 : w.heap.size ≠ w2.heap.size + 1 := by omega
  have hne2 : w.heap.size ≠ w2.heap.size := by omega
  have hba2 := below_alloc (below_alloc (Below.refl w2.heap.size w2) (.map #[] 0)) (.cells ((⟨mw, mh, ms, bz, goal, near, w2.heap.size⟩ : SP).cel (.slice none 0 0)) 48)
  have H53 := Lib.hid (HF3.out.blk ((hba2.block w.heap.size hk5).trans H52.out) hne1 hne2 (by simp [Value.ownBlock]))
  clear hba2 HF3 HM3 H52 hk5 HB2
  generalize w2.heap.size + 1 = g at HS3 hne1 ⊢
  generalize w2.heap.size = gm at HS3 hne2 ⊢
  have HE0 := Lib.hid (HRR.out gm)
  clear HRR
  go_loopg [42] 600 (fun kq v42 w' => ∃ (i : Nat) (v : Value) (l : List S51) (F : Int → Option (Int × Int × Bool)), v42 = .int .i64 (i : Int) ∧ i + kq = 600 ∧ RowKit.Hid (fd (⟨mw, mh, ms, bz, goal, near, gm⟩ : SP) B kq l F = some R) ∧ RowKit.Hid (Ss w w' g (⟨mw, mh, ms, bz, goal, near, gm⟩ : SP) v l F) ∧ RowKit.Hid (w'.heap[w.heap.size]? = some (.cells #[.int .i64 mw, .int .i64 mh, .string ms] 25 (0, 0))))
  case atStart => exact ⟨0, v3, _, _, rfl, rfl, HE0, HS3, H53⟩
  case round =>
    clear HS3 H53 HE0
    obtain ⟨i, v, l, F, rfl, hik, HE, HS, H5⟩ := hrel
    have hE := HE.out
    unfold fd at hE
    clear HE
    cases gk with
    | zero =>
      obtain rfl := Option.some.inj hE
      have di : decide ((i : Int) < 600) = false := decide_eq_false (by omega)
      go_wp2
      go_ret2
      exact ⟨_, rfl, Kd.R_nil _ _ _ _ _, HS.out.hp.bel⟩
    | succ k1 =>
      simp only at hE
      by_cases hl6 : l.length ≤ 1000000
      rotate_left
      · rw [if_neg hl6] at hE; cases hE
      rw [if_pos hl6] at hE
      have di : decide ((i : Int) < 600) = true := decide_eq_true (by omega)
      obtain ⟨⟨ok, ⟨x0, x1, x2⟩, l2, F2⟩, hT⟩ : ∃ T, tk (l.length + 1) l F = T := ⟨_, rfl⟩
      have TC := take_calls w wr g (⟨mw, mh, ms, bz, goal, near, gm⟩ : SP) v l F hl6 HS.out
      rw [hT] at hE TC
      simp only at hE TC
      replace TC := Lib.hid TC
      clear hT
      have H5' := H5
      cases ok with
      | false =>
        rw [if_pos rfl] at hE
        obtain rfl := Option.some.inj hE
        clear hE
        go_wp2_with (first | (refine TC.out.mono ?_; rintro e W1 ⟨rfl, v1, hs1, hf1, hm1⟩; have HS1 := Lib.hid hs1; clear TC hs1 hf1 hm1) | fail)
        go_ret2
        exact ⟨_, rfl, Kd.R_nil _ _ _ _ _, below_alloc HS1.out.hp.bel _⟩
      | true =>
        rw [if_neg (by decide)] at hE
        by_cases hx1 : x1 = 0
        · rw [if_pos hx1] at hE
          subst hx1
          obtain ⟨r, hr, hX⟩ := Option.bind_eq_some_iff.1 hE
          clear hE
          by_cases hrl : r.length ≤ 100000
          rotate_left
          · rw [if_neg hrl] at hX; cases hX
          rw [if_pos hrl] at hX
          obtain rfl := Option.some.inj hX
          clear hX
          have HRr := Lib.hid hr
          clear hr
          go_wp2_with (first
            | (refine TC.out.mono ?_; rintro e W1 ⟨rfl, v1, hs1, hf1, hm1⟩; have hs2 := hs1.next (below_alloc (Below.refl W1.heap.size W1) (.cells #[.int .i64 x0, .int .i64 0, .int .i64 x2] 51)); have WC := Lib.hid (way_calls 1000 w _ g (⟨mw, mh, ms, bz, goal, near, gm⟩ : SP) v1 l2 F2 x2 r HRr.out hrl hs2); have HS2 := Lib.hid hs2; clear TC hs1 hf1 hm1 hs2)
            | (refine WC.out.mono ?_; rintro e W2 ⟨vo, rfl, hR, hB⟩; have HR2 := Lib.hid hR; have HB2 := Lib.hid hB; clear WC hR hB)
            | fail)
          go_ret2
          exact ⟨_, rfl, Kd.R_lower HR2.out HS2.out.hp.bel.size, below_then HS2.out.hp.bel HS2.out.hp.bel.size HB2.out⟩
        · rw [if_neg hx1] at hE
          obtain ⟨nx, hnx, hX⟩ := Option.bind_eq_some_iff.1 hE
          clear hE
          by_cases hnl : nx.length ≤ 1000
          rotate_left
          · rw [if_neg hnl] at hX; cases hX
          rw [if_pos hnl] at hX
          obtain ⟨⟨l3, F3⟩, hin, hE2⟩ := Option.bind_eq_some_iff.1 hX
          clear hX
          simp only at hE2 hnx
          have HIN := Lib.hid hin
          have HE2 := Lib.hid hE2
          have NC := Lib.hid (fun W => grid_Map_Next.calls mw mh ms x2 nx W hnx)
          clear hin hE2 hnx
          have b1 : (x1 == 0) = false := by simpa using hx1
          go_wp2_with (first
            | (refine TC.out.mono ?_; rintro e W1 ⟨rfl, v1, hs1, hf1, hm1⟩; have hba := below_alloc (Below.refl W1.heap.size W1) (.cells #[.int .i64 x0, .int .i64 x1, .int .i64 x2] 51); have HS2 := Lib.hid (hs1.next hba); have h13 := blk_new W1 (.cells #[.int .i64 x0, .int .i64 x1, .int .i64 x2] 51); have h51 := hf1.blk H5.out hne1 hne2 (Kd.R_ne HS.out.hp.own H5.out (by decide)); have h52 := (hba.block w.heap.size (blk_lt h51)).trans h51; have H13 := Lib.hid h13; have H52 := Lib.hid h52; have hk13 : some W1.heap.size ≠ v1.ownBlock := hs1.hp.ne_new (Nat.le_refl _); have hkg : W1.heap.size ≠ g := (by have := blk_lt hs1.hp.blk; omega); have hkm : W1.heap.size ≠ gm := (by have := hs1.map.lt; exact fun e => absurd e.symm (Nat.ne_of_lt this)); have hk5 : W1.heap.size ≠ w.heap.size := (by have := blk_lt h51; omega); obtain ⟨c50, c51, c52⟩ := cells3 h52; clear TC hs1 hf1 hm1 hba h13 h51 h52)
            | (refine (NC.out _).mono ?_; rintro e W3 ⟨vn, rfl, hR, hB⟩; have HS3 := Lib.hid (HS2.out.next hB); have H133 := Lib.hid ((hB.block _ (blk_lt H13.out)).trans H13.out); have H53 := Lib.hid ((hB.block _ (blk_lt H52.out)).trans H52.out); obtain ⟨An, cn, hvn⟩ := Kd.R_slice hR; have HVN := Lib.hid hvn; have HN := Lib.hid hR; subst hvn; have HBN := Lib.hid (Nat.le_trans HS2.out.hp.bel.size (Nat.le_refl _)); clear NC hR hB HS2 H13 H52 c50 c51 c52)
            | fail)
          generalize W1.heap.size = k13 at hk13 hkg hkm hk5 H133 ⊢
          clear HVN HBN HS
          go_loopg [63] (nx.length + 1) (fun kq v63 w' => ∃ (j : Nat) (v : Value) (l : List S51) (F : Int → Option (Int × Int × Bool)), v63 = .int .i64 (j : Int) ∧ j + kq = nx.length + 1 ∧ j ≤ nx.length ∧ RowKit.Hid (fd_in (⟨mw, mh, ms, bz, goal, near, gm⟩ : SP) B x2 (nx.drop j) l F = some (l3, F3)) ∧ RowKit.Hid (Ss w w' g (⟨mw, mh, ms, bz, goal, near, gm⟩ : SP) v l F) ∧ RowKit.Hid (w'.heap[w.heap.size]? = some (.cells #[.int .i64 mw, .int .i64 mh, .string ms] 25 (0, 0))) ∧
            RowKit.Hid (w'.heap[k13]? = some (.cells #[.int .i64 x0, .int .i64 x1, .int .i64 x2] 51 (0, 0))) ∧ some k13 ≠ v.ownBlock ∧ RowKit.Hid (Kd.R (Kd.int .i64) 3 w' (W1.alloc (Obj.cells #[.int .i64 x0, .int .i64 x1, .int .i64 x2] 51)).heap.size (fun _ => True) (.slice An nx.length cn) nx))
          case atStart => exact ⟨0, v1, l2, F2, rfl, by omega, by omega, HIN, HS3, H53, H133, hk13, HN⟩
          case round =>
            clear HS3 H53 H133 HN HIN hk13
            obtain ⟨j, v, l, F, rfl, hjk, hjle, HIN, HS, H5, H13, hk13, HN⟩ := hrel
            cases gk with
            | zero => omega
            | succ k2 =>
              by_cases hjn : j < nx.length
              rotate_left
              · have dj : decide ((j : Int) < (nx.length : Int)) = false := decide_eq_false (by omega)
                have hin := HIN.out
                rw [List.drop_eq_nil_of_le (by omega)] at hin
                unfold fd_in at hin
                simp only [Option.some.injEq, Prod.mk.injEq] at hin
                obtain ⟨rfl, rfl⟩ := hin
                clear HIN
                go_wp2
                go_roundg k1
                case measure => omega
                case rel => exact ⟨i + 1, v, _, _, by push_cast; rfl, by omega, HE2, HS, H5⟩
              have dj : decide ((j : Int) < (nx.length : Int)) = true := decide_eq_true (by omega)
              obtain ⟨x, hx⟩ : ∃ x, nx.getD j 0 = x := ⟨_, rfl⟩
              have hdr : nx.drop j = x :: nx.drop (j + 1) := by
                rw [List.drop_eq_getElem_cons hjn, ← hx, List.getD_eq_getElem?_getD, List.getElem?_eq_getElem hjn]; rfl
              have hin := HIN.out
              rw [hdr] at hin
              unfold fd_in at hin
              clear HIN hdr
              obtain ⟨wk, hwk, hX⟩ := Option.bind_eq_some_iff.1 hin
              clear hin
              simp only at hwk
              have WK := Lib.hid (fun W => grid_Map_Walk.calls mw mh ms x wk W hwk)
              have HX := Lib.hid hX
              clear hwk hX
              obtain ⟨ad, e1, hx0⟩ := Kd.at_int (Kd.R_reads' HN.out).2.2 (j : Int) (by omega) (by omega)
              have hrd : rd nx (j : Int) = x := by unfold rd; rw [Int.toNat_natCast]; exact hx
              rw [hrd, Int.toNat_natCast] at hx0
              have HANN := Lib.hid e1
              obtain ⟨c50, c51, c52⟩ := cells3 H5.out
              clear hrd hx
              subst e1
              have fin1 : ∀ (wb : World), Below wr.heap.size wr wb → RowKit.Hid (Ss w wb g (⟨mw, mh, ms, bz, goal, near, gm⟩ : SP) v l F) ∧ RowKit.Hid (wb.heap[w.heap.size]? = some (.cells #[.int .i64 mw, .int .i64 mh, .string ms] 25 (0, 0))) ∧
                RowKit.Hid (wb.heap[k13]? = some (.cells #[.int .i64 x0, .int .i64 x1, .int .i64 x2] 51 (0, 0))) ∧ RowKit.Hid (Kd.R (Kd.int .i64) 3 wb (W1.alloc (Obj.cells #[.int .i64 x0, .int .i64 x1, .int .i64 x2] 51)).heap.size (fun _ => True) (.slice (some ad) nx.length cn) nx) := fun wb hb =>
                ⟨HS.out.next hb, (hb.block _ (blk_lt H5.out)).trans H5.out, (hb.block _ (blk_lt H13.out)).trans H13.out, Kd.R_below HN.out hb⟩
              have FIN := Lib.hid fin1
              clear fin1
              have hnb : ∀ wb : World, wb.heap[w.heap.size]? = some (.cells #[.int .i64 mw, .int .i64 mh, .string ms] 25 (0, 0)) → Ss w wb g (⟨mw, mh, ms, bz, goal, near, gm⟩ : SP) v l F → some w.heap.size ≠ v.ownBlock := fun wb h hs => Kd.R_ne hs.hp.own h (by decide)
              have HNB := Lib.hid hnb
              clear hnb
              cases wk with
              | false =>
                have hX := HX.out
                rw [if_neg (by simp)] at hX
                have HX2 := Lib.hid hX
                clear hX HX
                go_wp2_with (first | (refine (WK.out _).mono ?_; rintro e wb ⟨rfl, hb⟩; have HF1 := Lib.hid (FIN.out wb hb); clear WK hb) | fail)
                go_roundg k2
                case measure => omega
                case rel => exact ⟨j + 1, v, l, F, by push_cast; rfl, by omega, by omega, HX2, HF1.out.1, HF1.out.2.1, HF1.out.2.2.1, hk13, HF1.out.2.2.2⟩
              | true =>
                rcases HBZ.out with ⟨rfl, hB⟩ | ⟨rfl, hB⟩ | ⟨a, gb, f, rfl, ha, hm, hB⟩
                · have hq : ∀ w' : World, (binOp .eql 33 .nilFunc .nilFunc).run Try.prog w' = .ok (.bool true) w' := fun _ => by kernel_rfl
                  have hX := HX.out
                  rw [if_pos ⟨rfl, hB x⟩] at hX
                  have HX2 := Lib.hid hX
                  clear hX HX
                  go_wp2_with (first | (refine (WK.out _).mono ?_; rintro e wb ⟨rfl, hb⟩; have HF1 := Lib.hid (FIN.out wb hb); clear WK hb) | fail)
                  obtain ⟨dd, hdd, hX⟩ := Option.bind_eq_some_iff.1 HX2.out
                  clear HX2
                  obtain ⟨hS0, h50, h130, hN0⟩ := HF1.out
                  have hbd := below_drew1 (Below.refl wb.heap.size wb)
                  have hsd := hS0.out.next hbd
                  obtain ⟨y0, y1, y2, yi, hr1, hr2, hz, hi⟩ := hsd.find x2
                  rw [hz] at hX
                  simp only at hX hdd
                  by_cases hgu : -1 ≤ dd ∧ dd ≤ 100000 ∧ 0 ≤ y0 + 1 ∧ y0 + 1 ≤ 1000000 ∧ l.length < 1000000
                  rotate_left
                  · rw [if_neg hgu] at hX; cases hX
                  rw [if_pos hgu] at hX
                  have HX3 := Lib.hid hX
                  have CC := Lib.hid (comes_calls 5 w wb.drew g (⟨mw, mh, ms, .nilFunc, goal, near, gm⟩ : SP) v l F x x2 (y0 + 1) dd (fvO (⟨mw, mh, ms, .nilFunc, goal, near, gm⟩ : SP) dd) rfl hdd ⟨hgu.1, hgu.2.1⟩ h3 ⟨hgu.2.2.1, hgu.2.2.2.1⟩ hgu.2.2.2.2 hsd)
                  have HSD := Lib.hid hsd
                  have g7 : wb.cell? ⟨g, 7, none⟩ = some (.map (some gm)) := (blk_cell hS0.out.hp.blk 7).trans rfl
                  have g2 : wb.cell? ⟨k13, 2, none⟩ = some (.int .i64 x2) := (blk_cell h130.out 2).trans rfl
                  have hfl : ∀ w' : World, (Instr.field 55 (.agg #[.int .i64 y0, .int .i64 y1, .bool y2]) 0).run Try.prog w' = .ok (.int .i64 y0) w' := fun _ => by kernel_rfl
                  clear hX hdd hr1 hi hz hbd hsd
                  refine wp_region_inv (fun a0 w_0 b a' w' => ∃ x80 x81 x82 x83 x84 x85 x86 x87 x88 x89 x90 x91 x92 x93 : Value, a' = ((((((((((((((a0.put (some 80) x80).put (some 81) x81).put (some 82) x82).put (some 83) x83).put (some 84) x84).put (some 85) x85).put (some 86) x86).put (some 87) x87).put (some 88) x88).put (some 89) x89).put (some 90) x90).put (some 91) x91).put (some 92) x92).put (some 93) x93) ∧ (b 13 = false → w' = wb.drew) ∧ (b 10 = true → b 7 = true ∧ b 9 = true) ∧ (b 11 = true → b 10 = true) ∧ (b 12 = true → b 11 = true) ∧ (b 13 = true → b 3 = true ∧ b 12 = true) ∧ (b 13 = true → ∃ v9, Ss w w' g (⟨mw, mh, ms, .nilFunc, goal, near, gm⟩ : SP) v9 (cm_l F l x (y0 + 1) (fvO (⟨mw, mh, ms, .nilFunc, goal, near, gm⟩ : SP) dd)) (cm_F F x x2 (y0 + 1)) ∧ Fr wb.drew w' g gm v.ownBlock ∧ Mv wb.drew v v9) ∧ (b 0 = true → x80 = .pointer (some ⟨g, 0, none⟩)) ∧ (b 1 = true → x81 = .int .i64 x) ∧ (b 2 = true → x82 = .pointer (some ⟨k13, 2, none⟩)) ∧ (b 3 = true → x83 = .int .i64 x2) ∧ (b 4 = true → x84 = .pointer (some ⟨g, 0, none⟩)) ∧ (b 5 = true → x85 = .pointer (some ⟨g, 0, none⟩)) ∧ (b 6 = true → x86 = .pointer (some ⟨g, 7, none⟩)) ∧ (b 7 = true → x87 = .map (some gm)) ∧ (b 8 = true → x88 = .pointer (some ⟨k13, 2, none⟩)) ∧ (b 9 = true → x89 = .int .i64 x2) ∧ (b 10 = true → x90 = .agg #[.int .i64 y0, .int .i64 y1, .bool y2]) ∧ (b 11 = true → x91 = .int .i64 y0) ∧ (b 12 = true → x92 = .int .i64 (y0 + 1))) (by kernel_rfl) (by kernel_rfl) ?start ⟨?op0, ?op1, ?op2, ?op3, ?op4, ?op5, ?op6, ?op7, ?op8, ?op9, ?op10, ?op11, ?op12, ?op13, trivial⟩ ?done
                  case start => exact ⟨_, _, _, _, _, _, _, _, _, _, _, _, _, _, by simp only [Act.put, List.setIfInBounds_toArray, List.set_cons_zero, List.set_cons_succ]; rfl, fun _ => rfl, fun h => absurd h (by decide), fun h => absurd h (by decide), fun h => absurd h (by decide), fun h => absurd h (by decide), fun h => absurd h (by decide), fun h => absurd h (by decide), fun h => absurd h (by decide), fun h => absurd h (by decide), fun h => absurd h (by decide), fun h => absurd h (by decide), fun h => absurd h (by decide), fun h => absurd h (by decide), fun h => absurd h (by decide), fun h => absurd h (by decide), fun h => absurd h (by decide), fun h => absurd h (by decide), fun h => absurd h (by decide), fun h => absurd h (by decide)⟩
                  case op0 =>
                    rintro bb _ w' ⟨x80, x81, x82, x83, x84, x85, x86, x87, x88, x89, x90, x91, x92, x93, rfl, A0, Q10, Q11, Q12, Q13, F0, p80, p81, p82, p83, p84, p85, p86, p87, p88, p89, p90, p91, p92⟩ hb hd K hK
                    simp only [Act.put, List.setIfInBounds_toArray, List.set_cons_zero, List.set_cons_succ]
                    rw [if_pos (by rfl)]
                    go_simp
                    exact hK _ _ ⟨.pointer (some ⟨g, 0, none⟩), x81, x82, x83, x84, x85, x86, x87, x88, x89, x90, x91, x92, x93, by simp only [Act.put, List.setIfInBounds_toArray, List.set_cons_zero, List.set_cons_succ], fun h => A0 (by simpa [upb] using h), fun h => by have h4 := Q10 (by simpa [upb] using h); simp [upb, h4.1, h4.2], fun h => by have h4 := Q11 (by simpa [upb] using h); simp [upb, h4], fun h => by have h4 := Q12 (by simpa [upb] using h); simp [upb, h4], fun h => by have h4 := Q13 (by simpa [upb] using h); simp [upb, h4.1, h4.2], fun h => F0 (by simpa [upb] using h), fun _ => rfl, fun h => p81 (by simpa [upb] using h), fun h => p82 (by simpa [upb] using h), fun h => p83 (by simpa [upb] using h), fun h => p84 (by simpa [upb] using h), fun h => p85 (by simpa [upb] using h), fun h => p86 (by simpa [upb] using h), fun h => p87 (by simpa [upb] using h), fun h => p88 (by simpa [upb] using h), fun h => p89 (by simpa [upb] using h), fun h => p90 (by simpa [upb] using h), fun h => p91 (by simpa [upb] using h), fun h => p92 (by simpa [upb] using h)⟩
                  case op1 =>
                    rintro bb _ w' ⟨x80, x81, x82, x83, x84, x85, x86, x87, x88, x89, x90, x91, x92, x93, rfl, A0, Q10, Q11, Q12, Q13, F0, p80, p81, p82, p83, p84, p85, p86, p87, p88, p89, p90, p91, p92⟩ hb hd K hK
                    simp only [Act.put, List.setIfInBounds_toArray, List.set_cons_zero, List.set_cons_succ]
                    rw [if_pos (by rfl)]
                    go_simp
                    exact hK _ _ ⟨x80, .int .i64 x, x82, x83, x84, x85, x86, x87, x88, x89, x90, x91, x92, x93, by simp only [Act.put, List.setIfInBounds_toArray, List.set_cons_zero, List.set_cons_succ], fun h => A0 (by simpa [upb] using h), fun h => by have h4 := Q10 (by simpa [upb] using h); simp [upb, h4.1, h4.2], fun h => by have h4 := Q11 (by simpa [upb] using h); simp [upb, h4], fun h => by have h4 := Q12 (by simpa [upb] using h); simp [upb, h4], fun h => by have h4 := Q13 (by simpa [upb] using h); simp [upb, h4.1, h4.2], fun h => F0 (by simpa [upb] using h), fun h => p80 (by simpa [upb] using h), fun _ => rfl, fun h => p82 (by simpa [upb] using h), fun h => p83 (by simpa [upb] using h), fun h => p84 (by simpa [upb] using h), fun h => p85 (by simpa [upb] using h), fun h => p86 (by simpa [upb] using h), fun h => p87 (by simpa [upb] using h), fun h => p88 (by simpa [upb] using h), fun h => p89 (by simpa [upb] using h), fun h => p90 (by simpa [upb] using h), fun h => p91 (by simpa [upb] using h), fun h => p92 (by simpa [upb] using h)⟩
                  case op2 =>
                    rintro bb _ w' ⟨x80, x81, x82, x83, x84, x85, x86, x87, x88, x89, x90, x91, x92, x93, rfl, A0, Q10, Q11, Q12, Q13, F0, p80, p81, p82, p83, p84, p85, p86, p87, p88, p89, p90, p91, p92⟩ hb hd K hK
                    simp only [Act.put, List.setIfInBounds_toArray, List.set_cons_zero, List.set_cons_succ]
                    rw [if_pos (by rfl)]
                    go_simp
                    exact hK _ _ ⟨x80, x81, .pointer (some ⟨k13, 2, none⟩), x83, x84, x85, x86, x87, x88, x89, x90, x91, x92, x93, by simp only [Act.put, List.setIfInBounds_toArray, List.set_cons_zero, List.set_cons_succ], fun h => A0 (by simpa [upb] using h), fun h => by have h4 := Q10 (by simpa [upb] using h); simp [upb, h4.1, h4.2], fun h => by have h4 := Q11 (by simpa [upb] using h); simp [upb, h4], fun h => by have h4 := Q12 (by simpa [upb] using h); simp [upb, h4], fun h => by have h4 := Q13 (by simpa [upb] using h); simp [upb, h4.1, h4.2], fun h => F0 (by simpa [upb] using h), fun h => p80 (by simpa [upb] using h), fun h => p81 (by simpa [upb] using h), fun _ => rfl, fun h => p83 (by simpa [upb] using h), fun h => p84 (by simpa [upb] using h), fun h => p85 (by simpa [upb] using h), fun h => p86 (by simpa [upb] using h), fun h => p87 (by simpa [upb] using h), fun h => p88 (by simpa [upb] using h), fun h => p89 (by simpa [upb] using h), fun h => p90 (by simpa [upb] using h), fun h => p91 (by simpa [upb] using h), fun h => p92 (by simpa [upb] using h)⟩
                  case op3 =>
                    rintro bb _ w' ⟨x80, x81, x82, x83, x84, x85, x86, x87, x88, x89, x90, x91, x92, x93, rfl, A0, Q10, Q11, Q12, Q13, F0, p80, p81, p82, p83, p84, p85, p86, p87, p88, p89, p90, p91, p92⟩ hb hd K hK
                    simp only [Act.put, List.setIfInBounds_toArray, List.set_cons_zero, List.set_cons_succ]
                    obtain rfl := (p82 (hd 2 (by decide))).symm
                    rw [if_pos (by rfl)]
                    have h13 : bb 13 = false := by cases h : bb 13 with | false => rfl | true => exact absurd ((Q13 h).1) (by rw [hb]; decide)
                    obtain rfl := A0 h13
                    go_simp
                    exact hK _ _ ⟨x80, x81, .pointer (some ⟨k13, 2, none⟩), .int .i64 x2, x84, x85, x86, x87, x88, x89, x90, x91, x92, x93, by simp only [Act.put, List.setIfInBounds_toArray, List.set_cons_zero, List.set_cons_succ], fun h => A0 (by simpa [upb] using h), fun h => by have h4 := Q10 (by simpa [upb] using h); simp [upb, h4.1, h4.2], fun h => by have h4 := Q11 (by simpa [upb] using h); simp [upb, h4], fun h => by have h4 := Q12 (by simpa [upb] using h); simp [upb, h4], fun h => by have h4 := Q13 (by simpa [upb] using h); simp [upb, h4.1, h4.2], fun h => F0 (by simpa [upb] using h), fun h => p80 (by simpa [upb] using h), fun h => p81 (by simpa [upb] using h), fun _ => rfl, fun _ => rfl, fun h => p84 (by simpa [upb] using h), fun h => p85 (by simpa [upb] using h), fun h => p86 (by simpa [upb] using h), fun h => p87 (by simpa [upb] using h), fun h => p88 (by simpa [upb] using h), fun h => p89 (by simpa [upb] using h), fun h => p90 (by simpa [upb] using h), fun h => p91 (by simpa [upb] using h), fun h => p92 (by simpa [upb] using h)⟩
                  case op4 =>
                    rintro bb _ w' ⟨x80, x81, x82, x83, x84, x85, x86, x87, x88, x89, x90, x91, x92, x93, rfl, A0, Q10, Q11, Q12, Q13, F0, p80, p81, p82, p83, p84, p85, p86, p87, p88, p89, p90, p91, p92⟩ hb hd K hK
                    simp only [Act.put, List.setIfInBounds_toArray, List.set_cons_zero, List.set_cons_succ]
                    rw [if_pos (by rfl)]
                    go_simp
                    exact hK _ _ ⟨x80, x81, x82, x83, .pointer (some ⟨g, 0, none⟩), x85, x86, x87, x88, x89, x90, x91, x92, x93, by simp only [Act.put, List.setIfInBounds_toArray, List.set_cons_zero, List.set_cons_succ], fun h => A0 (by simpa [upb] using h), fun h => by have h4 := Q10 (by simpa [upb] using h); simp [upb, h4.1, h4.2], fun h => by have h4 := Q11 (by simpa [upb] using h); simp [upb, h4], fun h => by have h4 := Q12 (by simpa [upb] using h); simp [upb, h4], fun h => by have h4 := Q13 (by simpa [upb] using h); simp [upb, h4.1, h4.2], fun h => F0 (by simpa [upb] using h), fun h => p80 (by simpa [upb] using h), fun h => p81 (by simpa [upb] using h), fun h => p82 (by simpa [upb] using h), fun h => p83 (by simpa [upb] using h), fun _ => rfl, fun h => p85 (by simpa [upb] using h), fun h => p86 (by simpa [upb] using h), fun h => p87 (by simpa [upb] using h), fun h => p88 (by simpa [upb] using h), fun h => p89 (by simpa [upb] using h), fun h => p90 (by simpa [upb] using h), fun h => p91 (by simpa [upb] using h), fun h => p92 (by simpa [upb] using h)⟩
                  case op5 =>
                    rintro bb _ w' ⟨x80, x81, x82, x83, x84, x85, x86, x87, x88, x89, x90, x91, x92, x93, rfl, A0, Q10, Q11, Q12, Q13, F0, p80, p81, p82, p83, p84, p85, p86, p87, p88, p89, p90, p91, p92⟩ hb hd K hK
                    simp only [Act.put, List.setIfInBounds_toArray, List.set_cons_zero, List.set_cons_succ]
                    obtain rfl := (p84 (hd 4 (by decide))).symm
                    rw [if_pos (by rfl)]
                    go_simp
                    exact hK _ _ ⟨x80, x81, x82, x83, .pointer (some ⟨g, 0, none⟩), .pointer (some ⟨g, 0, none⟩), x86, x87, x88, x89, x90, x91, x92, x93, by simp only [Act.put, List.setIfInBounds_toArray, List.set_cons_zero, List.set_cons_succ], fun h => A0 (by simpa [upb] using h), fun h => by have h4 := Q10 (by simpa [upb] using h); simp [upb, h4.1, h4.2], fun h => by have h4 := Q11 (by simpa [upb] using h); simp [upb, h4], fun h => by have h4 := Q12 (by simpa [upb] using h); simp [upb, h4], fun h => by have h4 := Q13 (by simpa [upb] using h); simp [upb, h4.1, h4.2], fun h => F0 (by simpa [upb] using h), fun h => p80 (by simpa [upb] using h), fun h => p81 (by simpa [upb] using h), fun h => p82 (by simpa [upb] using h), fun h => p83 (by simpa [upb] using h), fun _ => rfl, fun _ => rfl, fun h => p86 (by simpa [upb] using h), fun h => p87 (by simpa [upb] using h), fun h => p88 (by simpa [upb] using h), fun h => p89 (by simpa [upb] using h), fun h => p90 (by simpa [upb] using h), fun h => p91 (by simpa [upb] using h), fun h => p92 (by simpa [upb] using h)⟩
                  case op6 =>
                    rintro bb _ w' ⟨x80, x81, x82, x83, x84, x85, x86, x87, x88, x89, x90, x91, x92, x93, rfl, A0, Q10, Q11, Q12, Q13, F0, p80, p81, p82, p83, p84, p85, p86, p87, p88, p89, p90, p91, p92⟩ hb hd K hK
                    simp only [Act.put, List.setIfInBounds_toArray, List.set_cons_zero, List.set_cons_succ]
                    obtain rfl := (p85 (hd 5 (by decide))).symm
                    rw [if_pos (by rfl)]
                    go_simp
                    exact hK _ _ ⟨x80, x81, x82, x83, x84, .pointer (some ⟨g, 0, none⟩), .pointer (some ⟨g, 7, none⟩), x87, x88, x89, x90, x91, x92, x93, by simp only [Act.put, List.setIfInBounds_toArray, List.set_cons_zero, List.set_cons_succ], fun h => A0 (by simpa [upb] using h), fun h => by have h4 := Q10 (by simpa [upb] using h); simp [upb, h4.1, h4.2], fun h => by have h4 := Q11 (by simpa [upb] using h); simp [upb, h4], fun h => by have h4 := Q12 (by simpa [upb] using h); simp [upb, h4], fun h => by have h4 := Q13 (by simpa [upb] using h); simp [upb, h4.1, h4.2], fun h => F0 (by simpa [upb] using h), fun h => p80 (by simpa [upb] using h), fun h => p81 (by simpa [upb] using h), fun h => p82 (by simpa [upb] using h), fun h => p83 (by simpa [upb] using h), fun h => p84 (by simpa [upb] using h), fun _ => rfl, fun _ => rfl, fun h => p87 (by simpa [upb] using h), fun h => p88 (by simpa [upb] using h), fun h => p89 (by simpa [upb] using h), fun h => p90 (by simpa [upb] using h), fun h => p91 (by simpa [upb] using h), fun h => p92 (by simpa [upb] using h)⟩
                  case op7 =>
                    rintro bb _ w' ⟨x80, x81, x82, x83, x84, x85, x86, x87, x88, x89, x90, x91, x92, x93, rfl, A0, Q10, Q11, Q12, Q13, F0, p80, p81, p82, p83, p84, p85, p86, p87, p88, p89, p90, p91, p92⟩ hb hd K hK
                    simp only [Act.put, List.setIfInBounds_toArray, List.set_cons_zero, List.set_cons_succ]
                    obtain rfl := (p86 (hd 6 (by decide))).symm
                    rw [if_pos (by rfl)]
                    have h13 : bb 13 = false := by cases h : bb 13 with | false => rfl | true => exact absurd ((Q10 (Q11 (Q12 (Q13 h).2))).1) (by rw [hb]; decide)
                    obtain rfl := A0 h13
                    go_simp
                    exact hK _ _ ⟨x80, x81, x82, x83, x84, x85, .pointer (some ⟨g, 7, none⟩), .map (some gm), x88, x89, x90, x91, x92, x93, by simp only [Act.put, List.setIfInBounds_toArray, List.set_cons_zero, List.set_cons_succ], fun h => A0 (by simpa [upb] using h), fun h => by have h4 := Q10 (by simpa [upb] using h); simp [upb, h4.1, h4.2], fun h => by have h4 := Q11 (by simpa [upb] using h); simp [upb, h4], fun h => by have h4 := Q12 (by simpa [upb] using h); simp [upb, h4], fun h => by have h4 := Q13 (by simpa [upb] using h); simp [upb, h4.1, h4.2], fun h => F0 (by simpa [upb] using h), fun h => p80 (by simpa [upb] using h), fun h => p81 (by simpa [upb] using h), fun h => p82 (by simpa [upb] using h), fun h => p83 (by simpa [upb] using h), fun h => p84 (by simpa [upb] using h), fun h => p85 (by simpa [upb] using h), fun _ => rfl, fun _ => rfl, fun h => p88 (by simpa [upb] using h), fun h => p89 (by simpa [upb] using h), fun h => p90 (by simpa [upb] using h), fun h => p91 (by simpa [upb] using h), fun h => p92 (by simpa [upb] using h)⟩
                  case op8 =>
                    rintro bb _ w' ⟨x80, x81, x82, x83, x84, x85, x86, x87, x88, x89, x90, x91, x92, x93, rfl, A0, Q10, Q11, Q12, Q13, F0, p80, p81, p82, p83, p84, p85, p86, p87, p88, p89, p90, p91, p92⟩ hb hd K hK
                    simp only [Act.put, List.setIfInBounds_toArray, List.set_cons_zero, List.set_cons_succ]
                    rw [if_pos (by rfl)]
                    go_simp
                    exact hK _ _ ⟨x80, x81, x82, x83, x84, x85, x86, x87, .pointer (some ⟨k13, 2, none⟩), x89, x90, x91, x92, x93, by simp only [Act.put, List.setIfInBounds_toArray, List.set_cons_zero, List.set_cons_succ], fun h => A0 (by simpa [upb] using h), fun h => by have h4 := Q10 (by simpa [upb] using h); simp [upb, h4.1, h4.2], fun h => by have h4 := Q11 (by simpa [upb] using h); simp [upb, h4], fun h => by have h4 := Q12 (by simpa [upb] using h); simp [upb, h4], fun h => by have h4 := Q13 (by simpa [upb] using h); simp [upb, h4.1, h4.2], fun h => F0 (by simpa [upb] using h), fun h => p80 (by simpa [upb] using h), fun h => p81 (by simpa [upb] using h), fun h => p82 (by simpa [upb] using h), fun h => p83 (by simpa [upb] using h), fun h => p84 (by simpa [upb] using h), fun h => p85 (by simpa [upb] using h), fun h => p86 (by simpa [upb] using h), fun h => p87 (by simpa [upb] using h), fun _ => rfl, fun h => p89 (by simpa [upb] using h), fun h => p90 (by simpa [upb] using h), fun h => p91 (by simpa [upb] using h), fun h => p92 (by simpa [upb] using h)⟩
                  case op9 =>
                    rintro bb _ w' ⟨x80, x81, x82, x83, x84, x85, x86, x87, x88, x89, x90, x91, x92, x93, rfl, A0, Q10, Q11, Q12, Q13, F0, p80, p81, p82, p83, p84, p85, p86, p87, p88, p89, p90, p91, p92⟩ hb hd K hK
                    simp only [Act.put, List.setIfInBounds_toArray, List.set_cons_zero, List.set_cons_succ]
                    obtain rfl := (p88 (hd 8 (by decide))).symm
                    rw [if_pos (by rfl)]
                    have h13 : bb 13 = false := by cases h : bb 13 with | false => rfl | true => exact absurd ((Q10 (Q11 (Q12 (Q13 h).2))).2) (by rw [hb]; decide)
                    obtain rfl := A0 h13
                    go_simp
                    exact hK _ _ ⟨x80, x81, x82, x83, x84, x85, x86, x87, .pointer (some ⟨k13, 2, none⟩), .int .i64 x2, x90, x91, x92, x93, by simp only [Act.put, List.setIfInBounds_toArray, List.set_cons_zero, List.set_cons_succ], fun h => A0 (by simpa [upb] using h), fun h => by have h4 := Q10 (by simpa [upb] using h); simp [upb, h4.1, h4.2], fun h => by have h4 := Q11 (by simpa [upb] using h); simp [upb, h4], fun h => by have h4 := Q12 (by simpa [upb] using h); simp [upb, h4], fun h => by have h4 := Q13 (by simpa [upb] using h); simp [upb, h4.1, h4.2], fun h => F0 (by simpa [upb] using h), fun h => p80 (by simpa [upb] using h), fun h => p81 (by simpa [upb] using h), fun h => p82 (by simpa [upb] using h), fun h => p83 (by simpa [upb] using h), fun h => p84 (by simpa [upb] using h), fun h => p85 (by simpa [upb] using h), fun h => p86 (by simpa [upb] using h), fun h => p87 (by simpa [upb] using h), fun _ => rfl, fun _ => rfl, fun h => p90 (by simpa [upb] using h), fun h => p91 (by simpa [upb] using h), fun h => p92 (by simpa [upb] using h)⟩
                  case op10 =>
                    rintro bb _ w' ⟨x80, x81, x82, x83, x84, x85, x86, x87, x88, x89, x90, x91, x92, x93, rfl, A0, Q10, Q11, Q12, Q13, F0, p80, p81, p82, p83, p84, p85, p86, p87, p88, p89, p90, p91, p92⟩ hb hd K hK
                    simp only [Act.put, List.setIfInBounds_toArray, List.set_cons_zero, List.set_cons_succ]
                    obtain rfl := (p87 (hd 7 (by decide))).symm
                    obtain rfl := (p89 (hd 9 (by decide))).symm
                    rw [if_pos (by rfl)]
                    have h13 : bb 13 = false := by cases h : bb 13 with | false => rfl | true => exact absurd (Q11 (Q12 (Q13 h).2)) (by rw [hb]; decide)
                    obtain rfl := A0 h13
                    go_simp
                    exact hK _ _ ⟨x80, x81, x82, x83, x84, x85, x86, .map (some gm), x88, .int .i64 x2, .agg #[.int .i64 y0, .int .i64 y1, .bool y2], x91, x92, x93, by simp only [Act.put, List.setIfInBounds_toArray, List.set_cons_zero, List.set_cons_succ], fun h => A0 (by simpa [upb] using h), fun _ => ⟨by have := hd 7 (by decide); simp [upb, this], by have := hd 9 (by decide); simp [upb, this]⟩, fun h => by have h4 := Q11 (by simpa [upb] using h); simp [upb, h4], fun h => by have h4 := Q12 (by simpa [upb] using h); simp [upb, h4], fun h => by have h4 := Q13 (by simpa [upb] using h); simp [upb, h4.1, h4.2], fun h => F0 (by simpa [upb] using h), fun h => p80 (by simpa [upb] using h), fun h => p81 (by simpa [upb] using h), fun h => p82 (by simpa [upb] using h), fun h => p83 (by simpa [upb] using h), fun h => p84 (by simpa [upb] using h), fun h => p85 (by simpa [upb] using h), fun h => p86 (by simpa [upb] using h), fun _ => rfl, fun h => p88 (by simpa [upb] using h), fun _ => rfl, fun _ => rfl, fun h => p91 (by simpa [upb] using h), fun h => p92 (by simpa [upb] using h)⟩
                  case op11 =>
                    rintro bb _ w' ⟨x80, x81, x82, x83, x84, x85, x86, x87, x88, x89, x90, x91, x92, x93, rfl, A0, Q10, Q11, Q12, Q13, F0, p80, p81, p82, p83, p84, p85, p86, p87, p88, p89, p90, p91, p92⟩ hb hd K hK
                    simp only [Act.put, List.setIfInBounds_toArray, List.set_cons_zero, List.set_cons_succ]
                    obtain rfl := (p90 (hd 10 (by decide))).symm
                    rw [if_pos (by rfl)]
                    have hff := hfl w'
                    go_simp
                    exact hK _ _ ⟨x80, x81, x82, x83, x84, x85, x86, x87, x88, x89, .agg #[.int .i64 y0, .int .i64 y1, .bool y2], .int .i64 y0, x92, x93, by simp only [Act.put, List.setIfInBounds_toArray, List.set_cons_zero, List.set_cons_succ], fun h => A0 (by simpa [upb] using h), fun h => by have h4 := Q10 (by simpa [upb] using h); simp [upb, h4.1, h4.2], fun _ => by have := hd 10 (by decide); simp [upb, this], fun h => by have h4 := Q12 (by simpa [upb] using h); simp [upb, h4], fun h => by have h4 := Q13 (by simpa [upb] using h); simp [upb, h4.1, h4.2], fun h => F0 (by simpa [upb] using h), fun h => p80 (by simpa [upb] using h), fun h => p81 (by simpa [upb] using h), fun h => p82 (by simpa [upb] using h), fun h => p83 (by simpa [upb] using h), fun h => p84 (by simpa [upb] using h), fun h => p85 (by simpa [upb] using h), fun h => p86 (by simpa [upb] using h), fun h => p87 (by simpa [upb] using h), fun h => p88 (by simpa [upb] using h), fun h => p89 (by simpa [upb] using h), fun _ => rfl, fun _ => rfl, fun h => p92 (by simpa [upb] using h)⟩
                  case op12 =>
                    rintro bb _ w' ⟨x80, x81, x82, x83, x84, x85, x86, x87, x88, x89, x90, x91, x92, x93, rfl, A0, Q10, Q11, Q12, Q13, F0, p80, p81, p82, p83, p84, p85, p86, p87, p88, p89, p90, p91, p92⟩ hb hd K hK
                    simp only [Act.put, List.setIfInBounds_toArray, List.set_cons_zero, List.set_cons_succ]
                    obtain rfl := (p91 (hd 11 (by decide))).symm
                    rw [if_pos (by rfl)]
                    have hw : IntKind.i64.wrap (y0 + 1) = y0 + 1 := IntWalk.i64_in _ (by omega)
                    go_simp
                    exact hK _ _ ⟨x80, x81, x82, x83, x84, x85, x86, x87, x88, x89, x90, .int .i64 y0, .int .i64 (y0 + 1), x93, by simp only [Act.put, List.setIfInBounds_toArray, List.set_cons_zero, List.set_cons_succ], fun h => A0 (by simpa [upb] using h), fun h => by have h4 := Q10 (by simpa [upb] using h); simp [upb, h4.1, h4.2], fun h => by have h4 := Q11 (by simpa [upb] using h); simp [upb, h4], fun _ => by have := hd 11 (by decide); simp [upb, this], fun h => by have h4 := Q13 (by simpa [upb] using h); simp [upb, h4.1, h4.2], fun h => F0 (by simpa [upb] using h), fun h => p80 (by simpa [upb] using h), fun h => p81 (by simpa [upb] using h), fun h => p82 (by simpa [upb] using h), fun h => p83 (by simpa [upb] using h), fun h => p84 (by simpa [upb] using h), fun h => p85 (by simpa [upb] using h), fun h => p86 (by simpa [upb] using h), fun h => p87 (by simpa [upb] using h), fun h => p88 (by simpa [upb] using h), fun h => p89 (by simpa [upb] using h), fun h => p90 (by simpa [upb] using h), fun _ => rfl, fun _ => rfl⟩
                  case op13 =>
                    rintro bb _ w' ⟨x80, x81, x82, x83, x84, x85, x86, x87, x88, x89, x90, x91, x92, x93, rfl, A0, Q10, Q11, Q12, Q13, F0, p80, p81, p82, p83, p84, p85, p86, p87, p88, p89, p90, p91, p92⟩ hb hd K hK
                    simp only [Act.put, List.setIfInBounds_toArray, List.set_cons_zero, List.set_cons_succ]
                    obtain rfl := (p80 (hd 0 (by decide))).symm
                    obtain rfl := (p81 (hd 1 (by decide))).symm
                    obtain rfl := (p83 (hd 3 (by decide))).symm
                    obtain rfl := (p92 (hd 12 (by decide))).symm
                    rw [if_pos (by rfl)]
                    obtain rfl := A0 hb
                    go_simp
                    refine CC.out.mono ?_
                    rintro e w9 ⟨rfl, v9, hs9, hf9, hm9⟩
                    have hfin : ∃ v9, Ss w w9 g (⟨mw, mh, ms, .nilFunc, goal, near, gm⟩ : SP) v9 (cm_l F l x (y0 + 1) (fvO (⟨mw, mh, ms, .nilFunc, goal, near, gm⟩ : SP) dd)) (cm_F F x x2 (y0 + 1)) ∧ Fr wb.drew w9 g gm v.ownBlock ∧ Mv wb.drew v v9 := ⟨v9, hs9, hf9, hm9⟩
                    exact hK _ _ ⟨.pointer (some ⟨g, 0, none⟩), .int .i64 x, x82, .int .i64 x2, x84, x85, x86, x87, x88, x89, x90, x91, .int .i64 (y0 + 1), .tuple #[], by simp only [Act.put, List.setIfInBounds_toArray, List.set_cons_zero, List.set_cons_succ], fun h => absurd h (by simp [upb]), fun h => by have h4 := Q10 (by simpa [upb] using h); simp [upb, h4.1, h4.2], fun h => by have h4 := Q11 (by simpa [upb] using h); simp [upb, h4], fun h => by have h4 := Q12 (by simpa [upb] using h); simp [upb, h4], fun _ => ⟨by have := hd 3 (by decide); simp [upb, this], by have := hd 12 (by decide); simp [upb, this]⟩, fun _ => hfin, fun _ => rfl, fun _ => rfl, fun h => p82 (by simpa [upb] using h), fun _ => rfl, fun h => p84 (by simpa [upb] using h), fun h => p85 (by simpa [upb] using h), fun h => p86 (by simpa [upb] using h), fun h => p87 (by simpa [upb] using h), fun h => p88 (by simpa [upb] using h), fun h => p89 (by simpa [upb] using h), fun h => p90 (by simpa [upb] using h), fun h => p91 (by simpa [upb] using h), fun _ => rfl⟩
                  case done =>
                    rintro bb _ w' hb ⟨x80, x81, x82, x83, x84, x85, x86, x87, x88, x89, x90, x91, x92, x93, rfl, A0, Q10, Q11, Q12, Q13, F0, p80, p81, p82, p83, p84, p85, p86, p87, p88, p89, p90, p91, p92⟩
                    obtain rfl := (p80 (hb 0 (by decide))).symm
                    obtain rfl := (p81 (hb 1 (by decide))).symm
                    obtain rfl := (p82 (hb 2 (by decide))).symm
                    obtain rfl := (p83 (hb 3 (by decide))).symm
                    obtain rfl := (p84 (hb 4 (by decide))).symm
                    obtain rfl := (p85 (hb 5 (by decide))).symm
                    obtain rfl := (p86 (hb 6 (by decide))).symm
                    obtain rfl := (p87 (hb 7 (by decide))).symm
                    obtain rfl := (p88 (hb 8 (by decide))).symm
                    obtain rfl := (p89 (hb 9 (by decide))).symm
                    obtain rfl := (p90 (hb 10 (by decide))).symm
                    obtain rfl := (p91 (hb 11 (by decide))).symm
                    obtain rfl := (p92 (hb 12 (by decide))).symm
                    simp only [Act.put, List.setIfInBounds_toArray, List.set_cons_zero, List.set_cons_succ]
                    obtain ⟨v9, hs9, hf9, hm9⟩ := F0 (hb 13 (by decide))
                    have HS9 := Lib.hid hs9
                    have H59 := Lib.hid (hf9.blk (show wb.drew.heap[w.heap.size]? = _ from h50.out) hne1 hne2 (HNB.out wb h50.out hS0.out))
                    have H139 := Lib.hid (hf9.blk (show wb.drew.heap[k13]? = _ from h130.out) hkg hkm hk13)
                    have hk139 := hm9.ne (show k13 < wb.drew.heap.size from blk_lt h130.out) hk13
                    have HN9 := Lib.hid (R_fr HSD.out hf9 (Kd.R_drew hN0.out))
                    clear A0 Q10 Q11 Q12 Q13 F0 hb hs9 hf9 hm9 CC HSD hr2 g7 g2 hfl
                    go_wp2_with fail
                    go_roundg k2
                    case measure => omega
                    case rel => exact ⟨j + 1, v9, _, _, by push_cast; rfl, by omega, by omega, HX3, HS9, H59, H139, hk139, HN9⟩
                · have hq : ∀ w' : World, (binOp .eql 33 (.func (.func 16) #[] #[]) .nilFunc).run Try.prog w' = .ok (.bool false) w' := fun _ => by kernel_rfl
                  by_cases hx1' : x = 1
                  · have hX := HX.out
                    rw [if_neg (by rw [hB]; simp [hx1'])] at hX
                    have HX2 := Lib.hid hX
                    clear hX HX
                    have hd1 : decide (x = 1) = true := decide_eq_true hx1'
                    have BC0 := fun W => busy16 x W
                    rw [hd1] at BC0
                    replace BC0 := Lib.hid BC0
                    clear hd1 hx1'
                    go_wp2_with (first | (refine (WK.out _).mono ?_; rintro e wb0 ⟨rfl, hb⟩; have HB1 := Lib.hid hb; clear WK hb) | (refine (BC0.out _).mono ?_; rintro e wb ⟨rfl, hb2⟩; have HF1 := Lib.hid (FIN.out wb (below_then HB1.out HB1.out.size hb2)); clear BC0 hb2) | fail)
                    go_roundg k2
                    case measure => omega
                    case rel => exact ⟨j + 1, v, l, F, by push_cast; rfl, by omega, by omega, HX2, HF1.out.1, HF1.out.2.1, HF1.out.2.2.1, hk13, HF1.out.2.2.2⟩
                  · have hX := HX.out
                    rw [if_pos (by rw [hB]; simp [hx1'])] at hX
                    have HX2 := Lib.hid hX
                    clear hX HX
                    have hd1 : decide (x = 1) = false := decide_eq_false hx1'
                    have BC0 := fun W => busy16 x W
                    rw [hd1] at BC0
                    replace BC0 := Lib.hid BC0
                    clear hd1 hx1'
                    go_wp2_with (first | (refine (WK.out _).mono ?_; rintro e wb0 ⟨rfl, hb⟩; have HB1 := Lib.hid hb; clear WK hb) | (refine (BC0.out _).mono ?_; rintro e wb ⟨rfl, hb2⟩; have HF1 := Lib.hid (FIN.out wb (below_then HB1.out HB1.out.size hb2)); clear BC0 hb2) | fail)
                    obtain ⟨dd, hdd, hX⟩ := Option.bind_eq_some_iff.1 HX2.out
                    clear HX2
                    obtain ⟨hS0, h50, h130, hN0⟩ := HF1.out
                    have hbd := below_drew1 (Below.refl wb.heap.size wb)
                    have hsd := hS0.out.next hbd
                    obtain ⟨y0, y1, y2, yi, hr1, hr2, hz, hi⟩ := hsd.find x2
                    rw [hz] at hX
                    simp only at hX hdd
                    by_cases hgu : -1 ≤ dd ∧ dd ≤ 100000 ∧ 0 ≤ y0 + 1 ∧ y0 + 1 ≤ 1000000 ∧ l.length < 1000000
                    rotate_left
                    · rw [if_neg hgu] at hX; cases hX
                    rw [if_pos hgu] at hX
                    have HX3 := Lib.hid hX
                    have CC := Lib.hid (comes_calls 5 w wb.drew g (⟨mw, mh, ms, .func (.func 16) #[] #[], goal, near, gm⟩ : SP) v l F x x2 (y0 + 1) dd (fvO (⟨mw, mh, ms, .func (.func 16) #[] #[], goal, near, gm⟩ : SP) dd) rfl hdd ⟨hgu.1, hgu.2.1⟩ h3 ⟨hgu.2.2.1, hgu.2.2.2.1⟩ hgu.2.2.2.2 hsd)
                    have HSD := Lib.hid hsd
                    have g7 : wb.cell? ⟨g, 7, none⟩ = some (.map (some gm)) := (blk_cell hS0.out.hp.blk 7).trans rfl
                    have g2 : wb.cell? ⟨k13, 2, none⟩ = some (.int .i64 x2) := (blk_cell h130.out 2).trans rfl
                    have hfl : ∀ w' : World, (Instr.field 55 (.agg #[.int .i64 y0, .int .i64 y1, .bool y2]) 0).run Try.prog w' = .ok (.int .i64 y0) w' := fun _ => by kernel_rfl
                    clear hX hdd hr1 hi hz hbd hsd
                    refine wp_region_inv (fun a0 w_0 b a' w' => ∃ x80 x81 x82 x83 x84 x85 x86 x87 x88 x89 x90 x91 x92 x93 : Value, a' = ((((((((((((((a0.put (some 80) x80).put (some 81) x81).put (some 82) x82).put (some 83) x83).put (some 84) x84).put (some 85) x85).put (some 86) x86).put (some 87) x87).put (some 88) x88).put (some 89) x89).put (some 90) x90).put (some 91) x91).put (some 92) x92).put (some 93) x93) ∧ (b 13 = false → w' = wb.drew) ∧ (b 10 = true → b 7 = true ∧ b 9 = true) ∧ (b 11 = true → b 10 = true) ∧ (b 12 = true → b 11 = true) ∧ (b 13 = true → b 3 = true ∧ b 12 = true) ∧ (b 13 = true → ∃ v9, Ss w w' g (⟨mw, mh, ms, .func (.func 16) #[] #[], goal, near, gm⟩ : SP) v9 (cm_l F l x (y0 + 1) (fvO (⟨mw, mh, ms, .func (.func 16) #[] #[], goal, near, gm⟩ : SP) dd)) (cm_F F x x2 (y0 + 1)) ∧ Fr wb.drew w' g gm v.ownBlock ∧ Mv wb.drew v v9) ∧ (b 0 = true → x80 = .pointer (some ⟨g, 0, none⟩)) ∧ (b 1 = true → x81 = .int .i64 x) ∧ (b 2 = true → x82 = .pointer (some ⟨k13, 2, none⟩)) ∧ (b 3 = true → x83 = .int .i64 x2) ∧ (b 4 = true → x84 = .pointer (some ⟨g, 0, none⟩)) ∧ (b 5 = true → x85 = .pointer (some ⟨g, 0, none⟩)) ∧ (b 6 = true → x86 = .pointer (some ⟨g, 7, none⟩)) ∧ (b 7 = true → x87 = .map (some gm)) ∧ (b 8 = true → x88 = .pointer (some ⟨k13, 2, none⟩)) ∧ (b 9 = true → x89 = .int .i64 x2) ∧ (b 10 = true → x90 = .agg #[.int .i64 y0, .int .i64 y1, .bool y2]) ∧ (b 11 = true → x91 = .int .i64 y0) ∧ (b 12 = true → x92 = .int .i64 (y0 + 1))) (by kernel_rfl) (by kernel_rfl) ?start ⟨?op0, ?op1, ?op2, ?op3, ?op4, ?op5, ?op6, ?op7, ?op8, ?op9, ?op10, ?op11, ?op12, ?op13, trivial⟩ ?done
                    case start => exact ⟨_, _, _, _, _, _, _, _, _, _, _, _, _, _, by simp only [Act.put, List.setIfInBounds_toArray, List.set_cons_zero, List.set_cons_succ]; rfl, fun _ => rfl, fun h => absurd h (by decide), fun h => absurd h (by decide), fun h => absurd h (by decide), fun h => absurd h (by decide), fun h => absurd h (by decide), fun h => absurd h (by decide), fun h => absurd h (by decide), fun h => absurd h (by decide), fun h => absurd h (by decide), fun h => absurd h (by decide), fun h => absurd h (by decide), fun h => absurd h (by decide), fun h => absurd h (by decide), fun h => absurd h (by decide), fun h => absurd h (by decide), fun h => absurd h (by decide), fun h => absurd h (by decide), fun h => absurd h (by decide)⟩
                    case op0 =>
                      rintro bb _ w' ⟨x80, x81, x82, x83, x84, x85, x86, x87, x88, x89, x90, x91, x92, x93, rfl, A0, Q10, Q11, Q12, Q13, F0, p80, p81, p82, p83, p84, p85, p86, p87, p88, p89, p90, p91, p92⟩ hb hd K hK
                      simp only [Act.put, List.setIfInBounds_toArray, List.set_cons_zero, List.set_cons_succ]
                      rw [if_pos (by rfl)]
                      go_simp
                      exact hK _ _ ⟨.pointer (some ⟨g, 0, none⟩), x81, x82, x83, x84, x85, x86, x87, x88, x89, x90, x91, x92, x93, by simp only [Act.put, List.setIfInBounds_toArray, List.set_cons_zero, List.set_cons_succ], fun h => A0 (by simpa [upb] using h), fun h => by have h4 := Q10 (by simpa [upb] using h); simp [upb, h4.1, h4.2], fun h => by have h4 := Q11 (by simpa [upb] using h); simp [upb, h4], fun h => by have h4 := Q12 (by simpa [upb] using h); simp [upb, h4], fun h => by have h4 := Q13 (by simpa [upb] using h); simp [upb, h4.1, h4.2], fun h => F0 (by simpa [upb] using h), fun _ => rfl, fun h => p81 (by simpa [upb] using h), fun h => p82 (by simpa [upb] using h), fun h => p83 (by simpa [upb] using h), fun h => p84 (by simpa [upb] using h), fun h => p85 (by simpa [upb] using h), fun h => p86 (by simpa [upb] using h), fun h => p87 (by simpa [upb] using h), fun h => p88 (by simpa [upb] using h), fun h => p89 (by simpa [upb] using h), fun h => p90 (by simpa [upb] using h), fun h => p91 (by simpa [upb] using h), fun h => p92 (by simpa [upb] using h)⟩
                    case op1 =>
                      rintro bb _ w' ⟨x80, x81, x82, x83, x84, x85, x86, x87, x88, x89, x90, x91, x92, x93, rfl, A0, Q10, Q11, Q12, Q13, F0, p80, p81, p82, p83, p84, p85, p86, p87, p88, p89, p90, p91, p92⟩ hb hd K hK
                      simp only [Act.put, List.setIfInBounds_toArray, List.set_cons_zero, List.set_cons_succ]
                      rw [if_pos (by rfl)]
                      go_simp
                      exact hK _ _ ⟨x80, .int .i64 x, x82, x83, x84, x85, x86, x87, x88, x89, x90, x91, x92, x93, by simp only [Act.put, List.setIfInBounds_toArray, List.set_cons_zero, List.set_cons_succ], fun h => A0 (by simpa [upb] using h), fun h => by have h4 := Q10 (by simpa [upb] using h); simp [upb, h4.1, h4.2], fun h => by have h4 := Q11 (by simpa [upb] using h); simp [upb, h4], fun h => by have h4 := Q12 (by simpa [upb] using h); simp [upb, h4], fun h => by have h4 := Q13 (by simpa [upb] using h); simp [upb, h4.1, h4.2], fun h => F0 (by simpa [upb] using h), fun h => p80 (by simpa [upb] using h), fun _ => rfl, fun h => p82 (by simpa [upb] using h), fun h => p83 (by simpa [upb] using h), fun h => p84 (by simpa [upb] using h), fun h => p85 (by simpa [upb] using h), fun h => p86 (by simpa [upb] using h), fun h => p87 (by simpa [upb] using h), fun h => p88 (by simpa [upb] using h), fun h => p89 (by simpa [upb] using h), fun h => p90 (by simpa [upb] using h), fun h => p91 (by simpa [upb] using h), fun h => p92 (by simpa [upb] using h)⟩
                    case op2 =>
                      rintro bb _ w' ⟨x80, x81, x82, x83, x84, x85, x86, x87, x88, x89, x90, x91, x92, x93, rfl, A0, Q10, Q11, Q12, Q13, F0, p80, p81, p82, p83, p84, p85, p86, p87, p88, p89, p90, p91, p92⟩ hb hd K hK
                      simp only [Act.put, List.setIfInBounds_toArray, List.set_cons_zero, List.set_cons_succ]
                      rw [if_pos (by rfl)]
                      go_simp
                      exact hK _ _ ⟨x80, x81, .pointer (some ⟨k13, 2, none⟩), x83, x84, x85, x86, x87, x88, x89, x90, x91, x92, x93, by simp only [Act.put, List.setIfInBounds_toArray, List.set_cons_zero, List.set_cons_succ], fun h => A0 (by simpa [upb] using h), fun h => by have h4 := Q10 (by simpa [upb] using h); simp [upb, h4.1, h4.2], fun h => by have h4 := Q11 (by simpa [upb] using h); simp [upb, h4], fun h => by have h4 := Q12 (by simpa [upb] using h); simp [upb, h4], fun h => by have h4 := Q13 (by simpa [upb] using h); simp [upb, h4.1, h4.2], fun h => F0 (by simpa [upb] using h), fun h => p80 (by simpa [upb] using h), fun h => p81 (by simpa [upb] using h), fun _ => rfl, fun h => p83 (by simpa [upb] using h), fun h => p84 (by simpa [upb] using h), fun h => p85 (by simpa [upb] using h), fun h => p86 (by simpa [upb] using h), fun h => p87 (by simpa [upb] using h), fun h => p88 (by simpa [upb] using h), fun h => p89 (by simpa [upb] using h), fun h => p90 (by simpa [upb] using h), fun h => p91 (by simpa [upb] using h), fun h => p92 (by simpa [upb] using h)⟩
                    case op3 =>
                      rintro bb _ w' ⟨x80, x81, x82, x83, x84, x85, x86, x87, x88, x89, x90, x91, x92, x93, rfl, A0, Q10, Q11, Q12, Q13, F0, p80, p81, p82, p83, p84, p85, p86, p87, p88, p89, p90, p91, p92⟩ hb hd K hK
                      simp only [Act.put, List.setIfInBounds_toArray, List.set_cons_zero, List.set_cons_succ]
                      obtain rfl := (p82 (hd 2 (by decide))).symm
                      rw [if_pos (by rfl)]
                      have h13 : bb 13 = false := by cases h : bb 13 with | false => rfl | true => exact absurd ((Q13 h).1) (by rw [hb]; decide)
                      obtain rfl := A0 h13
                      go_simp
                      exact hK _ _ ⟨x80, x81, .pointer (some ⟨k13, 2, none⟩), .int .i64 x2, x84, x85, x86, x87, x88, x89, x90, x91, x92, x93, by simp only [Act.put, List.setIfInBounds_toArray, List.set_cons_zero, List.set_cons_succ], fun h => A0 (by simpa [upb] using h), fun h => by have h4 := Q10 (by simpa [upb] using h); simp [upb, h4.1, h4.2], fun h => by have h4 := Q11 (by simpa [upb] using h); simp [upb, h4], fun h => by have h4 := Q12 (by simpa [upb] using h); simp [upb, h4], fun h => by have h4 := Q13 (by simpa [upb] using h); simp [upb, h4.1, h4.2], fun h => F0 (by simpa [upb] using h), fun h => p80 (by simpa [upb] using h), fun h => p81 (by simpa [upb] using h), fun _ => rfl, fun _ => rfl, fun h => p84 (by simpa [upb] using h), fun h => p85 (by simpa [upb] using h), fun h => p86 (by simpa [upb] using h), fun h => p87 (by simpa [upb] using h), fun h => p88 (by simpa [upb] using h), fun h => p89 (by simpa [upb] using h), fun h => p90 (by simpa [upb] using h), fun h => p91 (by simpa [upb] using h), fun h => p92 (by simpa [upb] using h)⟩
                    case op4 =>
                      rintro bb _ w' ⟨x80, x81, x82, x83, x84, x85, x86, x87, x88, x89, x90, x91, x92, x93, rfl, A0, Q10, Q11, Q12, Q13, F0, p80, p81, p82, p83, p84, p85, p86, p87, p88, p89, p90, p91, p92⟩ hb hd K hK
                      simp only [Act.put, List.setIfInBounds_toArray, List.set_cons_zero, List.set_cons_succ]
                      rw [if_pos (by rfl)]
                      go_simp
                      exact hK _ _ ⟨x80, x81, x82, x83, .pointer (some ⟨g, 0, none⟩), x85, x86, x87, x88, x89, x90, x91, x92, x93, by simp only [Act.put, List.setIfInBounds_toArray, List.set_cons_zero, List.set_cons_succ], fun h => A0 (by simpa [upb] using h), fun h => by have h4 := Q10 (by simpa [upb] using h); simp [upb, h4.1, h4.2], fun h => by have h4 := Q11 (by simpa [upb] using h); simp [upb, h4], fun h => by have h4 := Q12 (by simpa [upb] using h); simp [upb, h4], fun h => by have h4 := Q13 (by simpa [upb] using h); simp [upb, h4.1, h4.2], fun h => F0 (by simpa [upb] using h), fun h => p80 (by simpa [upb] using h), fun h => p81 (by simpa [upb] using h), fun h => p82 (by simpa [upb] using h), fun h => p83 (by simpa [upb] using h), fun _ => rfl, fun h => p85 (by simpa [upb] using h), fun h => p86 (by simpa [upb] using h), fun h => p87 (by simpa [upb] using h), fun h => p88 (by simpa [upb] using h), fun h => p89 (by simpa [upb] using h), fun h => p90 (by simpa [upb] using h), fun h => p91 (by simpa [upb] using h), fun h => p92 (by simpa [upb] using h)⟩
                    case op5 =>
                      rintro bb _ w' ⟨x80, x81, x82, x83, x84, x85, x86, x87, x88, x89, x90, x91, x92, x93, rfl, A0, Q10, Q11, Q12, Q13, F0, p80, p81, p82, p83, p84, p85, p86, p87, p88, p89, p90, p91, p92⟩ hb hd K hK
                      simp only [Act.put, List.setIfInBounds_toArray, List.set_cons_zero, List.set_cons_succ]
                      obtain rfl := (p84 (hd 4 (by decide))).symm
                      rw [if_pos (by rfl)]
                      go_simp
                      exact hK _ _ ⟨x80, x81, x82, x83, .pointer (some ⟨g, 0, none⟩), .pointer (some ⟨g, 0, none⟩), x86, x87, x88, x89, x90, x91, x92, x93, by simp only [Act.put, List.setIfInBounds_toArray, List.set_cons_zero, List.set_cons_succ], fun h => A0 (by simpa [upb] using h), fun h => by have h4 := Q10 (by simpa [upb] using h); simp [upb, h4.1, h4.2], fun h => by have h4 := Q11 (by simpa [upb] using h); simp [upb, h4], fun h => by have h4 := Q12 (by simpa [upb] using h); simp [upb, h4], fun h => by have h4 := Q13 (by simpa [upb] using h); simp [upb, h4.1, h4.2], fun h => F0 (by simpa [upb] using h), fun h => p80 (by simpa [upb] using h), fun h => p81 (by simpa [upb] using h), fun h => p82 (by simpa [upb] using h), fun h => p83 (by simpa [upb] using h), fun _ => rfl, fun _ => rfl, fun h => p86 (by simpa [upb] using h), fun h => p87 (by simpa [upb] using h), fun h => p88 (by simpa [upb] using h), fun h => p89 (by simpa [upb] using h), fun h => p90 (by simpa [upb] using h), fun h => p91 (by simpa [upb] using h), fun h => p92 (by simpa [upb] using h)⟩
                    case op6 =>
                      rintro bb _ w' ⟨x80, x81, x82, x83, x84, x85, x86, x87, x88, x89, x90, x91, x92, x93, rfl, A0, Q10, Q11, Q12, Q13, F0, p80, p81, p82, p83, p84, p85, p86, p87, p88, p89, p90, p91, p92⟩ hb hd K hK
                      simp only [Act.put, List.setIfInBounds_toArray, List.set_cons_zero, List.set_cons_succ]
                      obtain rfl := (p85 (hd 5 (by decide))).symm
                      rw [if_pos (by rfl)]
                      go_simp
                      exact hK _ _ ⟨x80, x81, x82, x83, x84, .pointer (some ⟨g, 0, none⟩), .pointer (some ⟨g, 7, none⟩), x87, x88, x89, x90, x91, x92, x93, by simp only [Act.put, List.setIfInBounds_toArray, List.set_cons_zero, List.set_cons_succ], fun h => A0 (by simpa [upb] using h), fun h => by have h4 := Q10 (by simpa [upb] using h); simp [upb, h4.1, h4.2], fun h => by have h4 := Q11 (by simpa [upb] using h); simp [upb, h4], fun h => by have h4 := Q12 (by simpa [upb] using h); simp [upb, h4], fun h => by have h4 := Q13 (by simpa [upb] using h); simp [upb, h4.1, h4.2], fun h => F0 (by simpa [upb] using h), fun h => p80 (by simpa [upb] using h), fun h => p81 (by simpa [upb] using h), fun h => p82 (by simpa [upb] using h), fun h => p83 (by simpa [upb] using h), fun h => p84 (by simpa [upb] using h), fun _ => rfl, fun _ => rfl, fun h => p87 (by simpa [upb] using h), fun h => p88 (by simpa [upb] using h), fun h => p89 (by simpa [upb] using h), fun h => p90 (by simpa [upb] using h), fun h => p91 (by simpa [upb] using h), fun h => p92 (by simpa [upb] using h)⟩
                    case op7 =>
                      rintro bb _ w' ⟨x80, x81, x82, x83, x84, x85, x86, x87, x88, x89, x90, x91, x92, x93, rfl, A0, Q10, Q11, Q12, Q13, F0, p80, p81, p82, p83, p84, p85, p86, p87, p88, p89, p90, p91, p92⟩ hb hd K hK
                      simp only [Act.put, List.setIfInBounds_toArray, List.set_cons_zero, List.set_cons_succ]
                      obtain rfl := (p86 (hd 6 (by decide))).symm
                      rw [if_pos (by rfl)]
                      have h13 : bb 13 = false := by cases h : bb 13 with | false => rfl | true => exact absurd ((Q10 (Q11 (Q12 (Q13 h).2))).1) (by rw [hb]; decide)
                      obtain rfl := A0 h13
                      go_simp
                      exact hK _ _ ⟨x80, x81, x82, x83, x84, x85, .pointer (some ⟨g, 7, none⟩), .map (some gm), x88, x89, x90, x91, x92, x93, by simp only [Act.put, List.setIfInBounds_toArray, List.set_cons_zero, List.set_cons_succ], fun h => A0 (by simpa [upb] using h), fun h => by have h4 := Q10 (by simpa [upb] using h); simp [upb, h4.1, h4.2], fun h => by have h4 := Q11 (by simpa [upb] using h); simp [upb, h4], fun h => by have h4 := Q12 (by simpa [upb] using h); simp [upb, h4], fun h => by have h4 := Q13 (by simpa [upb] using h); simp [upb, h4.1, h4.2], fun h => F0 (by simpa [upb] using h), fun h => p80 (by simpa [upb] using h), fun h => p81 (by simpa [upb] using h), fun h => p82 (by simpa [upb] using h), fun h => p83 (by simpa [upb] using h), fun h => p84 (by simpa [upb] using h), fun h => p85 (by simpa [upb] using h), fun _ => rfl, fun _ => rfl, fun h => p88 (by simpa [upb] using h), fun h => p89 (by simpa [upb] using h), fun h => p90 (by simpa [upb] using h), fun h => p91 (by simpa [upb] using h), fun h => p92 (by simpa [upb] using h)⟩
                    case op8 =>
                      rintro bb _ w' ⟨x80, x81, x82, x83, x84, x85, x86, x87, x88, x89, x90, x91, x92, x93, rfl, A0, Q10, Q11, Q12, Q13, F0, p80, p81, p82, p83, p84, p85, p86, p87, p88, p89, p90, p91, p92⟩ hb hd K hK
                      simp only [Act.put, List.setIfInBounds_toArray, List.set_cons_zero, List.set_cons_succ]
                      rw [if_pos (by rfl)]
                      go_simp
                      exact hK _ _ ⟨x80, x81, x82, x83, x84, x85, x86, x87, .pointer (some ⟨k13, 2, none⟩), x89, x90, x91, x92, x93, by simp only [Act.put, List.setIfInBounds_toArray, List.set_cons_zero, List.set_cons_succ], fun h => A0 (by simpa [upb] using h), fun h => by have h4 := Q10 (by simpa [upb] using h); simp [upb, h4.1, h4.2], fun h => by have h4 := Q11 (by simpa [upb] using h); simp [upb, h4], fun h => by have h4 := Q12 (by simpa [upb] using h); simp [upb, h4], fun h => by have h4 := Q13 (by simpa [upb] using h); simp [upb, h4.1, h4.2], fun h => F0 (by simpa [upb] using h), fun h => p80 (by simpa [upb] using h), fun h => p81 (by simpa [upb] using h), fun h => p82 (by simpa [upb] using h), fun h => p83 (by simpa [upb] using h), fun h => p84 (by simpa [upb] using h), fun h => p85 (by simpa [upb] using h), fun h => p86 (by simpa [upb] using h), fun h => p87 (by simpa [upb] using h), fun _ => rfl, fun h => p89 (by simpa [upb] using h), fun h => p90 (by simpa [upb] using h), fun h => p91 (by simpa [upb] using h), fun h => p92 (by simpa [upb] using h)⟩
                    case op9 =>
                      rintro bb _ w' ⟨x80, x81, x82, x83, x84, x85, x86, x87, x88, x89, x90, x91, x92, x93, rfl, A0, Q10, Q11, Q12, Q13, F0, p80, p81, p82, p83, p84, p85, p86, p87, p88, p89, p90, p91, p92⟩ hb hd K hK
                      simp only [Act.put, List.setIfInBounds_toArray, List.set_cons_zero, List.set_cons_succ]
                      obtain rfl := (p88 (hd 8 (by decide))).symm
                      rw [if_pos (by rfl)]
                      have h13 : bb 13 = false := by cases h : bb 13 with | false => rfl | true => exact absurd ((Q10 (Q11 (Q12 (Q13 h).2))).2) (by rw [hb]; decide)
                      obtain rfl := A0 h13
                      go_simp
                      exact hK _ _ ⟨x80, x81, x82, x83, x84, x85, x86, x87, .pointer (some ⟨k13, 2, none⟩), .int .i64 x2, x90, x91, x92, x93, by simp only [Act.put, List.setIfInBounds_toArray, List.set_cons_zero, List.set_cons_succ], fun h => A0 (by simpa [upb] using h), fun h => by have h4 := Q10 (by simpa [upb] using h); simp [upb, h4.1, h4.2], fun h => by have h4 := Q11 (by simpa [upb] using h); simp [upb, h4], fun h => by have h4 := Q12 (by simpa [upb] using h); simp [upb, h4], fun h => by have h4 := Q13 (by simpa [upb] using h); simp [upb, h4.1, h4.2], fun h => F0 (by simpa [upb] using h), fun h => p80 (by simpa [upb] using h), fun h => p81 (by simpa [upb] using h), fun h => p82 (by simpa [upb] using h), fun h => p83 (by simpa [upb] using h), fun h => p84 (by simpa [upb] using h), fun h => p85 (by simpa [upb] using h), fun h => p86 (by simpa [upb] using h), fun h => p87 (by simpa [upb] using h), fun _ => rfl, fun _ => rfl, fun h => p90 (by simpa [upb] using h), fun h => p91 (by simpa [upb] using h), fun h => p92 (by simpa [upb] using h)⟩
                    case op10 =>
                      rintro bb _ w' ⟨x80, x81, x82, x83, x84, x85, x86, x87, x88, x89, x90, x91, x92, x93, rfl, A0, Q10, Q11, Q12, Q13, F0, p80, p81, p82, p83, p84, p85, p86, p87, p88, p89, p90, p91, p92⟩ hb hd K hK
                      simp only [Act.put, List.setIfInBounds_toArray, List.set_cons_zero, List.set_cons_succ]
                      obtain rfl := (p87 (hd 7 (by decide))).symm
                      obtain rfl := (p89 (hd 9 (by decide))).symm
                      rw [if_pos (by rfl)]
                      have h13 : bb 13 = false := by cases h : bb 13 with | false => rfl | true => exact absurd (Q11 (Q12 (Q13 h).2)) (by rw [hb]; decide)
                      obtain rfl := A0 h13
                      go_simp
                      exact hK _ _ ⟨x80, x81, x82, x83, x84, x85, x86, .map (some gm), x88, .int .i64 x2, .agg #[.int .i64 y0, .int .i64 y1, .bool y2], x91, x92, x93, by simp only [Act.put, List.setIfInBounds_toArray, List.set_cons_zero, List.set_cons_succ], fun h => A0 (by simpa [upb] using h), fun _ => ⟨by have := hd 7 (by decide); simp [upb, this], by have := hd 9 (by decide); simp [upb, this]⟩, fun h => by have h4 := Q11 (by simpa [upb] using h); simp [upb, h4], fun h => by have h4 := Q12 (by simpa [upb] using h); simp [upb, h4], fun h => by have h4 := Q13 (by simpa [upb] using h); simp [upb, h4.1, h4.2], fun h => F0 (by simpa [upb] using h), fun h => p80 (by simpa [upb] using h), fun h => p81 (by simpa [upb] using h), fun h => p82 (by simpa [upb] using h), fun h => p83 (by simpa [upb] using h), fun h => p84 (by simpa [upb] using h), fun h => p85 (by simpa [upb] using h), fun h => p86 (by simpa [upb] using h), fun _ => rfl, fun h => p88 (by simpa [upb] using h), fun _ => rfl, fun _ => rfl, fun h => p91 (by simpa [upb] using h), fun h => p92 (by simpa [upb] using h)⟩
                    case op11 =>
                      rintro bb _ w' ⟨x80, x81, x82, x83, x84, x85, x86, x87, x88, x89, x90, x91, x92, x93, rfl, A0, Q10, Q11, Q12, Q13, F0, p80, p81, p82, p83, p84, p85, p86, p87, p88, p89, p90, p91, p92⟩ hb hd K hK
                      simp only [Act.put, List.setIfInBounds_toArray, List.set_cons_zero, List.set_cons_succ]
                      obtain rfl := (p90 (hd 10 (by decide))).symm
                      rw [if_pos (by rfl)]
                      have hff := hfl w'
                      go_simp
                      exact hK _ _ ⟨x80, x81, x82, x83, x84, x85, x86, x87, x88, x89, .agg #[.int .i64 y0, .int .i64 y1, .bool y2], .int .i64 y0, x92, x93, by simp only [Act.put, List.setIfInBounds_toArray, List.set_cons_zero, List.set_cons_succ], fun h => A0 (by simpa [upb] using h), fun h => by have h4 := Q10 (by simpa [upb] using h); simp [upb, h4.1, h4.2], fun _ => by have := hd 10 (by decide); simp [upb, this], fun h => by have h4 := Q12 (by simpa [upb] using h); simp [upb, h4], fun h => by have h4 := Q13 (by simpa [upb] using h); simp [upb, h4.1, h4.2], fun h => F0 (by simpa [upb] using h), fun h => p80 (by simpa [upb] using h), fun h => p81 (by simpa [upb] using h), fun h => p82 (by simpa [upb] using h), fun h => p83 (by simpa [upb] using h), fun h => p84 (by simpa [upb] using h), fun h => p85 (by simpa [upb] using h), fun h => p86 (by simpa [upb] using h), fun h => p87 (by simpa [upb] using h), fun h => p88 (by simpa [upb] using h), fun h => p89 (by simpa [upb] using h), fun _ => rfl, fun _ => rfl, fun h => p92 (by simpa [upb] using h)⟩
                    case op12 =>
                      rintro bb _ w' ⟨x80, x81, x82, x83, x84, x85, x86, x87, x88, x89, x90, x91, x92, x93, rfl, A0, Q10, Q11, Q12, Q13, F0, p80, p81, p82, p83, p84, p85, p86, p87, p88, p89, p90, p91, p92⟩ hb hd K hK
                      simp only [Act.put, List.setIfInBounds_toArray, List.set_cons_zero, List.set_cons_succ]
                      obtain rfl := (p91 (hd 11 (by decide))).symm
                      rw [if_pos (by rfl)]
                      have hw : IntKind.i64.wrap (y0 + 1) = y0 + 1 := IntWalk.i64_in _ (by omega)
                      go_simp
                      exact hK _ _ ⟨x80, x81, x82, x83, x84, x85, x86, x87, x88, x89, x90, .int .i64 y0, .int .i64 (y0 + 1), x93, by simp only [Act.put, List.setIfInBounds_toArray, List.set_cons_zero, List.set_cons_succ], fun h => A0 (by simpa [upb] using h), fun h => by have h4 := Q10 (by simpa [upb] using h); simp [upb, h4.1, h4.2], fun h => by have h4 := Q11 (by simpa [upb] using h); simp [upb, h4], fun _ => by have := hd 11 (by decide); simp [upb, this], fun h => by have h4 := Q13 (by simpa [upb] using h); simp [upb, h4.1, h4.2], fun h => F0 (by simpa [upb] using h), fun h => p80 (by simpa [upb] using h), fun h => p81 (by simpa [upb] using h), fun h => p82 (by simpa [upb] using h), fun h => p83 (by simpa [upb] using h), fun h => p84 (by simpa [upb] using h), fun h => p85 (by simpa [upb] using h), fun h => p86 (by simpa [upb] using h), fun h => p87 (by simpa [upb] using h), fun h => p88 (by simpa [upb] using h), fun h => p89 (by simpa [upb] using h), fun h => p90 (by simpa [upb] using h), fun _ => rfl, fun _ => rfl⟩
                    case op13 =>
                      rintro bb _ w' ⟨x80, x81, x82, x83, x84, x85, x86, x87, x88, x89, x90, x91, x92, x93, rfl, A0, Q10, Q11, Q12, Q13, F0, p80, p81, p82, p83, p84, p85, p86, p87, p88, p89, p90, p91, p92⟩ hb hd K hK
                      simp only [Act.put, List.setIfInBounds_toArray, List.set_cons_zero, List.set_cons_succ]
                      obtain rfl := (p80 (hd 0 (by decide))).symm
                      obtain rfl := (p81 (hd 1 (by decide))).symm
                      obtain rfl := (p83 (hd 3 (by decide))).symm
                      obtain rfl := (p92 (hd 12 (by decide))).symm
                      rw [if_pos (by rfl)]
                      obtain rfl := A0 hb
                      go_simp
                      refine CC.out.mono ?_
                      rintro e w9 ⟨rfl, v9, hs9, hf9, hm9⟩
                      have hfin : ∃ v9, Ss w w9 g (⟨mw, mh, ms, .func (.func 16) #[] #[], goal, near, gm⟩ : SP) v9 (cm_l F l x (y0 + 1) (fvO (⟨mw, mh, ms, .func (.func 16) #[] #[], goal, near, gm⟩ : SP) dd)) (cm_F F x x2 (y0 + 1)) ∧ Fr wb.drew w9 g gm v.ownBlock ∧ Mv wb.drew v v9 := ⟨v9, hs9, hf9, hm9⟩
                      exact hK _ _ ⟨.pointer (some ⟨g, 0, none⟩), .int .i64 x, x82, .int .i64 x2, x84, x85, x86, x87, x88, x89, x90, x91, .int .i64 (y0 + 1), .tuple #[], by simp only [Act.put, List.setIfInBounds_toArray, List.set_cons_zero, List.set_cons_succ], fun h => absurd h (by simp [upb]), fun h => by have h4 := Q10 (by simpa [upb] using h); simp [upb, h4.1, h4.2], fun h => by have h4 := Q11 (by simpa [upb] using h); simp [upb, h4], fun h => by have h4 := Q12 (by simpa [upb] using h); simp [upb, h4], fun _ => ⟨by have := hd 3 (by decide); simp [upb, this], by have := hd 12 (by decide); simp [upb, this]⟩, fun _ => hfin, fun _ => rfl, fun _ => rfl, fun h => p82 (by simpa [upb] using h), fun _ => rfl, fun h => p84 (by simpa [upb] using h), fun h => p85 (by simpa [upb] using h), fun h => p86 (by simpa [upb] using h), fun h => p87 (by simpa [upb] using h), fun h => p88 (by simpa [upb] using h), fun h => p89 (by simpa [upb] using h), fun h => p90 (by simpa [upb] using h), fun h => p91 (by simpa [upb] using h), fun _ => rfl⟩
                    case done =>
                      rintro bb _ w' hb ⟨x80, x81, x82, x83, x84, x85, x86, x87, x88, x89, x90, x91, x92, x93, rfl, A0, Q10, Q11, Q12, Q13, F0, p80, p81, p82, p83, p84, p85, p86, p87, p88, p89, p90, p91, p92⟩
                      obtain rfl := (p80 (hb 0 (by decide))).symm
                      obtain rfl := (p81 (hb 1 (by decide))).symm
                      obtain rfl := (p82 (hb 2 (by decide))).symm
                      obtain rfl := (p83 (hb 3 (by decide))).symm
                      obtain rfl := (p84 (hb 4 (by decide))).symm
                      obtain rfl := (p85 (hb 5 (by decide))).symm
                      obtain rfl := (p86 (hb 6 (by decide))).symm
                      obtain rfl := (p87 (hb 7 (by decide))).symm
                      obtain rfl := (p88 (hb 8 (by decide))).symm
                      obtain rfl := (p89 (hb 9 (by decide))).symm
                      obtain rfl := (p90 (hb 10 (by decide))).symm
                      obtain rfl := (p91 (hb 11 (by decide))).symm
                      obtain rfl := (p92 (hb 12 (by decide))).symm
                      simp only [Act.put, List.setIfInBounds_toArray, List.set_cons_zero, List.set_cons_succ]
                      obtain ⟨v9, hs9, hf9, hm9⟩ := F0 (hb 13 (by decide))
                      have HS9 := Lib.hid hs9
                      have H59 := Lib.hid (hf9.blk (show wb.drew.heap[w.heap.size]? = _ from h50.out) hne1 hne2 (HNB.out wb h50.out hS0.out))
                      have H139 := Lib.hid (hf9.blk (show wb.drew.heap[k13]? = _ from h130.out) hkg hkm hk13)
                      have hk139 := hm9.ne (show k13 < wb.drew.heap.size from blk_lt h130.out) hk13
                      have HN9 := Lib.hid (R_fr HSD.out hf9 (Kd.R_drew hN0.out))
                      clear A0 Q10 Q11 Q12 Q13 F0 hb hs9 hf9 hm9 CC HSD hr2 g7 g2 hfl
                      go_wp2_with fail
                      go_roundg k2
                      case measure => omega
                      case rel => exact ⟨j + 1, v9, _, _, by push_cast; rfl, by omega, by omega, HX3, HS9, H59, H139, hk139, HN9⟩
                · have hq : ∀ w' : World, (binOp .eql 33 (.func (.func 12) #[] #[.pointer (some a)]) .nilFunc).run Try.prog w' = .ok (.bool false) w' := fun _ => by kernel_rfl
                  obtain ⟨bb0, hbb⟩ : ∃ b, B x = b := ⟨_, rfl⟩
                  have hfx : (f x).getD (.bool false) = .bool bb0 := by rw [hB, hbb]
                  have BC0 := Lib.hid (fun (W : World) (hb : Below w.heap.size w W) => busy9 (W := W) ha hm hb hfx)
                  have hX := HX.out
                  rw [hbb] at hX
                  clear HX hfx hbb ha hm hB
                  cases bb0 with
                  | true =>
                    rw [if_neg (by simp)] at hX
                    have HX2 := Lib.hid hX
                    clear hX
                    go_wp2_with (first | (refine (WK.out _).mono ?_; rintro e wb0 ⟨rfl, hb⟩; have HB1 := Lib.hid hb; clear WK hb) | (refine (BC0.out _ (FIN.out wb0 HB1.out).1.out.hp.bel).mono ?_; rintro e wb ⟨rfl, hb2⟩; have HF1 := Lib.hid (FIN.out wb (below_then HB1.out HB1.out.size hb2)); clear BC0 hb2) | fail)
                    go_roundg k2
                    case measure => omega
                    case rel => exact ⟨j + 1, v, l, F, by push_cast; rfl, by omega, by omega, HX2, HF1.out.1, HF1.out.2.1, HF1.out.2.2.1, hk13, HF1.out.2.2.2⟩
                  | false =>
                    rw [if_pos (by simp)] at hX
                    have HX2 := Lib.hid hX
                    clear hX
                    go_wp2_with (first | (refine (WK.out _).mono ?_; rintro e wb0 ⟨rfl, hb⟩; have HB1 := Lib.hid hb; clear WK hb) | (refine (BC0.out _ (FIN.out wb0 HB1.out).1.out.hp.bel).mono ?_; rintro e wb ⟨rfl, hb2⟩; have HF1 := Lib.hid (FIN.out wb (below_then HB1.out HB1.out.size hb2)); clear BC0 hb2) | fail)
                    obtain ⟨dd, hdd, hX⟩ := Option.bind_eq_some_iff.1 HX2.out
                    clear HX2
                    obtain ⟨hS0, h50, h130, hN0⟩ := HF1.out
                    have hbd := below_drew1 (Below.refl wb.heap.size wb)
                    have hsd := hS0.out.next hbd
                    obtain ⟨y0, y1, y2, yi, hr1, hr2, hz, hi⟩ := hsd.find x2
                    rw [hz] at hX
                    simp only at hX hdd
                    by_cases hgu : -1 ≤ dd ∧ dd ≤ 100000 ∧ 0 ≤ y0 + 1 ∧ y0 + 1 ≤ 1000000 ∧ l.length < 1000000
                    rotate_left
                    · rw [if_neg hgu] at hX; cases hX
                    rw [if_pos hgu] at hX
                    have HX3 := Lib.hid hX
                    have CC := Lib.hid (comes_calls 5 w wb.drew g (⟨mw, mh, ms, .func (.func 12) #[] #[.pointer (some a)], goal, near, gm⟩ : SP) v l F x x2 (y0 + 1) dd (fvO (⟨mw, mh, ms, .func (.func 12) #[] #[.pointer (some a)], goal, near, gm⟩ : SP) dd) rfl hdd ⟨hgu.1, hgu.2.1⟩ h3 ⟨hgu.2.2.1, hgu.2.2.2.1⟩ hgu.2.2.2.2 hsd)
                    have HSD := Lib.hid hsd
                    have g7 : wb.cell? ⟨g, 7, none⟩ = some (.map (some gm)) := (blk_cell hS0.out.hp.blk 7).trans rfl
                    have g2 : wb.cell? ⟨k13, 2, none⟩ = some (.int .i64 x2) := (blk_cell h130.out 2).trans rfl
                    have hfl : ∀ w' : World, (Instr.field 55 (.agg #[.int .i64 y0, .int .i64 y1, .bool y2]) 0).run Try.prog w' = .ok (.int .i64 y0) w' := fun _ => by kernel_rfl
                    clear hX hdd hr1 hi hz hbd hsd
                    refine wp_region_inv (fun a0 w_0 b a' w' => ∃ x80 x81 x82 x83 x84 x85 x86 x87 x88 x89 x90 x91 x92 x93 : Value, a' = ((((((((((((((a0.put (some 80) x80).put (some 81) x81).put (some 82) x82).put (some 83) x83).put (some 84) x84).put (some 85) x85).put (some 86) x86).put (some 87) x87).put (some 88) x88).put (some 89) x89).put (some 90) x90).put (some 91) x91).put (some 92) x92).put (some 93) x93) ∧ (b 13 = false → w' = wb.drew) ∧ (b 10 = true → b 7 = true ∧ b 9 = true) ∧ (b 11 = true → b 10 = true) ∧ (b 12 = true → b 11 = true) ∧ (b 13 = true → b 3 = true ∧ b 12 = true) ∧ (b 13 = true → ∃ v9, Ss w w' g (⟨mw, mh, ms, .func (.func 12) #[] #[.pointer (some a)], goal, near, gm⟩ : SP) v9 (cm_l F l x (y0 + 1) (fvO (⟨mw, mh, ms, .func (.func 12) #[] #[.pointer (some a)], goal, near, gm⟩ : SP) dd)) (cm_F F x x2 (y0 + 1)) ∧ Fr wb.drew w' g gm v.ownBlock ∧ Mv wb.drew v v9) ∧ (b 0 = true → x80 = .pointer (some ⟨g, 0, none⟩)) ∧ (b 1 = true → x81 = .int .i64 x) ∧ (b 2 = true → x82 = .pointer (some ⟨k13, 2, none⟩)) ∧ (b 3 = true → x83 = .int .i64 x2) ∧ (b 4 = true → x84 = .pointer (some ⟨g, 0, none⟩)) ∧ (b 5 = true → x85 = .pointer (some ⟨g, 0, none⟩)) ∧ (b 6 = true → x86 = .pointer (some ⟨g, 7, none⟩)) ∧ (b 7 = true → x87 = .map (some gm)) ∧ (b 8 = true → x88 = .pointer (some ⟨k13, 2, none⟩)) ∧ (b 9 = true → x89 = .int .i64 x2) ∧ (b 10 = true → x90 = .agg #[.int .i64 y0, .int .i64 y1, .bool y2]) ∧ (b 11 = true → x91 = .int .i64 y0) ∧ (b 12 = true → x92 = .int .i64 (y0 + 1))) (by kernel_rfl) (by kernel_rfl) ?start ⟨?op0, ?op1, ?op2, ?op3, ?op4, ?op5, ?op6, ?op7, ?op8, ?op9, ?op10, ?op11, ?op12, ?op13, trivial⟩ ?done
                    case start => exact ⟨_, _, _, _, _, _, _, _, _, _, _, _, _, _, by simp only [Act.put, List.setIfInBounds_toArray, List.set_cons_zero, List.set_cons_succ]; rfl, fun _ => rfl, fun h => absurd h (by decide), fun h => absurd h (by decide), fun h => absurd h (by decide), fun h => absurd h (by decide), fun h => absurd h (by decide), fun h => absurd h (by decide), fun h => absurd h (by decide), fun h => absurd h (by decide), fun h => absurd h (by decide), fun h => absurd h (by decide), fun h => absurd h (by decide), fun h => absurd h (by decide), fun h => absurd h (by decide), fun h => absurd h (by decide), fun h => absurd h (by decide), fun h => absurd h (by decide), fun h => absurd h (by decide), fun h => absurd h (by decide)⟩
                    case op0 =>
                      rintro bb _ w' ⟨x80, x81, x82, x83, x84, x85, x86, x87, x88, x89, x90, x91, x92, x93, rfl, A0, Q10, Q11, Q12, Q13, F0, p80, p81, p82, p83, p84, p85, p86, p87, p88, p89, p90, p91, p92⟩ hb hd K hK
                      simp only [Act.put, List.setIfInBounds_toArray, List.set_cons_zero, List.set_cons_succ]
                      rw [if_pos (by rfl)]
                      go_simp
                      exact hK _ _ ⟨.pointer (some ⟨g, 0, none⟩), x81, x82, x83, x84, x85, x86, x87, x88, x89, x90, x91, x92, x93, by simp only [Act.put, List.setIfInBounds_toArray, List.set_cons_zero, List.set_cons_succ], fun h => A0 (by simpa [upb] using h), fun h => by have h4 := Q10 (by simpa [upb] using h); simp [upb, h4.1, h4.2], fun h => by have h4 := Q11 (by simpa [upb] using h); simp [upb, h4], fun h => by have h4 := Q12 (by simpa [upb] using h); simp [upb, h4], fun h => by have h4 := Q13 (by simpa [upb] using h); simp [upb, h4.1, h4.2], fun h => F0 (by simpa [upb] using h), fun _ => rfl, fun h => p81 (by simpa [upb] using h), fun h => p82 (by simpa [upb] using h), fun h => p83 (by simpa [upb] using h), fun h => p84 (by simpa [upb] using h), fun h => p85 (by simpa [upb] using h), fun h => p86 (by simpa [upb] using h), fun h => p87 (by simpa [upb] using h), fun h => p88 (by simpa [upb] using h), fun h => p89 (by simpa [upb] using h), fun h => p90 (by simpa [upb] using h), fun h => p91 (by simpa [upb] using h), fun h => p92 (by simpa [upb] using h)⟩
                    case op1 =>
                      rintro bb _ w' ⟨x80, x81, x82, x83, x84, x85, x86, x87, x88, x89, x90, x91, x92, x93, rfl, A0, Q10, Q11, Q12, Q13, F0, p80, p81, p82, p83, p84, p85, p86, p87, p88, p89, p90, p91, p92⟩ hb hd K hK
                      simp only [Act.put, List.setIfInBounds_toArray, List.set_cons_zero, List.set_cons_succ]
                      rw [if_pos (by rfl)]
                      go_simp
                      exact hK _ _ ⟨x80, .int .i64 x, x82, x83, x84, x85, x86, x87, x88, x89, x90, x91, x92, x93, by simp only [Act.put, List.setIfInBounds_toArray, List.set_cons_zero, List.set_cons_succ], fun h => A0 (by simpa [upb] using h), fun h => by have h4 := Q10 (by simpa [upb] using h); simp [upb, h4.1, h4.2], fun h => by have h4 := Q11 (by simpa [upb] using h); simp [upb, h4], fun h => by have h4 := Q12 (by simpa [upb] using h); simp [upb, h4], fun h => by have h4 := Q13 (by simpa [upb] using h); simp [upb, h4.1, h4.2], fun h => F0 (by simpa [upb] using h), fun h => p80 (by simpa [upb] using h), fun _ => rfl, fun h => p82 (by simpa [upb] using h), fun h => p83 (by simpa [upb] using h), fun h => p84 (by simpa [upb] using h), fun h => p85 (by simpa [upb] using h), fun h => p86 (by simpa [upb] using h), fun h => p87 (by simpa [upb] using h), fun h => p88 (by simpa [upb] using h), fun h => p89 (by simpa [upb] using h), fun h => p90 (by simpa [upb] using h), fun h => p91 (by simpa [upb] using h), fun h => p92 (by simpa [upb] using h)⟩
                    case op2 =>
                      rintro bb _ w' ⟨x80, x81, x82, x83, x84, x85, x86, x87, x88, x89, x90, x91, x92, x93, rfl, A0, Q10, Q11, Q12, Q13, F0, p80, p81, p82, p83, p84, p85, p86, p87, p88, p89, p90, p91, p92⟩ hb hd K hK
                      simp only [Act.put, List.setIfInBounds_toArray, List.set_cons_zero, List.set_cons_succ]
                      rw [if_pos (by rfl)]
                      go_simp
                      exact hK _ _ ⟨x80, x81, .pointer (some ⟨k13, 2, none⟩), x83, x84, x85, x86, x87, x88, x89, x90, x91, x92, x93, by simp only [Act.put, List.setIfInBounds_toArray, List.set_cons_zero, List.set_cons_succ], fun h => A0 (by simpa [upb] using h), fun h => by have h4 := Q10 (by simpa [upb] using h); simp [upb, h4.1, h4.2], fun h => by have h4 := Q11 (by simpa [upb] using h); simp [upb, h4], fun h => by have h4 := Q12 (by simpa [upb] using h); simp [upb, h4], fun h => by have h4 := Q13 (by simpa [upb] using h); simp [upb, h4.1, h4.2], fun h => F0 (by simpa [upb] using h), fun h => p80 (by simpa [upb] using h), fun h => p81 (by simpa [upb] using h), fun _ => rfl, fun h => p83 (by simpa [upb] using h), fun h => p84 (by simpa [upb] using h), fun h => p85 (by simpa [upb] using h), fun h => p86 (by simpa [upb] using h), fun h => p87 (by simpa [upb] using h), fun h => p88 (by simpa [upb] using h), fun h => p89 (by simpa [upb] using h), fun h => p90 (by simpa [upb] using h), fun h => p91 (by simpa [upb] using h), fun h => p92 (by simpa [upb] using h)⟩
                    case op3 =>
                      rintro bb _ w' ⟨x80, x81, x82, x83, x84, x85, x86, x87, x88, x89, x90, x91, x92, x93, rfl, A0, Q10, Q11, Q12, Q13, F0, p80, p81, p82, p83, p84, p85, p86, p87, p88, p89, p90, p91, p92⟩ hb hd K hK
                      simp only [Act.put, List.setIfInBounds_toArray, List.set_cons_zero, List.set_cons_succ]
                      obtain rfl := (p82 (hd 2 (by decide))).symm
                      rw [if_pos (by rfl)]
                      have h13 : bb 13 = false := by cases h : bb 13 with | false => rfl | true => exact absurd ((Q13 h).1) (by rw [hb]; decide)
                      obtain rfl := A0 h13
                      go_simp
                      exact hK _ _ ⟨x80, x81, .pointer (some ⟨k13, 2, none⟩), .int .i64 x2, x84, x85, x86, x87, x88, x89, x90, x91, x92, x93, by simp only [Act.put, List.setIfInBounds_toArray, List.set_cons_zero, List.set_cons_succ], fun h => A0 (by simpa [upb] using h), fun h => by have h4 := Q10 (by simpa [upb] using h); simp [upb, h4.1, h4.2], fun h => by have h4 := Q11 (by simpa [upb] using h); simp [upb, h4], fun h => by have h4 := Q12 (by simpa [upb] using h); simp [upb, h4], fun h => by have h4 := Q13 (by simpa [upb] using h); simp [upb, h4.1, h4.2], fun h => F0 (by simpa [upb] using h), fun h => p80 (by simpa [upb] using h), fun h => p81 (by simpa [upb] using h), fun _ => rfl, fun _ => rfl, fun h => p84 (by simpa [upb] using h), fun h => p85 (by simpa [upb] using h), fun h => p86 (by simpa [upb] using h), fun h => p87 (by simpa [upb] using h), fun h => p88 (by simpa [upb] using h), fun h => p89 (by simpa [upb] using h), fun h => p90 (by simpa [upb] using h), fun h => p91 (by simpa [upb] using h), fun h => p92 (by simpa [upb] using h)⟩
                    case op4 =>
                      rintro bb _ w' ⟨x80, x81, x82, x83, x84, x85, x86, x87, x88, x89, x90, x91, x92, x93, rfl, A0, Q10, Q11, Q12, Q13, F0, p80, p81, p82, p83, p84, p85, p86, p87, p88, p89, p90, p91, p92⟩ hb hd K hK
                      simp only [Act.put, List.setIfInBounds_toArray, List.set_cons_zero, List.set_cons_succ]
                      rw [if_pos (by rfl)]
                      go_simp
                      exact hK _ _ ⟨x80, x81, x82, x83, .pointer (some ⟨g, 0, none⟩), x85, x86, x87, x88, x89, x90, x91, x92, x93, by simp only [Act.put, List.setIfInBounds_toArray, List.set_cons_zero, List.set_cons_succ], fun h => A0 (by simpa [upb] using h), fun h => by have h4 := Q10 (by simpa [upb] using h); simp [upb, h4.1, h4.2], fun h => by have h4 := Q11 (by simpa [upb] using h); simp [upb, h4], fun h => by have h4 := Q12 (by simpa [upb] using h); simp [upb, h4], fun h => by have h4 := Q13 (by simpa [upb] using h); simp [upb, h4.1, h4.2], fun h => F0 (by simpa [upb] using h), fun h => p80 (by simpa [upb] using h), fun h => p81 (by simpa [upb] using h), fun h => p82 (by simpa [upb] using h), fun h => p83 (by simpa [upb] using h), fun _ => rfl, fun h => p85 (by simpa [upb] using h), fun h => p86 (by simpa [upb] using h), fun h => p87 (by simpa [upb] using h), fun h => p88 (by simpa [upb] using h), fun h => p89 (by simpa [upb] using h), fun h => p90 (by simpa [upb] using h), fun h => p91 (by simpa [upb] using h), fun h => p92 (by simpa [upb] using h)⟩
                    case op5 =>
                      rintro bb _ w' ⟨x80, x81, x82, x83, x84, x85, x86, x87, x88, x89, x90, x91, x92, x93, rfl, A0, Q10, Q11, Q12, Q13, F0, p80, p81, p82, p83, p84, p85, p86, p87, p88, p89, p90, p91, p92⟩ hb hd K hK
                      simp only [Act.put, List.setIfInBounds_toArray, List.set_cons_zero, List.set_cons_succ]
                      obtain rfl := (p84 (hd 4 (by decide))).symm
                      rw [if_pos (by rfl)]
                      go_simp
                      exact hK _ _ ⟨x80, x81, x82, x83, .pointer (some ⟨g, 0, none⟩), .pointer (some ⟨g, 0, none⟩), x86, x87, x88, x89, x90, x91, x92, x93, by simp only [Act.put, List.setIfInBounds_toArray, List.set_cons_zero, List.set_cons_succ], fun h => A0 (by simpa [upb] using h), fun h => by have h4 := Q10 (by simpa [upb] using h); simp [upb, h4.1, h4.2], fun h => by have h4 := Q11 (by simpa [upb] using h); simp [upb, h4], fun h => by have h4 := Q12 (by simpa [upb] using h); simp [upb, h4], fun h => by have h4 := Q13 (by simpa [upb] using h); simp [upb, h4.1, h4.2], fun h => F0 (by simpa [upb] using h), fun h => p80 (by simpa [upb] using h), fun h => p81 (by simpa [upb] using h), fun h => p82 (by simpa [upb] using h), fun h => p83 (by simpa [upb] using h), fun _ => rfl, fun _ => rfl, fun h => p86 (by simpa [upb] using h), fun h => p87 (by simpa [upb] using h), fun h => p88 (by simpa [upb] using h), fun h => p89 (by simpa [upb] using h), fun h => p90 (by simpa [upb] using h), fun h => p91 (by simpa [upb] using h), fun h => p92 (by simpa [upb] using h)⟩
                    case op6 =>
                      rintro bb _ w' ⟨x80, x81, x82, x83, x84, x85, x86, x87, x88, x89, x90, x91, x92, x93, rfl, A0, Q10, Q11, Q12, Q13, F0, p80, p81, p82, p83, p84, p85, p86, p87, p88, p89, p90, p91, p92⟩ hb hd K hK
                      simp only [Act.put, List.setIfInBounds_toArray, List.set_cons_zero, List.set_cons_succ]
                      obtain rfl := (p85 (hd 5 (by decide))).symm
                      rw [if_pos (by rfl)]
                      go_simp
                      exact hK _ _ ⟨x80, x81, x82, x83, x84, .pointer (some ⟨g, 0, none⟩), .pointer (some ⟨g, 7, none⟩), x87, x88, x89, x90, x91, x92, x93, by simp only [Act.put, List.setIfInBounds_toArray, List.set_cons_zero, List.set_cons_succ], fun h => A0 (by simpa [upb] using h), fun h => by have h4 := Q10 (by simpa [upb] using h); simp [upb, h4.1, h4.2], fun h => by have h4 := Q11 (by simpa [upb] using h); simp [upb, h4], fun h => by have h4 := Q12 (by simpa [upb] using h); simp [upb, h4], fun h => by have h4 := Q13 (by simpa [upb] using h); simp [upb, h4.1, h4.2], fun h => F0 (by simpa [upb] using h), fun h => p80 (by simpa [upb] using h), fun h => p81 (by simpa [upb] using h), fun h => p82 (by simpa [upb] using h), fun h => p83 (by simpa [upb] using h), fun h => p84 (by simpa [upb] using h), fun _ => rfl, fun _ => rfl, fun h => p87 (by simpa [upb] using h), fun h => p88 (by simpa [upb] using h), fun h => p89 (by simpa [upb] using h), fun h => p90 (by simpa [upb] using h), fun h => p91 (by simpa [upb] using h), fun h => p92 (by simpa [upb] using h)⟩
                    case op7 =>
                      rintro bb _ w' ⟨x80, x81, x82, x83, x84, x85, x86, x87, x88, x89, x90, x91, x92, x93, rfl, A0, Q10, Q11, Q12, Q13, F0, p80, p81, p82, p83, p84, p85, p86, p87, p88, p89, p90, p91, p92⟩ hb hd K hK
                      simp only [Act.put, List.setIfInBounds_toArray, List.set_cons_zero, List.set_cons_succ]
                      obtain rfl := (p86 (hd 6 (by decide))).symm
                      rw [if_pos (by rfl)]
                      have h13 : bb 13 = false := by cases h : bb 13 with | false => rfl | true => exact absurd ((Q10 (Q11 (Q12 (Q13 h).2))).1) (by rw [hb]; decide)
                      obtain rfl := A0 h13
                      go_simp
                      exact hK _ _ ⟨x80, x81, x82, x83, x84, x85, .pointer (some ⟨g, 7, none⟩), .map (some gm), x88, x89, x90, x91, x92, x93, by simp only [Act.put, List.setIfInBounds_toArray, List.set_cons_zero, List.set_cons_succ], fun h => A0 (by simpa [upb] using h), fun h => by have h4 := Q10 (by simpa [upb] using h); simp [upb, h4.1, h4.2], fun h => by have h4 := Q11 (by simpa [upb] using h); simp [upb, h4], fun h => by have h4 := Q12 (by simpa [upb] using h); simp [upb, h4], fun h => by have h4 := Q13 (by simpa [upb] using h); simp [upb, h4.1, h4.2], fun h => F0 (by simpa [upb] using h), fun h => p80 (by simpa [upb] using h), fun h => p81 (by simpa [upb] using h), fun h => p82 (by simpa [upb] using h), fun h => p83 (by simpa [upb] using h), fun h => p84 (by simpa [upb] using h), fun h => p85 (by simpa [upb] using h), fun _ => rfl, fun _ => rfl, fun h => p88 (by simpa [upb] using h), fun h => p89 (by simpa [upb] using h), fun h => p90 (by simpa [upb] using h), fun h => p91 (by simpa [upb] using h), fun h => p92 (by simpa [upb] using h)⟩
                    case op8 =>
                      rintro bb _ w' ⟨x80, x81, x82, x83, x84, x85, x86, x87, x88, x89, x90, x91, x92, x93, rfl, A0, Q10, Q11, Q12, Q13, F0, p80, p81, p82, p83, p84, p85, p86, p87, p88, p89, p90, p91, p92⟩ hb hd K hK
                      simp only [Act.put, List.setIfInBounds_toArray, List.set_cons_zero, List.set_cons_succ]
                      rw [if_pos (by rfl)]
                      go_simp
                      exact hK _ _ ⟨x80, x81, x82, x83, x84, x85, x86, x87, .pointer (some ⟨k13, 2, none⟩), x89, x90, x91, x92, x93, by simp only [Act.put, List.setIfInBounds_toArray, List.set_cons_zero, List.set_cons_succ], fun h => A0 (by simpa [upb] using h), fun h => by have h4 := Q10 (by simpa [upb] using h); simp [upb, h4.1, h4.2], fun h => by have h4 := Q11 (by simpa [upb] using h); simp [upb, h4], fun h => by have h4 := Q12 (by simpa [upb] using h); simp [upb, h4], fun h => by have h4 := Q13 (by simpa [upb] using h); simp [upb, h4.1, h4.2], fun h => F0 (by simpa [upb] using h), fun h => p80 (by simpa [upb] using h), fun h => p81 (by simpa [upb] using h), fun h => p82 (by simpa [upb] using h), fun h => p83 (by simpa [upb] using h), fun h => p84 (by simpa [upb] using h), fun h => p85 (by simpa [upb] using h), fun h => p86 (by simpa [upb] using h), fun h => p87 (by simpa [upb] using h), fun _ => rfl, fun h => p89 (by simpa [upb] using h), fun h => p90 (by simpa [upb] using h), fun h => p91 (by simpa [upb] using h), fun h => p92 (by simpa [upb] using h)⟩
                    case op9 =>
                      rintro bb _ w' ⟨x80, x81, x82, x83, x84, x85, x86, x87, x88, x89, x90, x91, x92, x93, rfl, A0, Q10, Q11, Q12, Q13, F0, p80, p81, p82, p83, p84, p85, p86, p87, p88, p89, p90, p91, p92⟩ hb hd K hK
                      simp only [Act.put, List.setIfInBounds_toArray, List.set_cons_zero, List.set_cons_succ]
                      obtain rfl := (p88 (hd 8 (by decide))).symm
                      rw [if_pos (by rfl)]
                      have h13 : bb 13 = false := by cases h : bb 13 with | false => rfl | true => exact absurd ((Q10 (Q11 (Q12 (Q13 h).2))).2) (by rw [hb]; decide)
                      obtain rfl := A0 h13
                      go_simp
                      exact hK _ _ ⟨x80, x81, x82, x83, x84, x85, x86, x87, .pointer (some ⟨k13, 2, none⟩), .int .i64 x2, x90, x91, x92, x93, by simp only [Act.put, List.setIfInBounds_toArray, List.set_cons_zero, List.set_cons_succ], fun h => A0 (by simpa [upb] using h), fun h => by have h4 := Q10 (by simpa [upb] using h); simp [upb, h4.1, h4.2], fun h => by have h4 := Q11 (by simpa [upb] using h); simp [upb, h4], fun h => by have h4 := Q12 (by simpa [upb] using h); simp [upb, h4], fun h => by have h4 := Q13 (by simpa [upb] using h); simp [upb, h4.1, h4.2], fun h => F0 (by simpa [upb] using h), fun h => p80 (by simpa [upb] using h), fun h => p81 (by simpa [upb] using h), fun h => p82 (by simpa [upb] using h), fun h => p83 (by simpa [upb] using h), fun h => p84 (by simpa [upb] using h), fun h => p85 (by simpa [upb] using h), fun h => p86 (by simpa [upb] using h), fun h => p87 (by simpa [upb] using h), fun _ => rfl, fun _ => rfl, fun h => p90 (by simpa [upb] using h), fun h => p91 (by simpa [upb] using h), fun h => p92 (by simpa [upb] using h)⟩
                    case op10 =>
                      rintro bb _ w' ⟨x80, x81, x82, x83, x84, x85, x86, x87, x88, x89, x90, x91, x92, x93, rfl, A0, Q10, Q11, Q12, Q13, F0, p80, p81, p82, p83, p84, p85, p86, p87, p88, p89, p90, p91, p92⟩ hb hd K hK
                      simp only [Act.put, List.setIfInBounds_toArray, List.set_cons_zero, List.set_cons_succ]
                      obtain rfl := (p87 (hd 7 (by decide))).symm
                      obtain rfl := (p89 (hd 9 (by decide))).symm
                      rw [if_pos (by rfl)]
                      have h13 : bb 13 = false := by cases h : bb 13 with | false => rfl | true => exact absurd (Q11 (Q12 (Q13 h).2)) (by rw [hb]; decide)
                      obtain rfl := A0 h13
                      go_simp
                      exact hK _ _ ⟨x80, x81, x82, x83, x84, x85, x86, .map (some gm), x88, .int .i64 x2, .agg #[.int .i64 y0, .int .i64 y1, .bool y2], x91, x92, x93, by simp only [Act.put, List.setIfInBounds_toArray, List.set_cons_zero, List.set_cons_succ], fun h => A0 (by simpa [upb] using h), fun _ => ⟨by have := hd 7 (by decide); simp [upb, this], by have := hd 9 (by decide); simp [upb, this]⟩, fun h => by have h4 := Q11 (by simpa [upb] using h); simp [upb, h4], fun h => by have h4 := Q12 (by simpa [upb] using h); simp [upb, h4], fun h => by have h4 := Q13 (by simpa [upb] using h); simp [upb, h4.1, h4.2], fun h => F0 (by simpa [upb] using h), fun h => p80 (by simpa [upb] using h), fun h => p81 (by simpa [upb] using h), fun h => p82 (by simpa [upb] using h), fun h => p83 (by simpa [upb] using h), fun h => p84 (by simpa [upb] using h), fun h => p85 (by simpa [upb] using h), fun h => p86 (by simpa [upb] using h), fun _ => rfl, fun h => p88 (by simpa [upb] using h), fun _ => rfl, fun _ => rfl, fun h => p91 (by simpa [upb] using h), fun h => p92 (by simpa [upb] using h)⟩
                    case op11 =>
                      rintro bb _ w' ⟨x80, x81, x82, x83, x84, x85, x86, x87, x88, x89, x90, x91, x92, x93, rfl, A0, Q10, Q11, Q12, Q13, F0, p80, p81, p82, p83, p84, p85, p86, p87, p88, p89, p90, p91, p92⟩ hb hd K hK
                      simp only [Act.put, List.setIfInBounds_toArray, List.set_cons_zero, List.set_cons_succ]
                      obtain rfl := (p90 (hd 10 (by decide))).symm
                      rw [if_pos (by rfl)]
                      have hff := hfl w'
                      go_simp
                      exact hK _ _ ⟨x80, x81, x82, x83, x84, x85, x86, x87, x88, x89, .agg #[.int .i64 y0, .int .i64 y1, .bool y2], .int .i64 y0, x92, x93, by simp only [Act.put, List.setIfInBounds_toArray, List.set_cons_zero, List.set_cons_succ], fun h => A0 (by simpa [upb] using h), fun h => by have h4 := Q10 (by simpa [upb] using h); simp [upb, h4.1, h4.2], fun _ => by have := hd 10 (by decide); simp [upb, this], fun h => by have h4 := Q12 (by simpa [upb] using h); simp [upb, h4], fun h => by have h4 := Q13 (by simpa [upb] using h); simp [upb, h4.1, h4.2], fun h => F0 (by simpa [upb] using h), fun h => p80 (by simpa [upb] using h), fun h => p81 (by simpa [upb] using h), fun h => p82 (by simpa [upb] using h), fun h => p83 (by simpa [upb] using h), fun h => p84 (by simpa [upb] using h), fun h => p85 (by simpa [upb] using h), fun h => p86 (by simpa [upb] using h), fun h => p87 (by simpa [upb] using h), fun h => p88 (by simpa [upb] using h), fun h => p89 (by simpa [upb] using h), fun _ => rfl, fun _ => rfl, fun h => p92 (by simpa [upb] using h)⟩
                    case op12 =>
                      rintro bb _ w' ⟨x80, x81, x82, x83, x84, x85, x86, x87, x88, x89, x90, x91, x92, x93, rfl, A0, Q10, Q11, Q12, Q13, F0, p80, p81, p82, p83, p84, p85, p86, p87, p88, p89, p90, p91, p92⟩ hb hd K hK
                      simp only [Act.put, List.setIfInBounds_toArray, List.set_cons_zero, List.set_cons_succ]
                      obtain rfl := (p91 (hd 11 (by decide))).symm
                      rw [if_pos (by rfl)]
                      have hw : IntKind.i64.wrap (y0 + 1) = y0 + 1 := IntWalk.i64_in _ (by omega)
                      go_simp
                      exact hK _ _ ⟨x80, x81, x82, x83, x84, x85, x86, x87, x88, x89, x90, .int .i64 y0, .int .i64 (y0 + 1), x93, by simp only [Act.put, List.setIfInBounds_toArray, List.set_cons_zero, List.set_cons_succ], fun h => A0 (by simpa [upb] using h), fun h => by have h4 := Q10 (by simpa [upb] using h); simp [upb, h4.1, h4.2], fun h => by have h4 := Q11 (by simpa [upb] using h); simp [upb, h4], fun _ => by have := hd 11 (by decide); simp [upb, this], fun h => by have h4 := Q13 (by simpa [upb] using h); simp [upb, h4.1, h4.2], fun h => F0 (by simpa [upb] using h), fun h => p80 (by simpa [upb] using h), fun h => p81 (by simpa [upb] using h), fun h => p82 (by simpa [upb] using h), fun h => p83 (by simpa [upb] using h), fun h => p84 (by simpa [upb] using h), fun h => p85 (by simpa [upb] using h), fun h => p86 (by simpa [upb] using h), fun h => p87 (by simpa [upb] using h), fun h => p88 (by simpa [upb] using h), fun h => p89 (by simpa [upb] using h), fun h => p90 (by simpa [upb] using h), fun _ => rfl, fun _ => rfl⟩
                    case op13 =>
                      rintro bb _ w' ⟨x80, x81, x82, x83, x84, x85, x86, x87, x88, x89, x90, x91, x92, x93, rfl, A0, Q10, Q11, Q12, Q13, F0, p80, p81, p82, p83, p84, p85, p86, p87, p88, p89, p90, p91, p92⟩ hb hd K hK
                      simp only [Act.put, List.setIfInBounds_toArray, List.set_cons_zero, List.set_cons_succ]
                      obtain rfl := (p80 (hd 0 (by decide))).symm
                      obtain rfl := (p81 (hd 1 (by decide))).symm
                      obtain rfl := (p83 (hd 3 (by decide))).symm
                      obtain rfl := (p92 (hd 12 (by decide))).symm
                      rw [if_pos (by rfl)]
                      obtain rfl := A0 hb
                      go_simp
                      refine CC.out.mono ?_
                      rintro e w9 ⟨rfl, v9, hs9, hf9, hm9⟩
                      have hfin : ∃ v9, Ss w w9 g (⟨mw, mh, ms, .func (.func 12) #[] #[.pointer (some a)], goal, near, gm⟩ : SP) v9 (cm_l F l x (y0 + 1) (fvO (⟨mw, mh, ms, .func (.func 12) #[] #[.pointer (some a)], goal, near, gm⟩ : SP) dd)) (cm_F F x x2 (y0 + 1)) ∧ Fr wb.drew w9 g gm v.ownBlock ∧ Mv wb.drew v v9 := ⟨v9, hs9, hf9, hm9⟩
                      exact hK _ _ ⟨.pointer (some ⟨g, 0, none⟩), .int .i64 x, x82, .int .i64 x2, x84, x85, x86, x87, x88, x89, x90, x91, .int .i64 (y0 + 1), .tuple #[], by simp only [Act.put, List.setIfInBounds_toArray, List.set_cons_zero, List.set_cons_succ], fun h => absurd h (by simp [upb]), fun h => by have h4 := Q10 (by simpa [upb] using h); simp [upb, h4.1, h4.2], fun h => by have h4 := Q11 (by simpa [upb] using h); simp [upb, h4], fun h => by have h4 := Q12 (by simpa [upb] using h); simp [upb, h4], fun _ => ⟨by have := hd 3 (by decide); simp [upb, this], by have := hd 12 (by decide); simp [upb, this]⟩, fun _ => hfin, fun _ => rfl, fun _ => rfl, fun h => p82 (by simpa [upb] using h), fun _ => rfl, fun h => p84 (by simpa [upb] using h), fun h => p85 (by simpa [upb] using h), fun h => p86 (by simpa [upb] using h), fun h => p87 (by simpa [upb] using h), fun h => p88 (by simpa [upb] using h), fun h => p89 (by simpa [upb] using h), fun h => p90 (by simpa [upb] using h), fun h => p91 (by simpa [upb] using h), fun _ => rfl⟩
                    case done =>
                      rintro bb _ w' hb ⟨x80, x81, x82, x83, x84, x85, x86, x87, x88, x89, x90, x91, x92, x93, rfl, A0, Q10, Q11, Q12, Q13, F0, p80, p81, p82, p83, p84, p85, p86, p87, p88, p89, p90, p91, p92⟩
                      obtain rfl := (p80 (hb 0 (by decide))).symm
                      obtain rfl := (p81 (hb 1 (by decide))).symm
                      obtain rfl := (p82 (hb 2 (by decide))).symm
                      obtain rfl := (p83 (hb 3 (by decide))).symm
                      obtain rfl := (p84 (hb 4 (by decide))).symm
                      obtain rfl := (p85 (hb 5 (by decide))).symm
                      obtain rfl := (p86 (hb 6 (by decide))).symm
                      obtain rfl := (p87 (hb 7 (by decide))).symm
                      obtain rfl := (p88 (hb 8 (by decide))).symm
                      obtain rfl := (p89 (hb 9 (by decide))).symm
                      obtain rfl := (p90 (hb 10 (by decide))).symm
                      obtain rfl := (p91 (hb 11 (by decide))).symm
                      obtain rfl := (p92 (hb 12 (by decide))).symm
                      simp only [Act.put, List.setIfInBounds_toArray, List.set_cons_zero, List.set_cons_succ]
                      obtain ⟨v9, hs9, hf9, hm9⟩ := F0 (hb 13 (by decide))
                      have HS9 := Lib.hid hs9
                      have H59 := Lib.hid (hf9.blk (show wb.drew.heap[w.heap.size]? = _ from h50.out) hne1 hne2 (HNB.out wb h50.out hS0.out))
                      have H139 := Lib.hid (hf9.blk (show wb.drew.heap[k13]? = _ from h130.out) hkg hkm hk13)
                      have hk139 := hm9.ne (show k13 < wb.drew.heap.size from blk_lt h130.out) hk13
                      have HN9 := Lib.hid (R_fr HSD.out hf9 (Kd.R_drew hN0.out))
                      clear A0 Q10 Q11 Q12 Q13 F0 hb hs9 hf9 hm9 CC HSD hr2 g7 g2 hfl
                      go_wp2_with fail
                      go_roundg k2
                      case measure => omega
                      case rel => exact ⟨j + 1, v9, _, _, by push_cast; rfl, by omega, by omega, HX3, HS9, H59, H139, hk139, HN9⟩
end Go.Proofs.Ytkbimhngbdbgdaa.PPathFinds
