/- Path: the search against the document's. No program in sight. -/
import Derived.Test.YtkbimhngbdbgdaaQV
import Derived.Test.YtkbimhngbdbgdaaFind
namespace Go.Proofs.Ytkbimhngbdbgdaa.Pure
open Go.RowKit Go.Proofs.Ytkbimhngbdbgdaa.PPathFinds Go.Proofs.YtkbimhngbdbgdaaW.PrintWords Go.Proofs.YtkbimhngbdbgdaaW.PrintLast Go.Proofs.YtkbimhngbdbgdaaW.PrintMore
set_option linter.unusedVariables false
set_option maxHeartbeats 2000000
theorem at_up {a b : Int} {s : ByteArray} (h : Okd a b s) {t : Int} (ht : onB s t = true) (c : 1 ≤ t / a) : onB s (t - a) = true ∧ (t - a) % a = t % a ∧ (t - a) / a = t / a - 1 := by
  obtain ⟨p1, p2, -⟩ := xy_in h ht
  have e := Int.mul_ediv_add_emod t a
  have hs := h.2.2.2.2
  have t1 := onB_true ht
  have h1 := h.1
  have m2 : a * (t / a - 1) = a * (t / a) - a := by rw [Int.mul_sub, Int.mul_one]
  have m3 : 0 ≤ a * (t / a - 1) := Int.mul_nonneg (by omega) (by omega)
  obtain ⟨f1, f2⟩ := div_mod_at (a := a) (by omega) (t % a) (t / a - 1) (t - a) p1 (by omega)
  exact ⟨by simp [onB]; omega, f1, f2⟩
theorem at_rt {a b : Int} {s : ByteArray} (h : Okd a b s) {t : Int} (ht : onB s t = true) (c : t % a + 1 < a) : onB s (t + 1) = true ∧ (t + 1) % a = t % a + 1 ∧ (t + 1) / a = t / a := by
  obtain ⟨p1, p2, -⟩ := xy_in h ht
  have e := Int.mul_ediv_add_emod t a
  have hs := h.2.2.2.2
  have t1 := onB_true ht
  have h1 := h.1
  have m := mul_bounds (a := a) (b := b) (by omega) p2
  obtain ⟨f1, f2⟩ := div_mod_at (a := a) (by omega) (t % a + 1) (t / a) (t + 1) (by omega) (by omega)
  exact ⟨by simp [onB]; omega, f1, f2⟩
theorem at_dn {a b : Int} {s : ByteArray} (h : Okd a b s) {t : Int} (ht : onB s t = true) (c : t / a + 1 < b) : onB s (t + a) = true ∧ (t + a) % a = t % a ∧ (t + a) / a = t / a + 1 := by
  obtain ⟨p1, p2, -⟩ := xy_in h ht
  have e := Int.mul_ediv_add_emod t a
  have hs := h.2.2.2.2
  have t1 := onB_true ht
  have h1 := h.1
  have m2 : a * (t / a + 1) = a * (t / a) + a := by rw [Int.mul_add, Int.mul_one]
  have m3 := mul_bounds (a := a) (b := b) (y := t / a + 1) (by omega) (by omega)
  obtain ⟨f1, f2⟩ := div_mod_at (a := a) (by omega) (t % a) (t / a + 1) (t + a) p1 (by omega)
  exact ⟨by simp [onB]; omega, f1, f2⟩
theorem at_lf {a b : Int} {s : ByteArray} (h : Okd a b s) {t : Int} (ht : onB s t = true) (c : 1 ≤ t % a) : onB s (t - 1) = true ∧ (t - 1) % a = t % a - 1 ∧ (t - 1) / a = t / a := by
  obtain ⟨p1, p2, -⟩ := xy_in h ht
  have e := Int.mul_ediv_add_emod t a
  have hs := h.2.2.2.2
  have t1 := onB_true ht
  have h1 := h.1
  have m := mul_bounds (a := a) (b := b) (by omega) p2
  obtain ⟨f1, f2⟩ := div_mod_at (a := a) (by omega) (t % a - 1) (t / a) (t - 1) (by omega) (by omega)
  exact ⟨by simp [onB]; omega, f1, f2⟩
theorem next_mem {a b t L : Int} : L ∈ grid_nextA a b t 4 ↔ (1 ≤ t / a ∧ L = t - a) ∨ (t % a + 1 < a ∧ L = t + 1) ∨ (t / a + 1 < b ∧ L = t + a) ∨ (1 ≤ t % a ∧ L = t - 1) := by
  unfold grid_nextA
  by_cases c0 : 1 ≤ t / a <;> by_cases c1 : t % a + 1 < a <;> by_cases c2 : t / a + 1 < b <;> by_cases c3 : 1 ≤ t % a <;> simp [c0, c1, c2, c3]
theorem next_at {a b : Int} {s : ByteArray} (h : Okd a b s) {t L : Int} (ht : onB s t = true) (hL : L ∈ grid_nextA a b t 4) :
    onB s L = true ∧ ((L % a = t % a ∧ (L / a = t / a - 1 ∨ L / a = t / a + 1)) ∨ (L / a = t / a ∧ (L % a = t % a - 1 ∨ L % a = t % a + 1))) := by
  rcases next_mem.1 hL with ⟨c, rfl⟩ | ⟨c, rfl⟩ | ⟨c, rfl⟩ | ⟨c, rfl⟩
  · obtain ⟨h1, h2, h3⟩ := at_up h ht c
    exact ⟨h1, .inl ⟨h2, .inl h3⟩⟩
  · obtain ⟨h1, h2, h3⟩ := at_rt h ht c
    exact ⟨h1, .inr ⟨h3, .inr h2⟩⟩
  · obtain ⟨h1, h2, h3⟩ := at_dn h ht c
    exact ⟨h1, .inl ⟨h2, .inr h3⟩⟩
  · obtain ⟨h1, h2, h3⟩ := at_lf h ht c
    exact ⟨h1, .inr ⟨h3, .inl h2⟩⟩

theorem next_ne {a b : Int} {s : ByteArray} (h : Okd a b s) {t L : Int} (ht : onB s t = true) (hL : L ∈ grid_nextA a b t 4) : L ≠ t := by
  rintro rfl
  have := (next_at h ht hL).2
  omega
theorem Rl.mono {a : Int} {s : ByteArray} {goal near from_ : Int} {all : List S58} {l : List S51} {F : Seen} {m m' : Int} (h : Rl a s goal near from_ all l F m) (hm : m ≤ m') : Rl a s goal near from_ all l F m' :=
  ⟨h.hr, h.len, h.at_, h.out, fun t g b k hF => by have := h.gb t g b k hF; omega, h.zero, h.back⟩
theorem in_l0 (l : List Int) (x : Int) (hl : l.length ≤ 1000000) : ∀ (d i k : Nat), i + d = l.length → d < k → rematchref10_in.l0 k l x i = some (decide (x ∈ l.drop i))
  | 0, i, k, hi, hk => by
    obtain ⟨k, rfl⟩ : ∃ k', k = k' + 1 := ⟨k - 1, by omega⟩
    rw [rematchref10_in.l0, if_neg (by omega), List.drop_eq_nil_of_le (by omega)]
    simp
  | d + 1, i, k, hi, hk => by
    obtain ⟨k, rfl⟩ : ∃ k', k = k' + 1 := ⟨k - 1, by omega⟩
    have hil : i < l.length := by omega
    have hw : wrap64 ((i : Int) + 1) = ((i + 1 : Nat) : Int) := by unfold wrap64; omega
    have hrd : rd l (i : Int) = l[i] := by unfold rd; rw [Int.toNat_natCast, List.getD_eq_getElem?_getD, List.getElem?_eq_getElem hil]; rfl
    rw [rematchref10_in.l0, if_pos (by omega), if_pos (by omega), hrd, List.drop_eq_getElem_cons hil]
    by_cases e : l[i] = x
    · rw [if_pos e]; simp [e]
    · rw [if_neg e, hw, in_l0 l x hl d (i + 1) k (by omega) (by omega)]
      congr 1
      rw [decide_eq_decide]
      simp only [List.mem_cons]
      exact ⟨fun hh => .inr hh, fun hh => by rcases hh with hh | hh; exact absurd hh.symm e; exact hh⟩
theorem in_eq (l : List Int) (x : Int) (hl : l.length ≤ 1000000) (k : Nat) (hk : l.length < k) : rematchref10_in.f k l x = some (decide (x ∈ l)) := by
  have := in_l0 l x hl l.length 0 k (by omega) hk
  rw [List.drop_zero] at this
  exact this
theorem walk_is {a b : Int} {s : ByteArray} (h : Okd a b s) (x : Int) : ∃ c, grid_Map_Walk.f a b s x = some (c == 0) ∧ rematchref07_Map_Is.f a b s x = some c := by
  obtain ⟨c, h1, h2⟩ := is_eq h x
  exact ⟨c, by unfold grid_Map_Walk.f; rw [h1]; rfl, h2⟩
/-- the tiles next to one, in turn -/
theorem in_rel {a b : Int} {s : ByteArray} (h : Okd a b s) {goal near from_ : Int} (hn : 0 ≤ near ∧ near ≤ 9223372036854775807) (busy : List Int) (hbl : busy.length ≤ 1000) (q : SP) (hq : q.mw = a ∧ q.mh = b ∧ q.ms = s ∧ q.goal = goal ∧ q.near = near) (nx : List Int) (hnx : nx.length ≤ 4) (i : Nat) (hi : i < 600)
    {tile g0 b0 : Int} {tk0 : Bool} (hto : onB s tile = true) (hx : ∀ x, x ∈ nx → onB s x = true ∧ x ≠ tile) (m : Int) (hm : m ≤ 899) (hg0 : g0 ≤ m) :
    ∀ (d j : Nat) (all : List S58) (l : List S51) (F : Seen), j + d = nx.length → Rl a s goal near from_ all l F (m + 1) → F tile = some (g0, b0, tk0) → l.length + d ≤ 100000 →
    ∃ all' l' F', fd_in q (fun x => decide (x ∈ busy)) tile (nx.drop j) l F = some (l', F') ∧ Rl a s goal near from_ all' l' F' (m + 1) ∧ l'.length ≤ l.length + d ∧
      ∀ k, busy.length + 2 < k → rematchref10_Find.l2 (k + d + 1) busy from_ goal near all i tile nx j a b s = rematchref10_Find.l0 k busy from_ goal near all' ((i + 1 : Nat) : Int) a b s
  | 0, j, all, l, F, hj, hR, hF, hll => by
    refine ⟨all, l, F, ?_, hR, by omega, fun k hk => ?_⟩
    · rw [List.drop_eq_nil_of_le (by omega)]; rfl
    · have hw : wrap64 ((i : Int) + 1) = ((i + 1 : Nat) : Int) := by unfold wrap64; omega
      rw [rematchref10_Find.l2, if_neg (by omega), hw]
  | d + 1, j, all, l, F, hj, hR, hF, hll => by
    have hjl : j < nx.length := by omega
    obtain ⟨x, hxx⟩ : ∃ x, nx[j] = x := ⟨_, rfl⟩
    have hxm : x ∈ nx := by rw [← hxx]; exact List.getElem_mem hjl
    obtain ⟨hxo, hxt⟩ := hx x hxm
    have hox := onB_true hxo
    have hot := onB_true hto
    have hrd : rd nx (j : Int) = x := by unfold rd; rw [Int.toNat_natCast, List.getD_eq_getElem?_getD, List.getElem?_eq_getElem hjl, hxx]; rfl
    have HW := Lib.hid (show wrap64 ((j : Int) + 1) = ((j + 1 : Nat) : Int) by unfold wrap64; omega)
    obtain ⟨c, hwk, his⟩ := walk_is h x
    have hgm := hR.gb _ _ _ _ hF
    have hga : (rd_T58 all tile).f2 = g0 := by rw [hR.at_ tile hto, hF]; rfl
    have hgx : rd_T58 all x = tileOf from_ x (F x) := hR.at_ x hxo
    have hcut : nx.drop j = x :: nx.drop (j + 1) := by rw [List.drop_eq_getElem_cons hjl, hxx]
    have hfar : farO q x = some (farI a s x goal) := by
      unfold farO; rw [hq.1, hq.2.1, hq.2.2.1, hq.2.2.2.1]; exact far_g h x goal 5 (by omega)
    have hfv : fvO q (farI a s x goal) = hh a s goal near x := by unfold fvO hh; rw [hq.2.2.2.2]
    have hfr := farI_range h x goal
    have hwq : grid_Map_Walk.f q.mw q.mh q.ms x = some (c == 0) := by rw [hq.1, hq.2.1, hq.2.2.1]; exact hwk
    have HW2 := Lib.hid (w64 (x := g0 + 1) (by omega))
    -- the document's step
    have step : ∀ k, busy.length + 2 < k → rematchref10_Find.l2 (k + (d + 1) + 1) busy from_ goal near all i tile nx j a b s =
        if c = 0 ∧ ¬ (x ∈ busy) ∧ ¬ ((rd_T58 all x).f0 = true ∧ (rd_T58 all x).f2 ≤ g0 + 1) then rematchref10_Find.l2 (k + d + 1) busy from_ goal near (all.set x.toNat ⟨true, true, g0 + 1, tile⟩) i tile nx ((j + 1 : Nat) : Int) a b s
        else rematchref10_Find.l2 (k + d + 1) busy from_ goal near all i tile nx ((j + 1 : Nat) : Int) a b s := fun k hk => by
      rw [show k + (d + 1) + 1 = (k + d + 1) + 1 by omega, rematchref10_Find.l2, if_pos (by omega), if_pos (by omega), hrd, if_pos hox.1, if_pos (by rw [hR.len]; exact hox.2), his, Option.bind_some, HW.out]
      by_cases hc : c = 0
      · rw [if_pos hc, in_eq busy x (by omega) _ (by omega), Option.bind_some]
        by_cases hbz : x ∈ busy
        · rw [if_pos (by simpa using hbz), if_neg (fun hh => hh.2.1 hbz)]
        · have hlt : tile < (all.length : Int) := by rw [hR.len]; exact hot.2
          rw [if_neg (by simpa using hbz), if_pos hot.1, if_pos hlt, if_pos hot.1, if_pos hlt, hga, HW2.out]
          by_cases hse : (rd_T58 all x).f0 = true
          · rw [if_pos hse]
            by_cases hle : (rd_T58 all x).f2 ≤ g0 + 1
            · rw [if_pos hle, if_neg (fun hh => hh.2.2 ⟨hse, hle⟩)]
            · rw [if_neg hle, if_pos ⟨hc, hbz, fun hh => hle hh.2⟩]
          · rw [if_neg hse, if_pos ⟨hc, hbz, fun hh => hse hh.1⟩]
      · rw [if_neg hc, if_neg (fun hh => hc hh.1)]
    by_cases hcond : c = 0 ∧ ¬ (x ∈ busy)
    · by_cases hsk : (rd_T58 all x).f0 = true ∧ (rd_T58 all x).f2 ≤ g0 + 1
      · -- it was come to before
        obtain ⟨gx, bx, kx, hFx, hgx2⟩ : ∃ gx bx kx, F x = some (gx, bx, kx) ∧ gx ≤ g0 + 1 := by
          rw [hgx] at hsk
          cases hFx : F x with
          | none => rw [hFx] at hsk; exact absurd hsk.1 (by simp [tileOf, z58])
          | some y => obtain ⟨g, b, k⟩ := y; rw [hFx] at hsk; exact ⟨g, b, k, rfl, hsk.2⟩
        have hskip := skip_true (gg := g0 + 1) hFx hgx2
        obtain ⟨all', l', F', r1, r2, r3, r4⟩ := in_rel h hn busy hbl q hq nx hnx i hi hto hx m hm hg0 d (j + 1) all l F (by omega) hR hF (by omega)
        refine ⟨all', l', F', ?_, r2, by omega, fun k hk => ?_⟩
        · rw [hcut]
          unfold fd_in
          rw [hwq, Option.bind_some, if_pos ⟨by simp [hcond.1], by simpa using hcond.2⟩, hfar, Option.bind_some, hF, Option.getD_some]
          simp only
          rw [if_pos ⟨hfr.1, by omega, by omega, by omega, by omega⟩]
          unfold cm_l cm_F
          rw [hskip, if_pos rfl, if_pos rfl]
          exact r1
        · rw [step k hk, if_neg (fun hh => hh.2.2 hsk)]
          exact r4 k hk
      · have hs : ∀ g' b' k', F x = some (g', b', k') → g0 + 1 < g' := fun g' b' k' hFx => by
          rw [hgx, hFx] at hsk
          have : ¬ (g' ≤ g0 + 1) := fun hle => hsk ⟨rfl, hle⟩
          omega
        have hskip := skip_false (F := F) (t := x) (gg := g0 + 1) hs
        have hR2 := hR.comes hxo hF (by omega) hs (fun t => (hh_range h hn.1 t).1)
        have hF2 : sUp F x (g0 + 1, tile, false) tile = some (g0, b0, tk0) := by unfold sUp; rw [if_neg (fun e => hxt e.symm)]; exact hF
        obtain ⟨all', l', F', r1, r2, r3, r4⟩ := in_rel h hn busy hbl q hq nx hnx i hi hto hx m hm hg0 d (j + 1) _ _ _ (by omega) hR2 hF2 (by rw [hp_push_len]; omega)
        rw [hp_push_len] at r3
        refine ⟨all', l', F', ?_, r2, by omega, fun k hk => ?_⟩
        · rw [hcut]
          unfold fd_in
          rw [hwq, Option.bind_some, if_pos ⟨by simp [hcond.1], by simpa using hcond.2⟩, hfar, Option.bind_some, hF, Option.getD_some]
          simp only
          rw [if_pos ⟨hfr.1, by omega, by omega, by omega, by omega⟩]
          unfold cm_l cm_F
          rw [hskip, if_neg (by decide), if_neg (by decide), hfv]
          exact r1
        · rw [step k hk, if_pos ⟨hcond.1, hcond.2, hsk⟩]
          exact r4 k hk
    · obtain ⟨all', l', F', r1, r2, r3, r4⟩ := in_rel h hn busy hbl q hq nx hnx i hi hto hx m hm hg0 d (j + 1) all l F (by omega) hR hF (by omega)
      refine ⟨all', l', F', ?_, r2, by omega, fun k hk => ?_⟩
      · rw [hcut]
        unfold fd_in
        rw [hwq, Option.bind_some, if_neg (fun hh => hcond ⟨by simpa using hh.1, by simpa using hh.2⟩)]
        exact r1
      · rw [step k hk, if_neg (fun hh => hcond ⟨hh.1, hh.2.1⟩)]
        exact r4 k hk
/-- the search, told alike -/
theorem fd_rel {a b : Int} {s : ByteArray} (h : Okd a b s) (h2 : 2 ≤ a) {goal near from_ : Int} (hn : 0 ≤ near ∧ near ≤ 9223372036854775807) (busy : List Int) (hbl : busy.length ≤ 1000) (q : SP) (hq : q.mw = a ∧ q.mh = b ∧ q.ms = s ∧ q.goal = goal ∧ q.near = near) :
    ∀ (n i : Nat) (all : List S58) (l : List S51) (F : Seen), n + i = 600 → Rl a s goal near from_ all l F i → l.length ≤ 1 + 4 * i →
    ∃ R, fd q (fun x => decide (x ∈ busy)) n l F = some R ∧ ∃ K, ∀ k, K ≤ k → rematchref10_Find.l0 k busy from_ goal near all i a b s = some R
  | 0, i, all, l, F, hni, hR, hl => by
    refine ⟨([], false), rfl, 1, fun k hk => ?_⟩
    obtain ⟨k, rfl⟩ : ∃ k', k = k' + 1 := ⟨k - 1, by omega⟩
    rw [rematchref10_Find.l0, if_neg (by omega)]
  | n + 1, i, all, l, F, hni, hR, hl => by
    have hbest := fun k hk => best_eq h hn hR (m := i) (by omega) k hk
    rcases tk_spec (hh a s goal near) (l.length + 1) l F (by omega) hR.hr with ⟨hno, hT⟩ | ⟨t, g, by_, l2, hF, hT, hr2, hl2, hmin⟩
    · refine ⟨([], false), ?_, s.size + 3, fun k hk => ?_⟩
      · unfold fd
        rw [if_pos (by omega), if_pos hT]
      · obtain ⟨k, rfl⟩ : ∃ k', k = k' + 1 := ⟨k - 1, by omega⟩
        rw [rematchref10_Find.l0, if_pos (by omega), (hbest k (by omega)).1 hno, Option.bind_some, if_pos (by decide)]
    · have hon : onB s t = true := by
        cases ho : onB s t with
        | true => rfl
        | false => rw [hR.out t ho] at hF; cases hF
      have hot := onB_true hon
      have hR2 := hR.take hF hr2
      have hgb := hR.gb _ _ _ _ hF
      have hF2 : sUp F t (g, by_, true) t = some (g, by_, true) := by unfold sUp; rw [if_pos rfl]
      have hdoc : ∀ k, s.size + 2 ≤ k → rematchref10_Find.l0 (k + 1) busy from_ goal near all i a b s = (if hh a s goal near t = 0 then rematchref10_Find.l1 k from_ (all.set t.toNat ⟨(rd_T58 all t).f0, false, (rd_T58 all t).f2, (rd_T58 all t).f3⟩) t [] else
          (rematchref07_Map_Next.f k a b s t).bind fun t171 => rematchref10_Find.l2 k busy from_ goal near (all.set t.toNat ⟨(rd_T58 all t).f0, false, (rd_T58 all t).f2, (rd_T58 all t).f3⟩) i t t171 0 a b s) := fun k hk => by
        rw [rematchref10_Find.l0, if_pos (by omega), (hbest k hk).2 t g by_ hF hmin, Option.bind_some, if_neg (by omega), if_pos hot.1, if_pos (by rw [hR.len]; exact hot.2), Option.bind_some, rfar_eq h hn t k (by omega), Option.bind_some]
      by_cases hz : hh a s goal near t = 0
      · obtain ⟨r, w1, w2, w3⟩ := way_rel hR2 (by omega) 900 t g by_ true hF2 (by omega)
        refine ⟨(r.reverse, true), ?_, s.size + 1000, fun k hk => ?_⟩
        · unfold fd
          rw [if_pos (by omega), hT]
          simp only
          rw [if_neg (by decide), if_pos hz, w1 1000 (by omega), Option.bind_some, if_pos (by omega)]
        · obtain ⟨k, rfl⟩ : ∃ k', k = k' + 1 := ⟨k - 1, by omega⟩
          rw [hdoc k (by omega), if_pos hz, w3 [] (by simp) (by omega) k (by omega)]
          simp
      · have hnx : grid_Map_Next.f q.mw q.mh q.ms t = some (grid_nextA a b t 4) := by
          rw [hq.1, hq.2.1, hq.2.2.1]
          unfold grid_Map_Next.f
          rw [if_pos ⟨h.1, h.2.1, h.2.2.1, h.2.2.2.1, h.2.2.2.2⟩, if_pos hot]
        have hnl := grid_nextA_len a b t 4
        obtain ⟨all', l', F', r1, r2, r3, r4⟩ := in_rel h hn busy hbl q hq (grid_nextA a b t 4) hnl i (by omega) hon (fun x hx => ⟨(next_at h hon hx).1, next_ne h hon hx⟩) i (by omega) hgb.2 (grid_nextA a b t 4).length 0 _ l2 _ (by omega) (hR2.mono (by omega)) hF2 (by omega)
        rw [List.drop_zero] at r1
        obtain ⟨R, f1, K, f2⟩ := fd_rel h h2 hn busy hbl q hq n (i + 1) all' l' F' (by omega) (by have := r2.mono (show (i : Int) + 1 ≤ ((i + 1 : Nat) : Int) by omega); exact this) (by omega)
        refine ⟨R, ?_, K + s.size + busy.length + 20, fun k hk => ?_⟩
        · unfold fd
          rw [if_pos (by omega), hT]
          simp only
          rw [if_neg (by decide), if_neg hz, hnx, Option.bind_some, if_pos (by omega), r1, Option.bind_some]
          exact f1
        · obtain ⟨k, rfl⟩ : ∃ k', k = k' + 1 := ⟨k - 1, by omega⟩
          rw [hdoc k (by omega), if_neg hz, next_r h h2 hon k (by omega), Option.bind_some]
          have := r4 (k - ((grid_nextA a b t 4).length + 1)) (by omega)
          rw [show k - ((grid_nextA a b t 4).length + 1) + (grid_nextA a b t 4).length + 1 = k by omega] at this
          rw [show ((0 : Nat) : Int) = 0 from rfl] at this
          rw [this]
          exact f2 _ (by omega)
end Go.Proofs.Ytkbimhngbdbgdaa.Pure
