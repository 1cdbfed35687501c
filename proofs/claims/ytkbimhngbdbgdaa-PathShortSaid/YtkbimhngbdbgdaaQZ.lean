/- Path: the law's own search, tile by tile. No program in sight. -/
import Derived.Test.YtkbimhngbdbgdaaQY
namespace Go.Proofs.Ytkbimhngbdbgdaa.Pure
open Go.RowKit Go.Proofs.Ytkbimhngbdbgdaa.PPathFinds Go.Proofs.YtkbimhngbdbgdaaW.PrintWords Go.Proofs.YtkbimhngbdbgdaaW.PrintLast Go.Proofs.YtkbimhngbdbgdaaW.PrintMore
set_option linter.unusedVariables false
set_option maxHeartbeats 2000000
abbrev Stp := Int → Option Int
def iUp (S : Stp) (x v : Int) : Stp := fun j => if j = x then some v else S j
/-- the tiles next to one, in the law's search -/
def bi (a b : Int) (s : ByteArray) (B : Int → Bool) (t : Int) : List Int → Stp → List Int → Option (Stp × List Int)
  | [], S, w => some (S, w)
  | x :: r, S, w => if (S x).isSome = true then bi a b s B t r S w else (grid_Map_Walk.f a b s x).bind fun wk => if wk = true ∧ B x = false then (if 0 ≤ (S t).getD 0 ∧ (S t).getD 0 ≤ 100000 ∧ w.length ≤ 100000 then bi a b s B t r (iUp S x ((S t).getD 0 + 1)) (w ++ [x]) else none) else bi a b s B t r S w
/-- the law's search -/
def bf (a b : Int) (s : ByteArray) (B : Int → Bool) (goal near : Int) : Nat → Stp → List Int → Int → Option Int
  | 0, _, _, _ => none
  | k + 1, S, w, least => match w with
    | [] => some least
    | t :: r => if least < 0 then (grid_Map_Far.f 5 a b s t goal).bind fun d => (grid_Map_Next.f a b s t).bind fun nx => (bi a b s B t nx S r).bind fun p => bf a b s B goal near k p.1 p.2 (if d ≤ near then (S t).getD 0 else least) else some least
def vl (S : Stp) (u : Int) : Int := (S u).getD 0
structure Bs (a b : Int) (s : ByteArray) (B : Int → Bool) (goal near from_ : Int) (S : Stp) (w : List Int) (cur : Int) (pend : List Int) (c : Int) : Prop where
  snd : ∀ t g, S t = some g → ∃ N : Nat, g = N ∧ Rch a b s B from_ N t
  start : S from_ = some 0
  inq : ∀ x, x ∈ w → (S x).isSome = true
  exp : ∀ t g, S t = some g → t ∉ w → ∀ x, x ∈ grid_nextA a b t 4 → Free a b s B x → (t = cur ∧ x ∈ pend) ∨ ∃ g', S x = some g' ∧ g' ≤ g + 1
  srt : w.Pairwise (fun u v => vl S u ≤ vl S v)
  rng : ∀ u, u ∈ w → c ≤ vl S u ∧ vl S u ≤ c + 1
  nod : w.Nodup
  top : ∀ u g, S u = some g → g ≤ c + 1
theorem Bs.through {a b : Int} {s : ByteArray} {B : Int → Bool} {goal near from_ : Int} {S : Stp} {w : List Int} {cur c : Int} (h : Bs a b s B goal near from_ S w cur [] c) {k : Nat} {t : Int} (hr : Rch a b s B from_ k t) :
    (∃ g, S t = some g ∧ t ∉ w ∧ g ≤ k) ∨ ∃ u, u ∈ w ∧ ∃ m : Nat, vl S u + m ≤ k ∧ Rch a b s B u m t := by
  have put : ∀ t g (k : Nat), S t = some g → g ≤ k → (∃ g, S t = some g ∧ t ∉ w ∧ g ≤ k) ∨ ∃ u, u ∈ w ∧ ∃ m : Nat, vl S u + m ≤ k ∧ Rch a b s B u m t := fun t g k hS hg => by
    by_cases hw : t ∈ w
    · exact .inr ⟨t, hw, 0, by unfold vl; rw [hS, Option.getD_some]; omega, .here⟩
    · exact .inl ⟨g, hS, hw, hg⟩
  induction hr with
  | here => exact put from_ 0 0 h.start (by omega)
  | step hr hx hf ih =>
    rename_i k t x
    rcases ih with ⟨g, hS, hw, hg⟩ | ⟨u, hu, m, hm, hp⟩
    · rcases h.exp t g hS hw x hx hf with ⟨-, hp⟩ | ⟨g', hS', hg'⟩
      · cases hp
      · exact put x g' (k + 1) hS' (by push_cast; omega)
    · exact .inr ⟨u, hu, m + 1, by push_cast; omega, .step hp hx hf⟩
def unS (s : ByteArray) (S : Stp) : Nat := (List.range s.size).countP fun v : Nat => (S (v : Int)).isNone
theorem bi_rel {a b : Int} {s : ByteArray} (h : Okd a b s) {B : Int → Bool} {goal near from_ : Int} {t g : Int} (hgb : 0 ≤ g ∧ g ≤ 1000) : ∀ (r : List Int) (S : Stp) (w : List Int), w.length + r.length ≤ 2000 → Bs a b s B goal near from_ S w t r g → S t = some g → t ∉ w → (∀ x, x ∈ r → x ∈ grid_nextA a b t 4 ∧ onB s x = true) →
    (∀ u gu, S u = some gu → u ∉ w → hh a s goal near u ≠ 0) →
    ∃ S' w', bi a b s B t r S w = some (S', w') ∧ Bs a b s B goal near from_ S' w' t [] g ∧ (∀ u gu, S' u = some gu → u ∉ w' → hh a s goal near u ≠ 0) ∧ unS s S' + w'.length ≤ unS s S + w.length ∧ w'.length ≤ w.length + r.length
  | [], S, w, hwl, hB, hS, hw, hr, hg => ⟨S, w, rfl, hB, hg, Nat.le_refl _, by simp⟩
  | x :: r, S, w, hwl, hB, hS, hw, hr, hg => by
    rw [List.length_cons] at hwl
    obtain ⟨hxn, hxo⟩ := hr x (List.mem_cons_self ..)
    have hr2 : ∀ y, y ∈ r → y ∈ grid_nextA a b t 4 ∧ onB s y = true := fun y hy => hr y (List.mem_cons_of_mem _ hy)
    have skip : ((S x).isSome = true ∨ ¬ Free a b s B x) → ∃ S' w', bi a b s B t r S w = some (S', w') ∧ Bs a b s B goal near from_ S' w' t [] g ∧ (∀ u gu, S' u = some gu → u ∉ w' → hh a s goal near u ≠ 0) ∧ unS s S' + w'.length ≤ unS s S + w.length ∧ w'.length ≤ w.length + r.length := fun hc => by
      refine bi_rel h hgb r S w (by omega) ⟨hB.snd, hB.start, hB.inq, fun u gu hu huw y hy hfy => ?_, hB.srt, hB.rng, hB.nod, hB.top⟩ hS hw hr2 hg
      rcases hB.exp u gu hu huw y hy hfy with ⟨rfl, hp⟩ | hp
      · rcases List.mem_cons.1 hp with rfl | hp
        · right
          rcases hc with hc | hc
          · obtain ⟨gx, hgx⟩ := Option.isSome_iff_exists.1 hc
            rw [hS] at hu
            obtain rfl := Option.some.inj hu
            exact ⟨gx, hgx, hB.top _ _ hgx⟩
          · exact absurd hfy hc
        · exact .inl ⟨rfl, hp⟩
      · exact .inr hp
    unfold bi
    by_cases hsome : (S x).isSome = true
    · rw [if_pos hsome]
      obtain ⟨S', w', q1, q2, q3, q4, q5⟩ := skip (.inl hsome)
      exact ⟨S', w', q1, q2, q3, q4, by simp; omega⟩
    · rw [if_neg hsome]
      obtain ⟨c, hwk, -⟩ := walk_is h x
      rw [hwk, Option.bind_some]
      by_cases hc : (c == 0) = true ∧ B x = false
      · rw [if_pos hc]
        have hfr : Free a b s B x := ⟨by rw [hwk, hc.1], hc.2⟩
        obtain ⟨N, hN, hrt⟩ := hB.snd t g hS
        have hxw : x ∉ w := fun hx => hsome (hB.inq x hx)
        have hxS : S x = none := by simpa using hsome
        have hval : (S t).getD 0 = g := by rw [hS, Option.getD_some]
        rw [hval, if_pos (by omega)]
        have htx : t ≠ x := fun e => by rw [e, hxS] at hS; cases hS
        have same : ∀ u, u ≠ x → iUp S x (g + 1) u = S u := fun u hu => by unfold iUp; rw [if_neg hu]
        have atx : iUp S x (g + 1) x = some (g + 1) := by unfold iUp; rw [if_pos rfl]
        have old : ∀ u gu, iUp S x (g + 1) u = some gu → (u = x ∧ gu = g + 1) ∨ (u ≠ x ∧ S u = some gu) := fun u gu hu => by
          by_cases e : u = x
          · rw [e, atx] at hu
            exact .inl ⟨e, (Option.some.inj hu).symm⟩
          · rw [same u e] at hu; exact .inr ⟨e, hu⟩
        have keep : ∀ u gu, S u = some gu → iUp S x (g + 1) u = some gu := fun u gu hu => by
          rw [same u (fun e => by rw [e, hxS] at hu; cases hu)]; exact hu
        have vls : ∀ u, u ∈ w → vl (iUp S x (g + 1)) u = vl S u := fun u hu => by
          unfold vl; rw [same u (fun e => hxw (e ▸ hu))]
        have vlx : vl (iUp S x (g + 1)) x = g + 1 := by unfold vl; rw [atx]; rfl
        have hB2 : Bs a b s B goal near from_ (iUp S x (g + 1)) (w ++ [x]) t r g := by
          refine ⟨fun u gu hu => ?_, keep _ _ hB.start, fun u hu => ?_, fun u gu hu huw y hy hfy => ?_, ?_, fun u hu => ?_, ?_, fun u gu hu => ?_⟩
          · rcases old u gu hu with ⟨rfl, rfl⟩ | ⟨-, hu⟩
            · exact ⟨N + 1, by push_cast; omega, .step hrt hxn hfr⟩
            · exact hB.snd u gu hu
          · rcases List.mem_append.1 hu with hu | hu
            · obtain ⟨gu, hgu⟩ := Option.isSome_iff_exists.1 (hB.inq u hu)
              rw [keep _ _ hgu]; rfl
            · rw [List.mem_singleton.1 hu, atx]; rfl
          · rcases old u gu hu with ⟨rfl, -⟩ | ⟨hux, hu⟩
            · exact absurd (List.mem_append.2 (.inr (List.mem_singleton.2 rfl))) huw
            · have huw2 : u ∉ w := fun hh => huw (List.mem_append.2 (.inl hh))
              rcases hB.exp u gu hu huw2 y hy hfy with ⟨e, hp⟩ | ⟨g', h1, h2⟩
              · rcases List.mem_cons.1 hp with e2 | hp
                · right
                  have hu2 : S u = some gu := hu
                  rw [e, hS] at hu2
                  have hu3 := Option.some.inj hu2
                  exact ⟨_, by rw [e2]; exact atx, by omega⟩
                · exact .inl ⟨e, hp⟩
              · exact .inr ⟨g', keep _ _ h1, h2⟩
          · rw [List.pairwise_append]
            refine ⟨?_, List.pairwise_singleton _ _, fun u hu v hv => ?_⟩
            · refine List.Pairwise.imp_of_mem ?_ hB.srt
              intro u v hu hv hle
              rw [vls u hu, vls v hv]; exact hle
            · rw [List.mem_singleton.1 hv, vlx, vls u hu]
              exact (hB.rng u hu).2
          · rcases List.mem_append.1 hu with hu | hu
            · rw [vls u hu]; exact hB.rng u hu
            · rw [List.mem_singleton.1 hu, vlx]; omega
          · rw [List.nodup_append]
            refine ⟨hB.nod, by simp, fun u hu v hv => ?_⟩
            rw [List.mem_singleton.1 hv]
            exact fun e => hxw (e ▸ hu)
          · rcases old u gu hu with ⟨-, rfl⟩ | ⟨-, hu⟩
            · omega
            · exact hB.top u gu hu
        obtain ⟨S', w', q1, q2, q3, q4, q5⟩ := bi_rel h hgb r (iUp S x (g + 1)) (w ++ [x]) (by rw [List.length_append, List.length_singleton]; omega) hB2 (by rw [same t htx]; exact hS) (by
            intro hh
            rcases List.mem_append.1 hh with hh | hh
            · exact hw hh
            · exact htx (List.mem_singleton.1 hh)) hr2 (fun u gu hu huw => by
            rcases old u gu hu with ⟨rfl, -⟩ | ⟨-, hu⟩
            · exact absurd (List.mem_append.2 (.inr (List.mem_singleton.2 rfl))) huw
            · exact hg u gu hu (fun hh => huw (List.mem_append.2 (.inl hh))))
        refine ⟨S', w', q1, q2, q3, ?_, by simp at q5 ⊢; omega⟩
        have hox := onB_true hxo
        have hcnt := countP_lt (fun v : Nat => (S (v : Int)).isNone) (fun v : Nat => (iUp S x (g + 1) (v : Int)).isNone) (List.range s.size) x.toNat (by rw [List.mem_range]; omega) (fun v hv => by
            cases hSv : S (v : Int) with
            | none => rfl
            | some gv => rw [keep _ _ hSv] at hv; exact hv) (by
            show (S ((x.toNat : Nat) : Int)).isNone = true
            rw [show ((x.toNat : Nat) : Int) = x by omega, hxS]; rfl) (by
            show (iUp S x (g + 1) ((x.toNat : Nat) : Int)).isNone = false
            rw [show ((x.toNat : Nat) : Int) = x by omega, atx]; rfl)
        unfold unS at q4 ⊢
        rw [List.length_append, List.length_singleton] at q4
        omega
      · rw [if_neg hc]
        obtain ⟨S', w', q1, q2, q3, q4, q5⟩ := skip (.inr fun hfr => hc ⟨by have := hfr.1; rw [hwk] at this; exact Option.some.inj this, hfr.2⟩)
        exact ⟨S', w', q1, q2, q3, q4, by simp; omega⟩
theorem bf_rel {a b : Int} {s : ByteArray} (h : Okd a b s) {B : Int → Bool} {goal near from_ : Int} (hn : 0 ≤ near) (hg : onB s goal = true) (hfr : onB s from_ = true) : ∀ (k : Nat) (S : Stp) (w : List Int) (cur c : Int), Bs a b s B goal near from_ S w cur [] c → (∀ u gu, S u = some gu → u ∉ w → hh a s goal near u ≠ 0) → unS s S + w.length + 1 < k → (0 ≤ c ∧ c + k ≤ 500) →
    ∃ v, bf a b s B goal near k S w (-1) = some v ∧ (0 ≤ v → ∃ (N : Nat) (t : Int), v = N ∧ Rch a b s B from_ N t ∧ hh a s goal near t = 0 ∧ ∀ (k' : Nat) (t' : Int), Rch a b s B from_ k' t' → hh a s goal near t' = 0 → N ≤ k') ∧ (v < 0 → v = -1 ∧ ∀ (k' : Nat) (t' : Int), Rch a b s B from_ k' t' → hh a s goal near t' ≠ 0)
  | 0, S, w, cur, c, hB, hno, hk, hck => by omega
  | k + 1, S, w, cur, c, hB, hno, hk, hck => by
    cases w with
    | nil =>
      refine ⟨-1, rfl, fun hh => by omega, fun _ => ⟨rfl, fun k' t' hr hz => ?_⟩⟩
      rcases hB.through hr with ⟨g, hS, hw, -⟩ | ⟨u, hu, -⟩
      · exact hno _ _ hS hw hz
      · cases hu
    | cons t r =>
      obtain ⟨g, hS⟩ := Option.isSome_iff_exists.1 (hB.inq t (List.mem_cons_self ..))
      obtain ⟨N, hN, hrt⟩ := hB.snd t g hS
      have hon := hrt.on h hfr
      have hot := onB_true hon
      have hvt : vl S t = g := by unfold vl; rw [hS]; rfl
      have hnod := List.nodup_cons.1 hB.nod
      have hsrt := List.pairwise_cons.1 hB.srt
      have hrt2 := hB.rng t (List.mem_cons_self ..)
      rw [hvt] at hrt2
      have hnx : grid_Map_Next.f a b s t = some (grid_nextA a b t 4) := by
        unfold grid_Map_Next.f
        rw [if_pos ⟨h.1, h.2.1, h.2.2.1, h.2.2.2.1, h.2.2.2.2⟩, if_pos hot]
      have hfar := far_g h t goal 5 (by omega)
      have hnl := grid_nextA_len a b t 4
      have hiff : farI a s t goal ≤ near ↔ hh a s goal near t = 0 := by
        unfold hh
        split <;> omega
      have hB2 : Bs a b s B goal near from_ S r t (grid_nextA a b t 4) g := by
        refine ⟨hB.snd, hB.start, fun u hu => hB.inq u (List.mem_cons_of_mem _ hu), fun u gu hu hur y hy hfy => ?_, hsrt.2, fun u hu => ?_, hnod.2, fun u gu hu => ?_⟩
        · by_cases e : u = t
          · subst e; exact .inl ⟨rfl, hy⟩
          · rcases hB.exp u gu hu (fun hh => (List.mem_cons.1 hh).elim e hur) y hy hfy with ⟨-, hp⟩ | hp
            · cases hp
            · exact .inr hp
        · have h1 := hsrt.1 u hu
          have h2 := hB.rng u (List.mem_cons_of_mem _ hu)
          rw [hvt] at h1
          omega
        · have := hB.top u gu hu
          omega
      unfold bf
      simp only
      rw [if_pos (by decide), hfar, Option.bind_some, hnx, Option.bind_some]
      by_cases hz : hh a s goal near t = 0
      · -- what is next to it does not count any more
        have hbi : ∃ p, bi a b s B t (grid_nextA a b t 4) S r = some p := by
          have any : ∀ (l : List Int) (S : Stp) (w : List Int), S t = some g → w.length + l.length ≤ 2000 → ∃ p, bi a b s B t l S w = some p := by
            intro l
            induction l with
            | nil => intro S w _ _; exact ⟨_, rfl⟩
            | cons x l ih =>
              intro S w hSt hwl
              rw [List.length_cons] at hwl
              unfold bi
              by_cases hsome : (S x).isSome = true
              · rw [if_pos hsome]; exact ih _ _ hSt (by omega)
              · rw [if_neg hsome]
                obtain ⟨c, hwk, -⟩ := walk_is h x
                rw [hwk, Option.bind_some]
                split
                · rw [hSt, Option.getD_some, if_pos (by omega)]
                  refine ih _ _ ?_ (by rw [List.length_append, List.length_singleton]; omega)
                  unfold iUp
                  rw [if_neg (fun e => hsome (by rw [← e, hSt]; rfl))]
                  exact hSt
                · exact ih _ _ hSt (by omega)
          exact any _ _ _ hS (by simp at hk; omega)
        obtain ⟨p, hp⟩ := hbi
        rw [hp, Option.bind_some, if_pos (hiff.2 hz), hS, Option.getD_some]
        obtain ⟨k, rfl⟩ : ∃ k', k = k' + 1 := ⟨k - 1, by simp at hk; omega⟩
        refine ⟨g, ?_, fun _ => ⟨N, t, hN, hrt, hz, fun k' t' hr hz' => ?_⟩, fun hneg => by omega⟩
        · unfold bf
          split
          · rfl
          · rw [if_neg (by omega)]
        · rcases hB.through hr with ⟨g', hS', hw', -⟩ | ⟨u, hu, m, hm, -⟩
          · exact absurd hz' (hno _ _ hS' hw')
          · rcases List.mem_cons.1 hu with rfl | hu
            · omega
            · have := hsrt.1 u hu
              omega
      · obtain ⟨S', w', q1, q2, q3, q4, q5⟩ := bi_rel h ⟨by omega, by omega⟩ (grid_nextA a b t 4) S r (by simp at hk; omega) hB2 hS hnod.1 (fun x hx => ⟨hx, (next_at h hon hx).1⟩) (fun u gu hu hur => by
          by_cases e : u = t
          · subst e; exact hz
          · exact hno u gu hu (fun hh => (List.mem_cons.1 hh).elim e hur))
        rw [q1, Option.bind_some, if_neg (fun hh => hz (hiff.1 hh))]
        exact bf_rel h hn hg hfr k S' w' t g q2 q3 (by simp at hk; omega) ⟨by omega, by omega⟩
/-- the law's search finds the least number -/
theorem bf_good {a b : Int} {s : ByteArray} (h : Okd a b s) {B : Int → Bool} {goal near from_ : Int} (hn : 0 ≤ near) (hg : onB s goal = true) (hfr : onB s from_ = true) (hs : s.size ≤ 400) :
    ∃ v, bf a b s B goal near 500 (fun j => if j = from_ then some 0 else none) [from_] (-1) = some v ∧ (0 ≤ v → ∃ (N : Nat) (t : Int), v = N ∧ Rch a b s B from_ N t ∧ hh a s goal near t = 0 ∧ ∀ (k' : Nat) (t' : Int), Rch a b s B from_ k' t' → hh a s goal near t' = 0 → N ≤ k') ∧ (v < 0 → v = -1 ∧ ∀ (k' : Nat) (t' : Int), Rch a b s B from_ k' t' → hh a s goal near t' ≠ 0) := by
  have old : ∀ u gu, (if u = from_ then some (0 : Int) else none) = some gu → u = from_ ∧ gu = 0 := fun u gu hu => by
    split at hu
    · exact ⟨by assumption, (Option.some.inj hu).symm⟩
    · cases hu
  refine bf_rel h hn hg hfr 500 _ _ 0 0 ⟨fun u gu hu => ?_, by rw [if_pos rfl], fun u hu => ?_, fun u gu hu huw => ?_, List.pairwise_singleton _ _, fun u hu => ?_, by simp, fun u gu hu => ?_⟩ (fun u gu hu huw => ?_) ?_ ?_
  · obtain ⟨rfl, rfl⟩ := old u gu hu
    exact ⟨0, rfl, .here⟩
  · rw [List.mem_singleton.1 hu, if_pos rfl]; rfl
  · obtain ⟨rfl, -⟩ := old u gu hu
    exact absurd (List.mem_singleton.2 rfl) huw
  · rw [List.mem_singleton.1 hu]
    unfold vl
    simp
  · obtain ⟨-, rfl⟩ := old u gu hu; omega
  · obtain ⟨rfl, -⟩ := old u gu hu
    exact absurd (List.mem_singleton.2 rfl) huw
  · have : unS s (fun j => if j = from_ then some 0 else none) ≤ s.size := by
      unfold unS
      have := List.countP_le_length (p := fun v : Nat => ((if (v : Int) = from_ then some (0 : Int) else none) : Option Int).isNone) (l := List.range s.size)
      rw [List.length_range] at this
      exact this
    simp
    omega
  · exact ⟨by omega, by omega⟩
/-- what both searches found -/
theorem both_good {a b : Int} {s : ByteArray} {B : Int → Bool} {goal near from_ v : Int} {R : List Int × Bool} (hG : Good a b s B goal near from_ R)
    (h1 : 0 ≤ v → ∃ (N : Nat) (t : Int), v = N ∧ Rch a b s B from_ N t ∧ hh a s goal near t = 0 ∧ ∀ (k' : Nat) (t' : Int), Rch a b s B from_ k' t' → hh a s goal near t' = 0 → N ≤ k') (h2 : v < 0 → v = -1 ∧ ∀ (k' : Nat) (t' : Int), Rch a b s B from_ k' t' → hh a s goal near t' ≠ 0) :
    (v < 0 → R.2 = false ∧ R.1 = []) ∧ (0 ≤ v → R.2 = true ∧ (R.1.length : Int) = v ∧ ∃ t, Fwd a b s B from_ R.1 t ∧ hh a s goal near t = 0) := by
  refine ⟨fun hv => ?_, fun hv => ?_⟩
  · cases hR : R.2 with
    | false => exact ⟨rfl, (hG.2 hR).1⟩
    | true =>
      obtain ⟨t, hf, hz, -⟩ := hG.1 hR
      exact absurd hz ((h2 hv).2 _ _ (Fwd.rch .here hf))
  · obtain ⟨N, t, hN, hr, hz, hmin⟩ := h1 hv
    cases hR : R.2 with
    | false => exact absurd hz ((hG.2 hR).2 _ _ hr)
    | true =>
      obtain ⟨t', hf, hz', hle⟩ := hG.1 hR
      have e1 := hle _ _ hr hz
      have e2 := hmin _ _ (Fwd.rch .here hf) hz'
      exact ⟨rfl, by omega, t', hf, hz'⟩
theorem next_far {a b : Int} {s : ByteArray} (h : Okd a b s) {t x : Int} (ht : onB s t = true) (hx : x ∈ grid_nextA a b t 4) : farI a s t x = 1 := by
  obtain ⟨hxo, hn⟩ := next_at h ht hx
  unfold farI
  rw [if_pos ⟨ht, hxo⟩]
  unfold dst mx
  rcases hn with ⟨e1, e2⟩ | ⟨e1, e2⟩
  · rw [e1]; rcases e2 with e2 | e2 <;> rw [e2] <;> omega
  · rw [e1]; rcases e2 with e2 | e2 <;> rw [e2] <;> omega
end Go.Proofs.Ytkbimhngbdbgdaa.Pure
