import Derived.Test.YtocadookdkmahaaGA
import Derived.Test.YtocadookdkmahaaPDeltaDiffsx4
/- Layer 3 (delta): what mix tells, in plain words. -/
namespace Go.Proofs.Ytocadookdkmahaa.PDl
open Go.RowKit Go.Proofs.YtocadookdkmahaaW.PrintWords Go.Proofs.YtocadookdkmahaaW.PrintLast
open Go.Proofs.Ytocadookdkmahaa.PLz (IsB isB_get)
open Go.Proofs.Ytocadookdkmahaa.PDeltaDiffs (delta_mix.f delta_mix.l0)
set_option linter.unusedVariables false
def dl_mixF (a : List Int) : Nat → Nat → List Int → List Int
  | 0, _, cur => cur
  | f + 1, i, cur => dl_mixF a f (i + 1) (cur.set i (Go.bits .xor .u8 (rd cur i) (rd a i)))
def dl_mix (a b : List Int) : List Int := dl_mixF a (min a.length b.length) 0 b
theorem dl_mixF_len (a : List Int) : ∀ (f i : Nat) (cur : List Int), (dl_mixF a f i cur).length = cur.length
  | 0, i, cur => rfl
  | f + 1, i, cur => by rw [dl_mixF, dl_mixF_len a f, List.length_set]
theorem dl_mix_len (a b : List Int) : (dl_mix a b).length = b.length := dl_mixF_len _ _ _ _
theorem dl_mix_l0 (a : List Int) (m : Nat) (hm : m ≤ 1000000) : ∀ (f i : Nat) (cur : List Int), i + f = m → m ≤ a.length → m ≤ cur.length → delta_mix.l0 (f + 1) a cur (m : Int) (i : Int) = some (dl_mixF a f i cur) := by
  intro f
  induction f with
  | zero =>
    intro i cur h1 h2 h3
    rw [delta_mix.l0, if_neg (by omega), dl_mixF]
  | succ f ih =>
    intro i cur h1 h2 h3
    have w1 : wrap64 ((i : Int) + 1) = ((i + 1 : Nat) : Int) := by unfold wrap64; omega
    rw [delta_mix.l0, if_pos (by omega), if_pos (by omega), if_pos (by omega), if_pos (by omega), w1, Int.toNat_natCast]
    exact ih (i + 1) _ (by omega) h2 (by rw [List.length_set]; exact h3)
theorem dl_mix_f (a b : List Int) (ha : a.length ≤ 1000000) (hb : b.length ≤ 1000000) : delta_mix.f (min a.length b.length + 1) a b = some (dl_mix a b) := by
  unfold delta_mix.f PDeltaDiffs.slices_Clone_byte_byte.f
  rw [if_pos (by omega), Option.bind_some]
  have hmn : mn (a.length : Int) (b.length : Int) = ((min a.length b.length : Nat) : Int) := by
    unfold mn
    split <;> omega
  rw [hmn]
  exact dl_mix_l0 a _ (by omega) _ 0 b (by omega) (by omega) (by omega)
theorem dl_xor_byte (x y : Int) (hx : 0 ≤ x ∧ x < 256) (hy : 0 ≤ y ∧ y < 256) : 0 ≤ Go.bits .xor .u8 x y ∧ Go.bits .xor .u8 x y < 256 := by
  simp only [Go.bits]
  rw [IntKind.wrap_u8]
  omega
theorem dl_mixF_isB {a : List Int} (ha : IsB a) : ∀ (f i : Nat) (cur : List Int), IsB cur → IsB (dl_mixF a f i cur)
  | 0, i, cur, h => h
  | f + 1, i, cur, h => by
    rw [dl_mixF]
    refine dl_mixF_isB ha f (i + 1) _ (fun x hx => ?_)
    rcases List.mem_or_eq_of_mem_set hx with hx | rfl
    · exact h x hx
    · unfold rd
      exact dl_xor_byte _ _ (isB_get h _) (isB_get ha _)
theorem dl_mix_isB {a b : List Int} (ha : IsB a) (hb : IsB b) : IsB (dl_mix a b) := dl_mixF_isB ha _ _ _ hb
end Go.Proofs.Ytocadookdkmahaa.PDl

/- Layer 3 (delta): the document's zero, in plain words. -/
namespace Go.Proofs.Ytocadookdkmahaa.PDl
open Go.RowKit Go.Proofs.YtocadookdkmahaaW.PrintWords Go.Proofs.YtocadookdkmahaaW.PrintLast
open Go.Proofs.Ytocadookdkmahaa.PLz (IsB isB_get str_size str_bt)
open Go.Proofs.Ytocadookdkmahaa.PDeltaDiffs
set_option linter.unusedVariables false
theorem zero_l0 {x : List Int} (hx : IsB x) (hl : x.length ≤ 4000) (F n : Nat) (hF : F ≤ 8000) (hn : n ≤ 8000) : ∀ (e i : Nat), i + e = F + n →
    Ev (fun k => rematchref03_zero.l0 k (strOfNums x) F n i) (decide (min e (x.length - i) ≤ dl_zeros (x.drop i))) := by
  intro e
  induction e with
  | zero =>
    intro i h
    have w1 : wrap64 ((F : Int) + n) = ((F + n : Nat) : Int) := by unfold wrap64; omega
    refine Ev.step (f := fun k => rematchref03_zero.j1 k (strOfNums x) F n i false) (fun k => ?_) (Ev.step (f := fun _ => some true) (fun k => ?_) ?_)
    · rw [rematchref03_zero.l0, w1, if_neg (by omega)]
    · rw [rematchref03_zero.j1, if_neg (by decide)]
    · rw [decide_eq_true (by omega)]; exact Ev.now _
  | succ e ih =>
    intro i h
    have w1 : wrap64 ((F : Int) + n) = ((F + n : Nat) : Int) := by unfold wrap64; omega
    have w2 : wrap64 ((i : Int) + 1) = ((i + 1 : Nat) : Int) := by unfold wrap64; omega
    by_cases hi : i < x.length
    · refine Ev.step (f := fun k => rematchref03_zero.j1 k (strOfNums x) F n i true) (fun k => ?_) ?_
      · rw [rematchref03_zero.l0, w1, if_pos (by omega), str_size, decide_eq_true (by omega)]
      · have e1 : bt (strOfNums x) ((i : Nat) : Int) = x.getD i 0 := str_bt hx _ (by omega) (by omega)
        by_cases h0 : x.getD i 0 = 0
        · have hz := dl_zeros_at hi h0
          have hd : decide (min (e + 1) (x.length - i) ≤ dl_zeros (x.drop i)) = decide (min e (x.length - (i + 1)) ≤ dl_zeros (x.drop (i + 1))) := by
            apply decide_eq_decide.2
            omega
          rw [hd]
          refine Ev.step (fun k => ?_) (ih (i + 1) (by omega))
          rw [rematchref03_zero.j1, if_pos rfl, if_pos (by omega), if_pos (by rw [str_size]; omega), e1, if_pos h0, w2]
        · have hz := dl_zeros_off hi h0
          rw [hz, decide_eq_false (by omega)]
          refine Ev.step (f := fun _ => some false) (fun k => ?_) (Ev.now _)
          rw [rematchref03_zero.j1, if_pos rfl, if_pos (by omega), if_pos (by rw [str_size]; omega), e1, if_neg h0]
    · refine Ev.step (f := fun k => rematchref03_zero.j1 k (strOfNums x) F n i false) (fun k => ?_) (Ev.step (f := fun _ => some true) (fun k => ?_) ?_)
      · rw [rematchref03_zero.l0, w1, if_pos (by omega), str_size, decide_eq_false (by omega)]
      · rw [rematchref03_zero.j1, if_neg (by decide)]
      · rw [decide_eq_true (by omega)]; exact Ev.now _
theorem zero_f {x : List Int} (hx : IsB x) (hl : x.length ≤ 4000) (F n : Nat) (hF : F ≤ 8000) (hn : n ≤ 8000) :
    Ev (fun k => rematchref03_zero.f k (strOfNums x) F n) (decide (min n (x.length - F) ≤ dl_zeros (x.drop F))) := by
  have := zero_l0 hx hl F n hF hn n F rfl
  unfold rematchref03_zero.f
  exact this
end Go.Proofs.Ytocadookdkmahaa.PDl

/- Layer 3 (delta): the document's runs of zeros, in plain words. -/
namespace Go.Proofs.Ytocadookdkmahaa.PDl
open Go.RowKit Go.Proofs.YtocadookdkmahaaW.PrintWords Go.Proofs.YtocadookdkmahaaW.PrintLast
open Go.Proofs.Ytocadookdkmahaa.PLz (IsB isB_get str_size str_bt)
open Go.Proofs.Ytocadookdkmahaa.PDeltaDiffs
set_option linter.unusedVariables false
theorem dl_zeros_succ {l : List Int} {i s : Nat} (h : dl_zeros (l.drop i) = s + 1) : i < l.length ∧ l.getD i 0 = 0 ∧ dl_zeros (l.drop (i + 1)) = s := by
  have hi : i < l.length := by
    rcases Nat.lt_or_ge i l.length with h1 | h1
    · exact h1
    · rw [dl_zeros_end h1] at h; cases h
  by_cases h0 : l.getD i 0 = 0
  · have := dl_zeros_at hi h0
    exact ⟨hi, h0, by omega⟩
  · rw [dl_zeros_off hi h0] at h; cases h
theorem dl_zeros_none {l : List Int} {i : Nat} (hi : i < l.length) (h : dl_zeros (l.drop i) = 0) : l.getD i 0 ≠ 0 := fun h0 => by
  have := dl_zeros_at hi h0
  omega
theorem ref_l1 {x : List Int} (hx : IsB x) (hl : x.length ≤ 4000) (s6 : ByteArray) (p q : Nat) (r : ByteArray) (hq : q < x.length) (h2 : Ev (fun k => rematchref03_Diff.l2 k (strOfNums x) s6 p q q) r) (hq0 : dl_zeros (x.drop q) = 0) :
    ∀ (s i : Nat), i + s = q → dl_zeros (x.drop i) = s → Ev (fun k => rematchref03_Diff.l1 k (strOfNums x) s6 p i) r := by
  intro s
  induction s with
  | zero =>
    intro i h1 hz
    obtain rfl : i = q := by omega
    have hne := dl_zeros_none hq hz
    have e1 : bt (strOfNums x) ((i : Nat) : Int) = x.getD i 0 := str_bt hx _ (by omega) (by omega)
    refine Ev.step (fun k => ?_) h2
    rw [rematchref03_Diff.l1, if_pos (by omega), if_pos (by rw [str_size]; omega), e1, if_neg hne]
  | succ s ih =>
    intro i h1 hz
    obtain ⟨hi, h0, hz2⟩ := dl_zeros_succ hz
    have e1 : bt (strOfNums x) ((i : Nat) : Int) = x.getD i 0 := str_bt hx _ (by omega) (by omega)
    have w2 : wrap64 ((i : Int) + 1) = ((i + 1 : Nat) : Int) := by unfold wrap64; omega
    refine Ev.step (fun k => ?_) (ih (i + 1) (by omega) hz2)
    rw [rematchref03_Diff.l1, if_pos (by omega), if_pos (by rw [str_size]; omega), e1, if_pos h0, w2]
end Go.Proofs.Ytocadookdkmahaa.PDl

/- Layer 3 (delta): the document's numbers, and what it puts for a run. -/
namespace Go.Proofs.Ytocadookdkmahaa.PDl
open Go.RowKit Go.Proofs.YtocadookdkmahaaW.PrintWords Go.Proofs.YtocadookdkmahaaW.PrintLast
open Go.Proofs.Ytocadookdkmahaa.PLz (IsB isB_get str_size str_bt str_app str_cut)
open Go.Proofs.Ytocadookdkmahaa.PDeltaDiffs
set_option linter.unusedVariables false
theorem ref_varint (k : Nat) : ∀ n : Int, 0 ≤ n → n < 128 * 128 ^ k → n < 18446744073709551616 → k ≤ 9 → PDeltaDiffs.rematchref01_Varint.f (k + 1) n = some (strOfNums (PLz.wire_vb k n)) := by
  induction k with
  | zero =>
    intro n h0 h1 _ _
    simp only [Int.pow_zero, Int.mul_one] at h1
    rw [PDeltaDiffs.rematchref01_Varint.f, if_pos h1]
    rfl
  | succ k ih =>
    intro n h0 h1 h2 hk
    by_cases hn : n < 128
    · rw [PDeltaDiffs.rematchref01_Varint.f, if_pos hn, PLz.wire_vb, if_neg (by omega)]
    · have hp : (128 : Int) ^ (k + 1) = 128 * 128 ^ k := by rw [Int.pow_succ]; omega
      rw [PDeltaDiffs.rematchref01_Varint.f, if_neg hn]
      simp only [Option.bind_some]
      have e1 : Int.tdiv n 128 = n / 128 := Int.tdiv_eq_ediv_of_nonneg h0
      have e2 : Int.tmod n 128 = n % 128 := Int.tmod_eq_emod_of_nonneg h0
      have w1 : IntKind.u64.wrap (n / 128) = n / 128 := by rw [IntKind.wrap_u64]; omega
      have w2 : IntKind.u64.wrap (n % 128 + 128) % 256 = n % 128 + 128 := by rw [IntKind.wrap_u64]; omega
      have hl := (PLz.wire_vb_len k (n / 128)).2
      rw [e1, e2, w1, w2, ih (n / 128) (by omega) (by omega) (by omega) (by omega)]
      simp only [Option.bind_some]
      rw [if_pos (by rw [str_size, str_size, List.length_singleton]; omega), ← PLz.str_app, PLz.wire_vb, if_pos (by omega)]
      rfl
theorem varint_ev (n : Int) (h : 0 ≤ n ∧ n < 18446744073709551616) : Ev (fun k => PDeltaDiffs.rematchref01_Varint.f k n) (strOfNums (PLz.wire_vb 9 n)) :=
  Ev.of (PDeltaDiffs.rematchref01_Varint.mono n) (ref_varint 9 n h.1 (by omega) h.2 (by omega))
/-- what the document puts for a run -/
def ref_fin (k : Nat) (x5 x6 : ByteArray) (x7 x8 x9 : Int) : Option ByteArray :=
  (PDeltaDiffs.rematchref01_Varint.f k (IntKind.u64.wrap (wrap64 (x8 - x7)))).bind fun t180 => (if x6.size + t180.size ≤ 9223372036854775807 then ((PDeltaDiffs.rematchref01_Varint.f k (IntKind.u64.wrap (wrap64 (x9 - x8)))).bind fun t181 => (if (x6 ++ t180).size + t181.size ≤ 9223372036854775807 then (if 0 ≤ x8 then (if x8 ≤ x9 then (if x9 ≤ (x5.size : Int) then (if ((x6 ++ t180) ++ t181).size + (x5.extract (x8 : Int).toNat (x9 : Int).toNat).size ≤ 9223372036854775807 then (rematchref03_Diff.l0 k x5 (((x6 ++ t180) ++ t181) ++ (x5.extract (x8 : Int).toNat (x9 : Int).toNat)) x9) else (none)) else (none)) else (none)) else (none)) else (none))) else (none))
theorem ref_fin_ok {x out : List Int} (hl : x.length ≤ 4000) (ho : out.length ≤ 1000000) {p q e : Nat} (hpq : p ≤ q) (hqe : q ≤ e) (he : e ≤ x.length) {r : ByteArray}
    (h : Ev (fun k => rematchref03_Diff.l0 k (strOfNums x) (strOfNums (out ++ PLz.wire_vb 9 ((q - p : Nat) : Int) ++ PLz.wire_vb 9 ((e - q : Nat) : Int) ++ (x.drop q).take (e - q))) e) r) :
    Ev (fun k => ref_fin k (strOfNums x) (strOfNums out) p q e) r := by
  have w1 : IntKind.u64.wrap (wrap64 ((q : Int) - p)) = ((q - p : Nat) : Int) := by
    rw [show wrap64 ((q : Int) - p) = ((q - p : Nat) : Int) by unfold wrap64; omega, IntKind.wrap_u64]; omega
  have w2 : IntKind.u64.wrap (wrap64 ((e : Int) - q)) = ((e - q : Nat) : Int) := by
    rw [show wrap64 ((e : Int) - q) = ((e - q : Nat) : Int) by unfold wrap64; omega, IntKind.wrap_u64]; omega
  have v1 := varint_ev ((q - p : Nat) : Int) (by omega)
  have v2 := varint_ev ((e - q : Nat) : Int) (by omega)
  have n1 := (PLz.wire_vb_len 9 ((q - p : Nat) : Int)).2
  have n2 := (PLz.wire_vb_len 9 ((e - q : Nat) : Int)).2
  unfold ref_fin
  simp only [w1, w2]
  refine Ev.bind v1 ?_
  have c1 : (strOfNums out).size + (strOfNums (PLz.wire_vb 9 ((q - p : Nat) : Int))).size ≤ 9223372036854775807 := by rw [str_size, str_size]; omega
  simp only [if_pos c1]
  refine Ev.bind v2 ?_
  have c2 : (strOfNums (out ++ PLz.wire_vb 9 ((q - p : Nat) : Int))).size + (strOfNums (PLz.wire_vb 9 ((e - q : Nat) : Int))).size ≤ 9223372036854775807 := by rw [str_size, str_size, List.length_append]; omega
  have c3 : (0 : Int) ≤ q := by omega
  have c4 : (q : Int) ≤ e := by omega
  have c5 : (e : Int) ≤ ((strOfNums x).size : Int) := by rw [str_size]; omega
  have hc : (strOfNums x).extract ((q : Int)).toNat ((e : Int)).toNat = strOfNums ((x.drop q).take (e - q)) := by rw [str_cut]; rfl
  simp only [← str_app, if_pos c2, if_pos c3, if_pos c4, if_pos c5, hc]
  have c6 : (strOfNums (out ++ PLz.wire_vb 9 ((q - p : Nat) : Int) ++ PLz.wire_vb 9 ((e - q : Nat) : Int))).size + (strOfNums ((x.drop q).take (e - q))).size ≤ 9223372036854775807 := by
    rw [str_size, str_size, List.length_append, List.length_append, List.length_take, List.length_drop]; omega
  simp only [if_pos c6]
  exact h
end Go.Proofs.Ytocadookdkmahaa.PDl

/- Layer 3 (delta): the document's literals, in plain words. -/
namespace Go.Proofs.Ytocadookdkmahaa.PDl
open Go.RowKit Go.Proofs.YtocadookdkmahaaW.PrintWords Go.Proofs.YtocadookdkmahaaW.PrintLast
open Go.Proofs.Ytocadookdkmahaa.PLz (IsB isB_get str_size str_bt str_app str_cut)
open Go.Proofs.Ytocadookdkmahaa.PDeltaDiffs
set_option linter.unusedVariables false
theorem l2_eq (k : Nat) (x5 x6 : ByteArray) (x7 x8 x9 : Int) : rematchref03_Diff.l2 (k + 1) x5 x6 x7 x8 x9 =
    if x9 < (x5.size : Int) then (rematchref03_zero.f k x5 x9 4).bind (fun t => if t = true then (if (wrap64 (x9 + 4)) ≤ (x5.size : Int) then ref_fin k x5 x6 x7 x8 x9 else (rematchref03_zero.f k x5 x9 (x5.size : Int)).bind fun t2 => if t2 = true then ref_fin k x5 x6 x7 x8 x9 else rematchref03_Diff.l2 k x5 x6 x7 x8 (wrap64 (x9 + 1))) else (rematchref03_zero.f k x5 x9 (x5.size : Int)).bind fun t2 => if t2 = true then ref_fin k x5 x6 x7 x8 x9 else rematchref03_Diff.l2 k x5 x6 x7 x8 (wrap64 (x9 + 1))) else ref_fin k x5 x6 x7 x8 x9 := by
  rw [rematchref03_Diff.l2]
  rfl
theorem ref_l2 {x : List Int} (hx : IsB x) (hl : x.length ≤ 4000) (s6 : ByteArray) (p q : Nat) (hq : q ≤ x.length) (r : ByteArray) : ∀ (f n : Nat), q + n ≤ x.length → x.length - q < n + f →
    Ev (fun k => ref_fin k (strOfNums x) s6 p q ((q + dl_litF (x.drop q) f n : Nat) : Int)) r → Ev (fun k => rematchref03_Diff.l2 k (strOfNums x) s6 p q ((q + n : Nat) : Int)) r := by
  intro f
  induction f with
  | zero => intro n h1 h2; omega
  | succ f ih =>
    intro n h1 h2 h
    have w1 : wrap64 (((q + n : Nat) : Int) + 1) = ((q + (n + 1) : Nat) : Int) := by unfold wrap64; omega
    have w4 : wrap64 (((q + n : Nat) : Int) + 4) = ((q + n + 4 : Nat) : Int) := by unfold wrap64; omega
    have z4 := zero_f hx hl (q + n) 4 (by omega) (by omega)
    have zs := zero_f hx hl (q + n) x.length (by omega) (by omega)
    have hze := dl_zeros_le (x.drop (q + n))
    rw [List.length_drop] at hze
    rw [dl_litF] at h
    have hE : dl_ends (x.drop q) n = (decide (4 ≤ dl_zeros (x.drop (q + n))) || decide (dl_zeros (x.drop (q + n)) = x.length - (q + n))) := by
      unfold dl_ends
      rw [List.drop_drop, List.length_drop]
      congr 2
      rw [show x.length - q - n = x.length - (q + n) by omega]
    rw [hE] at h
    have hsz : ((strOfNums x).size : Int) = (x.length : Int) := by rw [str_size]
    refine Ev.step (fun k => l2_eq k _ _ _ _ _) ?_
    simp only [w1, w4, hsz]
    by_cases hlt : q + n < x.length
    · have hlt' : ((q + n : Nat) : Int) < (x.length : Int) := by omega
      simp only [if_pos hlt']
      by_cases he : 4 ≤ dl_zeros (x.drop (q + n))
      · rw [if_pos (by simp [he])] at h
        rw [decide_eq_true (by omega)] at z4
        have h4 : ((q + n + 4 : Nat) : Int) ≤ (x.length : Int) := by omega
        refine Ev.bind z4 ?_
        simp only [if_true, if_pos h4]
        exact h
      · by_cases hs : dl_zeros (x.drop (q + n)) = x.length - (q + n)
        · rw [if_pos (by simp [hs])] at h
          rw [decide_eq_true (by omega)] at z4 zs
          have h4 : ¬ ((q + n + 4 : Nat) : Int) ≤ (x.length : Int) := by omega
          refine Ev.bind z4 ?_
          simp only [if_true, if_neg h4]
          refine Ev.bind zs ?_
          simp only [if_true]
          exact h
        · rw [if_neg (by simp [he, hs])] at h
          rw [decide_eq_false (by omega)] at z4 zs
          refine Ev.bind z4 ?_
          simp only [Bool.false_eq_true, if_false]
          refine Ev.bind zs ?_
          simp only [Bool.false_eq_true, if_false]
          exact ih (n + 1) (by omega) (by omega) h
    · have hlt' : ¬ ((q + n : Nat) : Int) < (x.length : Int) := by omega
      simp only [if_neg hlt']
      have hz0 : dl_zeros (x.drop (q + n)) = x.length - (q + n) := by omega
      rw [if_pos (by simp [hz0])] at h
      exact h
end Go.Proofs.Ytocadookdkmahaa.PDl

/- Layer 3 (delta): the document's difference of mixed bytes is dl_go. -/
namespace Go.Proofs.Ytocadookdkmahaa.PDl
open Go.RowKit Go.Proofs.YtocadookdkmahaaW.PrintWords Go.Proofs.YtocadookdkmahaaW.PrintLast
open Go.Proofs.Ytocadookdkmahaa.PLz (IsB isB_get str_size str_bt str_app str_cut)
open Go.Proofs.Ytocadookdkmahaa.PDeltaDiffs
set_option linter.unusedVariables false
theorem ref_l0 {x : List Int} (hx : IsB x) (hl : x.length ≤ 4000) : ∀ (f p : Nat) (out : List Int), p ≤ x.length → x.length < f + p → out.length ≤ 10 + 30 * p →
    Ev (fun k => rematchref03_Diff.l0 k (strOfNums x) (strOfNums out) (p : Int)) (strOfNums (dl_go x f p out)) := by
  intro f
  induction f with
  | zero => intro p out h1 h2; omega
  | succ f ih =>
    intro p out h1 h2 h3
    have zs := zero_f hx hl p x.length (by omega) (by omega)
    have hze := dl_zeros_le (x.drop p)
    have hsz : ((strOfNums x).size : Int) = (x.length : Int) := by rw [str_size]
    have hdl : (x.drop p).length = x.length - p := List.length_drop
    rw [dl_go]
    by_cases hz : dl_zeros (x.drop p) < (x.drop p).length
    · rw [if_pos hz]
      rw [decide_eq_false (by omega)] at zs
      have hnx := dl_next_lt h1 hz
      obtain ⟨z, hzz⟩ : ∃ z, dl_zeros (x.drop p) = z := ⟨_, rfl⟩
      have hstop := dl_zeros_stop _ hz
      have hn : dl_next x p = p + z + dl_lits ((x.drop p).drop z) := by unfold dl_next; rw [hzz]
      have hlit : dl_lit x p = ((x.drop p).drop z).take (dl_lits ((x.drop p).drop z)) := by unfold dl_lit; rw [hzz]
      rw [hzz, List.drop_drop] at hstop
      rw [List.drop_drop] at hn hlit
      have hll := dl_lits_le (x.drop (p + z))
      rw [List.length_drop] at hll
      have hlen : (dl_lit x p).length = dl_lits (x.drop (p + z)) := by rw [hlit, List.length_take, List.length_drop]; omega
      have v1 := (PLz.wire_vb_len 9 ((z : Nat) : Int)).2
      have v2 := (PLz.wire_vb_len 9 (((dl_lit x p).length : Nat) : Int)).2
      have hrec := ih (dl_next x p) (out ++ PLz.wire_vb 9 ((z : Nat) : Int) ++ PLz.wire_vb 9 (((dl_lit x p).length : Nat) : Int) ++ dl_lit x p) hnx.2.1 (by omega) (by
        rw [List.length_append, List.length_append, List.length_append]; omega)
      rw [hzz]
      have hfin := ref_fin_ok (x := x) (out := out) hl (by omega) (p := p) (q := p + z) (e := p + z + dl_lits (x.drop (p + z))) (by omega) (by omega) (by omega)
        (r := strOfNums (dl_go x f (dl_next x p) (out ++ PLz.wire_vb 9 ((z : Nat) : Int) ++ PLz.wire_vb 9 (((dl_lit x p).length : Nat) : Int) ++ dl_lit x p))) (by
          rw [show p + z - p = z by omega, show p + z + dl_lits (x.drop (p + z)) - (p + z) = dl_lits (x.drop (p + z)) by omega, ← hlit]
          rw [← hlen, show p + z + (dl_lit x p).length = dl_next x p by rw [hn, hlen]]
          exact hrec)
      have hl2 := ref_l2 hx hl (strOfNums out) p (p + z) (by omega) _ ((x.drop (p + z)).length + 1) 0 (by omega) (by rw [List.length_drop]; omega) hfin
      have hl1 := ref_l1 hx hl (strOfNums out) p (p + z) _ (by omega) hl2 hstop z p rfl hzz
      refine Ev.step (f := fun k => (rematchref03_zero.f k (strOfNums x) p (x.length : Int)).bind fun t175 => (if t175 = true then (some (strOfNums out)) else (rematchref03_Diff.l1 k (strOfNums x) (strOfNums out) p p))) (fun k => ?_) (Ev.bind zs ?_)
      · rw [rematchref03_Diff.l0, hsz]
      · simp only [Bool.false_eq_true, if_false]
        exact hl1
    · rw [if_neg hz]
      rw [decide_eq_true (by omega)] at zs
      refine Ev.step (f := fun k => (rematchref03_zero.f k (strOfNums x) p (x.length : Int)).bind fun t175 => (if t175 = true then (some (strOfNums out)) else (rematchref03_Diff.l1 k (strOfNums x) (strOfNums out) p p))) (fun k => ?_) (Ev.bind zs ?_)
      · rw [rematchref03_Diff.l0, hsz]
      · simp only [if_true]
        exact Ev.now _
end Go.Proofs.Ytocadookdkmahaa.PDl

/- Layer 3 (delta): the document's mix. -/
namespace Go.Proofs.Ytocadookdkmahaa.PDl
open Go.RowKit Go.Proofs.YtocadookdkmahaaW.PrintWords Go.Proofs.YtocadookdkmahaaW.PrintLast
open Go.Proofs.Ytocadookdkmahaa.PLz (IsB isB_get str_size str_bt str_app str_cut)
open Go.Proofs.Ytocadookdkmahaa.PDeltaDiffs
set_option linter.unusedVariables false
theorem dl_getD_set {l : List Int} {i j : Nat} {v : Int} (hi : i < l.length) : (l.set i v).getD j 0 = if j = i then v else l.getD j 0 := by
  rw [List.getD_eq_getElem?_getD, List.getD_eq_getElem?_getD, List.getElem?_set]
  by_cases h : j = i
  · subst h; simp [hi]
  · simp [h, Ne.symm h]
theorem dl_mixF_get (a : List Int) : ∀ (f i : Nat) (cur : List Int) (j : Nat), i + f ≤ cur.length → (dl_mixF a f i cur).getD j 0 = if i ≤ j ∧ j < i + f then Go.bits .xor .u8 (cur.getD j 0) (a.getD j 0) else cur.getD j 0
  | 0, i, cur, j, h => by rw [dl_mixF, if_neg (by omega)]
  | f + 1, i, cur, j, h => by
    rw [dl_mixF, dl_mixF_get a f (i + 1) _ j (by rw [List.length_set]; omega), dl_getD_set (by omega)]
    by_cases hj : j = i
    · subst hj
      rw [if_neg (by omega), if_pos rfl, if_pos (by omega)]
      unfold rd
      simp
    · rw [if_neg hj]
      by_cases h2 : i + 1 ≤ j ∧ j < i + 1 + f
      · rw [if_pos h2, if_pos (by omega)]
      · rw [if_neg h2, if_neg (by omega)]
theorem dl_mix_get (a b : List Int) (j : Nat) (hj : j < b.length) : (dl_mix a b).getD j 0 = if j < a.length then Go.bits .xor .u8 (b.getD j 0) (a.getD j 0) else b.getD j 0 := by
  unfold dl_mix
  rw [dl_mixF_get a _ 0 b j (by omega)]
  by_cases h : j < a.length
  · rw [if_pos (by omega), if_pos h]
  · rw [if_neg (by omega), if_neg h]
theorem dl_take_next (b : List Int) (i : Nat) (h : i < b.length) : b.take i ++ [b.getD i 0] = b.take (i + 1) := by
  rw [List.getD_eq_getElem?_getD, List.getElem?_eq_getElem h]
  exact List.take_append_getElem h
theorem ref_mix {a b : List Int} (ha : IsB a) (hb : IsB b) (hal : a.length ≤ 4000) (hbl : b.length ≤ 4000) : ∀ (f i : Nat), i + f = b.length →
    Ev (fun k => rematchref03_Mix.l0 k (strOfNums a) (strOfNums b) (strOfNums ((dl_mix a b).take i)) (i : Int)) (strOfNums (dl_mix a b)) := by
  intro f
  induction f with
  | zero =>
    intro i h
    refine Ev.step (f := fun _ => some (strOfNums (dl_mix a b))) (fun k => ?_) (Ev.now _)
    rw [rematchref03_Mix.l0, if_neg (by rw [str_size]; omega), List.take_of_length_le (by rw [dl_mix_len]; omega)]
  | succ f ih =>
    intro i h
    have w1 : wrap64 ((i : Int) + 1) = ((i + 1 : Nat) : Int) := by unfold wrap64; omega
    have e1 : bt (strOfNums b) ((i : Nat) : Int) = b.getD i 0 := str_bt hb _ (by omega) (by omega)
    have hg := dl_mix_get a b i (by omega)
    have hn := dl_take_next (dl_mix a b) i (by rw [dl_mix_len]; omega)
    have ht : ((dl_mix a b).take i).length ≤ 4000 := by rw [List.length_take, dl_mix_len]; omega
    have c0 : (i : Int) < ((strOfNums b).size : Int) := by rw [str_size]; omega
    have c1 : (0 : Int) ≤ (i : Int) := by omega
    refine Ev.step (fun k => ?_) (ih (i + 1) (by omega))
    rw [rematchref03_Mix.l0, if_pos c0, if_pos c1]
    by_cases hi : i < a.length
    · rw [if_pos hi] at hg
      have e2 : bt (strOfNums a) ((i : Nat) : Int) = a.getD i 0 := str_bt ha _ (by omega) (by omega)
      rw [if_pos (by rw [str_size]; omega), Option.bind_some, e1, e2, ← hg, if_pos (by rw [str_size, str_size]; simp; omega), ← str_app, hn, w1]
    · rw [if_neg hi] at hg
      rw [if_neg (by rw [str_size]; omega), Option.bind_some, e1, ← hg, if_pos (by rw [str_size, str_size]; simp; omega), ← str_app, hn, w1]
theorem diffs_ref {a b : List Int} (ha : IsB a) (hb : IsB b) (hal : a.length ≤ 4000) (hbl : b.length ≤ 4000) : Ev (fun k => rematchref03_Diff.f k (strOfNums a) (strOfNums b)) (strOfNums (dl_diff (dl_mix a b) b.length)) := by
  have hm := ref_mix ha hb hal hbl b.length 0 (by omega)
  have hv := varint_ev ((b.length : Nat) : Int) (by omega)
  have hw : IntKind.u64.wrap ((b.length : Nat) : Int) = ((b.length : Nat) : Int) := by rw [IntKind.wrap_u64]; omega
  have h0 := ref_l0 (x := dl_mix a b) (dl_mix_isB ha hb) (by rw [dl_mix_len]; omega) ((dl_mix a b).length + 1) 0 (PLz.wire_vb 9 ((b.length : Nat) : Int)) (by omega) (by omega) (by have := (PLz.wire_vb_len 9 ((b.length : Nat) : Int)).2; omega)
  unfold rematchref03_Diff.f rematchref03_Mix.f
  simp only [str_size, hw]
  refine Ev.bind hm ?_
  refine Ev.bind hv ?_
  exact h0
end Go.Proofs.Ytocadookdkmahaa.PDl
