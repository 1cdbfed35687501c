/- What any tokens tell is what the reference says: the pure statement. No condition. -/
import Derived.Test.YtigcgdhihaibbaaDoorPTkx3
import Derived.Test.YtigcgdhihaibbaaDoorZQ
import Derived.Test.YtigcgdhihaibbaaDoorZW
namespace Go.Proofs.YtigcgdhihaibbaaDoor.Pure
open Go.RowKit Go.Proofs.YtigcgdhihaibbaaDoor.PTk Go.Proofs.YtigcgdhihaibbaaDoor.PLz Go.Proofs.YtigcgdhihaibbaaDoorW.PrintWords Go.Proofs.YtigcgdhihaibbaaDoorW.PrintLast
set_option linter.unusedVariables false
namespace LzU
/-- the number of the bytes' low seven bits, places up to j alone -/
def hz (l : List Int) : Nat → Int
  | 0 => l.getD 0 0 % 128
  | j + 1 => hz l j + (l.getD (j + 1) 0 % 128) * 128 ^ (j + 1)
theorem hz_nn {l : List Int} (h : IsB l) : ∀ j, 0 ≤ hz l j
  | 0 => by have := isB_get h 0; unfold hz; omega
  | j + 1 => by
    have := isB_get h (j + 1)
    exact Int.add_nonneg (hz_nn h j) (Int.mul_nonneg (by omega) (Int.pow_nonneg (by decide)))
theorem l1_ok {l : List Int} (h : IsB l) (c : Int) : ∀ (j : Nat) (a : Int), j < l.length → 0 ≤ a → a * 128 ^ (j + 1) + hz l j < 18446744073709551616 → j < 100 →
    Ev (fun k => rematchref01_varint.l1 k (strOfNums l) c a j) (a * 128 ^ (j + 1) + hz l j, c, 0) := by
  intro j
  induction j with
  | zero =>
    intro a hj ha hb _
    have hx := isB_get h 0
    have hz0 : hz l 0 = l.getD 0 0 % 128 := rfl
    rw [hz0] at hb ⊢
    simp only [Nat.zero_add, Int.pow_one] at hb ⊢
    refine Ev.step (fun k => by rw [rematchref01_varint.l1, if_pos (by decide), if_pos (by decide), if_pos (by rw [str_size]; exact_mod_cast hj)]) ?_
    refine Ev.step (f := fun _ => some (a * 128 + l.getD 0 0 % 128, c, 0)) (fun k => ?_) (Ev.now _)
    have e1 : bt (strOfNums l) ((0 : Nat) : Int) = l.getD 0 0 := str_bt h _ (by omega) (by omega)
    rw [e1, show wrap64 (((0 : Nat) : Int) - 1) = -1 by unfold wrap64; omega, Int.tmod_eq_emod_of_nonneg hx.1]
    rw [rematchref01_varint.l1, if_neg (by decide)]
    rw [IntKind.wrap_u64, IntKind.wrap_u64, IntKind.wrap_u64]
    congr 2
    omega
  | succ j ih =>
    intro a hj ha hb h100
    have hx := isB_get h (j + 1)
    have hp : (128 : Int) ^ (j + 1 + 1) = 128 * 128 ^ (j + 1) := by rw [Int.pow_succ]; omega
    have hzs : hz l (j + 1) = hz l j + (l.getD (j + 1) 0 % 128) * 128 ^ (j + 1) := rfl
    have hzn := hz_nn h j
    have hP : 1 ≤ (128 : Int) ^ (j + 1) := by
      have : 1 ≤ (128 : Nat) ^ (j + 1) := Nat.one_le_pow _ _ (by decide)
      have h2 : ((128 ^ (j + 1) : Nat) : Int) = (128 : Int) ^ (j + 1) := Int.natCast_pow 128 (j + 1)
      omega
    obtain ⟨P, hPe⟩ : ∃ P, (128 : Int) ^ (j + 1) = P := ⟨_, rfl⟩
    rw [hzs, hp, hPe] at hb
    rw [hPe] at hP
    have ek : (a * 128 + l.getD (j + 1) 0 % 128) * P + hz l j = a * (128 * P) + (hz l j + (l.getD (j + 1) 0 % 128) * P) := by
      rw [Int.add_mul, Int.mul_assoc]; omega
    have hle : a * 128 + l.getD (j + 1) 0 % 128 ≤ (a * 128 + l.getD (j + 1) 0 % 128) * P := by
      have h0 : 0 ≤ a * 128 + l.getD (j + 1) 0 % 128 := by omega
      have := Int.mul_le_mul_of_nonneg_left hP h0
      omega
    have i2 := ih (a * 128 + l.getD (j + 1) 0 % 128) (by omega) (by omega) (by rw [hPe, ek]; exact hb) (by omega)
    have er : (a * 128 + l.getD (j + 1) 0 % 128) * 128 ^ (j + 1) + hz l j = a * 128 ^ (j + 1 + 1) + hz l (j + 1) := by rw [hzs, hp, hPe]; exact ek
    rw [er] at i2
    refine Ev.step (fun k => ?_) i2
    have e1 : bt (strOfNums l) ((j + 1 : Nat) : Int) = l.getD (j + 1) 0 := str_bt h _ (by omega) (by omega)
    rw [rematchref01_varint.l1, if_pos (by omega), if_pos (by omega), if_pos (by rw [str_size]; omega), e1, Int.tmod_eq_emod_of_nonneg hx.1]
    have w1 : wrap64 (((j + 1 : Nat) : Int) - 1) = (j : Int) := by unfold wrap64; omega
    rw [w1, IntKind.wrap_u64, IntKind.wrap_u64, IntKind.wrap_u64]
    congr 1
    omega
/-- what is known of the bytes ahead of a varint's place -/
def Pre (l : List Int) (i : Nat) (n : Int) : Prop := (∀ j, j < i → 128 ≤ l.getD j 0) ∧ n = (match i with | 0 => 0 | j + 1 => hz l j) ∧ 0 ≤ n ∧ n < 128 ^ i
theorem pre_next {l : List Int} (h : IsB l) {i : Nat} {n : Int} (hp : Pre l i n) (hx : 128 ≤ l.getD i 0) : Pre l (i + 1) (n + (l.getD i 0 - 128) * 128 ^ i) := by
  have hb := isB_get h i
  have e : l.getD i 0 % 128 = l.getD i 0 - 128 := by omega
  obtain ⟨h1, h2, h3, h4⟩ := hp
  have hP : 0 ≤ (128 : Int) ^ i := Int.pow_nonneg (by decide)
  have hm : (l.getD i 0 - 128) * 128 ^ i ≤ 127 * (128 : Int) ^ i := Int.mul_le_mul_of_nonneg_right (by omega) hP
  refine ⟨fun j hj => ?_, ?_, Int.add_nonneg h3 (Int.mul_nonneg (by omega) hP), by rw [Int.pow_succ]; omega⟩
  · by_cases hji : j = i
    · rw [hji]; exact hx
    · exact h1 j (by omega)
  · cases i with
    | zero => subst h2; simp only [hz, Int.pow_zero, Int.mul_one]; omega
    | succ i => show _ = hz l i + _; rw [e, h2]
theorem l0_ok {l : List Int} (h : IsB l) : ∀ (d i : Nat) (n : Int), i + d = 10 → Pre l i n → i ≤ l.length →
    Ev (fun k => rematchref01_varint.l0 k (strOfNums l) ((i : Int) + 1)) (wire_vr l d i n) := by
  intro d
  induction d with
  | zero =>
    intro i n hd hp hi
    refine Ev.step (f := fun _ => some (0, 0, 4)) (fun k => ?_) (Ev.now _)
    rw [rematchref01_varint.l0, if_neg (by omega)]
  | succ d ih =>
    intro i n hd hp hi
    have hb := isB_get h i
    by_cases hlen : l.length ≤ i
    · rw [wire_vr_short l d i n hlen]
      refine Ev.step (f := fun _ => some (0, 0, 3)) (fun k => ?_) (Ev.now _)
      rw [rematchref01_varint.l0, if_pos (by omega), if_pos (by rw [str_size]; omega)]
    · have hlt : i < l.length := by omega
      have w1 : wrap64 ((i : Int) + 1 - 1) = (i : Int) := by unfold wrap64; omega
      have eb : bt (strOfNums l) (i : Int) = l.getD i 0 := str_bt h _ (by omega) (by omega)
      -- the test, as a bool
      have test : ∀ (B : Bool) (r : Int × Int × Int), Ev (fun k => rematchref01_varint.j1 k (strOfNums l) ((i : Int) + 1) B) r → B = decide ((i = 9 ∧ 1 < l.getD i 0) ∨ (0 < i ∧ l.getD i 0 = 0)) → Ev (fun k => rematchref01_varint.l0 k (strOfNums l) ((i : Int) + 1)) r := by
        intro B r hB hBe
        refine Ev.step (fun k => ?_) hB
        rw [rematchref01_varint.l0, if_pos (by omega), if_neg (by rw [str_size]; omega)]
        by_cases h9 : i = 9
        · subst h9
          have eb9 : bt (strOfNums l) 9 = l.getD 9 0 := eb
          rw [if_pos (by decide), if_pos (by rw [str_size]; omega), eb9]
          by_cases h1 : l.getD 9 0 > 1
          · rw [if_pos h1, hBe, decide_eq_true (.inl ⟨rfl, h1⟩)]
          · rw [if_neg h1, if_pos (by decide), w1, if_pos (by omega), if_pos (by rw [str_size]; omega), eb, hBe]
            congr 1
            by_cases h0 : l.getD 9 0 = 0
            · rw [h0]; rfl
            · rw [decide_eq_false (by omega)]; exact beq_eq_false_iff_ne.2 h0
        · rw [if_neg (by omega)]
          by_cases hi1 : (i : Int) + 1 > 1
          · rw [if_pos hi1, w1, if_pos (by omega), if_pos (by rw [str_size]; omega), eb, hBe]
            congr 1
            by_cases h0 : l.getD i 0 = 0
            · rw [h0, decide_eq_true (.inr ⟨by omega, rfl⟩)]; rfl
            · rw [decide_eq_false (by omega)]; exact beq_eq_false_iff_ne.2 h0
          · rw [if_neg hi1, hBe, decide_eq_false (by omega)]
      by_cases hbad : (i = 9 ∧ 1 < l.getD i 0) ∨ (0 < i ∧ l.getD i 0 = 0)
      · rw [wire_vr_form l d i n hlt hbad]
        refine test true _ (Ev.step (f := fun _ => some (0, 0, 4)) (fun k => ?_) (Ev.now _)) (by rw [decide_eq_true hbad])
        rw [rematchref01_varint.j1, if_pos rfl]
      · by_cases hx : l.getD i 0 < 128
        · rw [wire_vr_last l d i n hlt hbad hx]
          refine test false _ ?_ (by rw [decide_eq_false hbad])
          have hzi : 0 * 128 ^ (i + 1) + hz l i = n + l.getD i 0 * 128 ^ i := by
            obtain ⟨_, h2, _, _⟩ := hp
            rw [Int.zero_mul, Int.zero_add]
            cases i with
            | zero => subst h2; simp only [hz, Int.pow_zero, Int.mul_one]; omega
            | succ i => show hz l i + _ = _; rw [show l.getD (i + 1) 0 % 128 = l.getD (i + 1) 0 by omega, h2]
          have hbd : 0 * 128 ^ (i + 1) + hz l i < 18446744073709551616 := by
            rw [hzi]
            obtain ⟨_, _, _, h4⟩ := hp
            have hP : 0 ≤ (128 : Int) ^ i := Int.pow_nonneg (by decide)
            by_cases h9 : i = 9
            · subst h9
              have : l.getD 9 0 ≤ 1 := by omega
              have hm : l.getD 9 0 * (128 : Int) ^ 9 ≤ 1 * (128 : Int) ^ 9 := Int.mul_le_mul_of_nonneg_right this hP
              omega
            · have hP8 : (128 : Int) ^ i ≤ 72057594037927936 := by
                have : (128 : Nat) ^ i ≤ 128 ^ 8 := Nat.pow_le_pow_right (by decide) (by omega)
                have h2 : ((128 ^ i : Nat) : Int) = (128 : Int) ^ i := Int.natCast_pow 128 i
                omega
              have hm : l.getD i 0 * (128 : Int) ^ i ≤ 127 * (128 : Int) ^ i := Int.mul_le_mul_of_nonneg_right (by omega) hP
              omega
          have h1 := l1_ok h ((i : Int) + 1) i 0 hlt (by decide) hbd (by omega)
          rw [hzi] at h1
          refine Ev.step (fun k => ?_) h1
          rw [rematchref01_varint.j1, if_neg (by decide), w1, if_pos (by omega), if_pos (by rw [str_size]; omega), eb, if_neg (by omega)]
        · rw [wire_vr_next l d i n hlt hbad hx]
          refine test false _ ?_ (by rw [decide_eq_false hbad])
          have h2 := ih (i + 1) _ (by omega) (pre_next h hp (by omega)) (by omega)
          refine Ev.step (fun k => ?_) h2
          rw [rematchref01_varint.j1, if_neg (by decide), w1, if_pos (by omega), if_pos (by rw [str_size]; omega), eb, if_pos (by omega)]
          rw [show wrap64 ((i : Int) + 1 + 1) = ((i + 1 : Nat) : Int) + 1 by unfold wrap64; omega]
theorem varint_ok {l : List Int} (h : IsB l) : Ev (fun k => rematchref01_varint.f k (strOfNums l)) (wire_vr l 10 0 0) := by
  have := l0_ok h 10 0 0 (by omega) ⟨fun j hj => by omega, rfl, by omega, by decide⟩ (by omega)
  exact this
theorem bytes_ok {c : List Int} (at_ m : Int) (hm : 0 ≤ m) (hl : c.length ≤ 1000000) : rematchref01_Reader_Bytes.f (strOfNums c) at_ 0 m =
    if (c.length : Int) < m then some (strOfNums [], strOfNums c, at_, 3) else some (strOfNums (c.take m.toNat), strOfNums (c.drop m.toNat), wrap64 (at_ + m), 0) := by
  unfold rematchref01_Reader_Bytes.f rematchref01_Reader_fails.f rematchref01_Reader_skip.f
  rw [if_pos rfl, if_neg (by omega), str_size]
  by_cases h : (c.length : Int) < m
  · rw [if_pos h, if_pos h]; rfl
  · rw [if_neg h, if_neg h, if_pos hm, if_pos (by omega), if_pos hm, if_pos (by omega)]
    simp only [Option.bind_some]
    rw [str_cut, str_cut, Nat.sub_zero, List.drop_zero, List.take_of_length_le (l := c.drop m.toNat) (by rw [List.length_drop]; omega)]
theorem num_ok {c : List Int} (hc : IsB c) (at_ : Int) (hl : c.length ≤ 1000000) : Ev (fun k => rematchref01_Reader_Num.f k (strOfNums c) at_ 0 2147483647)
    (if (wire_vr c 10 0 0).2.2 ≠ 0 then (0, strOfNums c, at_, (wire_vr c 10 0 0).2.2) else if 2147483647 < (wire_vr c 10 0 0).1 then (0, strOfNums c, at_, 4) else ((wire_vr c 10 0 0).1, strOfNums (c.drop (wire_vr c 10 0 0).2.1.toNat), wrap64 (at_ + (wire_vr c 10 0 0).2.1), 0)) := by
  have hcnt := (wire_vr_count c 10 0 0).1
  have hlen := wire_vr_len c 10 0 0
  have hv := varint_ok hc
  obtain ⟨⟨x, n, e⟩, hV⟩ : ∃ V, wire_vr c 10 0 0 = V := ⟨_, rfl⟩
  rw [hV] at hcnt hlen hv ⊢
  have hcnt : 0 ≤ n := hcnt
  have hlen : n ≤ (c.length : Int) := hlen
  unfold rematchref01_Reader_Num.f
  simp only [if_true]
  refine Ev.bind hv ?_
  show Ev _ (if e ≠ 0 then (0, strOfNums c, at_, e) else if 2147483647 < x then (0, strOfNums c, at_, 4) else (x, strOfNums (c.drop n.toNat), wrap64 (at_ + n), 0))
  dsimp only
  by_cases he : e = 0
  · rw [if_neg (show ¬ (e ≠ 0) from fun h => h he)]
    simp only [if_pos he]
    by_cases hx : 2147483647 < x
    · rw [if_pos hx]
      simp only [if_pos (show x > 2147483647 from hx)]
      exact Ev.now _
    · rw [if_neg hx]
      simp only [if_neg (show ¬ x > 2147483647 from hx)]
      unfold rematchref01_Reader_skip.f
      rw [if_pos hcnt, if_pos (by rw [str_size]; omega), str_cut, str_size, List.take_of_length_le (l := c.drop n.toNat) (by rw [List.length_drop]; omega)]
      exact Ev.now _
  · rw [if_pos (show e ≠ 0 from he)]
    simp only [if_neg he]
    exact Ev.now _
theorem copy_ok {M : Int} {c : List Int} {far n : Nat} {at_ e : Int} {R : ByteArray × Int} (hn : n ≤ 200) : ∀ (m i : Nat) (out : List Int), i + m = n + 3 → out.length + m ≤ 2147483647 → far < out.length →
    Ev (fun k => rematchref04_Unpack.l0 k M (strOfNums (lz_copy far m out)) (strOfNums c) at_ e) R → Ev (fun k => rematchref04_Unpack.l1 k M (strOfNums out) n far i (strOfNums c) at_ e) R := by
  intro m
  induction m with
  | zero =>
    intro i out hi ho hf h
    refine Ev.step (fun k => ?_) h
    rw [rematchref04_Unpack.l1, if_neg (by unfold wrap64; omega)]
    rfl
  | succ m ih =>
    intro i out hi ho hf h
    have h2 := ih (i + 1) (out ++ [out.getD (out.length - 1 - far) 0]) (by omega) (by simp only [List.length_append, List.length_singleton]; omega) (by simp only [List.length_append, List.length_singleton]; omega) h
    refine Ev.step (fun k => ?_) h2
    have w1 : wrap64 ((n : Int) + 3) = n + 3 := by unfold wrap64; omega
    have w2 : wrap64 ((wrap64 ((out.length : Int) - 1)) - (wrap64 (far : Int))) = ((out.length - 1 - far : Nat) : Int) := by
      have a : wrap64 ((out.length : Int) - 1) = (out.length : Int) - 1 := by unfold wrap64; omega
      have b : wrap64 (far : Int) = far := by unfold wrap64; omega
      rw [a, b]; unfold wrap64; omega
    have w3 : wrap64 ((out.length : Int) - (wrap64 (far : Int))) = ((out.length - far : Nat) : Int) := by
      have b : wrap64 (far : Int) = far := by unfold wrap64; omega
      rw [b]; unfold wrap64; omega
    have w4 : wrap64 ((i : Int) + 1) = ((i + 1 : Nat) : Int) := by unfold wrap64; omega
    have hd : (out.drop (out.length - 1 - far)).take (out.length - far - (out.length - 1 - far)) = [out.getD (out.length - 1 - far) 0] := by
      rw [show out.length - far - (out.length - 1 - far) = 1 by omega, lz_drop_cons (l := out) (p := out.length - 1 - far) (by omega)]
      rfl
    obtain ⟨J, hJ⟩ : ∃ J, out.length - 1 - far = J := ⟨_, rfl⟩
    obtain ⟨J2, hJ2⟩ : ∃ J, out.length - far = J := ⟨_, rfl⟩
    obtain ⟨y, hy⟩ : ∃ y, out.getD (out.length - 1 - far) 0 = y := ⟨_, rfl⟩
    rw [hJ] at w2 hd hy
    rw [hJ2] at w3 hd
    rw [hy] at hd
    rw [hJ, hy]
    have c1 : (i : Int) < n + 3 := by omega
    have c2 : (0 : Int) ≤ (J : Int) := by omega
    have c3 : (J : Int) ≤ (J2 : Int) := by omega
    have c4 : (J2 : Int) ≤ (out.length : Int) := by omega
    have c5 : out.length + [y].length ≤ 9223372036854775807 := by simp; omega
    rw [rematchref04_Unpack.l1, str_size, w1, w2, w3, w4, if_pos c1, if_pos c2, if_pos c3, if_pos c4, Int.toNat_natCast, Int.toNat_natCast, str_cut, hd, str_size, if_pos c5, ← str_app]
theorem copy_len (far : Nat) : ∀ (m : Nat) (out : List Int), (lz_copy far m out).length = out.length + m
  | 0, out => rfl
  | m + 1, out => by
    show (lz_copy far m _).length = _
    rw [copy_len far m]; simp; omega
theorem copy_isB (far : Nat) : ∀ (m : Nat) (out : List Int), IsB out → IsB (lz_copy far m out)
  | 0, out, h => h
  | m + 1, out, h => copy_isB far m _ (isB_app h (fun x hx => by
      rw [List.mem_singleton] at hx
      subst hx
      exact isB_get h _))
theorem un_ok {M : Int} (hM : 0 ≤ M ∧ M ≤ 2147483647) : ∀ (f : Nat) (c out : List Int) (at_ : Int), c.length < f → c.length ≤ 6000 → IsB c → IsB out → (out.length : Int) ≤ M →
    Ev (fun k => rematchref04_Unpack.l0 k M (strOfNums out) (strOfNums c) at_ 0) (strOfNums (lz_unF M f c out).1, (lz_unF M f c out).2) := by
  intro f
  induction f with
  | zero => intro c out at_ h; omega
  | succ f ih =>
    intro c out at_ hf hl hc ho hout
    cases c with
    | nil =>
      rw [lz_un_nil]
      refine Ev.step (f := fun _ => some (strOfNums out, 0)) (fun k => ?_) (Ev.now _)
      rw [rematchref04_Unpack.l0, if_neg (by rw [str_size]; simp)]
    | cons x t =>
      have hx := hc x (by simp)
      have ht : IsB t := fun y hy => hc y (by simp [hy])
      simp only [List.length_cons] at hf hl
      have step : ∀ (r : ByteArray × Int), Ev (fun k => if x > 127 then (some (strOfNums [], 4)) else (if x % 2 = 0 then (if (wrap64 ((wrap64 ((out.length : Int) + x / 2)) + 1)) > M then (some (strOfNums [], 6)) else ((rematchref01_Reader_Bytes.f (strOfNums t) (wrap64 (at_ + 1)) 0 (x / 2 + 1)).bind fun bt137 => (if bt137.2.2.2 = 0 then (if (strOfNums out).size + bt137.1.size ≤ 9223372036854775807 then (rematchref04_Unpack.l0 k M (strOfNums out ++ bt137.1) bt137.2.1 bt137.2.2.1 bt137.2.2.2) else (none)) else (some (strOfNums [], bt137.2.2.2))))) else ((rematchref01_Reader_Num.f k (strOfNums t) (wrap64 (at_ + 1)) 0 2147483647).bind fun bt142 => (if bt142.2.2.2 = 0 then (if bt142.1 > 4095 then (rematchref04_Unpack.j2 k M (strOfNums out) (x / 2) bt142.1 true bt142.2.1 bt142.2.2.1 bt142.2.2.2) else (rematchref04_Unpack.j2 k M (strOfNums out) (x / 2) bt142.1 (decide ((wrap64 (bt142.1)) ≥ ((strOfNums out).size : Int))) bt142.2.1 bt142.2.2.1 bt142.2.2.2)) else (some (strOfNums [], bt142.2.2.2)))))) r →
          Ev (fun k => rematchref04_Unpack.l0 k M (strOfNums out) (strOfNums (x :: t)) at_ 0) r := by
        intro r h
        refine Ev.step (fun k => ?_) h
        have e0 : bt (strOfNums [x]) 0 = x := by rw [str_bt (fun y hy => by simp at hy; rw [hy]; exact hx) 0 (by decide) (by simp)]; rfl
        rw [rematchref04_Unpack.l0, if_pos (by rw [str_size]; simp), bytes_ok at_ 1 (by decide) (by simp; omega), if_neg (by simp; omega)]
        simp only [Option.bind_some]
        rw [show List.take (Int.toNat 1) (x :: t) = [x] from rfl, show List.drop (Int.toNat 1) (x :: t) = t from rfl, if_pos (by rw [str_size]; simp), e0, Int.tmod_eq_emod_of_nonneg hx.1, Int.tdiv_eq_ediv_of_nonneg hx.1, show x / 2 % 256 = x / 2 by omega, str_size]
        rfl
      refine step _ ?_
      clear step
      rw [lz_un_cons]
      by_cases h128 : 128 ≤ x
      · rw [if_pos h128]
        simp only [if_pos (show x > 127 by omega)]
        exact Ev.now _
      · rw [if_neg h128]
        simp only [if_neg (show ¬ x > 127 by omega)]
        have w1 : wrap64 ((out.length : Int) + x / 2) = out.length + x / 2 := by unfold wrap64; omega
        by_cases h2 : x % 2 = 0
        · rw [if_pos h2]
          simp only [if_pos h2]
          have w2 : wrap64 ((out.length : Int) + x / 2 + 1) = out.length + (x / 2 + 1) := by unfold wrap64; omega
          rw [w1, w2]
          by_cases hr : M < out.length + (x / 2 + 1)
          · rw [if_pos hr]
            simp only [if_pos (show (out.length : Int) + (x / 2 + 1) > M from hr)]
            exact Ev.now _
          · rw [if_neg hr]
            simp only [if_neg (show ¬ (out.length : Int) + (x / 2 + 1) > M from hr)]
            rw [bytes_ok _ _ (by omega) (by omega)]
            by_cases hs : (t.length : Int) < x / 2 + 1
            · rw [if_pos hs, if_pos hs]
              exact Ev.now _
            · rw [if_neg hs, if_neg hs]
              simp only [Option.bind_some, if_true]
              rw [str_size, str_size]
              have hlt := List.length_take_le (x / 2 + 1).toNat t
              simp only [if_pos (show out.length + (t.take (x / 2 + 1).toNat).length ≤ 9223372036854775807 by omega)]
              rw [← str_app]
              exact ih _ _ _ (by rw [List.length_drop]; omega) (by rw [List.length_drop]; omega) (isB_drop ht _) (isB_app ho (isB_take ht _)) (by rw [List.length_append, List.length_take]; omega)
        · rw [if_neg h2]
          simp only [if_neg h2]
          refine Ev.bind (num_ok ht _ (by omega)) ?_
          have hok := lz_vr_ok t ht 10 0 0 (by omega)
          have hcnt := (wire_vr_count t 10 0 0).1
          have hlen := wire_vr_len t 10 0 0
          obtain ⟨⟨far, n, e⟩, hV⟩ : ∃ V, wire_vr t 10 0 0 = V := ⟨_, rfl⟩
          rw [hV] at hok hcnt hlen ⊢
          have hok : 0 ≤ far := hok.1
          have hcnt : 0 ≤ n := hcnt
          have hlen : n ≤ (t.length : Int) := hlen
          show Ev (fun k => _) (strOfNums (if e ≠ 0 then ([], e) else if 2147483647 < far then ([], 4) else if 4096 ≤ far ∨ (out.length : Int) ≤ far then ([], 4) else if M < out.length + (x / 2 + 3) then ([], 6) else lz_unF M f (t.drop n.toNat) (lz_copy far.toNat (x / 2 + 3).toNat out)).1, (if e ≠ 0 then ([], e) else if 2147483647 < far then ([], 4) else if 4096 ≤ far ∨ (out.length : Int) ≤ far then ([], 4) else if M < out.length + (x / 2 + 3) then ([], 6) else lz_unF M f (t.drop n.toNat) (lz_copy far.toNat (x / 2 + 3).toNat out)).2)
          by_cases he : e ≠ 0
          · simp only [if_pos he, if_neg he]
            exact Ev.now _
          · simp only [if_neg he]
            by_cases hf2 : 2147483647 < far
            · simp only [if_pos hf2]
              exact Ev.now _
            · simp only [if_neg hf2, if_true]
              have wf : wrap64 far = far := by unfold wrap64; omega
              rw [wf, str_size]
              have j2t : Ev (fun k => rematchref04_Unpack.j2 k M (strOfNums out) (x / 2) far true (strOfNums (t.drop n.toNat)) (wrap64 (wrap64 (at_ + 1) + n)) 0) (strOfNums [], 4) :=
                Ev.step (f := fun _ => some (strOfNums [], 4)) (fun k => by rw [rematchref04_Unpack.j2, if_pos rfl]; rfl) (Ev.now _)
              by_cases h4 : 4096 ≤ far
              · simp only [if_pos (show far > 4095 by omega), if_pos (show 4096 ≤ far ∨ (out.length : Int) ≤ far from .inl h4)]
                exact j2t
              · simp only [if_neg (show ¬ far > 4095 by omega)]
                by_cases h5 : (out.length : Int) ≤ far
                · simp only [if_pos (show 4096 ≤ far ∨ (out.length : Int) ≤ far from .inr h5), decide_eq_true (show far ≥ (out.length : Int) from h5)]
                  exact j2t
                · simp only [if_neg (show ¬ (4096 ≤ far ∨ (out.length : Int) ≤ far) by omega), decide_eq_false (show ¬ far ≥ (out.length : Int) from h5)]
                  have w3 : wrap64 ((out.length : Int) + x / 2 + 3) = out.length + (x / 2 + 3) := by unfold wrap64; omega
                  by_cases h6 : M < out.length + (x / 2 + 3)
                  · simp only [if_pos h6]
                    refine Ev.step (f := fun _ => some (strOfNums [], 6)) (fun k => ?_) (Ev.now _)
                    rw [rematchref04_Unpack.j2, if_neg (by decide), str_size, w1, w3, if_pos (by omega)]
                    rfl
                  · simp only [if_neg h6]
                    obtain ⟨N, hN⟩ : ∃ N : Nat, x / 2 = N := ⟨(x / 2).toNat, by omega⟩
                    obtain ⟨F, hF⟩ : ∃ F : Nat, far = F := ⟨far.toNat, by omega⟩
                    have hi := ih (t.drop n.toNat) (lz_copy far.toNat (x / 2 + 3).toNat out) (wrap64 (wrap64 (at_ + 1) + n)) (by rw [List.length_drop]; omega) (by rw [List.length_drop]; omega) (isB_drop ht _) (copy_isB _ _ _ ho) (by rw [copy_len]; omega)
                    have hcp := copy_ok (M := M) (c := t.drop n.toNat) (far := far.toNat) (n := N) (at_ := wrap64 (wrap64 (at_ + 1) + n)) (e := 0) (by omega) (x / 2 + 3).toNat 0 out (by omega) (by omega) (by omega) hi
                    refine Ev.step (fun k => ?_) hcp
                    rw [rematchref04_Unpack.j2, if_neg (by decide), str_size, w1, w3, if_neg (by omega), hN, hF, Int.toNat_natCast]
                    rfl
end LzU
end Go.Proofs.YtigcgdhihaibbaaDoor.Pure
