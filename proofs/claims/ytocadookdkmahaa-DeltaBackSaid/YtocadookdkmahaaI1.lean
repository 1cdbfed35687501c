/- Layer 3 (delta): the tokens of a rest, and how long they are. No program in sight. -/
import Derived.Test.YtocadookdkmahaaG7
import Derived.Test.YtocadookdkmahaaHA
import Derived.Test.YtocadookdkmahaaZB
namespace Go.Proofs.Ytocadookdkmahaa.PDl
open Go.RowKit Go.Proofs.YtocadookdkmahaaW.PrintWords Go.Proofs.YtocadookdkmahaaW.PrintLast
open Go.Proofs.Ytocadookdkmahaa.PLz (IsB isB_get isB_take isB_drop isB_app wire_vb wire_vr wire_bytes wire_varint.f wire_Reader_Int.f wire_Reader_Text.f wire_Text_out lb_vr_put lb_vb_bytes)
open Go.Proofs.Ytocadookdkmahaa.PDeltaDiffs (delta_mix.f slices_Equal_byte_byte.f slices_Equal_byte_byte.l0)
set_option linter.unusedVariables false
/-- the tokens of a rest -/
def dl_toks : Nat → List Int → List Int
  | 0, _ => []
  | f + 1, r => if dl_zeros r < r.length then
      wire_vb 9 (dl_zeros r : Nat) ++ (wire_vb 9 (dl_lits (r.drop (dl_zeros r)) : Nat) ++ ((r.drop (dl_zeros r)).take (dl_lits (r.drop (dl_zeros r))) ++ dl_toks f ((r.drop (dl_zeros r)).drop (dl_lits (r.drop (dl_zeros r)))))) else []
theorem dl_go_toks (M : List Int) : ∀ (f p : Nat) (out : List Int), dl_go M f p out = out ++ dl_toks f (M.drop p)
  | 0, p, out => by rw [dl_go, dl_toks, List.append_nil]
  | f + 1, p, out => by
    rw [dl_go, dl_toks]
    split
    · rw [dl_go_toks M f]
      have e1 : (dl_lit M p).length = dl_lits ((M.drop p).drop (dl_zeros (M.drop p))) := by
        unfold dl_lit
        rw [List.length_take]
        have := dl_lits_le ((M.drop p).drop (dl_zeros (M.drop p)))
        omega
      have e2 : M.drop (dl_next M p) = ((M.drop p).drop (dl_zeros (M.drop p))).drop (dl_lits ((M.drop p).drop (dl_zeros (M.drop p)))) := by
        rw [List.drop_drop, List.drop_drop]
        unfold dl_next
        rw [Nat.add_assoc]
      rw [e1, e2]
      simp only [List.append_assoc]
      rfl
    · rw [List.append_nil]
theorem dl_diff_toks (M : List Int) (n : Nat) : dl_diff M n = wire_vb 9 (n : Nat) ++ dl_toks (M.length + 1) M := by
  unfold dl_diff
  rw [dl_go_toks, List.drop_zero]
theorem dl_litF_ends (l : List Int) : ∀ (f n : Nat), n ≤ l.length → l.length < n + f → dl_ends l (dl_litF l f n) = true
  | 0, n, h, h2 => by omega
  | f + 1, n, h, h2 => by
    rw [dl_litF]
    split
    · assumption
    · rename_i hne
      have : n ≠ l.length := fun e => hne (by rw [e]; exact dl_ends_end l)
      exact dl_litF_ends l f (n + 1) (by omega) (by omega)
theorem dl_lits_ends (l : List Int) : 4 ≤ dl_zeros (l.drop (dl_lits l)) ∨ dl_zeros (l.drop (dl_lits l)) = (l.drop (dl_lits l)).length := by
  have h := dl_litF_ends l (l.length + 1) 0 (by omega) (by omega)
  unfold dl_ends at h
  rw [List.length_drop]
  unfold dl_lits
  simp only [Bool.or_eq_true, decide_eq_true_eq] at h
  exact h
theorem dl_vb2 (n : Nat) (h : n < 16384) : (wire_vb 9 (n : Int)).length ≤ 2 := by
  rw [wire_vb]
  split
  · rw [wire_vb, if_neg (by omega)]
    simp
  · simp
theorem dl_toks_len : ∀ (f : Nat) (r : List Int), r.length ≤ 4000 → (dl_toks f r).length ≤ r.length + 4 ∧ ((4 ≤ dl_zeros r ∨ dl_zeros r = r.length) → (dl_toks f r).length ≤ r.length)
  | 0, r, h => by rw [dl_toks]; simp
  | f + 1, r, h => by
    rw [dl_toks]
    split
    · rename_i hz
      have e1 := dl_zeros_le r
      have e2 := dl_lits_le (r.drop (dl_zeros r))
      obtain ⟨z, hzz⟩ : ∃ z, dl_zeros r = z := ⟨_, rfl⟩
      rw [hzz] at hz e1 e2 ⊢
      obtain ⟨r1, hr1⟩ : ∃ r1, r.drop z = r1 := ⟨_, rfl⟩
      have l1 : r1.length = r.length - z := by rw [← hr1, List.length_drop]
      rw [hr1] at e2 ⊢
      have e3 := dl_lits_ends r1
      obtain ⟨L, hL⟩ : ∃ L, dl_lits r1 = L := ⟨_, rfl⟩
      rw [hL] at e2 e3 ⊢
      have ih := (dl_toks_len f (r1.drop L) (by rw [List.length_drop]; omega)).2 e3
      rw [List.length_drop] at ih
      have v1 := dl_vb2 z (by omega)
      have v2 := dl_vb2 L (by omega)
      simp only [List.length_append, List.length_take]
      omega
    · simp
theorem dl_diff_len (M : List Int) (h : M.length ≤ 4000) : (dl_diff M M.length).length ≤ M.length + 6 := by
  rw [dl_diff_toks, List.length_append]
  have := (dl_toks_len (M.length + 1) M h).1
  have := dl_vb2 M.length (by omega)
  omega
theorem dl_zeros_repl : ∀ n : Nat, dl_zeros (List.replicate n 0) = n
  | 0 => rfl
  | n + 1 => by rw [List.replicate_succ, dl_zeros, if_pos rfl, dl_zeros_repl n]
theorem dl_diff_zeros (n : Nat) (h : n ≤ 4000) : (dl_diff (List.replicate n 0) n).length ≤ 3 := by
  rw [dl_diff_toks, dl_toks, dl_zeros_repl, List.length_replicate, if_neg (by omega), List.append_nil]
  have := dl_vb2 n (by omega)
  omega
theorem dl_xor_self (x : Int) : Go.bits .xor .u8 x x = 0 := by
  simp only [Go.bits]
  rw [IntKind.wrap_u8]
  simp
theorem dl_xor_nat (x y : Nat) (hx : x < 256) (hy : y < 256) : Go.bits .xor .u8 (x : Int) (y : Int) = ((x ^^^ y : Nat) : Int) := by
  have hxy : x ^^^ y < 2 ^ 8 := Nat.xor_lt_two_pow (by omega) (by omega)
  have h1 : (BitVec.ofInt 8 (x : Int)).toNat = x := by
    rw [BitVec.ofInt_natCast, BitVec.toNat_ofNat]; exact Nat.mod_eq_of_lt (by omega)
  have h2 : (BitVec.ofInt 8 (y : Int)).toNat = y := by
    rw [BitVec.ofInt_natCast, BitVec.toNat_ofNat]; exact Nat.mod_eq_of_lt (by omega)
  show IntKind.u8.wrap ((BitVec.ofInt 8 (x : Int) ^^^ BitVec.ofInt 8 (y : Int)).toNat : Int) = _
  rw [BitVec.toNat_xor, h1, h2, IntKind.wrap_u8]
  omega
theorem dl_xor_xor (x y : Int) (hx : 0 ≤ x ∧ x < 256) (hy : 0 ≤ y ∧ y < 256) : Go.bits .xor .u8 (Go.bits .xor .u8 x y) y = x := by
  obtain ⟨a, rfl⟩ := Int.eq_ofNat_of_zero_le hx.1
  obtain ⟨b, rfl⟩ := Int.eq_ofNat_of_zero_le hy.1
  have hxy : a ^^^ b < 2 ^ 8 := Nat.xor_lt_two_pow (by omega) (by omega)
  rw [dl_xor_nat a b (by omega) (by omega), dl_xor_nat _ b (by omega) (by omega), Nat.xor_assoc, Nat.xor_self, Nat.xor_zero]
theorem dl_ext {a b : List Int} (hl : a.length = b.length) (h : ∀ j, j < b.length → a.getD j 0 = b.getD j 0) : a = b := by
  refine List.ext_getElem hl (fun i h1 h2 => ?_)
  have := h i h2
  rw [List.getD_eq_getElem?_getD, List.getD_eq_getElem?_getD, List.getElem?_eq_getElem h1, List.getElem?_eq_getElem h2] at this
  simpa using this
theorem dl_mix_mix {a b : List Int} (ha : IsB a) (hb : IsB b) : dl_mix a (dl_mix a b) = b := by
  refine dl_ext (by rw [dl_mix_len, dl_mix_len]) (fun j hj => ?_)
  rw [dl_mix_get _ _ _ (by rw [dl_mix_len]; exact hj), dl_mix_get _ _ _ hj]
  split
  · exact dl_xor_xor _ _ (isB_get hb _) (isB_get ha _)
  · rfl
theorem dl_mix_self {b : List Int} : dl_mix b b = List.replicate b.length 0 := by
  refine dl_ext (by rw [dl_mix_len, List.length_replicate]) (fun j hj => ?_)
  rw [List.length_replicate] at hj
  rw [dl_mix_get _ _ _ hj, if_pos hj, dl_xor_self, List.getD_eq_getElem?_getD, List.getElem?_replicate, if_pos hj]
  rfl
end Go.Proofs.Ytocadookdkmahaa.PDl
