/- Chunk: the reader's At and Fixed. No condition. -/
import Derived.Test.YtigcgdhihaibbaaDoorK1
namespace Go.Proofs.YtigcgdhihaibbaaDoor.PLz
open Go.RowKit Go.Proofs.YtigcgdhihaibbaaDoorW.PrintWords Go.Proofs.YtigcgdhihaibbaaDoorW.PrintLast Go.Proofs.YtigcgdhihaibbaaDoorW.PrintMore
attribute [local go_sem] max2_int min2_int max_two min_two max_three min_three max_four min_four   -- for this text's walks alone
set_option linter.unusedVariables false
set_option linter.unusedSimpArgs false
set_option maxHeartbeats 4000000
set_option maxRecDepth 20000

theorem wire_At_ro (g : Nat) (f0 : List Int) (f1 f2 : Int) (w0 w : World) (hI : IsS72 w0 w g f0 f1 f2) : Calls Tryd.prog 40 #[.pointer (some ⟨g, 0, none⟩)] w fun e w' => e = .returned (.int .i64 f1) ∧ w' = w := by
  obtain ⟨A0, c0, hb, hg, hr0, hq0⟩ := hI
  have hc1 := cellS72_1 hb
  clear hb hr0
  go_enter Tryd.func40, Tryd.ntmps40
  go_wp2
  go_ret
  exact ⟨rfl, rfl⟩
/-- bytes as one number -/
def ck_num (l : List Int) : Int := l.foldl (fun o c => o * 256 + c) 0
theorem ck_num_fold : ∀ (l : List Int) (o : Int), 0 ≤ o → IsB l → 0 ≤ l.foldl (fun o c => o * 256 + c) o ∧ l.foldl (fun o c => o * 256 + c) o < (o + 1) * 256 ^ l.length
  | [], o, h, _ => by simp; omega
  | c :: l, o, h, hl => by
    have hc := hl c (List.mem_cons_self ..)
    have h1 := ck_num_fold l (o * 256 + c) (by omega) (fun x hx => hl x (List.mem_cons_of_mem _ hx))
    rw [List.foldl_cons, List.length_cons, Int.pow_succ, Int.mul_comm (256 ^ l.length) 256, ← Int.mul_assoc]
    refine ⟨h1.1, Int.lt_of_lt_of_le h1.2 (Int.mul_le_mul_of_nonneg_right (by omega) (Int.pow_nonneg (by decide)))⟩
theorem ck_num_range (l : List Int) (h : IsB l) : 0 ≤ ck_num l ∧ ck_num l < 256 ^ l.length := by
  have := ck_num_fold l 0 (by omega) h
  unfold ck_num
  simpa using this
theorem ck_num_next (l : List Int) (k : Nat) (h : k < l.length) : ck_num (l.take (k + 1)) = ck_num (l.take k) * 256 + l.getD k 0 := by
  unfold ck_num
  rw [List.take_succ_eq_append_getElem h, List.foldl_append]
  simp [List.getD_eq_getElem?_getD, h]
theorem ck_or32 (a c : Int) (ha : 0 ≤ a ∧ a < 16777216) (hc : 0 ≤ c ∧ c < 256) : bits .or .u32 (a * 256 % 4294967296) c = a * 256 + c := by
  obtain ⟨x, rfl⟩ := Int.eq_ofNat_of_zero_le ha.1
  obtain ⟨y, rfl⟩ := Int.eq_ofNat_of_zero_le hc.1
  have hw : ((x : Int) * 256) % 4294967296 = ((x * 256 : Nat) : Int) := by omega
  have e : x * 256 + y = x * 256 ||| y := by
    rw [Nat.mul_comm]
    exact Nat.two_pow_add_eq_or_of_lt (i := 8) (by omega) x
  have h1 : (BitVec.ofInt 32 ((x * 256 : Nat) : Int)).toNat = x * 256 := by
    rw [BitVec.ofInt_natCast, BitVec.toNat_ofNat]; exact Nat.mod_eq_of_lt (by omega)
  have h2 : (BitVec.ofInt 32 (y : Int)).toNat = y := by
    rw [BitVec.ofInt_natCast, BitVec.toNat_ofNat]; exact Nat.mod_eq_of_lt (by omega)
  rw [hw]
  show IntKind.u32.wrap ((BitVec.ofInt 32 ((x * 256 : Nat) : Int) ||| BitVec.ofInt 32 (y : Int)).toNat : Int) = _
  rw [BitVec.toNat_or, h1, h2, ← e]
  simp [IntKind.wrap, IntKind.bits, IntKind.signed]
  omega
def wire_Reader_Fixed.f (l : List Int) (p e : Int) : Option (Int × Int × Int) := (wire_Reader_Bytes.f l p e 4).bind fun v => some (ck_num v.1, v.2.1, v.2.2)
theorem ck_Bytes_of {l : List Int} {p e n p2 e2 : Int} {bs : List Int} (hB : IsB l) (h : wire_Reader_Bytes.f l p e n = some (bs, p2, e2)) : IsB bs ∧ (bs.length : Int) ≤ max 0 n := by
  unfold wire_Reader_Bytes.f at h
  have h0 : IsB ([] : List Int) := isB_nil
  split at h
  · split at h
    · split at h
      · injection h with h; injection h with h1 h2; subst h1; exact ⟨h0, by simp; omega⟩
      · split at h
        · injection h with h; injection h with h1 h2; subst h1; exact ⟨h0, by simp; omega⟩
        · injection h with h; injection h with h1 h2; subst h1; exact ⟨isB_take (isB_drop hB _) _, by rw [List.length_take]; omega⟩
    · cases h
  · injection h with h; injection h with h1 h2; subst h1; exact ⟨h0, by simp; omega⟩
theorem wire_Reader_Fixed.calls (g : Nat) (s0_0 : List Int) (s0_1 s0_2 : Int) (r1 : Int) (r2 : Int) (r3 : Int) (w0 w : World) (hI : IsS72 w0 w g s0_0 s0_1 s0_2) (hB : Below w0.heap.size w0 w) (hIB : IsB s0_0) (h : wire_Reader_Fixed.f s0_0 s0_1 s0_2 = some (r1, r2, r3)) :
    Calls Tryd.prog 41 #[.pointer (some ⟨g, 0, none⟩)] w fun e w' => e = .returned (.int .u32 r1) ∧ IsS72 w0 w' g s0_0 r2 r3 ∧ Below w0.heap.size w0 w' ∧ KeepBut w w' g none := by
  unfold wire_Reader_Fixed.f at h
  obtain ⟨⟨bs, p2, e2⟩, hb, h⟩ := Option.bind_eq_some_iff.1 h
  injection h with h
  injection h with h1 h2
  injection h2 with h2 h3
  simp only at h1 h2 h3
  subst h2 h3
  obtain ⟨hbB, hbl⟩ := ck_Bytes_of hIB hb
  have hbl4 : bs.length ≤ 4 := by omega
  have RC := Lib.hid (wire_Reader_Bytes.calls g s0_0 s0_1 s0_2 4 bs p2 e2 w0 w hI hB hb)
  have H1 := Lib.hid h1
  have HBB := Lib.hid hbB
  clear hI hB hb h1 hbB hbl hIB
  go_enter Tryd.func41, Tryd.ntmps41
  go_wp2_with fail
  refine RC.out.mono ?_; rintro e w1 ⟨v1, rfl, R1, I1, B1, K1⟩
  obtain ⟨A1, c1, rfl, q1, C1⟩ := wire_form R1
  have HI := Lib.hid I1
  have HB := Lib.hid B1
  have HK := Lib.hid K1
  have HC := Lib.hid C1
  clear R1 I1 B1 K1 C1 RC
  go_wp2_with fail
  go_loop [2, 4, 8] (fun o _ i => ∃ k : Nat, k ≤ bs.length ∧ i = .int .i64 k ∧ o = .int .u32 (ck_num (bs.take k))) (fun _ _ i => bs.length - (intOf i).toNat)
  case atStart => exact ⟨0, by omega, rfl, rfl⟩
  case round =>
    obtain ⟨k, hk, rfl, rfl⟩ := hrel
    by_cases hlt : k < bs.length
    · have hlt' : (k : Int) < bs.length := by omega
      obtain ⟨ad, rfl, hcell⟩ := lz_get_cell HC.out k hlt
      have hN := ck_num_next bs k hlt
      have hr := ck_num_range (bs.take k) (isB_take HBB.out k)
      have hp : (256 : Int) ^ (bs.take k).length ≤ 16777216 := by
        rw [List.length_take, Nat.min_eq_left hk]
        have h4 : k = 0 ∨ k = 1 ∨ k = 2 ∨ k = 3 := by omega
        rcases h4 with rfl | rfl | rfl | rfl <;> decide
      have hx := HBB.out (bs.getD k 0) (by simp [List.getD_eq_getElem?_getD, hlt])
      obtain ⟨x, hxx⟩ : ∃ x, bs.getD k 0 = x := ⟨_, rfl⟩
      obtain ⟨y, hyy⟩ : ∃ y, ck_num (bs.take k) = y := ⟨_, rfl⟩
      rw [hxx] at hN hx hcell
      rw [hyy] at hN hr ⊢
      have HOR := Lib.hid (ck_or32 y x (by omega) hx)
      have HNN := Lib.hid hN
      clear hN hxx hyy hr hp
      go_wp2_with fail
      exact ⟨⟨k + 1, by omega, by go_num, by rw [HOR.out, HNN.out]⟩, by simp [intOf]; omega⟩
    · have hlt' : ¬ (k : Int) < bs.length := by omega
      obtain rfl : k = bs.length := by omega
      rw [List.take_length, H1.out]
      go_wp2_with fail
      go_ret
      exact ⟨rfl, HI.out, HB.out, HK.out⟩
/-- one byte, read -/
def ck_byte (l : List Int) (p e : Int) : Option (Int × Int × Int) := (wire_Reader_Bytes.f l p e 1).bind fun v => some (v.1.getD 0 0, v.2.1, v.2.2)
theorem ck_byte_calls (pp g : Nat) (s0_0 : List Int) (s0_1 s0_2 : Int) (r1 : Int) (r2 : Int) (r3 : Int) (w0 w : World) (hp : w.cell? ⟨pp, 0, none⟩ = some (.pointer (some ⟨g, 0, none⟩))) (hI : IsS72 w0 w g s0_0 s0_1 s0_2) (hB : Below w0.heap.size w0 w) (h : ck_byte s0_0 s0_1 s0_2 = some (r1, r2, r3)) :
    Calls Tryd.prog 36 #[.pointer (some ⟨pp, 0, none⟩)] w fun e w' => e = .returned (.int .u8 r1) ∧ IsS72 w0 w' g s0_0 r2 r3 ∧ Below w0.heap.size w0 w' ∧ KeepBut w w' g none := by
  unfold ck_byte at h
  obtain ⟨⟨bs, p2, e2⟩, hb, h⟩ := Option.bind_eq_some_iff.1 h
  injection h with h
  injection h with h1 h2
  injection h2 with h2 h3
  simp only at h1 h2 h3
  subst h2 h3
  have RC := Lib.hid (wire_Reader_Bytes.calls g s0_0 s0_1 s0_2 1 bs p2 e2 w0 w hI hB hb)
  have H1 := Lib.hid h1
  clear hI hB hb h1 h
  go_enter Tryd.func36, Tryd.ntmps36
  go_wp2_with fail
  refine RC.out.mono ?_; rintro e w1 ⟨v1, rfl, R1, I1, B1, K1⟩
  obtain ⟨A1, c1, rfl, q1, C1⟩ := wire_form R1
  have HI := Lib.hid I1
  have HB := Lib.hid B1
  have HK := Lib.hid K1
  have HC := Lib.hid C1
  clear R1 I1 B1 K1 C1 RC
  by_cases hz : bs.length = 0
  · have hbs : bs = [] := List.length_eq_zero_iff.1 hz
    subst hbs
    have e0 : ((([] : List Int).length : Int) == 0) = true := rfl
    have hr : r1 = 0 := by rw [← H1.out]; rfl
    subst hr
    go_wp2_with fail
    go_ret
    exact ⟨rfl, HI.out, HB.out, HK.out⟩
  · have hz' : ((bs.length : Int) == 0) = false := by simpa using hz
    have hpos : 0 < bs.length := by omega
    obtain ⟨ad, rfl, hcell⟩ := lz_get_cell HC.out 0 hpos
    rw [H1.out, show ad.add 0 = ad from rfl] at hcell
    go_wp2_with fail
    go_ret
    exact ⟨rfl, HI.out, HB.out, HK.out⟩
end Go.Proofs.YtigcgdhihaibbaaDoor.PLz
