/- The checksum's step on 32-bit words: linear, one-to-one; half bytes by a table; a burst of at most four bytes is seen. No condition. -/
import Derived.WalkKit
namespace Go.Proofs.YtigcgdhihaibbaaDoor.CrcP
/-- one bit of the polynomial division, on 32-bit words -/
def st (x : BitVec 32) : BitVec 32 := (x >>> 1) ^^^ (if x.getLsbD 0 then 0xedb88320#32 else 0#32)

theorem xx (c x y : BitVec 32) : x ^^^ y = (x ^^^ c) ^^^ (y ^^^ c) := by
  have h : c ^^^ c = 0#32 := BitVec.xor_self
  calc x ^^^ y = x ^^^ y ^^^ (c ^^^ c) := by rw [h]; simp
    _ = _ := by ac_rfl

theorem st_xor (a b : BitVec 32) : st (a ^^^ b) = st a ^^^ st b := by
  unfold st
  simp only [BitVec.getLsbD_xor, BitVec.ushiftRight_xor_distrib]
  have e : ∀ c d : Bool, ((a >>> 1) ^^^ (b >>> 1)) ^^^ (if (c ^^ d) = true then 0xedb88320#32 else 0#32) = ((a >>> 1) ^^^ (if c = true then 0xedb88320#32 else 0#32)) ^^^ ((b >>> 1) ^^^ (if d = true then 0xedb88320#32 else 0#32)) := by
    intro c d
    cases c <;> cases d
    · simp
    · simp; ac_rfl
    · simp; ac_rfl
    · simp only [bne_self_eq_false, Bool.false_eq_true, if_false, if_true, BitVec.xor_zero]; exact xx _ _ _
  exact e _ _

def stN : Nat → BitVec 32 → BitVec 32
  | 0, x => x
  | n + 1, x => stN n (st x)

theorem stN_xor (n : Nat) (a b : BitVec 32) : stN n (a ^^^ b) = stN n a ^^^ stN n b := by
  induction n generalizing a b with
  | zero => rfl
  | succ n ih => simp only [stN, st_xor, ih]

theorem stN_add (m n : Nat) (x : BitVec 32) : stN (m + n) x = stN n (stN m x) := by
  induction m generalizing x with
  | zero => simp [stN]
  | succ m ih => rw [Nat.succ_add]; simp only [stN, ih]

theorem st_even {a : BitVec 32} (g : a.getLsbD 0 = false) : st a = a >>> 1 := by
  unfold st; rw [g]; simp

/-- low bits zero: only a shift -/
theorem stN_low (n : Nat) : ∀ {a : BitVec 32}, (∀ i, i < n → a.getLsbD i = false) → stN n a = a >>> n := by
  induction n with
  | zero => intro a _; simp [stN]
  | succ n ih =>
    intro a h
    simp only [stN]
    rw [st_even (h 0 (by omega)), ih]
    · apply BitVec.eq_of_getLsbD_eq
      intro i _
      simp only [BitVec.getLsbD_ushiftRight]
      congr 1; omega
    · intro i hi
      rw [BitVec.getLsbD_ushiftRight]
      have := h (1 + i) (by omega)
      exact this

/-- a byte into the state -/
def byte (x : BitVec 32) (c : BitVec 32) : BitVec 32 := stN 8 (x ^^^ c)

def run (x : BitVec 32) : List (BitVec 32) → BitVec 32
  | [] => x
  | c :: l => run (byte x c) l

theorem run_append (x : BitVec 32) (a b : List (BitVec 32)) : run x (a ++ b) = run (run x a) b := by
  induction a generalizing x with
  | nil => rfl
  | cons c a ih => exact ih _

/-- the little-endian word of some bytes -/
def word : List (BitVec 32) → BitVec 32
  | [] => 0#32
  | c :: l => c ^^^ (word l <<< 8)

end Go.Proofs.YtigcgdhihaibbaaDoor.CrcP
namespace Go.Proofs.YtigcgdhihaibbaaDoor
open CrcP
theorem bits_xor_bv (a c : BitVec 32) : bits .xor .u32 (a.toNat : Int) (c.toNat : Int) = ((a ^^^ c).toNat : Int) := by
  have h := (a ^^^ c).isLt
  simp only [bits, IntKind.bits, BitVec.ofInt_natCast, BitVec.ofNat_toNat, BitVec.setWidth_eq]
  rw [IntKind.wrap_u32]
  show ((a ^^^ c).toNat : Int) % 4294967296 = _
  omega
/-- the table's entry -/
def tabI (k : Nat) : Int := ((stN 4 (BitVec.ofNat 32 k)).toNat : Int)
theorem low_high (x : BitVec 32) : x = (x >>> 4 <<< 4) ^^^ (BitVec.ofNat 32 (x.toNat % 16)) := by
  apply BitVec.eq_of_getLsbD_eq
  intro i hi
  simp only [BitVec.getLsbD_xor, BitVec.getLsbD_shiftLeft, BitVec.getLsbD_ushiftRight, BitVec.getLsbD_ofNat]
  rw [show (16 : Nat) = 2 ^ 4 from rfl, Nat.testBit_mod_two_pow]
  by_cases h : i < 4
  · simp [h, hi, BitVec.getLsbD]
  · have : 4 + (i - 4) = i := by omega
    simp [h, hi, this]
theorem half (x : BitVec 32) : bits .xor .u32 ((x.toNat : Int) / 16) (tabI (x.toNat % 16)) = ((stN 4 x).toNat : Int) := by
  have e : ((x.toNat : Int) / (16 : Int)) = ((x >>> 4).toNat : Int) := by
    rw [BitVec.toNat_ushiftRight, Nat.shiftRight_eq_div_pow]
    omega
  rw [e]
  unfold tabI
  rw [bits_xor_bv]
  congr 2
  conv => rhs; rw [low_high x, stN_xor]
  congr 1
  rw [stN_low 4]
  · apply BitVec.eq_of_getLsbD_eq
    intro i hi
    simp only [BitVec.getLsbD_shiftLeft, BitVec.getLsbD_ushiftRight]
    by_cases h : 4 + i < 32
    · simp [h]
    · simp [h]; rw [BitVec.getLsbD_of_ge _ _ (by omega)]
  · intro i hi
    simp [BitVec.getLsbD_shiftLeft, hi]
def bv (c : Int) : BitVec 32 := BitVec.ofNat 32 c.toNat
theorem bv_toNat (c : Int) (h : 0 ≤ c ∧ c ≤ 255) : ((bv c).toNat : Int) = c := by
  unfold bv
  rw [BitVec.toNat_ofNat]
  omega
/-- the checksum -/
def moreB (s : BitVec 32) (xs : List Int) : BitVec 32 := ~~~ (run (~~~ s) (xs.map bv))
theorem not_bv (x : BitVec 32) : bits .xor .u32 4294967295 (x.toNat : Int) = ((~~~ x).toNat : Int) := by
  have h := bits_xor_bv (~~~ (0#32)) x
  rw [show ((~~~ (0#32)).toNat : Int) = 4294967295 from rfl] at h
  rw [h]
  congr 2
theorem tab_all : (List.range 16).map tabI = [0, 498536548, 997073096, 651767980, 1994146192, 1802195444, 1303535960, 1342533948, 3988292384, 4027552580, 3604390888, 3412177804, 2607071920, 2262029012, 2685067896, 3183342108] := by decide +kernel
theorem run_snoc (x : BitVec 32) (l : List (BitVec 32)) (c : BitVec 32) : run x (l ++ [c]) = byte (run x l) c := by rw [run_append]; rfl
end Go.Proofs.YtigcgdhihaibbaaDoor
