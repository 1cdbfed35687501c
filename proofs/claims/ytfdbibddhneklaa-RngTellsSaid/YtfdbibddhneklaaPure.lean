/- Numbers of the generator: its step, on 32-bit words, is one-to-one, and is 0 at 0 alone. No condition. -/
import Derived.WalkKit
namespace Go.Proofs.Ytfdbibddhneklaa.RngP
def up (k : Nat) (x : BitVec 32) : BitVec 32 := x ^^^ (x <<< k)
def dn (k : Nat) (x : BitVec 32) : BitVec 32 := x ^^^ (x >>> k)
theorem up_xor (k : Nat) (a b : BitVec 32) : up k (a ^^^ b) = up k a ^^^ up k b := by
  unfold up; rw [BitVec.shiftLeft_xor_distrib]; ac_rfl
theorem dn_xor (k : Nat) (a b : BitVec 32) : dn k (a ^^^ b) = dn k a ^^^ dn k b := by
  unfold dn; rw [BitVec.ushiftRight_xor_distrib]; ac_rfl
theorem up0 {k : Nat} (hk : 0 < k) {x : BitVec 32} (h : up k x = 0#32) : x = 0#32 := by
  have key : ∀ n i, i < n → x.getLsbD i = false := by
    intro n
    induction n with
    | zero => intro i hi; omega
    | succ n ih =>
      intro i hi
      by_cases g : i < n
      · exact ih i g
      · have := congrArg (fun y => y.getLsbD i) h
        simp only [up, BitVec.getLsbD_xor, BitVec.getLsbD_shiftLeft] at this
        by_cases g2 : i < k
        · simpa [g2] using this
        · rw [ih (i - k) (by omega)] at this; simpa using this
  apply BitVec.eq_of_getLsbD_eq
  intro i hi
  rw [key 32 i hi]; simp
theorem dn0 {k : Nat} (hk : 0 < k) {x : BitVec 32} (h : dn k x = 0#32) : x = 0#32 := by
  have key : ∀ n i, 32 - n ≤ i → x.getLsbD i = false := by
    intro n
    induction n with
    | zero => intro i hi; exact BitVec.getLsbD_of_ge _ _ (by omega)
    | succ n ih =>
      intro i hi
      have := congrArg (fun y => y.getLsbD i) h
      simp only [dn, BitVec.getLsbD_xor, BitVec.getLsbD_ushiftRight] at this
      by_cases g : 32 ≤ i
      · exact BitVec.getLsbD_of_ge _ _ g
      · rw [ih (k + i) (by omega)] at this; simpa using this
  apply BitVec.eq_of_getLsbD_eq
  intro i hi
  rw [key 32 i (by omega)]; simp
theorem eq_of_xor {a b : BitVec 32} (h : a ^^^ b = 0#32) : a = b := by
  have := congrArg (· ^^^ b) h
  simp only [BitVec.xor_assoc, BitVec.xor_self, BitVec.xor_zero, BitVec.zero_xor] at this
  exact this
def nx (x : BitVec 32) : BitVec 32 := up 5 (dn 17 (up 13 x))
theorem nx_xor (a b : BitVec 32) : nx (a ^^^ b) = nx a ^^^ nx b := by simp only [nx, up_xor, dn_xor]
theorem nx0 {x : BitVec 32} (h : nx x = 0#32) : x = 0#32 := up0 (by decide) (dn0 (by decide) (up0 (by decide) h))
theorem nx_inj {a b : BitVec 32} (h : nx a = nx b) : a = b := by
  apply eq_of_xor; apply nx0; rw [nx_xor, h, BitVec.xor_self]
end Go.Proofs.Ytfdbibddhneklaa.RngP
namespace Go.Proofs.Ytfdbibddhneklaa
open RngP
theorem bits_xor_bv (a c : BitVec 32) : bits .xor .u32 (a.toNat : Int) (c.toNat : Int) = ((a ^^^ c).toNat : Int) := by
  have h := (a ^^^ c).isLt
  simp only [bits, IntKind.bits, BitVec.ofInt_natCast, BitVec.ofNat_toNat, BitVec.setWidth_eq]
  rw [IntKind.wrap_u32]
  show ((a ^^^ c).toNat : Int) % 4294967296 = _
  omega
theorem shl_bv (a : BitVec 32) (k m : Nat) (hm : m = 2 ^ k) : (a.toNat : Int) * (m : Int) % (4294967296 : Int) = ((a <<< k).toNat : Int) := by
  subst hm
  rw [BitVec.toNat_shiftLeft, Nat.shiftLeft_eq]
  omega
theorem shr_bv (a : BitVec 32) (k m : Nat) (hm : m = 2 ^ k) : (a.toNat : Int) / (m : Int) = ((a >>> k).toNat : Int) := by
  subst hm
  rw [BitVec.toNat_ushiftRight, Nat.shiftRight_eq_div_pow]
  omega
def nxI (s : Int) : Int :=
  bits .xor .u32 (bits .xor .u32 (bits .xor .u32 s (s * 8192 % 4294967296)) (bits .xor .u32 s (s * 8192 % 4294967296) / 131072))
    (bits .xor .u32 (bits .xor .u32 s (s * 8192 % 4294967296)) (bits .xor .u32 s (s * 8192 % 4294967296) / 131072) * 32 % 4294967296)
theorem nxI_bv (b : BitVec 32) : nxI (b.toNat : Int) = ((nx b).toNat : Int) := by
  have h1 : ∀ a : BitVec 32, (a.toNat : Int) * (8192 : Int) % (4294967296 : Int) = ((a <<< 13).toNat : Int) := fun a => shl_bv a 13 8192 rfl
  have h2 : ∀ a : BitVec 32, (a.toNat : Int) / (131072 : Int) = ((a >>> 17).toNat : Int) := fun a => shr_bv a 17 131072 rfl
  have h3 : ∀ a : BitVec 32, (a.toNat : Int) * (32 : Int) % (4294967296 : Int) = ((a <<< 5).toNat : Int) := fun a => shl_bv a 5 32 rfl
  unfold nxI
  simp only [h1, bits_xor_bv, h2, h3]
  rfl
def sdI (n : Int) : Int := if n = 0 then 2654435769 else n
def nextI (n : Int) : Int := nxI (sdI n)
theorem sdI_sdI (n : Int) : sdI (sdI n) = sdI n := by unfold sdI; split <;> simp_all
theorem sdI_ne (n : Int) : sdI n ≠ 0 := by unfold sdI; split <;> simp_all
theorem sdI_range (n : Int) (h : 0 ≤ n ∧ n ≤ 4294967295) : 0 ≤ sdI n ∧ sdI n ≤ 4294967295 := by unfold sdI; split <;> omega
theorem of_range (n : Int) (h : 0 ≤ n ∧ n ≤ 4294967295) : ∃ b : BitVec 32, n = (b.toNat : Int) := ⟨BitVec.ofNat 32 n.toNat, by simp; omega⟩
theorem next_ne (n : Int) (h : 0 ≤ n ∧ n ≤ 4294967295) : nextI n ≠ 0 := by
  obtain ⟨b, hb⟩ := of_range _ (sdI_range n h)
  unfold nextI
  rw [hb, nxI_bv]
  intro hc
  have h1 : nx b = 0#32 := by apply BitVec.eq_of_toNat_eq; simp; omega
  have h2 := nx0 h1
  apply sdI_ne n
  rw [hb, h2]; rfl
theorem next_eq (m n : Int) (hm : 0 ≤ m ∧ m ≤ 4294967295) (hn : 0 ≤ n ∧ n ≤ 4294967295) : nextI m = nextI n ↔ sdI m = sdI n := by
  constructor
  · obtain ⟨b, hb⟩ := of_range _ (sdI_range m hm)
    obtain ⟨c, hc⟩ := of_range _ (sdI_range n hn)
    unfold nextI
    rw [hb, hc, nxI_bv, nxI_bv]
    intro h
    have h1 : nx b = nx c := by apply BitVec.eq_of_toNat_eq; omega
    rw [nx_inj h1]
  · intro h; unfold nextI; rw [h]
end Go.Proofs.Ytfdbibddhneklaa
