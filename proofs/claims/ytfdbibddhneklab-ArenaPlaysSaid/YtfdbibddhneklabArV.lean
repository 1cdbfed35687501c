import Derived.Test.YtfdbibddhneklabArU
import Derived.Deep.Slices
import Derived.Deep.Strs
namespace Go.Proofs.Ytfdbibddhneklab.Arena
open Go.RowKit Go.Sort Go.ChangeShapes Go.WideShapes Go.Proofs.YtfdbibddhneklabW.PrintWords
set_option linter.unusedVariables false
set_option linter.unusedSimpArgs false
set_option maxRecDepth 100000
set_option maxHeartbeats 2000000
/-- the acts that came in -/
structure Acts (W : World) (A : Option Addr) (len : Nat) (D : Nat → Int) (Id : Nat → Nat) (X : Nat → Int) : Prop where
  d : ∀ i a, i < len → A = some a → W.cell? (a.add (i * 3)) = some (.int .u8 (D i))
  i : ∀ i a, i < len → A = some a → W.cell? (a.add (i * 3 + 1)) = some (.int .u16 (Id i))
  x : ∀ i a, i < len → A = some a → W.cell? (a.add (i * 3 + 2)) = some (.int .i64 (X i))
  s : 0 < len → ∃ a, A = some a
  r : ∀ i, i < len → Id i < 65536
theorem Acts.next {W W' : World} {A : Option Addr} {len : Nat} {D : Nat → Int} {Id : Nat → Nat} {X : Nat → Int} (h : Acts W A len D Id X) (hb : Below W.heap.size W W') : Acts W' A len D Id X :=
  ⟨fun i a hi ha => cell_next hb (h.d i a hi ha), fun i a hi ha => cell_next hb (h.i i a hi ha), fun i a hi ha => cell_next hb (h.x i a hi ha), h.s, h.r⟩

theorem cells33 : Try.prog.cellsOf 33 = 3 := by kernel_rfl
/-- a slice of acts that came in, cell by cell -/
theorem open_acts {H : Type} {enc : TypeId × Value → H} {W : World} {a : Option Addr} {len cap fuel : Nat} {x : DataW H × List MemPlace} (h : DataW.trod enc Try.prog W 0 (fun _ => true) true fuel 22 [.slice a len cap] = some x) :
    ∃ (D : Nat → Int) (Id : Nat → Nat) (X : Nat → Int), Acts W a len D Id X := by
  rcases Deep.open_slice Try.underlying22 h with ⟨hcs, _⟩ | ⟨ad, l, c, m, n, DD, Pl, hcs, hb, hl, hm, hmm, hx, hi⟩
  · simp at hcs
    obtain ⟨rfl, rfl, rfl⟩ := hcs
    exact ⟨fun _ => 0, fun _ => 0, fun _ => 0, ⟨fun i a hi => by omega, fun i a hi => by omega, fun i a hi => by omega, fun h => by omega, fun i hi => by omega⟩⟩
  · simp at hcs
    obtain ⟨rfl, rfl, rfl⟩ := hcs
    rw [if_pos rfl] at hmm
    rw [cells33] at hi
    have each : ∀ i, i < len → ∃ z : Int × Nat × Int, W.cell? (ad.add (i * 3)) = some (.int .u8 z.1) ∧ W.cell? (ad.add (i * 3 + 1)) = some (.int .u16 (z.2.1 : Int)) ∧ W.cell? (ad.add (i * 3 + 2)) = some (.int .i64 z.2.2) ∧ z.2.1 < 65536 := by
      intro i hil
      obtain ⟨cs', hc, ht'⟩ := hi i (by omega)
      obtain ⟨_, hcl, hat⟩ := World.cells?_some hc
      obtain ⟨y0, y1, y2, n', hy, hlen, t0, t1, t2⟩ := Deep.trod_struct3 Try.underlying33 ht'
      match cs', hcl with
      | [c0, c1, c2], _ =>
        have a0 := hat 0 (by simp)
        have a1 := hat 1 (by simp)
        have a2 := hat 2 (by simp)
        rw [Deep.add_add] at a0 a1 a2
        have s0 : Try.prog.cellsOf 5 = 1 := by kernel_rfl
        have s1 : Try.prog.cellsOf 24 = 1 := by kernel_rfl
        have s2 : Try.prog.cellsOf 3 = 1 := by kernel_rfl
        simp only [s0, s1, s2, List.drop_zero, List.drop_succ_cons, List.take_succ_cons, List.take_zero] at t0 t1 t2
        obtain ⟨d, hd, -, wd⟩ := DataW.trod_int Try.underlying5 t0
        obtain ⟨e, he, -, we⟩ := DataW.trod_int Try.underlying24 t1
        obtain ⟨f, hf, -, wf⟩ := DataW.trod_int Try.underlying3 t2
        simp only [List.cons.injEq, and_true] at hd he hf
        subst hd he hf
        have hr : 0 ≤ e ∧ e < 65536 := by simp [Lit.wf, IntKind.min, IntKind.max, IntKind.bits, IntKind.signed] at we; omega
        refine ⟨(d, e.toNat, f), by simpa using a0, ?_, by simpa using a2, by show e.toNat < 65536; omega⟩
        have : ((e.toNat : Nat) : Int) = e := by omega
        rw [this]
        simpa using a1
    obtain ⟨F, hF⟩ := Deep.choose_lt each
    exact ⟨fun i => (F i).1, fun i => (F i).2.1, fun i => (F i).2.2, ⟨fun i a hi ha => by obtain rfl := Option.some.inj ha; exact (hF i hi).1, fun i a hi ha => by obtain rfl := Option.some.inj ha; exact (hF i hi).2.1, fun i a hi ha => by obtain rfl := Option.some.inj ha; exact (hF i hi).2.2.1, fun _ => ⟨ad, rfl⟩, fun i hi => (hF i hi).2.2.2⟩⟩

/-- where the four arenas of the law lie -/
structure St (W : World) (n : Nat) (L H R S : List Sl) : Prop where
  a : Lies W n L
  h : Lies W (n + 1) H
  w : LiesR W (n + 1 + 1) R
  s : LiesR W (n + 1 + 1 + 1) S
theorem St.next {W W' : World} {n : Nat} {L H R S : List Sl} (h : St W n L H R S) (hb : Below W.heap.size W W') : St W' n L H R S := ⟨h.a.next hb, h.h.next hb, h.w.next hb, h.s.next hb⟩
theorem St.row {W : World} {n g : Nat} {L H R S : List Sl} (h : St W n L H R S) (hg : n + 1 + 1 + 1 < g) (c : Array Value) : St (W.setRow g c) n L H R S :=
  ⟨h.a.row (by omega) c, h.h.row (by omega) c, h.w.row (by omega) c, h.s.row (by omega) c⟩
theorem St.setA {W : World} {n : Nat} {L H R S : List Sl} (h : St W n L H R S) (L' : List Sl) : St (W.setRow n (acs L')) n L' H R S := ⟨h.a.same L', h.h.row (by omega) _, h.w.row (by omega) _, h.s.row (by omega) _⟩
theorem St.setH {W : World} {n : Nat} {L H R S : List Sl} (h : St W n L H R S) (L' : List Sl) : St (W.setRow (n + 1) (acs L')) n L L' R S := ⟨h.a.row (by omega) _, h.h.same L', h.w.row (by omega) _, h.s.row (by omega) _⟩
theorem St.setW {W : World} {n : Nat} {L H R S : List Sl} (h : St W n L H R S) (L' : List Sl) : St (W.setRow (n + 1 + 1) (rcs L')) n L H L' S := ⟨h.a.row (by omega) _, h.h.row (by omega) _, h.w.same L', h.s.row (by omega) _⟩
theorem St.setS {W : World} {n : Nat} {L H R S : List Sl} (h : St W n L H R S) (L' : List Sl) : St (W.setRow (n + 1 + 1 + 1) (rcs L')) n L H R L' := ⟨h.a.row (by omega) _, h.h.row (by omega) _, h.w.row (by omega) _, h.s.same L'⟩
/-- what the slots keep to behind so many acts -/
structure Pv (n : Nat) (L : List Sl) : Prop where
  len : L.length = 128
  gen : ∀ j, j < 128 → 0 ≤ sG L j ∧ sG L j ≤ n
theorem Pv.more {n m : Nat} {L : List Sl} (h : Pv n L) (hm : n ≤ m) : Pv m L := ⟨h.len, fun j hj => by have := h.gen j hj; omega⟩
theorem hasR_eq {n : Nat} {L : List Sl} (h : Pv n L) (hn : n ≤ 300) (k : Nat) : hasR L k = has L k := by
  rw [Bool.eq_iff_iff, has_iff h.gen hn]
  unfold hasR
  rw [Bool.and_eq_true, beq_iff_eq]
theorem dropR_eq {n : Nat} {L : List Sl} (h : Pv n L) (hn : n ≤ 300) (k : Nat) : dropR L k = dropL L k := by
  unfold dropR dropL
  rw [hasR_eq h hn]
  have := h.gen (k % 128) (Nat.mod_lt _ (by omega))
  rw [show (sG L (k % 128) + 1) % 65536 = sG L (k % 128) + 1 by omega]
theorem setR_eq {n : Nat} {L : List Sl} (h : Pv n L) (hn : n ≤ 300) (k : Nat) (x : Int) : setR L k x = setL L k x := by
  unfold setR setL
  rw [hasR_eq h hn]
theorem Pv.set {n m : Nat} {L : List Sl} (h : Pv n L) (hm : n ≤ m) (k : Nat) (x g : Int) (u : Bool) (hk : k < 128) (hg : 0 ≤ g ∧ g ≤ m) : Pv m (L.set k (x, g, u)) :=
  ⟨by rw [List.length_set]; exact h.len, fun j hj => by
    rw [(s_set (by rw [h.len]; exact hk) x g u j).2.1]
    have := h.gen j hj
    split <;> omega⟩
theorem Pv.drop {n : Nat} {L : List Sl} (h : Pv n L) (hn : n ≤ 300) (k : Nat) : Pv (n + 1) (dropL L k) := by
  have hm : k % 128 < 128 := Nat.mod_lt _ (by omega)
  have := h.gen _ hm
  unfold dropL
  split
  · exact h.set (by omega) _ _ _ _ hm (by omega)
  · exact h.more (by omega)
theorem Pv.setx {n : Nat} {L : List Sl} (h : Pv n L) (k : Nat) (x : Int) : Pv (n + 1) (setL L k x) := by
  have hm : k % 128 < 128 := Nat.mod_lt _ (by omega)
  have := h.gen _ hm
  unfold setL
  split
  · exact h.set (by omega) _ _ _ _ hm (by omega)
  · exact h.more (by omega)
theorem Pv.add {n : Nat} {L : List Sl} (h : Pv n L) (x : Int) : Pv (n + 1) (addL L x) := by
  unfold addL
  cases hf : firstF L with
  | none => exact h.more (by omega)
  | some i =>
    have hi : i < 128 := by unfold firstF at hf; rw [List.find?_range_eq_some] at hf; exact List.mem_range.1 hf.2.1
    have := h.gen _ hi
    exact h.set (by omega) _ _ _ _ hi (by omega)
theorem add_is {n : Nat} {L : List Sl} (h : Pv n L) (hn : n ≤ 300) {i : Nat} (hf : firstF L = some i) : addW L = addId L ∧ 0 ≤ addId L ∧ addId L < 65536 := by
  have hi : i < 128 := by unfold firstF at hf; rw [List.find?_range_eq_some] at hf; exact List.mem_range.1 hf.2.1
  have := h.gen _ hi
  unfold addW addId
  rw [hf]
  show (i : Int) + 128 * sG L i = idOf L i ∧ 0 ≤ idOf L i ∧ idOf L i < 65536
  rw [idOf_eq hi this hn]
  omega
theorem add_no {L : List Sl} (hf : firstF L = none) : addW L = -1 ∧ addId L = 0 := by
  unfold addW addId
  rw [hf]
  exact ⟨rfl, rfl⟩
theorem Pv.zero : Pv 0 Z0 := ⟨Z0_len, Inv.init.gen⟩
end Go.Proofs.Ytfdbibddhneklab.Arena
