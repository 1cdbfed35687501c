import Derived.Test.YtfdbibddhneklabArL
import Derived.Deep.Slices
import Derived.Deep.Strs
namespace Go.Proofs.Ytfdbibddhneklab.Arena
open Go.RowKit Go.ChangeShapes Go.WideShapes
set_option linter.unusedVariables false
set_option maxRecDepth 100000
theorem cells33 : Try.prog.cellsOf 33 = 3 := by kernel_rfl
/-- a slice of acts that came in, cell by cell -/
theorem open_acts {H : Type} {enc : TypeId × Value → H} {W : World} {a : Option Addr} {len cap fuel : Nat} {x : DataW H × List MemPlace} (h : DataW.trod enc Try.prog W 0 (fun _ => true) true fuel 22 [.slice a len cap] = some x) :
    ∃ (D : Nat → Int) (Id : Nat → Nat) (X : Nat → Int), Acts W a len D Id X := by
  rcases Deep.open_slice Try.underlying22 h with ⟨hcs, _⟩ | ⟨ad, l, c, m, n, DD, Pl, hcs, hb, hl, hm, hmm, hx, hi⟩
  · simp at hcs
    obtain ⟨rfl, rfl, rfl⟩ := hcs
    exact ⟨fun _ => 0, fun _ => 0, fun _ => 0, ⟨fun i a hi => by omega, fun i a hi => by omega, fun i a hi => by omega, fun h => by omega, fun i hi => by omega⟩⟩
  · simp at hcs
    obtain ⟨rfl, rfl, rfl⟩ := hcs
    rw [if_pos rfl] at hmm
    rw [cells33] at hi
    have each : ∀ i, i < len → ∃ z : Int × Nat × Int, W.cell? (ad.add (i * 3)) = some (.int .u8 z.1) ∧ W.cell? (ad.add (i * 3 + 1)) = some (.int .u16 (z.2.1 : Int)) ∧ W.cell? (ad.add (i * 3 + 2)) = some (.int .i64 z.2.2) ∧ z.2.1 < 65536 := by
      intro i hil
      obtain ⟨cs', hc, ht'⟩ := hi i (by omega)
      obtain ⟨_, hcl, hat⟩ := World.cells?_some hc
      obtain ⟨y0, y1, y2, n', hy, hlen, t0, t1, t2⟩ := Deep.trod_struct3 Try.underlying33 ht'
      match cs', hcl with
      | [c0, c1, c2], _ =>
        have a0 := hat 0 (by simp)
        have a1 := hat 1 (by simp)
        have a2 := hat 2 (by simp)
        rw [Deep.add_add] at a0 a1 a2
        have s0 : Try.prog.cellsOf 5 = 1 := by kernel_rfl
        have s1 : Try.prog.cellsOf 24 = 1 := by kernel_rfl
        have s2 : Try.prog.cellsOf 3 = 1 := by kernel_rfl
        simp only [s0, s1, s2, List.drop_zero, List.drop_succ_cons, List.take_succ_cons, List.take_zero] at t0 t1 t2
        obtain ⟨d, hd, -, wd⟩ := DataW.trod_int Try.underlying5 t0
        obtain ⟨e, he, -, we⟩ := DataW.trod_int Try.underlying24 t1
        obtain ⟨f, hf, -, wf⟩ := DataW.trod_int Try.underlying3 t2
        simp only [List.cons.injEq, and_true] at hd he hf
        subst hd he hf
        have hr : 0 ≤ e ∧ e < 65536 := by simp [Lit.wf, IntKind.min, IntKind.max, IntKind.bits, IntKind.signed] at we; omega
        refine ⟨(d, e.toNat, f), by simpa using a0, ?_, by simpa using a2, by show e.toNat < 65536; omega⟩
        have : ((e.toNat : Nat) : Int) = e := by omega
        rw [this]
        simpa using a1
    obtain ⟨F, hF⟩ := Deep.choose_lt each
    exact ⟨fun i => (F i).1, fun i => (F i).2.1, fun i => (F i).2.2, ⟨fun i a hi ha => by obtain rfl := Option.some.inj ha; exact (hF i hi).1, fun i a hi ha => by obtain rfl := Option.some.inj ha; exact (hF i hi).2.1, fun i a hi ha => by obtain rfl := Option.some.inj ha; exact (hF i hi).2.2.1, fun _ => ⟨ad, rfl⟩, fun i hi => (hF i hi).2.2.2⟩⟩
theorem once_big (A : Option Addr) (len cap : Nat) (w : World) (hlen : 300 < len) : Calls Try.prog 3 #[.slice A len cap] w fun e w' => e = .returned (.bool true) ∧ Below w.heap.size w w' := by
  have hl : (300 : Int) < len := by omega
  have HK := Lib.hid (fun W => wakes_any W)
  go_enter Try.func3, Try.ntmps3
  go_wp2_with fail
  refine (HK.out _).mono ?_; rintro e w6 ⟨rfl, b6⟩
  go_wp2_with fail
  go_ret
  exact ⟨rfl, b6⟩
theorem once_law (A : Option Addr) (len cap : Nat) (W : World) (h : ∃ (D : Nat → Int) (Id : Nat → Nat) (X : Nat → Int), Acts W A len D Id X) : Calls Try.prog 3 #[.slice A len cap] W fun e w' => e = .returned (.bool true) ∧ Below W.heap.size W w' := by
  by_cases hl : 300 < len
  · exact once_big A len cap W hl
  · obtain ⟨D, Id, X, hA⟩ := h
    exact once_walk A len cap D Id X W hA (by omega)
end Go.Proofs.Ytfdbibddhneklab.Arena
