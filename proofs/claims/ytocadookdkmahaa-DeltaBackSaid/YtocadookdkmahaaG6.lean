/- Layer 3 (delta): Apply. -/
import Derived.Test.YtocadookdkmahaaGA
import Derived.Test.YtocadookdkmahaaZT
import Derived.Test.YtocadookdkmahaaPDeltaDiffsx2
import Derived.Lib.LazyBuf
import Derived.Laws.MakeOwn
namespace Go.Proofs.Ytocadookdkmahaa.PDl
open Go.RowKit Go.Proofs.YtocadookdkmahaaW.PrintWords Go.Proofs.YtocadookdkmahaaW.PrintLast Go.Proofs.YtocadookdkmahaaW.PrintMore
open Go.Proofs.Ytocadookdkmahaa.PLz (IsB lz_get_cell wire_form info5 IsS72 wire_lit)
open Go.Proofs.Ytocadookdkmahaa.PDeltaDiffs (delta_mix.f delta_mix.calls slices_Equal_byte_byte.f slices_Equal_byte_byte.calls)
attribute [local go_sem] max2_int min2_int max_two min_two max_three min_three max_four min_four   -- for this text's walks alone
set_option linter.unusedVariables false
set_option linter.unusedSimpArgs false
set_option maxHeartbeats 4000000
set_option maxRecDepth 20000
/-- bytes laid over a row from a place on -/
def dl_lay : List Int → Nat → List Int → List Int
  | xs, _, [] => xs
  | xs, o, b :: bs => dl_lay (xs.set o b) (o + 1) bs
theorem dl_lay_len : ∀ (bs xs : List Int) (o : Nat), (dl_lay xs o bs).length = xs.length
  | [], xs, o => rfl
  | b :: bs, xs, o => by rw [dl_lay, dl_lay_len bs, List.length_set]
def XB (W : World) (g : Nat) (xs : List Int) : Prop := W.heap[g]? = some (.cells (xs.map (Value.int .u8)).toArray 5 (0, 0))
theorem XB.C {W : World} {g : Nat} {xs : List Int} (h : XB W g xs) (hl : xs.length ≤ 140737488355328) : Kd.C (Kd.int .u8) W (some ⟨g, 0, none⟩) xs.length xs := wire_lit h hl
theorem xb_lay : ∀ (bs xs : List Int) (o g : Nat) (W : World), XB W g xs → XB (W.setCells g o (bs.map (Value.int .u8))) g (dl_lay xs o bs)
  | [], xs, o, g, W, h => h
  | b :: bs, xs, o, g, W, h => by
    have h2 : XB (W.setCell ⟨g, o, none⟩ (.int .u8 b)) g (xs.set o b) := by
      have := blk_set h o (.int .u8 b)
      unfold XB
      simpa [List.map_set] using this
    exact xb_lay bs (xs.set o b) (o + 1) g _ h2
theorem setCells_far : ∀ (vs : List Value) (b o k : Nat) (W : World), k ≠ b → (W.setCells b o vs).heap[k]? = W.heap[k]?
  | [], b, o, k, W, h => rfl
  | v :: r, b, o, k, W, h => (setCells_far r b (o + 1) k _ h).trans (Below.heap_setCell W ⟨b, o, none⟩ v k h)
theorem is_lay {w0 W : World} {g gx p : Nat} {f0 : List Int} {f1 f2 : Int} (h : IsS72 w0 W g f0 f1 f2) (hne : g ≠ gx) (o : Nat) (vs : List Value) : IsS72 w0 (W.setCells gx o vs) g f0 f1 f2 := by
  obtain ⟨A0, c0, h1, h2⟩ := h
  exact ⟨A0, c0, (setCells_far vs gx o g W hne).trans h1, h2⟩
theorem is_ne {w0 W : World} {g gx : Nat} {f0 xs : List Int} {f1 f2 : Int} (h : IsS72 w0 W g f0 f1 f2) (hx : XB W gx xs) : g ≠ gx := by
  obtain ⟨A0, c0, h1, -⟩ := h
  exact blk_ne h1 hx (by decide)
theorem dl_room (w : World) (n : Nat) (hn : n ≤ 100000) : ∃ w1, (Instr.makeSlice 22 (.int .i64 (n : Int)) (.int .i64 (n : Int))).run Try.prog w = .ok (.slice (some ⟨w.heap.size, 0, none⟩) n n) w1 ∧ XB w1 w.heap.size (List.replicate n 0) ∧ Below w.heap.size w w1 := by
  obtain ⟨i0, hi, hzz⟩ := Option.map_eq_some_iff.1 info5
  simp only [Prod.mk.injEq] at hzz
  obtain ⟨hz0, hz1, hz2⟩ := hzz
  have hr := run_make (P := Try.prog) w 22 5 i0 _ Try.underlying22 hi hz0 .i64 .i64 (n : Int) (n : Int) (by omega) (by omega) (by rw [hz2]; omega) (by omega)
  rw [hz1] at hr
  have hcells : madeCells (Value.int .u8 0).cells ((n : Int).toNat * 1) = ((List.replicate n (0 : Int)).map (Value.int .u8)).toArray := by
    unfold madeCells
    apply Array.ext
    · simp
    · intro i h1 h2
      simp [Value.cells, Nat.mod_one]
  rw [hcells] at hr
  exact ⟨_, by simpa using hr, heap_alloc_new w _, below_alloc (Below.refl _ _) _⟩
theorem dl_copy (W : World) (gx o m c : Nat) (xs : List Int) (lit : ByteArray) (h : XB W gx xs) (hle : lit.size ≤ m) (ho : o + lit.size ≤ xs.length) :
    (Builtin.copy_ #[22, 9] 3 #[.slice (some ⟨gx, o, none⟩) m c, .string lit]).run Try.prog W = .ok (.int .i64 (lit.size : Int)) (W.setCells gx o ((bytesOf lit).map (Value.int .u8))) := by
  obtain ⟨i0, hi, hzz⟩ := Option.map_eq_some_iff.1 info5
  simp only [Prod.mk.injEq] at hzz
  obtain ⟨hz0, hz1, hz2⟩ := hzz
  have := run_copy_string (P := Try.prog) W 22 9 3 5 gx o m c lit Try.underlying22 (fun w => by simp [sizeOf, typeInfo, hi, hz1, Result.andThen]) hle
    (fun j hj => by
      have : W.cell? ⟨gx, o + j, none⟩ = ((xs.map (Value.int .u8)).toArray)[o + j]? := blk_cell h (o + j)
      rw [this]
      simp
      omega) (fun j hj => blk_frozen h (o + j))
  rw [show ((bytesOf lit).map (Value.int .u8)) = lit.data.toList.map fun x => Value.int .u8 (x.toNat : Int) by unfold bytesOf; rw [List.map_map]; rfl]
  rw [this]
  have hg : goInt lit.size = .int .i64 (lit.size : Int) := by
    unfold goInt
    rfl
  rw [hg]
end Go.Proofs.Ytocadookdkmahaa.PDl
