import Derived.Test.YtocadookdkmahaaZQ
import Derived.RangeFuncNested
import Derived.RangeFuncBound
import Derived.RangeFuncCalls
import Derived.RangeFuncLeaves
import Derived.OwnWalkIn
import Derived.TacticsInMore
import Derived.LoopNIn
import Derived.LoopIn
import Derived.OrdersIn
import Derived.Test.YtocadookdkmahaaPDeltaDiffsx1
/- Layer 3 (delta): zeros and literals at the beginning of bytes. -/
namespace Go.Proofs.Ytocadookdkmahaa.PDl
open Go.RowKit Go.Proofs.Ytocadookdkmahaa.PLz Go.Proofs.YtocadookdkmahaaW.PrintWords Go.Proofs.YtocadookdkmahaaW.PrintLast Go.Proofs.YtocadookdkmahaaW.PrintMore
attribute [local go_sem] max2_int min2_int max_two min_two max_three min_three max_four min_four   -- for this text's walks alone
set_option linter.unusedVariables false
set_option linter.unusedSimpArgs false
set_option maxHeartbeats 4000000
set_option maxRecDepth 20000
def dl_zeros : List Int → Nat
  | [] => 0
  | x :: l => if x = 0 then dl_zeros l + 1 else 0
theorem dl_zeros_le : ∀ l : List Int, dl_zeros l ≤ l.length
  | [] => Nat.le_refl _
  | x :: l => by
    have := dl_zeros_le l
    rw [dl_zeros, List.length_cons]
    split <;> omega
theorem dl_zeros_at {l : List Int} {n : Nat} (h : n < l.length) (hx : l.getD n 0 = 0) : n + dl_zeros (l.drop n) = n + 1 + dl_zeros (l.drop (n + 1)) := by
  rw [List.drop_eq_getElem_cons h, dl_zeros]
  have : l[n] = 0 := by rw [List.getD_eq_getElem?_getD, List.getElem?_eq_getElem h] at hx; exact hx
  rw [if_pos this]
  omega
theorem dl_zeros_off {l : List Int} {n : Nat} (h : n < l.length) (hx : l.getD n 0 ≠ 0) : dl_zeros (l.drop n) = 0 := by
  rw [List.drop_eq_getElem_cons h, dl_zeros]
  have : l[n] ≠ 0 := by rw [List.getD_eq_getElem?_getD, List.getElem?_eq_getElem h] at hx; exact hx
  rw [if_neg this]
theorem dl_zeros_end {l : List Int} {n : Nat} (h : l.length ≤ n) : dl_zeros (l.drop n) = 0 := by
  rw [List.drop_eq_nil_of_le h]; rfl
theorem zeros_calls (A : Option Addr) (c : Nat) (l : List Int) (W : World) (hC : Kd.C (Kd.int .u8) W A l.length l) (hl : l.length ≤ 1000000) :
    Calls Try.prog 41 #[.slice A l.length c] W fun e w' => e = .returned (.int .i64 (dl_zeros l)) ∧ w' = W := by
  have HC := Lib.hid hC
  clear hC
  go_enter Try.func41, Try.ntmps41
  go_wp2
  go_loopw [3] (fun v wr => ∃ n : Nat, v = .int .i64 n ∧ n ≤ l.length ∧ wr = W ∧ Hid (n + dl_zeros (l.drop n) = dl_zeros l)) (fun v _ => l.length - (intOf v).toNat)
  case atStart => exact ⟨0, rfl, by omega, rfl, Lib.hid (by simp)⟩
  case round =>
    obtain ⟨n, rfl, hn, rfl, HN⟩ := hrel
    by_cases h1 : n < l.length
    · have h1' : (n : Int) < l.length := by omega
      obtain ⟨ad, rfl, ha⟩ := lz_get_cell HC.out n h1
      obtain ⟨x, hx⟩ : ∃ x, l.getD n 0 = x := ⟨_, rfl⟩
      rw [hx] at ha
      by_cases h0 : x = 0
      · subst h0
        have HS := Lib.hid ((dl_zeros_at h1 hx).symm.trans HN.out)
        have hw : IntKind.i64.wrap ((n : Int) + 1) = ((n + 1 : Nat) : Int) := by rw [IntWalk.i64_in _ (by omega)]; rfl
        clear hx
        go_wp2
        go_roundw
        case rel => exact ⟨n + 1, by go_num, by omega, trivial, HS⟩
        case measure => simp [intOf]; omega
      · have hb0 : (x == 0) = false := by simpa using h0
        have hz := dl_zeros_off h1 (by rw [hx]; exact h0)
        have HS := Lib.hid (show n = dl_zeros l by have := HN.out; omega)
        clear hx hz
        go_wp2
        go_ret
        exact ⟨by rw [← HS.out]; rfl, rfl⟩
    · have h1' : ¬ (n : Int) < l.length := by omega
      have hz := dl_zeros_end (l := l) (n := n) (by omega)
      have HS := Lib.hid (show n = dl_zeros l by have := HN.out; omega)
      clear hz
      go_wp2
      go_ret
      exact ⟨by rw [← HS.out]; rfl, rfl⟩
theorem dl_cut (A : Option Addr) (c : Nat) (l : List Int) (m : Nat) (hm : m ≤ l.length) (hc : l.length ≤ c) :
    ∃ A' : Option Addr, (∀ W : World, (Instr.slice 22 (.slice A l.length c) (some (.int .i64 (m : Int))) none none).run Try.prog W = .ok (.slice A' (l.drop m).length (c - m)) W) ∧ (∀ W : World, Kd.C (Kd.int .u8) W A l.length l → Kd.C (Kd.int .u8) W A' (l.drop m).length (l.drop m)) ∧ (l.drop m).length ≤ c - m := by
  obtain ⟨i0, hi, hzz⟩ := Option.map_eq_some_iff.1 info5
  simp only [Prod.mk.injEq] at hzz
  obtain ⟨hz0, hz1, hz2⟩ := hzz
  refine ⟨if c = m then A else A.map (·.add (m * 1)), fun W => ?_, fun W h => Kd.C_drop h hm hc, by rw [List.length_drop]; omega⟩
  have hel : Try.prog.elem 22 = 5 := by simp [Program.elem, Try.underlying22]
  have hu : Try.prog.underlying 22 = some (.slice (Try.prog.elem 22)) := by rw [hel]; exact Try.underlying22
  rw [run_slice_l W 22 A l.length c hu .i64 (m : Int) (Int.natCast_nonneg _) (by omega), hel]
  simp [sizeOf, typeInfo, hi, hz1, sliced, Result.andThen]
/-- do literals end here? -/
def dl_ends (l : List Int) (n : Nat) : Bool := decide (4 ≤ dl_zeros (l.drop n)) || decide (dl_zeros (l.drop n) = l.length - n)
theorem ends_calls (A : Option Addr) (c : Nat) (l : List Int) (n Bx Bn : Nat) (W : World) (hC : Kd.C (Kd.int .u8) W A l.length l) (hl : l.length ≤ 1000000) (hc : l.length ≤ c) (hn : n ≤ l.length)
    (hx : W.cell? ⟨Bx, 0, none⟩ = some (.slice A l.length c)) (hnn : W.cell? ⟨Bn, 0, none⟩ = some (.int .i64 n)) :
    Calls Try.prog 56 #[.pointer (some ⟨Bx, 0, none⟩), .pointer (some ⟨Bn, 0, none⟩)] W fun e w' => e = .returned (.bool (dl_ends l n)) ∧ w' = W := by
  obtain ⟨A1, hcut, hC1, hc1⟩ := dl_cut A c l n hn hc
  have hz0 := zeros_calls A1 (c - n) (l.drop n) W (hC1 W hC) (by rw [List.length_drop]; omega)
  rw [List.length_drop] at hz0
  have HZ := Lib.hid hz0
  clear hz0
  obtain ⟨z, hz⟩ : ∃ z, dl_zeros (l.drop n) = z := ⟨_, rfl⟩
  rw [hz] at HZ
  have hD : dl_ends l n = (decide (4 ≤ z) || decide (z = l.length - n)) := by unfold dl_ends; rw [hz]
  have hzl : z ≤ l.length - n := by rw [← hz]; have := dl_zeros_le (l.drop n); rwa [List.length_drop] at this
  rw [hD]
  have hw : IntKind.i64.wrap ((l.length : Int) - n) = ((l.length - n : Nat) : Int) := by rw [IntWalk.i64_in _ (by omega)]; omega
  obtain ⟨D, hDD⟩ : ∃ D, l.length - n = D := ⟨_, rfl⟩
  rw [hDD] at hw hzl ⊢
  clear hD hz hC1 hC hc1 hDD
  by_cases h4 : 4 ≤ z
  · have h4' : (4 : Int) ≤ z := by omega
    have hb : (decide (4 ≤ z) || decide (z = D)) = true := by simp [h4]
    rw [hb]
    go_enter Try.func56, Try.ntmps56
    go_wp2_with fail
    refine HZ.out.mono ?_; rintro e w1 ⟨rfl, rfl⟩
    go_wp2_with fail
    go_ret
    exact ⟨rfl, rfl⟩
  · have h4' : ¬ (4 : Int) ≤ z := by omega
    by_cases hD2 : z = D
    · have hb : (decide (4 ≤ z) || decide (z = D)) = true := by simp [hD2]
      rw [hb]
      have he : ((z : Int) == (D : Int)) = true := by simp [hD2]
      go_enter Try.func56, Try.ntmps56
      go_wp2_with fail
      refine HZ.out.mono ?_; rintro e w1 ⟨rfl, rfl⟩
      go_wp2_with fail
      go_ret
      exact ⟨rfl, rfl⟩
    · have hb : (decide (4 ≤ z) || decide (z = D)) = false := by simp [h4, hD2]
      rw [hb]
      have he : ((z : Int) == (D : Int)) = false := by simp; omega
      go_enter Try.func56, Try.ntmps56
      go_wp2_with fail
      refine HZ.out.mono ?_; rintro e w1 ⟨rfl, rfl⟩
      go_wp2_with fail
      go_ret
      refine ⟨?_, rfl⟩
      show Ending.returned (.bool (decide ((4 : Int) ≤ z))) = .returned (.bool false)
      rw [show decide ((4 : Int) ≤ z) = false by simp; omega]
def dl_litF (l : List Int) : Nat → Nat → Nat
  | 0, n => n
  | f + 1, n => if dl_ends l n then n else dl_litF l f (n + 1)
/-- how many literals stand at the beginning -/
def dl_lits (l : List Int) : Nat := dl_litF l (l.length + 1) 0
theorem dl_ends_end (l : List Int) : dl_ends l l.length = true := by
  unfold dl_ends
  rw [dl_zeros_end (Nat.le_refl _)]
  simp
theorem dl_litF_le (l : List Int) : ∀ f n, n ≤ l.length → l.length < n + f → dl_litF l f n ≤ l.length ∧ n ≤ dl_litF l f n
  | 0, n, h, h2 => by omega
  | f + 1, n, h, h2 => by
    rw [dl_litF]
    split
    · omega
    · rename_i hne
      have : n ≠ l.length := fun e => hne (by rw [e]; exact dl_ends_end l)
      have := dl_litF_le l f (n + 1) (by omega) (by omega)
      omega
def dl_nOf (W : World) (B : Nat) : Nat := match W.cell? ⟨B, 0, none⟩ with | some (.int _ p) => p.toNat | _ => 0
theorem dl_nOf_at {W : World} {B n : Nat} (h : W.heap[B]? = some (.cells #[.int .i64 n] 3 (0, 0))) : dl_nOf W B = n := by
  have : W.cell? ⟨B, 0, none⟩ = some (.int .i64 n) := blk_cell h 0
  unfold dl_nOf
  rw [this]
  simp
theorem lits_calls (A : Option Addr) (c : Nat) (l : List Int) (W : World) (hC : Kd.C (Kd.int .u8) W A l.length l) (hl : l.length ≤ 1000000) (hc : l.length ≤ c) :
    Calls Try.prog 42 #[.slice A l.length c] W fun e w' => e = .returned (.int .i64 (dl_lits l)) ∧ Below W.heap.size W w' := by
  have h0 : (W.alloc (.cells #[.slice A l.length c] 22)).heap[W.heap.size]? = some (.cells #[.slice A l.length c] 22 (0, 0)) := heap_alloc_new _ _
  have HC := Lib.hid hC
  clear hC
  have hx0 := blk_new W (.cells #[.slice A l.length c] 22)
  have hn0 := blk_new (W.alloc (.cells #[.slice A l.length c] 22)) (.cells #[.int .i64 0] 3)
  rw [World.size_alloc] at hn0
  have hx1 : ((W.alloc (.cells #[.slice A l.length c] 22)).alloc (.cells #[.int .i64 0] 3)).heap[W.heap.size]? = some (.cells #[.slice A l.length c] 22 (0, 0)) := (Below.heap_alloc _ _ _ (by simp)).trans hx0
  have hb1 : Below W.heap.size W ((W.alloc (.cells #[.slice A l.length c] 22)).alloc (.cells #[.int .i64 0] 3)) := below_alloc (below_alloc (Below.refl _ _) _) _
  have HX := Lib.hid hx1
  have HN := Lib.hid hn0
  have HB := Lib.hid hb1
  clear h0 hx0 hn0 hx1 hb1
  go_enter Try.func42, Try.ntmps42
  go_wp2_with fail
  obtain ⟨W1, hW1⟩ : ∃ W1, (W.alloc (.cells #[.slice A l.length c] 22)).alloc (.cells #[.int .i64 0] 3) = W1 := ⟨_, rfl⟩
  rw [hW1] at HX HN HB ⊢
  clear hW1
  obtain ⟨Bx, hBx⟩ : ∃ Bx, W.heap.size = Bx := ⟨_, rfl⟩
  have hBn : W.heap.size + 1 = Bx + 1 := by rw [hBx]
  rw [hBn] at HN ⊢
  rw [hBx] at HX ⊢
  rw [hBx] at HB
  have HBX := Lib.hid hBx
  clear hBn hBx
  go_loopw [6] (fun _ wr => ∃ n : Nat, n ≤ l.length ∧ Hid (wr.heap[Bx]? = some (.cells #[.slice A l.length c] 22 (0, 0))) ∧ Hid (wr.heap[Bx + 1]? = some (.cells #[.int .i64 n] 3 (0, 0))) ∧ Hid (Below Bx W wr) ∧ Hid (dl_litF l (l.length + 1 - n) n = dl_lits l)) (fun _ wr => l.length - dl_nOf wr (Bx + 1))
  case atStart => exact ⟨0, by omega, HX, HN, HB, Lib.hid rfl⟩
  case round =>
    obtain ⟨n, hn, HX2, HN2, HB2, HD⟩ := hrel
    have hx : wr.cell? ⟨Bx, 0, none⟩ = some (.slice A l.length c) := blk_cell HX2.out 0
    have hnn : wr.cell? ⟨Bx + 1, 0, none⟩ = some (.int .i64 n) := blk_cell HN2.out 0
    have hfz : wr.frozen? ⟨Bx + 1, 0, none⟩ = false := blk_frozen HN2.out 0
    have hbelow : Below W.heap.size W wr := by rw [HBX.out]; exact HB2.out
    have HE := Lib.hid (ends_calls A c l n Bx (Bx + 1) wr (Kd.C_below HC.out hbelow) hl hc hn hx hnn)
    clear hbelow
    by_cases he : dl_ends l n = true
    · have hd : n = dl_lits l := by
        have h := HD.out
        rwa [show l.length + 1 - n = (l.length - n) + 1 by omega, dl_litF, if_pos he] at h
      rw [he] at HE
      have HDD := Lib.hid hd
      clear hd
      go_wp2_with fail
      refine HE.out.mono ?_; rintro e w1 ⟨rfl, rfl⟩
      go_wp2_with fail
      go_ret
      refine ⟨?_, ?_⟩
      · rw [← HDD.out]; rfl
      · rw [HBX.out]; exact HB2.out
    · have hne : n ≠ l.length := fun h => he (by rw [h]; exact dl_ends_end l)
      have hd : dl_litF l (l.length + 1 - (n + 1)) (n + 1) = dl_lits l := by
        have h := HD.out
        rwa [show l.length + 1 - n = (l.length + 1 - (n + 1)) + 1 by omega, dl_litF, if_neg he] at h
      have hef : dl_ends l n = false := by simpa using he
      rw [hef] at HE
      have HDD := Lib.hid hd
      have hw : IntKind.i64.wrap ((n : Int) + 1) = ((n + 1 : Nat) : Int) := by rw [IntWalk.i64_in _ (by omega)]; rfl
      have hS := blk_set HN2.out 0 (.int .i64 ((n + 1 : Nat) : Int))
      have hS2 := blk_far HX2.out (p := ⟨Bx + 1, 0, none⟩) (by simp) (.int .i64 ((n + 1 : Nat) : Int))
      have hS3 := HB2.out.setCell (p := ⟨Bx + 1, 0, none⟩) (by simp) (.int .i64 ((n + 1 : Nat) : Int))
      have hS := Lib.hid hS
      have hS2 := Lib.hid hS2
      have hS3 := Lib.hid hS3
      have hold := dl_nOf_at HN2.out
      clear hd he
      go_wp2_with fail
      refine HE.out.mono ?_; rintro e w1 ⟨rfl, rfl⟩
      go_wp2_with fail
      go_roundw
      case rel => exact ⟨n + 1, by omega, hS2, Lib.hid (by simpa using hS.out), hS3, HDD⟩
      case measure =>
        have hnew : dl_nOf (w1.setCell ⟨Bx + 1, 0, none⟩ (.int .i64 ((n + 1 : Nat) : Int))) (Bx + 1) = n + 1 := dl_nOf_at (by simpa using hS.out)
        rw [hold]
        show l.length - dl_nOf (w1.setCell ⟨Bx + 1, 0, none⟩ (.int .i64 ((n + 1 : Nat) : Int))) (Bx + 1) < _
        rw [hnew]
        omega
end Go.Proofs.Ytocadookdkmahaa.PDl

/- A region of open order in a round of a range over a function, by one relation over what is done so far (as Z5 outside a round). No condition. -/
namespace Go.Proofs.Ytocadookdkmahaa.PDl
open Go.RowKit Go.Proofs.Ytocadookdkmahaa.PLz Go.Proofs.YtocadookdkmahaaW.PrintWords Go.Proofs.YtocadookdkmahaaW.PrintLast Go.Proofs.YtocadookdkmahaaW.PrintMore
set_option linter.unusedVariables false
section
variable {P : Program} {Q : Exit → Act → World → Prop}
def noDefer (o : Oper) : Bool := match o.op with | .defer _ => false | _ => true
theorem noDefer_at {o : Oper} (h : noDefer o = true) : ∀ c, o.op ≠ .defer c := by
  intro c hc
  unfold noDefer at h
  rw [hc] at h
  cases h
theorem rowsIn_round {n : Nat} {row : String} {args : Array Value} {w : World} {R : Value → World → Prop} (l : Nat) (h : Rows P row args w R) : RowsIn (Fence.wide.inRound l) n P row args w R := by
  have h2 : RowsIn Fence.wide n P row args w R := fun c cs _ => by
    obtain ⟨v, w', r, s⟩ := h c cs
    exact ⟨v, w', r, stepsIn_wide.2 s⟩
  exact h2
theorem opIn_of_op {o : Oper} {n l : Nat} {a : Act} {w : World} {K : Act → World → Prop} (hd : noDefer o = true) (h : o.wp P a w K Q) : o.wpIn (Fence.wide.inRound l) n P a w K Q := by
  refine ⟨fun _ _ => trivial, ?_⟩
  have he : o.semAt (Fence.wide.inRound l).round a.eval = execOp a.eval o := Oper.semAt_some l _ _ (noDefer_at hd)
  rw [he]
  unfold Oper.wp at h
  generalize (execOp a.eval o).run P w = r at h ⊢
  cases r with
  | ok x w' =>
    cases x <;> simp only [Oper.upon, Oper.uponIn] at h ⊢
    case value v => exact h
    case skip => exact h
    case defer d => exact h
    case enter f args =>
      refine ⟨fun hh => by simp [Fence.wide] at hh, ?_⟩
      exact CallsIn.inRound l (callsIn_wide.2 (h.mono fun e w'' he => by cases e <;> exact he))
    case row row args => exact ⟨fun hh => by simp [Fence.wide] at hh, rowsIn_round l h⟩
  | halt x w' => cases x <;> simp only [Oper.upon, Oper.uponIn] at h ⊢ <;> exact h
theorem opsIn_step {ops : Array Oper} {n l i : Nat} {o : Oper} {K : Act → World → Prop} {a : Act} {w : World} (hd : noDefer o = true) (ho : ops[i]? = some o)
    (h : ∀ K' : Act → World → Prop, (∀ a w, K a w → K' a w) → if Region.wanted o (yielded ops a.tmps) = true then Oper.wp P o a w K' Q else K' (a.put o.dst undef) w) : wpOpIn (Fence.wide.inRound l) n P ops Q i K a w := by
  have := h K (fun _ _ h => h)
  unfold wpOpIn
  rw [ho]
  show if Region.wanted o (yielded ops a.tmps) = true then _ else _
  split
  · rename_i hw
    rw [if_pos hw] at this
    exact opIn_of_op hd this
  · rename_i hw
    rw [if_neg hw] at this
    exact ⟨fun _ _ => trivial, this⟩
theorem wpAnyIn_inv {ops : Array Oper} {n l : Nat} (J : (Nat → Bool) → Act → World → Prop) (hnd : ops.toList.all noDefer = true) (hdep : depsOk ops.toList 0 = true) (hs : StepsI P ops Q J ops.toList 0)
    (hend : ∀ b a w, (∀ i, i < ops.size → b i = true) → J b a w → Q .normal a w) :
    ∀ (fuel : Nat) (L : Array Bool) (a : Act) (w : World), L.size = ops.size → ((List.range ops.size).filter fun j => !L.getD j false).length ≤ fuel → J (fun j => L.getD j false) a w → wpAnyIn (Fence.wide.inRound l) n P .any ops Q fuel L a w := by
  have hfull : ∀ L : Array Bool, L.size = ops.size → Region.ready .any ops L = [] → ∀ i, i < ops.size → L.getD i false = true := by
    intro L hL hr i
    induction i using Nat.strongRecOn with
    | _ i ih =>
      intro hi
      cases h : L.getD i false with
      | true => rfl
      | false =>
        exfalso
        have ho : ops[i]? = some ops[i] := Array.getElem?_eq_getElem hi
        have : i ∈ Region.ready .any ops L := by
          rw [mem_ready]
          refine ⟨by rw [getD_tf (by omega)]; exact h, _, ho, fun e he hb => ?_⟩
          have hd := depsOk_at (i := i) (o := ops[i]) hdep (by simp) e.on (List.mem_map.2 ⟨e, List.mem_filter.2 ⟨by simp [he], hb⟩, rfl⟩)
          exact ih e.on (by omega) (by omega)
        rw [hr] at this
        cases this
  intro fuel
  induction fuel with
  | zero =>
    intro L a w hL hc hJ
    have hr : Region.ready .any ops L = [] := by
      refine List.eq_nil_iff_forall_not_mem.2 fun i hi => ?_
      obtain ⟨h0, o, ho, _⟩ := mem_ready.1 hi
      have hlt := (Array.getElem?_eq_some_iff.1 ho).1
      rw [getD_tf (by omega)] at h0
      have hin : i ∈ (List.range ops.size).filter fun j => !L.getD j false := List.mem_filter.2 ⟨List.mem_range.2 hlt, by rw [h0]; rfl⟩
      have := List.length_pos_of_mem hin
      omega
    exact ⟨hr, hend _ a w (hfull L hL hr) hJ⟩
  | succ fuel ih =>
    intro L a w hL hc hJ
    refine ⟨fun hr => hend _ a w (hfull L hL hr) hJ, fun i hi => ?_⟩
    obtain ⟨h0, o, ho, hd⟩ := mem_ready.1 hi
    have hlt := (Array.getElem?_eq_some_iff.1 ho).1
    rw [getD_tf (by omega)] at h0
    have hst := steps_at (i := i) (o := o) hs (by simpa using ho)
    rw [Nat.zero_add] at hst
    have heq : (fun j => (L.setIfInBounds i true).getD j false) = upb (fun j => L.getD j false) i := by
      funext j
      unfold upb
      by_cases hj : j = i
      · subst hj
        have : j < L.size := by omega
        simp [this]
      · rw [if_neg hj, getD_set_ne false (Ne.symm hj)]
    have hndo : noDefer o = true := List.all_eq_true.1 hnd o (by
      rw [← Array.getElem?_toList] at ho
      exact List.mem_of_getElem? ho)
    refine opsIn_step hndo ho fun K hK => hst _ a w hJ h0 ?_ K fun a' w' hJ' => hK a' w' (ih _ a' w' (by simpa using hL) ?_ (by rw [heq]; exact hJ'))
    · intro d hdm
      obtain ⟨e, he, rfl⟩ := List.mem_map.1 hdm
      obtain ⟨he, hb⟩ := List.mem_filter.1 he
      exact hd e (by simpa using he) hb
    · have h1 : ∀ j, (!(L.setIfInBounds i true).getD j false) = !upb (fun j => L.getD j false) i j := fun j => by rw [← heq]
      simp only [h1]
      refine Nat.le_of_lt_succ (Nat.lt_of_lt_of_le (count_lt (i := i) (p := fun j => !L.getD j false) (List.mem_range.2 hlt) (by simp only [h0]; rfl) (by simp [upb]) fun j hj => ?_) hc)
      unfold upb at hj
      by_cases hji : j = i
      · simp [hji] at hj
      · simpa [hji] using hj
/-- the rule: J's first two are the frame and the world in which the region begins (behind its draw) -/
theorem wp_round_inv {id n l0 : Nat} {a : Act} {w : World} {l : List Oper} (J : Act → World → (Nat → Bool) → Act → World → Prop) (hm : P.follows .mixedOrders = true) (hnd : l.all noDefer = true) (hdep : depsOk l 0 = true)
    (h0 : J a w.drew (fun _ => false) a w.drew) (hs : StepsI P l.toArray Q (J a w.drew) l 0)
    (hend : ∀ b a' w', (∀ i, i < l.length → b i = true) → J a w.drew b a' w' → Q .normal a' w') : (Code.region id l.toArray true).wpIn (Fence.wide.inRound l0) n P Q a w := by
  refine wpIn_region_any hm ?_
  refine wpAnyIn_inv (J a w.drew) hnd hdep hs (by simpa using hend) _ _ a _ (by simp) (Nat.le_trans (List.length_filter_le _ _) (by simp)) ?_
  have : (fun j => (Array.replicate l.toArray.size false).getD j false) = fun _ => false := by
    funext j
    by_cases hj : j < l.length
    · simp [hj]
    · simp [hj]
  rw [this]
  exact h0
end
end Go.Proofs.Ytocadookdkmahaa.PDl

/- Layer 3 (delta): the iterator over runs, which keeps its state in a captured variable. -/
namespace Go.Proofs.Ytocadookdkmahaa.PDl
open Go.RowKit Go.Proofs.Ytocadookdkmahaa.PLz Go.Proofs.YtocadookdkmahaaW.PrintWords Go.Proofs.YtocadookdkmahaaW.PrintLast Go.Proofs.YtocadookdkmahaaW.PrintMore
attribute [local go_sem] Oper.semAt_some
attribute [local go_sem] max2_int min2_int max_two min_two max_three min_three max_four min_four   -- for this text's walks alone
set_option linter.unusedVariables false
set_option linter.unusedSimpArgs false
set_option maxHeartbeats 4000000
set_option maxRecDepth 20000
theorem dl_head (A : Option Addr) (c : Nat) (l : List Int) (m : Nat) (hm : m ≤ l.length) (hc : l.length ≤ c) :
    ∀ W : World, (Instr.slice 22 (.slice A l.length c) none (some (.int .i64 (m : Int))) none).run Try.prog W = .ok (.slice A (l.take m).length c) W := by
  intro W
  have hu : Try.prog.underlying 22 = some (.slice 5) := Try.underlying22
  rw [run_slice_h W 22 A l.length c hu .i64 (m : Int) (Int.natCast_nonneg _) (by omega)]
  obtain ⟨i0, hi, hzz⟩ := Option.map_eq_some_iff.1 info5
  simp only [Prod.mk.injEq] at hzz
  obtain ⟨hz0, hz1, hz2⟩ := hzz
  have hel : Try.prog.elem 22 = 5 := by simp [Program.elem, Try.underlying22]
  rw [List.length_take, Nat.min_eq_left hm, hel]
  simp [sizeOf, typeInfo, hi, hz1, sliced, Result.andThen]
  intro _
  cases A <;> simp [Addr.add]
theorem dl_zeros_stop : ∀ (l : List Int), dl_zeros l < l.length → dl_zeros (l.drop (dl_zeros l)) = 0
  | [], h => by simp at h
  | x :: l, h => by
    by_cases hx : x = 0
    · have e : dl_zeros (x :: l) = dl_zeros l + 1 := by rw [dl_zeros, if_pos hx]
      rw [e] at h ⊢
      exact dl_zeros_stop l (by simpa using h)
    · have e : dl_zeros (x :: l) = 0 := by rw [dl_zeros, if_neg hx]
      rw [e]
      exact e
theorem dl_lits_pos {l : List Int} (h0 : dl_zeros l = 0) (h : 0 < l.length) : 1 ≤ dl_lits l := by
  unfold dl_lits
  rw [dl_litF]
  have he : ¬ dl_ends l 0 = true := by
    unfold dl_ends
    rw [List.drop_zero, h0]
    simp
    intro e
    simp [e] at h
  rw [if_neg he]
  exact (dl_litF_le l l.length 1 (by omega) (by omega)).2
theorem dl_lits_le (l : List Int) : dl_lits l ≤ l.length := (dl_litF_le l (l.length + 1) 0 (by omega) (by omega)).1
/-- what literals come in the round at a place -/
def dl_lit (M : List Int) (p : Nat) : List Int := ((M.drop p).drop (dl_zeros (M.drop p))).take (dl_lits ((M.drop p).drop (dl_zeros (M.drop p))))
def dl_next (M : List Int) (p : Nat) : Nat := p + dl_zeros (M.drop p) + dl_lits ((M.drop p).drop (dl_zeros (M.drop p)))
def dl_lenOf (W : World) (B : Nat) : Nat := match W.cell? ⟨B, 0, none⟩ with | some (.slice _ n _) => n | _ => 0
theorem dl_lenOf_at {W : World} {B n c : Nat} {A : Option Addr} (h : W.heap[B]? = some (.cells #[.slice A n c] 22 (0, 0))) : dl_lenOf W B = n := by
  have : W.cell? ⟨B, 0, none⟩ = some (.slice A n c) := blk_cell h 0
  unfold dl_lenOf
  rw [this]
theorem runs1_in (n l Bx : Nat) (A : Option Addr) (c : Nat) (M : List Int) (J : Nat → World → Prop) (hl : M.length ≤ 1000000) (hc : M.length ≤ c)
    (hJC : ∀ p X, J p X → Kd.C (Kd.int .u8) X A M.length M) (hJb : ∀ p X Y, J p X → Below X.heap.size X Y → J p Y) (hJs : ∀ p X a m k, J p X → J p (X.setCell ⟨Bx, 0, none⟩ (.slice a m k)))
    (hY : ∀ p X, J p X → p ≤ M.length → dl_zeros (M.drop p) < (M.drop p).length → ∀ A1 c1, Kd.C (Kd.int .u8) X A1 (dl_lit M p).length (dl_lit M p) → (dl_lit M p).length ≤ c1 →
      YieldAt Fence.wide (n - 1) Try.prog l #[.int .i64 (dl_zeros (M.drop p) : Nat), .slice A1 (dl_lit M p).length c1] X fun e W' => e = .returned (.bool true) ∧ J (dl_next M p) W' ∧ W'.heap[Bx]? = X.heap[Bx]?)
    (W : World) (hB : W.heap[Bx]? = some (.cells #[.slice A M.length c] 22 (0, 0))) (h0 : J 0 W) :
    CallsIn Fence.wide n Try.prog 40 #[.func (.yield l) #[] #[], .pointer (some ⟨Bx, 0, none⟩)] W fun e W' => (∃ v, e = .returned v) ∧ ∃ p, p ≤ M.length ∧ ¬ dl_zeros (M.drop p) < (M.drop p).length ∧ J p W' := by
  have hx : W.cell? ⟨Bx, 0, none⟩ = some (.slice A M.length c) := blk_cell hB 0
  have HZ := Lib.hid (zeros_calls A c M W (hJC 0 W h0) hl)
  have HB := Lib.hid hB
  have H0 := Lib.hid h0
  have HJC := Lib.hid hJC
  have HJB := Lib.hid hJb
  have HJS := Lib.hid hJs
  have HY := Lib.hid hY
  clear hB h0 hJC hJb hJs hY
  refine callsIn_of_wp Try.func40 rfl trivial ?_ rfl
  simp only [Try.ntmps40, List.size_toArray, List.length_cons, List.length_nil, Nat.reduceAdd, Nat.reduceSub, Array.replicate_succ, Array.replicate_zero, List.push_toArray, List.append_toArray, List.nil_append, List.cons_append]
  gi_wp2_with fail
  refine ⟨trivial, fun h => by simp [Fence.wide] at h, ?_⟩
  refine (callsIn_wide.2 HZ.out).mono ?_; rintro e w1 ⟨rfl, rfl⟩
  gi_wp2_with fail
  gi_loopw [3] (fun v wr => ∃ (p : Nat) (L : List Int) (Ap : Option Addr) (cp : Nat), v = .int .i64 (dl_zeros L : Nat) ∧ Hid (L = M.drop p ∧ p ≤ M.length) ∧ L.length ≤ 1000000 ∧ L.length ≤ cp ∧ Hid (wr.heap[Bx]? = some (.cells #[.slice Ap L.length cp] 22 (0, 0))) ∧ Hid (∀ X, Kd.C (Kd.int .u8) X A M.length M → Kd.C (Kd.int .u8) X Ap L.length L) ∧ Hid (J p wr)) (fun _ wr => dl_lenOf wr Bx)
  case atStart => exact ⟨0, M, A, c, rfl, Lib.hid ⟨rfl, by omega⟩, hl, hc, HB, Lib.hid (fun X h => h), H0⟩
  case round =>
    obtain ⟨p, L, Ap, cp, rfl, HL, hLl, hLc, HB2, HC2, HJ⟩ := hrel
    have hx2 : wr.cell? ⟨Bx, 0, none⟩ = some (.slice Ap L.length cp) := blk_cell HB2.out 0
    have hz2 := dl_zeros_le L
    obtain ⟨z, hz⟩ : ∃ z, dl_zeros L = z := ⟨_, rfl⟩
    by_cases hzl : z < L.length
    · have hzl' : (z : Int) < L.length := by omega
      have hpos : 1 ≤ dl_lits (L.drop z) := dl_lits_pos (by rw [← hz]; exact dl_zeros_stop L (by omega)) (by rw [List.length_drop]; omega)
      obtain ⟨A1, hcut, hC1, hc1⟩ := dl_cut Ap cp L z (by omega) hLc
      have hL1l : (L.drop z).length ≤ 1000000 := by rw [List.length_drop]; omega
      have hL1e : L.drop z = M.drop (p + z) := by rw [HL.out.1, List.drop_drop]
      have hlen1 : (L.drop z).length = L.length - z := List.length_drop
      obtain ⟨L1, hL1⟩ : ∃ L1, L.drop z = L1 := ⟨_, rfl⟩
      obtain ⟨c1, hcc1⟩ : ∃ c1, cp - z = c1 := ⟨_, rfl⟩
      rw [hL1] at hcut hC1 hc1 hpos hL1l hL1e hlen1
      rw [hcc1] at hcut hc1
      obtain ⟨nn, hnn⟩ : ∃ nn, dl_lits L1 = nn := ⟨_, rfl⟩
      have hnl : nn ≤ L1.length := by rw [← hnn]; exact dl_lits_le L1
      rw [hnn] at hpos
      have hhead := dl_head A1 c1 L1 nn hnl hc1
      obtain ⟨A2, hcut2, hC2, hc2⟩ := dl_cut A1 c1 L1 nn hnl hc1
      have hlen2 : (L1.drop nn).length = L1.length - nn := List.length_drop
      have hL2e : L1.drop nn = M.drop (p + z + nn) := by rw [hL1e, List.drop_drop]
      have hp2 : p + z + nn ≤ M.length := by
        have h1 : L.length = M.length - p := by rw [HL.out.1, List.length_drop]
        have := HL.out.2
        omega
      have hlit : dl_lit M p = L1.take nn := by unfold dl_lit; rw [← HL.out.1, hz, hL1, hnn]
      have hnext : dl_next M p = p + z + nn := by unfold dl_next; rw [← HL.out.1, hz, hL1, hnn]
      have hlitl : (L1.take nn).length ≤ c1 := by rw [List.length_take]; omega
      have hCl : ∀ X, Kd.C (Kd.int .u8) X A1 L1.length L1 → Kd.C (Kd.int .u8) X A1 (L1.take nn).length (L1.take nn) := fun X h => Kd.C_take h hnl
      obtain ⟨lit, hlitn⟩ : ∃ lit, L1.take nn = lit := ⟨_, rfl⟩
      obtain ⟨L2, hL2⟩ : ∃ L2, L1.drop nn = L2 := ⟨_, rfl⟩
      obtain ⟨c2, hcc2⟩ : ∃ c2, c1 - nn = c2 := ⟨_, rfl⟩
      rw [hlitn] at hhead hlit hlitl hCl
      rw [hL2] at hcut2 hC2 hc2 hlen2 hL2e
      rw [hcc2] at hcut2 hc2
      -- the first store
      have hfz : wr.frozen? ⟨Bx, 0, none⟩ = false := blk_frozen HB2.out 0
      have hB3 := blk_set HB2.out 0 (.slice A1 L1.length c1)
      have hB3 : (wr.setCell ⟨Bx, 0, none⟩ (.slice A1 L1.length c1)).heap[Bx]? = some (.cells #[.slice A1 L1.length c1] 22 (0, 0)) := by simpa using hB3
      have hx3 : (wr.setCell ⟨Bx, 0, none⟩ (.slice A1 L1.length c1)).cell? ⟨Bx, 0, none⟩ = some (.slice A1 L1.length c1) := blk_cell hB3 0
      have hJ3 := HJS.out p wr A1 L1.length c1 HJ.out
      have hLT := Lib.hid (lits_calls A1 c1 L1 _ (hC1 _ (HC2.out _ (HJC.out p _ hJ3))) hL1l hc1)
      rw [hnn] at hLT
      have HB3 := Lib.hid hB3
      have HJ3 := Lib.hid hJ3
      have HC1 := Lib.hid hC1
      have HCl := Lib.hid hCl
      have HCC2 := Lib.hid hC2
      have HF := Lib.hid (And.intro hlit hnext)
      have HE := Lib.hid (And.intro hL1e hL2e)
      have hold := Lib.hid (dl_lenOf_at HB2.out)
      have HLEN := Lib.hid (And.intro hlen1 hlen2)
      have hzz := Lib.hid hz
      clear hlen1 hlen2 hx HZ hB3 hJ3 hC1 hCl hC2 hlit hnext hL1e hL2e hL1 hcc1 hnn hlitn hL2 hcc2
      rw [hz]
      clear hz
      gi_wp2_with fail
      refine ⟨trivial, fun h => by simp [Fence.wide] at h, ?_⟩
      refine (callsIn_wide.2 hLT.out).mono ?_; rintro e w3 ⟨rfl, hb3⟩
      -- behind the count of literals: the round
      have hbx3 : w3.heap[Bx]? = some (.cells #[.slice A1 L1.length c1] 22 (0, 0)) := (hb3.block _ (blk_lt HB3.out)).trans HB3.out
      have hx4 : w3.cell? ⟨Bx, 0, none⟩ = some (.slice A1 L1.length c1) := blk_cell hbx3 0
      have hJ4 := HJB.out p _ _ HJ3.out hb3
      have hy := HY.out p w3 hJ4 HL.out.2 (by rw [← HL.out.1, hzz.out]; exact hzl) A1 c1 (by rw [HF.out.1]; exact HCl.out _ (HC1.out _ (HC2.out _ (HJC.out p _ hJ4)))) (by rw [HF.out.1]; exact hlitl)
      rw [HF.out.1, HF.out.2, ← HL.out.1, hzz.out] at hy
      obtain ⟨fn, tmps, assign, body, hyr, hR⟩ := hy
      have hR := Lib.hid hR
      have hbx3 := Lib.hid hbx3
      clear hx3 hx2 hfz hb3 HB3 HJ3 hLT hJ4
      gi_wp2_with fail
      refine ⟨fun h => by simp [Fence.wide] at h, ?_⟩
      refine hR.out.mono ?_; rintro e w4 ⟨rfl, hJ5, hb5⟩
      have hbx5 : w4.heap[Bx]? = some (.cells #[.slice A1 L1.length c1] 22 (0, 0)) := hb5.trans hbx3.out
      have hx5 : w4.cell? ⟨Bx, 0, none⟩ = some (.slice A1 L1.length c1) := blk_cell hbx5 0
      have hf5 : w4.frozen? ⟨Bx, 0, none⟩ = false := blk_frozen hbx5 0
      have hbx6 : (w4.setCell ⟨Bx, 0, none⟩ (.slice A2 L2.length c2)).heap[Bx]? = some (.cells #[.slice A2 L2.length c2] 22 (0, 0)) := by simpa using blk_set hbx5 0 (.slice A2 L2.length c2)
      have hx6 : (w4.setCell ⟨Bx, 0, none⟩ (.slice A2 L2.length c2)).cell? ⟨Bx, 0, none⟩ = some (.slice A2 L2.length c2) := blk_cell hbx6 0
      have hJ6 := HJS.out _ w4 A2 L2.length c2 hJ5
      have hCC : ∀ X, Kd.C (Kd.int .u8) X A M.length M → Kd.C (Kd.int .u8) X A2 L2.length L2 := fun X h => HCC2.out _ (HC1.out _ (HC2.out _ h))
      have hZ6 := Lib.hid (zeros_calls A2 c2 L2 _ (hCC _ (HJC.out _ _ hJ6)) (by have := HLEN.out; omega))
      have hbx6 := Lib.hid hbx6
      have hJ6 := Lib.hid hJ6
      have hCC := Lib.hid hCC
      clear hx4 hyr hR hJ5 hb5 hbx5 hbx3 hcut hhead
      gi_wp2_with fail
      refine ⟨trivial, fun h => by simp [Fence.wide] at h, ?_⟩
      refine (callsIn_wide.2 hZ6.out).mono ?_; rintro e w7 ⟨rfl, rfl⟩
      gi_wp2_with fail
      go_roundw
      case rel => exact ⟨p + z + nn, L2, A2, c2, rfl, Lib.hid ⟨HE.out.2, hp2⟩, by have := HLEN.out; omega, hc2, hbx6, hCC, hJ6⟩
      case measure =>
        have hnew := dl_lenOf_at hbx6.out
        rw [hold.out]
        show dl_lenOf (w4.setCell ⟨Bx, 0, none⟩ (.slice A2 L2.length c2)) Bx < _
        rw [hnew]
        have := HLEN.out
        omega
    · have hzl' : ¬ (z : Int) < L.length := by omega
      have hend := Lib.hid (show ∃ p, p ≤ M.length ∧ ¬ dl_zeros (M.drop p) < (M.drop p).length ∧ J p wr from ⟨p, HL.out.2, by rw [← HL.out.1, hz]; exact hzl, HJ.out⟩)
      clear hx HZ
      rw [hz]
      gi_wp2_with fail
      go_end0
      obtain ⟨p', h1, h2, h3⟩ := hend.out
      exact ⟨⟨_, rfl⟩, p', h1, by rw [List.length_drop] at h2; omega, h3⟩
end Go.Proofs.Ytocadookdkmahaa.PDl

/- Layer 3 (delta): the difference. -/
namespace Go.Proofs.Ytocadookdkmahaa.PDl
open Go.RowKit Go.Proofs.YtocadookdkmahaaW.PrintWords Go.Proofs.YtocadookdkmahaaW.PrintLast Go.Proofs.YtocadookdkmahaaW.PrintMore
open Go.Proofs.Ytocadookdkmahaa.PLz (IsB lz_get_cell wire_form wp_region_inv upb depsOk info5)
open Go.Proofs.Ytocadookdkmahaa.PDeltaDiffs (delta_mix.f delta_mix.calls wire_PutText.f wire_PutText.calls)
attribute [local go_sem] Oper.semAt_some
attribute [local go_sem] max2_int min2_int max_two min_two max_three min_three max_four min_four   -- for this text's walks alone
set_option linter.unusedVariables false
set_option linter.unusedSimpArgs false
set_option maxHeartbeats 4000000
set_option maxRecDepth 20000
/-- whatever whole number lay, lies -/
def Calm (W W' : World) : Prop := ∀ q k z, W.cell? q = some (.int k z) → W'.cell? q = some (.int k z)
theorem Calm.trans {X Y Z : World} (h : Calm X Y) (k : Calm Y Z) : Calm X Z := fun q a b hq => k q a b (h q a b hq)
theorem Calm.refl (X : World) : Calm X X := fun _ _ _ h => h
theorem cell_lt {W : World} {q : Addr} {v : Value} (h : W.cell? q = some v) : q.block < W.heap.size := by
  unfold World.cell? at h
  cases hb : W.heap[q.block]? with
  | none => rw [hb] at h; cases h
  | some o => exact (Array.getElem?_eq_some_iff.1 hb).1
theorem calm_below {W W' : World} (h : Below W.heap.size W W') : Calm W W' := fun q k z hq => (h.cell (p := q) (cell_lt hq)).trans hq
theorem calm_of_block {W W' : World} {B : Nat} (hne : ∀ q k z, W.cell? q = some (.int k z) → q.block ≠ B) (h : ∀ b, b ≠ B → W'.heap[b]? = W.heap[b]?) : Calm W W' := fun q k z hq => by
  have : W'.cell? q = W.cell? q := by unfold World.cell?; rw [h _ (hne q k z hq)]
  rw [this, hq]
theorem calm_set {W : World} {B n c : Nat} {A : Option Addr} {t : TypeId} (h : W.heap[B]? = some (.cells #[.slice A n c] t (0, 0))) (u : Value) : Calm W (W.setCell ⟨B, 0, none⟩ u) := by
  refine calm_of_block (B := B) (fun q k z hq e => ?_) (fun b hb => Below.heap_setCell W ⟨B, 0, none⟩ u b hb)
  unfold World.cell? at hq
  rw [e, h] at hq
  simp only at hq
  split at hq
  · cases hq
  · rcases Nat.eq_zero_or_pos q.off with h0 | h0
    · rw [h0] at hq; simp at hq
    · have : (#[Value.slice A n c])[q.off]? = none := by simp; omega
      rw [this] at hq; cases hq
theorem calm_put {W : World} {l : Nat} {o o' : Obj} (h : W.heap[l]? = some o) (ho : o.isCells = false) : Calm W (W.putObj l o') := by
  refine calm_of_block (B := l) (fun q k z hq e => ?_) (fun b hb => World.putObj_heap_other hb)
  unfold World.cell? at hq
  rw [e, h] at hq
  cases o <;> simp_all [Obj.isCells]
theorem C_calm {W W' : World} {A : Option Addr} {xs : List Int} (h : Kd.C (Kd.int .u8) W A xs.length xs) (hc : Calm W W') : Kd.C (Kd.int .u8) W' A xs.length xs := by
  refine ⟨rfl, h.2.1, fun hp => ?_⟩
  obtain ⟨ad, rfl, -⟩ := lz_get_cell h 0 hp
  refine ⟨ad, rfl, fun j p hj => ⟨[.int .u8 p], rfl, rfl, fun i u hi => ?_⟩⟩
  have hi0 : i = 0 := by have := (List.getElem?_eq_some_iff.1 hi).1; simp at this; omega
  subst hi0
  have hjl := (List.getElem?_eq_some_iff.1 hj).1
  obtain ⟨ad2, e2, hcell⟩ := lz_get_cell h j hjl
  obtain rfl := Option.some.inj e2
  rw [show j * (Kd.int .u8).sz + 0 = j by show j * 1 + 0 = j; omega]
  rw [List.getD_eq_getElem?_getD, hj] at hcell
  simp at hi
  subst hi
  exact hc _ _ _ hcell
/-- what the rounds from a place on put -/
def dl_go (M : List Int) : Nat → Nat → List Int → List Int
  | 0, _, out => out
  | f + 1, p, out => if dl_zeros (M.drop p) < (M.drop p).length then dl_go M f (dl_next M p) (out ++ PLz.wire_vb 9 (dl_zeros (M.drop p) : Nat) ++ PLz.wire_vb 9 ((dl_lit M p).length : Nat) ++ dl_lit M p) else out
def dl_diff (M : List Int) (n : Nat) : List Int := dl_go M (M.length + 1) 0 (PLz.wire_vb 9 (n : Nat))
theorem runs_calls (A : Option Addr) (n c : Nat) (w : World) : Calls Try.prog 18 #[.slice A n c] w fun e w' => e = .returned (.func (.func 40) #[] #[.pointer (some ⟨w.heap.size, 0, none⟩)]) ∧ w' = w.alloc (.cells #[.slice A n c] 22) := by
  go_enter Try.func18, Try.ntmps18
  go_wp2
  go_ret
  exact ⟨rfl, rfl⟩
end Go.Proofs.Ytocadookdkmahaa.PDl

/- Layer 3 (delta): the law of the range over the runs (the iterator writes its captured variable; the body writes its own box). -/
namespace Go.Proofs.Ytocadookdkmahaa.PDl
open Go.RowKit Go.Proofs.YtocadookdkmahaaW.PrintWords Go.Proofs.YtocadookdkmahaaW.PrintLast Go.Proofs.YtocadookdkmahaaW.PrintMore
set_option linter.unusedVariables false
/-- how a round is left: it goes on -/
def dl_post (I : Nat → World → Prop) (W : World) (Bx p : Nat) (X : World) : Exit → Act → World → Prop := fun e _ X' => e = .normal ∧ I p X' ∧ X'.heap[Bx]? = X.heap[Bx]? ∧ ∀ k o, W.heap.size ≤ k → X.heap[k]? = some o → o.isCells = false → X'.heap[k]? = some o
theorem dl_range {ps : Array Tmp} (hps : ps.size = 2) {g : Operand} {assign body : Code} {Q : Exit → Act → World → Prop} {a : Act} {W : World} (Bx : Nat) (Am : Option Addr) (cm : Nat) (M : List Int) (hl : M.length ≤ 1000000) (hc : M.length ≤ cm)
    (hg : a.eval g = .func (.func 40) #[] #[.pointer (some ⟨Bx, 0, none⟩)]) (hBx : W.heap[Bx]? = some (.cells #[.slice Am M.length cm] 22 (0, 0))) (I : Nat → World → Prop)
    (hIC : ∀ p X, I p X → Kd.C (Kd.int .u8) X Am M.length M) (hIb : ∀ p X Y, I p X → Below X.heap.size X Y → I p Y) (hIp : ∀ p X l o o', I p X → W.heap.size ≤ l → X.heap[l]? = some o → o.isCells = false → I p (X.putObj l o'))
    (hIs : ∀ p X a m k, I p X → I p (X.setCell ⟨Bx, 0, none⟩ (.slice a m k))) (h0 : I 0 W)
    (hround : ∀ (l p : Nat) (X : World) (A1 : Option Addr) (c1 : Nat), I p X → p ≤ M.length → dl_zeros (M.drop p) < (M.drop p).length → Kd.C (Kd.int .u8) X A1 (dl_lit M p).length (dl_lit M p) → (dl_lit M p).length ≤ c1 →
      assign.wpIn (Fence.wide.inRound l) 1 Try.prog (Exit.then (fun a₁ X₁ => X₁ = X ∧ ∀ X', I p X' → Kd.C (Kd.int .u8) X' A1 (dl_lit M p).length (dl_lit M p) → body.wpIn (Fence.wide.inRound l) 1 Try.prog (dl_post I W Bx (dl_next M p) X') a₁ X') (fun _ _ _ => False))
        { tmps := (ps.zip #[.int .i64 (dl_zeros (M.drop p) : Nat), .slice A1 (dl_lit M p).length c1]).foldl (fun t (p, v) => t.setIfInBounds p v) a.tmps, defers := [] } X)
    (hdone : ∀ p X, p ≤ M.length → ¬ dl_zeros (M.drop p) < (M.drop p).length → I p X → X.heap[W.heap.size]? = some (.deferred (some [])) → Q .normal { a with defers := { target := .collected W.heap.size, args := #[] } :: a.defers } X) :
    (Code.rangeFunc g ps assign body).wpIn Fence.wide 3 Try.prog Q a W := by
  refine wpIn_rangeFunc ?_
  intro fn hfn
  rw [show Fence.wide.round = none from rfl]
  obtain ⟨rec, hrec⟩ : ∃ rec : LoopState → Option Code → Loop, rec = fun st pe => { state := st, pending := pe, fn, tmps := a.tmps, params := ps, assign, body, defers := W.heap.size } := ⟨_, rfl⟩
  obtain ⟨W1, hW1⟩ : ∃ W1, (W.alloc (.deferred (some []))).alloc (.loop (rec .ready none)) = W1 := ⟨_, rfl⟩
  have hL1 : W1.heap[W.heap.size + 1]? = some (.loop (rec .ready none)) := by
    rw [← hW1]; have := World.alloc_heap_new (W.alloc (.deferred (some []))) (.loop (rec .ready none)); rwa [World.size_alloc] at this
  have hK1 : W1.heap[W.heap.size]? = some (.deferred (some [])) := by
    rw [← hW1]; exact (Below.heap_alloc _ _ _ (by simp)).trans (World.alloc_heap_new W _)
  have hb1 : Below W.heap.size W W1 := by
    rw [← hW1]; exact ((Below.refl _ W).alloc (Nat.le_refl _) _).alloc (by simp) _
  have hI1 : I 0 W1 := hIb 0 W W1 h0 hb1
  have hBl : Bx < W.heap.size := blk_lt hBx
  refine ⟨W.heap.size + 1, [{ target := .collected W.heap.size, args := #[] }], W1, { target := .fn (.func 40) #[.pointer (some ⟨Bx, 0, none⟩)], args := #[.func (.yield (W.heap.size + 1)) #[] #[]] }, W1, 40,
    #[.func (.yield (W.heap.size + 1)) #[] #[]] ++ #[.pointer (some ⟨Bx, 0, none⟩)], W1, ?_, ?_, ?_, ?_, fun _ => by omega, ?_⟩
  · rw [← hW1, hrec]; exact run_enterLoop_outer _ _ _ _ _
  · simp only [resolve, hg]
    simp [go_sem]
  · intro f' hf'; exact trivial
  · have eg := enters_of Try.func40 (by kernel_rfl) rfl
    simp [invoke, go_sem]
  · refine (runs1_in 2 (W.heap.size + 1) Bx Am cm M (fun p X => I p X ∧ X.heap[W.heap.size + 1]? = some (.loop (rec .ready none)) ∧ X.heap[W.heap.size]? = some (.deferred (some []))) hl hc
      (fun p X h => hIC p X h.1) (fun p X Y h hb => ⟨hIb p X Y h.1 hb, (hb.block _ (blk_lt h.2.1)).trans h.2.1, (hb.block _ (blk_lt h.2.2)).trans h.2.2⟩)
      (fun p X a' m k h => ⟨hIs p X a' m k h.1, (Below.heap_setCell X ⟨Bx, 0, none⟩ _ _ (by show W.heap.size + 1 ≠ Bx; omega)).trans h.2.1, (Below.heap_setCell X ⟨Bx, 0, none⟩ _ _ (by show W.heap.size ≠ Bx; omega)).trans h.2.2⟩)
      ?_ W1 ((hb1.block _ hBl).trans hBx) ⟨hI1, hL1, hK1⟩).mono ?_
    · -- a round
      rintro p X ⟨hi, hlp, hk⟩ hp hz A1 c1 hC1 hc1
      have hlt : W.heap.size + 1 < X.heap.size := blk_lt hlp
      have hy := run_yield (P := Try.prog) (args := #[.int .i64 (dl_zeros (M.drop p) : Nat), .slice A1 (dl_lit M p).length c1]) hlp (by rw [hrec]; exact hps.symm)
      rw [hrec] at hy
      refine ⟨fn, _, assign, body, hy, roundIn_of_wpIn hfn (wpIn_mono (hround _ p X A1 c1 hi hp hz hC1 hc1) ?_)⟩
      intro e a1 X1 hq
      cases e with
      | normal =>
        obtain ⟨rfl, hbody⟩ := hq
        refine ⟨_, run_beginRound hlp (by rw [hrec]), ?_⟩
        obtain ⟨X2, hX2⟩ : ∃ X2, X1.putObj (W.heap.size + 1) (.loop { rec .ready none with state := .busy }) = X2 := ⟨_, rfl⟩
        have hl2 : X2.heap[W.heap.size + 1]? = some (.loop { rec .ready none with state := .busy }) := by rw [← hX2]; exact World.putObj_heap_same hlt
        have hk2 : X2.heap[W.heap.size]? = some (.deferred (some [])) := by rw [← hX2]; exact (World.putObj_heap_other (by omega)).trans hk
        have hbx2 : X2.heap[Bx]? = X1.heap[Bx]? := by rw [← hX2]; exact World.putObj_heap_other (by omega)
        have hI2 : I p X2 := by rw [← hX2]; exact hIp p X1 _ _ _ hi (by omega) hlp rfl
        have hC2 : Kd.C (Kd.int .u8) X2 A1 (dl_lit M p).length (dl_lit M p) := by rw [← hX2]; exact C_calm hC1 (calm_put hlp rfl)
        have hgoal := hbody X2 hI2 hC2
        rw [hX2]
        refine wpIn_mono hgoal ?_
        rintro e a3 X3 ⟨rfl, hI3, hbx3, hkeep⟩
        have hl3 := hkeep _ _ (by omega) hl2 rfl
        have hk3 := hkeep _ _ (Nat.le_refl _) hk2 rfl
        have hr := run_endRound (P := Try.prog) none hl3
        refine ⟨_, _, hr, rfl, ⟨hIp _ X3 _ _ _ hI3 (by omega) hl3 rfl, ?_, (World.putObj_heap_other (by omega)).trans hk3⟩, ?_⟩
        · rw [World.putObj_heap_same (blk_lt hl3), hrec]; rfl
        · exact (World.putObj_heap_other (by omega)).trans (hbx3.trans hbx2)
      | exit id => exact hq.elim
      | goto t => exact hq.elim
      | ret => exact hq.elim
      | panic chain => exact hq.elim
      | outgrown => exact hq.elim
    · -- behind the iterator
      rintro e X2 ⟨⟨v, rfl⟩, p, hp, hz, hi, hlp, hk⟩
      have := run_endLoop (P := Try.prog) hlp (by rw [hrec]; simp)
      refine ⟨none, _, by rw [hrec] at this; exact this, hdone p _ hp hz (hIp p X2 _ _ _ hi (by omega) hlp rfl) ((World.putObj_heap_other (by omega)).trans hk)⟩
end Go.Proofs.Ytocadookdkmahaa.PDl

/- Layer 3 (delta): the difference's walk. -/
namespace Go.Proofs.Ytocadookdkmahaa.PDl
open Go.RowKit Go.Proofs.YtocadookdkmahaaW.PrintWords Go.Proofs.YtocadookdkmahaaW.PrintLast Go.Proofs.YtocadookdkmahaaW.PrintMore
open Go.Proofs.Ytocadookdkmahaa.PLz (IsB lz_get_cell wire_form wp_region_inv upb depsOk info5)
open Go.Proofs.Ytocadookdkmahaa.PDeltaDiffs (delta_mix.f delta_mix.calls wire_PutText.f wire_PutText.calls)
attribute [local go_sem] Oper.semAt_some
attribute [local go_sem] max2_int min2_int max_two min_two max_three min_three max_four min_four   -- for this text's walks alone
set_option linter.unusedVariables false
set_option linter.unusedSimpArgs false
set_option maxHeartbeats 4000000
set_option maxRecDepth 20000
/-- what holds between two rounds -/
structure dl_I (w : World) (Bo Bx : Nat) (Am : Option Addr) (M R : List Int) (p : Nat) (X : World) : Prop where
  hb : Below w.heap.size w X
  box : ∃ (Ao : Option Addr) (co : Nat) (out : List Int), X.heap[Bo]? = some (.cells #[.slice Ao out.length co] 22 (0, 0)) ∧ Kd.C (Kd.int .u8) X Ao out.length out ∧ out.length ≤ co ∧ out.length ≤ 10 + 30 * p ∧ ∃ f, M.length < f + p ∧ dl_go M f p out = R
  mc : Kd.C (Kd.int .u8) X Am M.length M
  xb : ∃ (a : Option Addr) (n c : Nat), X.heap[Bx]? = some (.cells #[.slice a n c] 22 (0, 0))
theorem dl_I.below {w X Y : World} {Bo Bx p : Nat} {Am : Option Addr} {M R : List Int} (h : dl_I w Bo Bx Am M R p X) (hb : Below X.heap.size X Y) : dl_I w Bo Bx Am M R p Y := by
  obtain ⟨Ao, co, out, h1, h2, h3⟩ := h.box
  obtain ⟨a, n, c, h4⟩ := h.xb
  exact ⟨below_then h.hb h.hb.size hb, ⟨Ao, co, out, (hb.block _ (blk_lt h1)).trans h1, Kd.C_below h2 hb, h3⟩, Kd.C_below h.mc hb, ⟨a, n, c, (hb.block _ (blk_lt h4)).trans h4⟩⟩
theorem dl_I.put {w X : World} {Bo Bx p l : Nat} {o o' : Obj} {Am : Option Addr} {M R : List Int} (h : dl_I w Bo Bx Am M R p X) (hl : w.heap.size ≤ l) (ho : X.heap[l]? = some o) (hc : o.isCells = false) : dl_I w Bo Bx Am M R p (X.putObj l o') := by
  obtain ⟨Ao, co, out, h1, h2, h3⟩ := h.box
  obtain ⟨a, n, c, h4⟩ := h.xb
  have e1 : Bo ≠ l := fun e => by rw [e, ho] at h1; obtain rfl := Option.some.inj h1; simp [Obj.isCells] at hc
  have e2 : Bx ≠ l := fun e => by rw [e, ho] at h4; obtain rfl := Option.some.inj h4; simp [Obj.isCells] at hc
  refine ⟨h.hb.grown (grownBy_putObj' X l o') h.hb.size (fun k e => by cases e; exact hl), ⟨Ao, co, out, (World.putObj_heap_other e1).trans h1, C_calm h2 (calm_put ho hc), h3⟩, C_calm h.mc (calm_put ho hc), ⟨a, n, c, (World.putObj_heap_other e2).trans h4⟩⟩
theorem dl_I.setx {w X : World} {Bo Bx p m k : Nat} {a' : Option Addr} {Am : Option Addr} {M R : List Int} (h : dl_I w Bo Bx Am M R p X) (hw : w.heap.size ≤ Bx) (hne : Bo ≠ Bx) : dl_I w Bo Bx Am M R p (X.setCell ⟨Bx, 0, none⟩ (.slice a' m k)) := by
  obtain ⟨Ao, co, out, h1, h2, h3⟩ := h.box
  obtain ⟨a, n, c, h4⟩ := h.xb
  exact ⟨h.hb.setCell (p := ⟨Bx, 0, none⟩) hw _, ⟨Ao, co, out, blk_far h1 (p := ⟨Bx, 0, none⟩) hne _, C_calm h2 (calm_set h4 _), h3⟩, C_calm h.mc (calm_set h4 _), ⟨a', m, k, by simpa using blk_set h4 0 (.slice a' m k)⟩⟩
theorem dl_I.seto {w X V : World} {Bo Bx p p2 c2 : Nat} {A2 : Option Addr} {Am : Option Addr} {M R o2 : List Int} (h : dl_I w Bo Bx Am M R p X) (hv : Below X.heap.size X V) (hw : w.heap.size ≤ Bo) (hne : Bo ≠ Bx)
    (hC : Kd.C (Kd.int .u8) V A2 o2.length o2) (hc : o2.length ≤ c2) (hl : o2.length ≤ 10 + 30 * p2) (hf : ∃ f, M.length < f + p2 ∧ dl_go M f p2 o2 = R) : dl_I w Bo Bx Am M R p2 (V.setCell ⟨Bo, 0, none⟩ (.slice A2 o2.length c2)) := by
  obtain ⟨Ao, co, out, h1, h2, h3⟩ := (h.below hv).box
  obtain ⟨a, n, c, h4⟩ := (h.below hv).xb
  exact ⟨(h.below hv).hb.setCell (p := ⟨Bo, 0, none⟩) hw _, ⟨A2, c2, o2, by simpa using blk_set h1 0 (.slice A2 o2.length c2), C_calm hC (calm_set h1 _), hc, hl, hf⟩, C_calm (h.below hv).mc (calm_set h1 _), ⟨a, n, c, blk_far h4 (p := ⟨Bo, 0, none⟩) (Ne.symm hne) _⟩⟩
theorem dl_vb_eq : ∀ (k : Nat) (n : Int), PDeltaDiffs.wire_vb k n = PLz.wire_vb k n
  | 0, n => rfl
  | k + 1, n => by rw [PDeltaDiffs.wire_vb, PLz.wire_vb, dl_vb_eq k]
theorem dl_zeros_len (l : List Int) : dl_zeros l ≤ l.length := dl_zeros_le l
theorem bytes_str {l : List Int} (h : IsB l) : bytesOf (strOfNums l) = l := by
  unfold bytesOf strOfNums
  simp only [List.map_map]
  conv => rhs; rw [← List.map_id l]
  refine List.map_congr_left fun x hx => ?_
  have := h x hx
  simp only [Function.comp, UInt8.toNat_ofNat', id]
  omega
theorem dl_isB_lit {M : List Int} (h : IsB M) (p : Nat) : IsB (dl_lit M p) := PLz.isB_take (PLz.isB_drop (PLz.isB_drop h _) _) _
theorem dl_next_lt {M : List Int} {p : Nat} (hp : p ≤ M.length) (hz : dl_zeros (M.drop p) < (M.drop p).length) : p + 1 ≤ dl_next M p ∧ dl_next M p ≤ M.length ∧ (dl_lit M p).length ≤ dl_next M p - p := by
  have h1 := dl_lits_pos (dl_zeros_stop _ hz) (by rw [List.length_drop]; omega)
  have h2 := dl_lits_le ((M.drop p).drop (dl_zeros (M.drop p)))
  rw [List.length_drop, List.length_drop] at h2
  unfold dl_next dl_lit
  rw [List.length_take]
  rw [List.length_drop] at hz
  omega
theorem dl_go_step {M R out : List Int} {f p : Nat} (hp : p ≤ M.length) (hz : dl_zeros (M.drop p) < (M.drop p).length) (hf : M.length < f + p) (h : dl_go M f p out = R) :
    ∃ f', M.length < f' + dl_next M p ∧ dl_go M f' (dl_next M p) (out ++ PLz.wire_vb 9 (dl_zeros (M.drop p) : Nat) ++ PLz.wire_vb 9 ((dl_lit M p).length : Nat) ++ dl_lit M p) = R := by
  obtain ⟨f', rfl⟩ : ∃ f', f = f' + 1 := ⟨f - 1, by omega⟩
  rw [dl_go, if_pos hz] at h
  exact ⟨f', by have := (dl_next_lt hp hz).1; omega, h⟩
theorem dl_go_end {M R out : List Int} {f p : Nat} (hp : p ≤ M.length) (hz : ¬ dl_zeros (M.drop p) < (M.drop p).length) (hf : M.length < f + p) (h : dl_go M f p out = R) : out = R := by
  obtain ⟨f', rfl⟩ : ∃ f', f = f' + 1 := ⟨f - 1, by omega⟩
  rwa [dl_go, if_neg hz] at h
theorem diff_calls (k : Nat) (A0 : Option Addr) (c0 : Nat) (a : List Int) (A1 : Option Addr) (c1 : Nat) (b M R : List Int) (w : World) (hr0 : Kd.C (Kd.int .u8) w A0 a.length a) (hc0 : a.length ≤ c0) (hr1 : Kd.C (Kd.int .u8) w A1 b.length b) (hc1 : b.length ≤ c1)
    (hM : delta_mix.f k a b = some M) (hMB : IsB M) (hMl : M.length ≤ 4000) (hbl : b.length ≤ 4000) (hR : dl_diff M b.length = R) :
    Calls Try.prog 9 #[.slice A0 a.length c0, .slice A1 b.length c1] w fun e w' => ∃ (A : Option Addr) (c : Nat), e = .returned (.slice A R.length c) ∧ R.length ≤ c ∧ Kd.C (Kd.int .u8) w' A R.length R ∧ Below w.heap.size w w' := by
  have HR0 := Lib.hid hr0
  have HR1 := Lib.hid hr1
  have HM := Lib.hid hM
  have g1 : Hid (PLz.wire_Put.f [] (b.length : Int) = some (PLz.wire_vb 9 (b.length : Int))) := Lib.hid (by
    unfold PLz.wire_Put.f
    rw [if_pos ⟨by omega, by omega, by simp⟩]
    rfl)
  obtain ⟨V, hV⟩ : ∃ V, PLz.wire_vb 9 (b.length : Int) = V := ⟨_, rfl⟩
  have hVl : V.length ≤ 10 := by rw [← hV]; exact (PLz.wire_vb_len 9 _).2
  have hR2 : dl_go M (M.length + 1) 0 V = R := by rw [← hR, ← hV]; rfl
  rw [hV] at g1
  have HGO := Lib.hid hR2
  have hw1 : IntKind.u64.wrap (b.length : Int) = b.length := by rw [IntKind.wrap_u64]; omega
  clear hr0 hr1 hM hR hV hR2
  refine (callsIn_wide (n := 3)).1 ?_
  refine callsIn_of_wp_marks Try.func9 rfl trivial ?_ rfl
  simp only [Try.ntmps9, List.size_toArray, List.length_cons, List.length_nil, Nat.reduceAdd, Nat.reduceSub, Array.replicate_succ, Array.replicate_zero, List.push_toArray, List.append_toArray, List.nil_append, List.cons_append]
  gi_wp2_with fail
  refine ⟨trivial, ?_⟩
  refine (callsIn_wide.2 (PLz.wire_Put.calls none 0 [] (b.length : Int) V w (Kd.C_nil _ _) (Nat.le_refl _) g1.out)).mono ?_; rintro e w1 ⟨v1, rfl, R1, b1⟩
  obtain ⟨Ao, co, rfl, qo, C1⟩ := wire_form R1
  have H1 := Lib.hid b1
  have C1 := Lib.hid C1
  clear R1 b1 g1
  have hbox := blk_new w1 (.cells #[.slice Ao V.length co] 22)
  have HBOX := Lib.hid hbox
  have H2 := Lib.hid (show Below w.heap.size w (w1.alloc (.cells #[.slice Ao V.length co] 22)) from (H1.out.trans ((below_alloc (Below.refl _ _) _).mono H1.out.size)))
  clear hbox
  have hC1b := Lib.hid (Kd.C_below C1.out (below_alloc (Below.refl _ _) (.cells #[.slice Ao V.length co] 22)))
  gi_wp2_with fail
  obtain ⟨W2, hW2⟩ : ∃ W2, w1.alloc (.cells #[.slice Ao V.length co] 22) = W2 := ⟨_, rfl⟩
  have hBo : w.heap.size ≤ w1.heap.size := H1.out.size
  obtain ⟨Bo, hBoe⟩ : ∃ Bo, w1.heap.size = Bo := ⟨_, rfl⟩
  rw [hW2] at HBOX H2 hC1b ⊢
  rw [hBoe] at HBOX hBo ⊢
  clear hW2 hBoe C1 H1
  refine ⟨trivial, ?_⟩
  refine (callsIn_wide.2 (delta_mix.calls k A0 c0 a A1 c1 b M W2 (Kd.C_below HR0.out H2.out) hc0 (Kd.C_below HR1.out H2.out) hc1 HM.out)).mono ?_; rintro e w3 ⟨v3, rfl, R3, b3⟩
  obtain ⟨Am, cm, rfl, qm, C3⟩ := wire_form R3
  have hbox3 := (b3.block _ (blk_lt HBOX.out)).trans HBOX.out
  have hco := Kd.C_below hC1b.out b3
  have H3 := below_then H2.out H2.out.size b3
  have HB3 := Lib.hid hbox3
  have C3 := Lib.hid C3
  have HCO := Lib.hid hco
  have H3 := Lib.hid H3
  clear R3 b3 HBOX H2 hC1b hbox3 hco HR0 HR1
  gi_wp2_with fail
  refine ⟨trivial, ?_⟩
  refine (callsIn_wide.2 (runs_calls Am M.length cm w3)).mono ?_; rintro e w4 ⟨rfl, rfl⟩
  have hbox4 := (Below.heap_alloc w3 (.cells #[.slice Am M.length cm] 22) _ (blk_lt HB3.out)).trans HB3.out
  have hx4 := blk_new w3 (.cells #[.slice Am M.length cm] 22)
  have hb4 : Below w3.heap.size w3 (w3.alloc (.cells #[.slice Am M.length cm] 22)) := below_alloc (Below.refl _ _) _
  have hco4 := Kd.C_below HCO.out hb4
  have hcm4 := Kd.C_below C3.out hb4
  have H4 := below_then H3.out H3.out.size hb4
  have hlt : Bo < w3.heap.size := blk_lt HB3.out
  have hsz : w.heap.size ≤ w3.heap.size := H3.out.size
  obtain ⟨W, hW⟩ : ∃ W, w3.alloc (.cells #[.slice Am M.length cm] 22) = W := ⟨_, rfl⟩
  obtain ⟨Bx, hBx⟩ : ∃ Bx, w3.heap.size = Bx := ⟨_, rfl⟩
  have hWs : W.heap.size = Bx + 1 := by rw [← hW, ← hBx, World.size_alloc]
  rw [hW] at hbox4 hx4 hco4 hcm4 H4 ⊢
  rw [hBx] at hx4 hlt hsz ⊢
  have HB := Lib.hid hbox4
  have HX := Lib.hid hx4
  have HCO := Lib.hid hco4
  have HCM := Lib.hid hcm4
  have H4 := Lib.hid H4
  clear hW hBx hb4 HB3 C3 H3 hbox4 hx4 hco4 hcm4
  gi_wp2_with fail
  refine dl_range rfl Bx Am cm M (by omega) qm rfl HX.out (dl_I w Bo Bx Am M R) (fun p X h => h.mc) (fun p X Y h hb => h.below hb) (fun p X l o o' h hl ho hc => h.put (by omega) ho hc) (fun p X a' m k h => h.setx hsz (by omega))
    ⟨H4.out, ⟨Ao, co, V, HB.out, HCO.out, qo, by omega, _, by omega, HGO.out⟩, HCM.out, ⟨_, _, _, HX.out⟩⟩ ?round ?fin
  case round =>
    intro l p X A1 c1 hI hp hz hC1 hc1l
    obtain ⟨z, hze⟩ : ∃ z, dl_zeros (M.drop p) = z := ⟨_, rfl⟩
    have hzl : z ≤ 4000 := by rw [← hze]; have := dl_zeros_le (M.drop p); rw [List.length_drop] at this; omega
    obtain ⟨lit, hlit⟩ : ∃ lit, dl_lit M p = lit := ⟨_, rfl⟩
    have hnx := dl_next_lt hp hz
    have hstep := fun (f : Nat) (out : List Int) => dl_go_step (R := R) (out := out) (f := f) hp hz
    have hlB : IsB lit := by rw [← hlit]; exact dl_isB_lit hMB p
    simp only [hze, hlit] at hstep hC1 hc1l hnx ⊢
    obtain ⟨s, hs⟩ : ∃ s, strOfNums lit = s := ⟨_, rfl⟩
    have hsb : bytesOf s = lit := by rw [← hs]; exact bytes_str hlB
    have hss : s.size = lit.length := by rw [← hs]; exact PLz.str_size lit
    have HS := Lib.hid hs
    have HSTEP := Lib.hid hstep
    have HNX := Lib.hid hnx
    have HSB := Lib.hid hsb
    have HSS := Lib.hid hss
    clear hI hC1 hs hstep hnx hsb hss hze hlit hz hlB
    gi_wp2_with fail
    refine ⟨trivial, fun Y hI hCL => ?_⟩
    obtain ⟨Ao, co, out, hbo, hcO, hco, hol, f, hf, hgo⟩ := hI.box
    obtain ⟨o1, ho1⟩ : ∃ o1, out ++ PLz.wire_vb 9 ((z : Nat) : Int) = o1 := ⟨_, rfl⟩
    obtain ⟨o2, ho2⟩ : ∃ o2, o1 ++ PLz.wire_vb 9 ((lit.length : Nat) : Int) ++ lit = o2 := ⟨_, rfl⟩
    have hv1 := (PLz.wire_vb_len 9 ((z : Nat) : Int)).2
    have hv2 := (PLz.wire_vb_len 9 ((lit.length : Nat) : Int)).2
    have hl1 : o1.length ≤ out.length + 10 := by rw [← ho1, List.length_append]; omega
    have hl2 : o2.length ≤ out.length + 20 + lit.length := by rw [← ho2, List.length_append, List.length_append]; omega
    have G1 : Hid (PLz.wire_Put.f out ((z : Nat) : Int) = some o1) := Lib.hid (by
      unfold PLz.wire_Put.f
      rw [if_pos ⟨by omega, by omega, by omega⟩, ho1])
    have G2 : Hid (wire_PutText.f o1 s = some o2) := Lib.hid (by
      have hnx := HNX.out
      unfold wire_PutText.f PDeltaDiffs.wire_Put.f
      rw [HSS.out, show IntKind.u64.wrap ((lit.length : Nat) : Int) = (lit.length : Nat) by rw [IntKind.wrap_u64]; omega, if_pos ⟨by omega, by omega, by omega⟩]
      rw [Option.bind_some, if_pos (by rw [List.length_append]; have := (PDeltaDiffs.wire_vb_len 9 ((lit.length : Nat) : Int)).2; omega), HSB.out, ← ho2]
      rw [dl_vb_eq])
    have HGO2 : Hid (∃ f', M.length < f' + dl_next M p ∧ dl_go M f' (dl_next M p) o2 = R) := Lib.hid (by
      have := HSTEP.out f out hf hgo
      rwa [ho1, ho2] at this)
    have HO2 : Hid (o2.length ≤ 10 + 30 * dl_next M p) := Lib.hid (by have := HNX.out; omega)
    have HI := Lib.hid hI
    have HBO := Lib.hid hbo
    have HCO := Lib.hid hcO
    have HCL := Lib.hid hCL
    clear hI hbo hcO hCL hgo ho1 ho2 hv1 hv2 hl1 hl2 hol hf
    refine wpIn_block ?_
    refine wp_round_inv (fun a0 w_0 b a' w' => ∃ x18 x19 x20 x21 x22 x23 x24 : Value, a' = (((((((a0.put (some 18) x18).put (some 19) x19).put (some 20) x20).put (some 21) x21).put (some 22) x22).put (some 23) x23).put (some 24) x24) ∧ (b 7 = false → Below Y.heap.size Y w') ∧ (b 3 = true → b 7 = false → ∃ A2 c2, x21 = .slice A2 o1.length c2 ∧ o1.length ≤ c2 ∧ Kd.C (Kd.int .u8) w' A2 o1.length o1) ∧ (b 6 = true → b 7 = false → ∃ A2 c2, x24 = .slice A2 o2.length c2 ∧ o2.length ≤ c2 ∧ Kd.C (Kd.int .u8) w' A2 o2.length o2) ∧ (b 7 = true → ∃ V A2 c2, Below Y.heap.size Y V ∧ o2.length ≤ c2 ∧ Kd.C (Kd.int .u8) V A2 o2.length o2 ∧ w' = V.setCell ⟨Bo, 0, none⟩ (.slice A2 o2.length c2)) ∧ (b 7 = true → ∀ j, j < 7 → b j = true) ∧ (b 0 = true → x18 = .slice Ao out.length co) ∧ (b 1 = true → x19 = .int .i64 (z : Nat)) ∧ (b 2 = true → x20 = .int .u64 (z : Nat)) ∧ (b 4 = true → x22 = .slice A1 lit.length c1) ∧ (b 5 = true → x23 = .string s)) (by kernel_rfl) (by kernel_rfl) (by kernel_rfl) ?start ⟨?op0, ?op1, ?op2, ?op3, ?op4, ?op5, ?op6, ?op7, trivial⟩ ?done
    case start => exact ⟨_, _, _, _, _, _, _, by simp only [Act.put, List.setIfInBounds_toArray, List.set_cons_zero, List.set_cons_succ]; rfl, fun _ => below_drew1 (Below.refl _ _), fun h => absurd h (by decide), fun h => absurd h (by decide), fun h => absurd h (by decide), fun h => absurd h (by decide), fun h => absurd h (by decide), fun h => absurd h (by decide), fun h => absurd h (by decide), fun h => absurd h (by decide), fun h => absurd h (by decide)⟩
    case op0 =>
      rintro bb _ w' ⟨x18, x19, x20, x21, x22, x23, x24, rfl, HB, R1, R2, ST, Q7, p18, p19, p20, p22, p23⟩ hb hd K hK
      simp only [Act.put, List.setIfInBounds_toArray, List.set_cons_zero, List.set_cons_succ]
      rw [if_pos (by rfl)]
      have h7 : bb 7 = false := by cases h : bb 7 with | false => rfl | true => exact absurd (Q7 h 0 (by decide)) (by rw [hb]; decide)
      have hc0 : w'.cell? ⟨Bo, 0, none⟩ = some (.slice Ao out.length co) := blk_cell (((HB h7).block _ (blk_lt HBO.out)).trans HBO.out) 0
      go_simp
      exact hK _ _ ⟨.slice Ao out.length co, x19, x20, x21, x22, x23, x24, by simp only [Act.put, List.setIfInBounds_toArray, List.set_cons_zero, List.set_cons_succ], fun h => HB (by simpa [upb] using h), fun h h2 => R1 (by simpa [upb] using h) (by simpa [upb] using h2), fun h h2 => R2 (by simpa [upb] using h) (by simpa [upb] using h2), fun h => ST (by simpa [upb] using h), fun h j hj => by (unfold upb; split <;> first | rfl | exact Q7 (by simpa [upb] using h) j hj), fun _ => rfl, fun h => p19 (by simpa [upb] using h), fun h => p20 (by simpa [upb] using h), fun h => p22 (by simpa [upb] using h), fun h => p23 (by simpa [upb] using h)⟩
    case op1 =>
      rintro bb _ w' ⟨x18, x19, x20, x21, x22, x23, x24, rfl, HB, R1, R2, ST, Q7, p18, p19, p20, p22, p23⟩ hb hd K hK
      simp only [Act.put, List.setIfInBounds_toArray, List.set_cons_zero, List.set_cons_succ]
      rw [if_pos (by rfl)]
      go_simp
      exact hK _ _ ⟨x18, .int .i64 (z : Nat), x20, x21, x22, x23, x24, by simp only [Act.put, List.setIfInBounds_toArray, List.set_cons_zero, List.set_cons_succ], fun h => HB (by simpa [upb] using h), fun h h2 => R1 (by simpa [upb] using h) (by simpa [upb] using h2), fun h h2 => R2 (by simpa [upb] using h) (by simpa [upb] using h2), fun h => ST (by simpa [upb] using h), fun h j hj => by (unfold upb; split <;> first | rfl | exact Q7 (by simpa [upb] using h) j hj), fun h => p18 (by simpa [upb] using h), fun _ => rfl, fun h => p20 (by simpa [upb] using h), fun h => p22 (by simpa [upb] using h), fun h => p23 (by simpa [upb] using h)⟩
    case op2 =>
      rintro bb _ w' ⟨x18, x19, x20, x21, x22, x23, x24, rfl, HB, R1, R2, ST, Q7, p18, p19, p20, p22, p23⟩ hb hd K hK
      simp only [Act.put, List.setIfInBounds_toArray, List.set_cons_zero, List.set_cons_succ]
      obtain rfl := (p19 (hd 1 (by decide))).symm
      rw [if_pos (by rfl)]
      have hw : IntKind.u64.wrap ((z : Nat) : Int) = (z : Nat) := by rw [IntKind.wrap_u64]; omega
      go_simp
      exact hK _ _ ⟨x18, .int .i64 (z : Nat), .int .u64 (z : Nat), x21, x22, x23, x24, by simp only [Act.put, List.setIfInBounds_toArray, List.set_cons_zero, List.set_cons_succ], fun h => HB (by simpa [upb] using h), fun h h2 => R1 (by simpa [upb] using h) (by simpa [upb] using h2), fun h h2 => R2 (by simpa [upb] using h) (by simpa [upb] using h2), fun h => ST (by simpa [upb] using h), fun h j hj => by (unfold upb; split <;> first | rfl | exact Q7 (by simpa [upb] using h) j hj), fun h => p18 (by simpa [upb] using h), fun _ => rfl, fun _ => rfl, fun h => p22 (by simpa [upb] using h), fun h => p23 (by simpa [upb] using h)⟩
    case op3 =>
      rintro bb _ w' ⟨x18, x19, x20, x21, x22, x23, x24, rfl, HB, R1, R2, ST, Q7, p18, p19, p20, p22, p23⟩ hb hd K hK
      simp only [Act.put, List.setIfInBounds_toArray, List.set_cons_zero, List.set_cons_succ]
      obtain rfl := (p18 (hd 0 (by decide))).symm
      obtain rfl := (p20 (hd 2 (by decide))).symm
      rw [if_pos (by rfl)]
      have h7 : bb 7 = false := by cases h : bb 7 with | false => rfl | true => exact absurd (Q7 h 3 (by decide)) (by rw [hb]; decide)
      have hc := PLz.wire_Put.calls Ao co out (z : Nat) o1 w' (Kd.C_below HCO.out (HB h7)) hco G1.out
      go_simp
      refine hc.mono ?_; rintro e w5 ⟨v5, rfl, R5, b5⟩
      obtain ⟨A5, c5, rfl, q5, C5⟩ := wire_form R5
      have HB2 := below_then (HB h7) (HB h7).size b5
      try dsimp only
      exact hK _ _ ⟨.slice Ao out.length co, x19, .int .u64 (z : Nat), .slice A5 o1.length c5, x22, x23, x24, by simp only [Act.put, List.setIfInBounds_toArray, List.set_cons_zero, List.set_cons_succ], fun _ => HB2, fun _ _ => ⟨_, _, rfl, q5, C5⟩, fun h h2 => by obtain ⟨A2, c2, e2, l2, C2⟩ := R2 (by simpa [upb] using h) (by simpa [upb] using h2); exact ⟨A2, c2, e2, l2, Kd.C_below C2 b5⟩, fun h => absurd h (by simp [upb, h7]), fun h j hj => by (unfold upb; split <;> first | rfl | exact Q7 (by simpa [upb] using h) j hj), fun _ => rfl, fun h => p19 (by simpa [upb] using h), fun _ => rfl, fun h => p22 (by simpa [upb] using h), fun h => p23 (by simpa [upb] using h)⟩
    case op4 =>
      rintro bb _ w' ⟨x18, x19, x20, x21, x22, x23, x24, rfl, HB, R1, R2, ST, Q7, p18, p19, p20, p22, p23⟩ hb hd K hK
      simp only [Act.put, List.setIfInBounds_toArray, List.set_cons_zero, List.set_cons_succ]
      rw [if_pos (by rfl)]
      go_simp
      exact hK _ _ ⟨x18, x19, x20, x21, .slice A1 lit.length c1, x23, x24, by simp only [Act.put, List.setIfInBounds_toArray, List.set_cons_zero, List.set_cons_succ], fun h => HB (by simpa [upb] using h), fun h h2 => R1 (by simpa [upb] using h) (by simpa [upb] using h2), fun h h2 => R2 (by simpa [upb] using h) (by simpa [upb] using h2), fun h => ST (by simpa [upb] using h), fun h j hj => by (unfold upb; split <;> first | rfl | exact Q7 (by simpa [upb] using h) j hj), fun h => p18 (by simpa [upb] using h), fun h => p19 (by simpa [upb] using h), fun h => p20 (by simpa [upb] using h), fun _ => rfl, fun h => p23 (by simpa [upb] using h)⟩
    case op5 =>
      rintro bb _ w' ⟨x18, x19, x20, x21, x22, x23, x24, rfl, HB, R1, R2, ST, Q7, p18, p19, p20, p22, p23⟩ hb hd K hK
      simp only [Act.put, List.setIfInBounds_toArray, List.set_cons_zero, List.set_cons_succ]
      obtain rfl := (p22 (hd 4 (by decide))).symm
      rw [if_pos (by rfl)]
      have h7 : bb 7 = false := by cases h : bb 7 with | false => rfl | true => exact absurd (Q7 h 5 (by decide)) (by rw [hb]; decide)
      have ks := Kd.C_string (P := Try.prog) (src := 22) (dst := 9) (c := c1) Try.underlying22 (by kernel_rfl) Try.underlying9 (Kd.C_below HCL.out (HB h7))
      rw [HS.out] at ks
      go_simp
      exact hK _ _ ⟨x18, x19, x20, x21, .slice A1 lit.length c1, .string s, x24, by simp only [Act.put, List.setIfInBounds_toArray, List.set_cons_zero, List.set_cons_succ], fun h => HB (by simpa [upb] using h), fun h h2 => R1 (by simpa [upb] using h) (by simpa [upb] using h2), fun h h2 => R2 (by simpa [upb] using h) (by simpa [upb] using h2), fun h => ST (by simpa [upb] using h), fun h j hj => by (unfold upb; split <;> first | rfl | exact Q7 (by simpa [upb] using h) j hj), fun h => p18 (by simpa [upb] using h), fun h => p19 (by simpa [upb] using h), fun h => p20 (by simpa [upb] using h), fun _ => rfl, fun _ => rfl⟩
    case op6 =>
      rintro bb _ w' ⟨x18, x19, x20, x21, x22, x23, x24, rfl, HB, R1, R2, ST, Q7, p18, p19, p20, p22, p23⟩ hb hd K hK
      simp only [Act.put, List.setIfInBounds_toArray, List.set_cons_zero, List.set_cons_succ]
      obtain rfl := (p23 (hd 5 (by decide))).symm
      rw [if_pos (by rfl)]
      have h7 : bb 7 = false := by cases h : bb 7 with | false => rfl | true => exact absurd (Q7 h 6 (by decide)) (by rw [hb]; decide)
      obtain ⟨A2, c2, e2, l2, C2⟩ := R1 (hd 3 (by decide)) h7
      subst e2
      have hc := wire_PutText.calls A2 c2 o1 s o2 w' C2 l2 G2.out
      go_simp
      refine hc.mono ?_; rintro e w5 ⟨v5, rfl, R5, b5⟩
      obtain ⟨A5, c5, rfl, q5, C5⟩ := wire_form R5
      have HB2 := below_then (HB h7) (HB h7).size b5
      try dsimp only
      exact hK _ _ ⟨x18, x19, x20, .slice A2 o1.length c2, x22, .string s, .slice A5 o2.length c5, by simp only [Act.put, List.setIfInBounds_toArray, List.set_cons_zero, List.set_cons_succ], fun _ => HB2, fun _ _ => ⟨A2, c2, rfl, l2, Kd.C_below C2 b5⟩, fun _ _ => ⟨_, _, rfl, q5, C5⟩, fun h => absurd h (by simp [upb, h7]), fun h j hj => by (unfold upb; split <;> first | rfl | exact Q7 (by simpa [upb] using h) j hj), fun h => p18 (by simpa [upb] using h), fun h => p19 (by simpa [upb] using h), fun h => p20 (by simpa [upb] using h), fun h => p22 (by simpa [upb] using h), fun _ => rfl⟩
    case op7 =>
      rintro bb _ w' ⟨x18, x19, x20, x21, x22, x23, x24, rfl, HB, R1, R2, ST, Q7, p18, p19, p20, p22, p23⟩ hb hd K hK
      simp only [Act.put, List.setIfInBounds_toArray, List.set_cons_zero, List.set_cons_succ]
      rw [if_pos (by rfl)]
      obtain ⟨A2, c2, e2, l2, C2⟩ := R2 (hd 6 (by decide)) hb
      subst e2
      have hc0 : w'.cell? ⟨Bo, 0, none⟩ = some (.slice Ao out.length co) := blk_cell (((HB hb).block _ (blk_lt HBO.out)).trans HBO.out) 0
      have hf0 : w'.frozen? ⟨Bo, 0, none⟩ = false := blk_frozen (((HB hb).block _ (blk_lt HBO.out)).trans HBO.out) 0
      go_simp
      exact hK _ _ ⟨x18, x19, x20, x21, x22, x23, .slice A2 o2.length c2, by simp only [Act.put, List.setIfInBounds_toArray, List.set_cons_zero, List.set_cons_succ], fun h => absurd h (by simp [upb]), fun _ h => absurd h (by simp [upb]), fun _ h => absurd h (by simp [upb]), fun _ => ⟨_, A2, c2, HB hb, l2, C2, rfl⟩, fun _ j hj => by rcases (by omega : j = 0 ∨ j = 1 ∨ j = 2 ∨ j = 3 ∨ j = 4 ∨ j = 5 ∨ j = 6) with rfl | rfl | rfl | rfl | rfl | rfl | rfl <;> (simp only [upb]; exact hd _ (by decide)), fun h => p18 (by simpa [upb] using h), fun h => p19 (by simpa [upb] using h), fun h => p20 (by simpa [upb] using h), fun h => p22 (by simpa [upb] using h), fun h => p23 (by simpa [upb] using h)⟩
    case done =>
      rintro bb _ w' hb ⟨x18, x19, x20, x21, x22, x23, x24, rfl, HB, R1, R2, ST, Q7, p18, p19, p20, p22, p23⟩
      obtain rfl := (p18 (hb 0 (by decide))).symm
      obtain rfl := (p19 (hb 1 (by decide))).symm
      obtain rfl := (p20 (hb 2 (by decide))).symm
      obtain rfl := (p22 (hb 4 (by decide))).symm
      obtain rfl := (p23 (hb 5 (by decide))).symm
      simp only [Act.put, List.setIfInBounds_toArray, List.set_cons_zero, List.set_cons_succ]
      obtain ⟨V, A2, c2, hv, l2, C2, rfl⟩ := ST (hb 7 (by decide))
      clear hb p18 p19 p20 p22 p23
      refine ⟨rfl, HI.out.seto hv hBo (by omega) C2 l2 HO2.out HGO2.out, ?_, fun k o hk ho hoc => ?_⟩
      · exact (Below.heap_setCell V ⟨Bo, 0, none⟩ _ _ (by show Bx ≠ Bo; omega)).trans (hv.block _ (by obtain ⟨_, _, _, h⟩ := HI.out.xb; exact blk_lt h))
      · exact (Below.heap_setCell V ⟨Bo, 0, none⟩ _ _ (by show k ≠ Bo; omega)).trans ((hv.block _ (blk_lt ho)).trans ho)
  case fin =>
    intro p X hp hz hI hK
    obtain ⟨Ao2, co2, out, hbo, hcO, hco2, hol, f, hf, hgo⟩ := hI.box
    obtain rfl := dl_go_end hp hz hf hgo
    have hc0 : X.cell? ⟨Bo, 0, none⟩ = some (.slice Ao2 out.length co2) := blk_cell hbo 0
    have HI := Lib.hid hI
    have HK := Lib.hid hK
    have HCO2 := Lib.hid hcO
    clear hI hK hcO hbo hgo
    gi_wp2_with fail
    refine ⟨by simp, .inl ⟨_, _, rfl, run_takeDeferred HK.out, ?_⟩⟩
    refine ⟨_, results_tmp rfl _ _ _, ?_⟩
    refine ⟨Ao2, co2, rfl, hco2, C_calm HCO2.out (calm_put HK.out rfl), (HI.out.put (by omega) HK.out rfl).hb⟩
end Go.Proofs.Ytocadookdkmahaa.PDl
