import Derived.Test.YtigcgdhihaibbaaDoorZ8
import Derived.StillTailTactics
namespace Go.Proofs.YtigcgdhihaibbaaDoor.PLz
open Go.RowKit Go.Proofs.YtigcgdhihaibbaaDoorW.PrintWords Go.Proofs.YtigcgdhihaibbaaDoorW.PrintLast Go.Proofs.YtigcgdhihaibbaaDoorW.PrintMore
attribute [local go_sem] max2_int min2_int max_two min_two max_three min_three max_four min_four   -- for this text's walks alone
set_option linter.unusedVariables false
set_option maxRecDepth 20000
set_option linter.unusedSimpArgs false
theorem lz_still_tail {P : Program} {id : Nat} {Q : Exit → Act → World → Prop} {a : Act} {w : World} {l : List Oper} (n : Nat) (hm : P.follows .mixedOrders = true) (hB : Region.lexTailB .any l.toArray n = true)
    (h : wpStill P l.toArray w.drew (fun a' => wpList P l.toArray Q (l.drop n) a' w.drew) (l.take n) a) : (Code.region id l.toArray true).wp P Q a w := wp_region_still_tail n hm hB h
theorem lz_cut_len (b : List Int) (i j : Nat) (hj : j ≤ b.length) : (lz_cut b i j).length = j - i := by unfold lz_cut; rw [List.length_take, List.length_drop]; omega
theorem lz_piece {w : World} {A : Option Addr} {b : List Int} {i j : Nat} (h : Kd.C (Kd.int .u8) w A b.length b) (hij : i < j) (hj : j ≤ b.length) : ∃ ad, A = some ad ∧ Kd.C (Kd.int .u8) w (some (ad.add i)) (lz_cut b i j).length (lz_cut b i j) := by
  obtain ⟨ad, rfl, _⟩ := lz_get_cell h i (by omega)
  have h1 := Kd.C_drop (m := i) (c := b.length) h (by omega) (Nat.le_refl _)
  rw [if_neg (by omega), show i * (Kd.int .u8).sz = i by show i * 1 = i; omega] at h1
  exact ⟨ad, rfl, Kd.C_take (m := j - i) h1 (by rw [List.length_drop]; omega)⟩
theorem lz_run_more : ∀ (n f f' : Nat) (l : List Int), l.length ≤ n → n ≤ f → n ≤ f' → lz_run f l = lz_run f' l := by
  intro n
  induction n using Nat.strongRecOn with
  | _ n ih =>
    intro f f' l hl hf hf'
    by_cases h0 : l = []
    · subst h0
      cases f <;> cases f' <;> simp [lz_run]
    · have hp : 0 < l.length := by cases l with | nil => exact absurd rfl h0 | cons _ _ => simp
      obtain ⟨g, rfl⟩ : ∃ g, f = g + 1 := ⟨f - 1, by omega⟩
      obtain ⟨g', rfl⟩ : ∃ g', f' = g' + 1 := ⟨f' - 1, by omega⟩
      unfold lz_run
      by_cases h64 : 64 < l.length
      · rw [if_pos h64, if_pos h64, ih (n - 1) (by omega) g g' (l.drop 64) (by rw [List.length_drop]; omega) (by omega) (by omega)]
      · rw [if_neg h64, if_neg h64]
theorem lz_run_big {f : Nat} {b : List Int} {p at_ : Nat} (hat : at_ ≤ b.length) (h : p + 64 < at_) (hf : b.length ≤ f) : lz_run f (lz_cut b p at_) = 126 :: lz_cut b p (p + 64) ++ lz_run f (lz_cut b (p + 64) at_) := by
  have hl := lz_cut_len b p at_ hat
  obtain ⟨g, rfl⟩ : ∃ g, f = g + 1 := ⟨f - 1, by omega⟩
  have e1 : (lz_cut b p at_).take 64 = lz_cut b p (p + 64) := by
    unfold lz_cut; rw [List.take_take]; congr 1; omega
  have e2 : (lz_cut b p at_).drop 64 = lz_cut b (p + 64) at_ := by
    unfold lz_cut; rw [List.drop_take, List.drop_drop]; (try congr 1); (try omega)
  have hl2 := lz_cut_len b (p + 64) at_ hat
  rw [lz_run_more (at_ - (p + 64)) (g + 1) g (lz_cut b (p + 64) at_) (by omega) (by omega) (by omega)]
  conv => lhs; unfold lz_run
  rw [if_pos (by omega), e1, e2]
theorem lz_run_last {f : Nat} {b : List Int} {p at_ : Nat} (hat : at_ ≤ b.length) (h0 : p < at_) (h : at_ ≤ p + 64) (hf : b.length ≤ f) : lz_run f (lz_cut b p at_) = (2 * (((lz_cut b p at_).length : Int) - 1)) :: lz_cut b p at_ := by
  have hl := lz_cut_len b p at_ hat
  obtain ⟨g, rfl⟩ : ∃ g, f = g + 1 := ⟨f - 1, by omega⟩
  unfold lz_run
  rw [if_neg (by omega), if_neg (fun e => by rw [e] at hl; simp at hl; omega)]
theorem lz_run_none {f : Nat} {b : List Int} {p : Nat} : lz_run f (lz_cut b p p) = [] := by
  have : lz_cut b p p = [] := by unfold lz_cut; simp
  rw [this]
  cases f <;> simp [lz_run]
def lz_lits (w0 W : World) (g gm pb : Nat) (A : Option Addr) (c : Nat) (b : List Int) (at_ : Nat) (L : List ((Int × Int × Int) × Value)) (R : List Int) : Prop :=
  ∃ P vo out, P ≤ at_ ∧ lz_St w0 W g gm A c b at_ P vo out L ∧ W.heap[pb]? = some (.cells #[.pointer (some ⟨g, 0, none⟩)] 66 (0, 0)) ∧ out.length ≤ 4 * P ∧ out ++ lz_run b.length (lz_cut b P at_) = R
def lz_plainOf (W : World) (g : Nat) : Nat := match W.cell? ⟨g, 4, none⟩ with | some (.int _ p) => p.toNat | _ => 0
theorem lz_plain_at {W : World} {g gm m c at_ plain : Nat} {A : Option Addr} {vo : Value} (h : lz_Blk W g A m c at_ gm vo plain) : lz_plainOf W g = plain := by
  have : W.cell? ⟨g, 4, none⟩ = some (.int .i64 plain) := blk_cell h 4
  unfold lz_plainOf
  rw [this]
  simp
/-- where the literals begin is set -/
theorem lz_St.plainTo {w0 W : World} {g gm : Nat} {A : Option Addr} {c : Nat} {b : List Int} {at_ plain : Nat} {vo : Value} {out : List Int} {L : List ((Int × Int × Int) × Value)} (p2 : Nat) (h : lz_St w0 W g gm A c b at_ plain vo out L) : lz_St w0 (W.setCell ⟨g, 4, none⟩ (.int .i64 p2)) g gm A c b at_ p2 vo out L := by
  refine ⟨by unfold lz_Blk; simpa using blk_set h.blk 4 (.int .i64 p2), h.hb.setCell h.gb _, ⟨lz_Map_next h.seen.map (Below.heap_setCell _ _ _ _ (fun e => lz_g_gm h.blk h.seen.map e.symm)), fun k => ?_, h.seen.apart⟩, ?_, h.gb, h.gmb⟩
  · exact Kd.R_mono (Kd.R_set (h.seen.row k) h.blk (by simp [Kd.E, Kd.int, Kd.scalar]) 4 _) (fun _ _ => trivial)
  · exact Kd.R_mono (Kd.R_set h.out h.blk (by simp [Kd.E, Kd.int, Kd.scalar]) 4 _) (fun _ _ => trivial)
theorem lz_lits_next {w0 w3 : World} {g gm pb : Nat} {A : Option Addr} {c : Nat} {b : List Int} {at_ P : Nat} {L : List ((Int × Int × Int) × Value)} {R out v3 : _} (hl : b.length ≤ 1000000) (hat : at_ ≤ b.length) (h64 : P + 64 < at_)
    (hS : lz_St w0 w3 g gm A c b at_ P v3 (lz_tok out (lz_cut b P (P + 64))) L) (hpb : w3.heap[pb]? = some (.cells #[.pointer (some ⟨g, 0, none⟩)] 66 (0, 0))) (ho : out.length ≤ 4 * P) (hR : out ++ lz_run b.length (lz_cut b P at_) = R) :
    Hid (lz_lits w0 (w3.setCell ⟨g, 4, none⟩ (.int .i64 ((P : Int) + 64))) g gm pb A c b at_ L R) ∧ at_ - lz_plainOf (w3.setCell ⟨g, 4, none⟩ (.int .i64 ((P : Int) + 64))) g < at_ - P := by
  have e : ((P + 64 : Nat) : Int) = (P : Int) + 64 := by omega
  have h2 := hS.plainTo (P + 64)
  rw [e] at h2
  have hcl := lz_cut_len b P (P + 64) (by omega)
  refine ⟨Lib.hid ⟨P + 64, v3, _, by omega, h2, ?_, ?_, ?_⟩, ?_⟩
  · exact blk_far hpb (p := ⟨g, 4, none⟩) (blk_ne hpb hS.blk (by decide)) _
  · unfold lz_tok; simp only [List.length_append, List.length_singleton]; omega
  · rw [← hR, lz_run_big hat h64 (Nat.le_refl _)]
    unfold lz_tok
    rw [show 2 * (((lz_cut b P (P + 64)).length : Int) - 1) = 126 by omega]
    simp
  · rw [lz_plain_at h2.blk]; omega
def lz_LitsPost (w0 w' : World) (g gm : Nat) (A : Option Addr) (c : Nat) (b : List Int) (at_ : Nat) (L : List ((Int × Int × Int) × Value)) (R : List Int) : Prop := ∃ P vo, lz_St w0 w' g gm A c b at_ P vo R L ∧ R.length ≤ 4 * at_
set_option maxHeartbeats 4000000 in
theorem lz_literals_calls (w0 W : World) (g gm : Nat) (A : Option Addr) (c : Nat) (b_ : List Int) (at_ plain : Nat) (vo : Value) (out R : List Int) (L : List ((Int × Int × Int) × Value)) (hC : Kd.C (Kd.int .u8) w0 A b_.length b_) (hc : b_.length ≤ c) (hl : b_.length ≤ 1000000) (hat : at_ ≤ b_.length) (hpl : plain ≤ at_) (ho : out.length ≤ 4 * plain)
    (hS : lz_St w0 W g gm A c b_ at_ plain vo out L) (hR : out ++ lz_run b_.length (lz_cut b_ plain at_) = R) :
    Calls Tryd.prog 30 #[.pointer (some ⟨g, 0, none⟩)] W fun e w' => e = .returned (.tuple #[]) ∧ lz_LitsPost w0 w' g gm A c b_ at_ L R := by
  have hpb : (W.alloc (.cells #[.pointer (some ⟨g, 0, none⟩)] 66)).heap[W.heap.size]? = some (.cells #[.pointer (some ⟨g, 0, none⟩)] 66 (0, 0)) := heap_alloc_new _ _
  have HI : Hid (lz_lits w0 (W.alloc (.cells #[.pointer (some ⟨g, 0, none⟩)] 66)) g gm W.heap.size A c b_ at_ L R) := Lib.hid ⟨plain, vo, out, hpl, hS.next (below_alloc (Below.refl _ _) _), hpb, ho, hR⟩
  have HC := Lib.hid hC
  clear hS hR hC hpb
  go_enter Tryd.func30, Tryd.ntmps30
  go_wp2_with fail
  obtain ⟨pb, hpb⟩ : ∃ pb, W.heap.size = pb := ⟨_, rfl⟩
  rw [hpb] at HI ⊢
  clear hpb
  go_loopw [4] (fun v wr => Hid (lz_lits w0 wr g gm pb A c b_ at_ L R)) (fun _ wr => at_ - lz_plainOf wr g)
  case atStart => exact HI
  case round =>
    have HP := hrel
    obtain ⟨P, vo', out', hP, hS, hpb, ho', hR⟩ := HP.out
    have k0 : wr.cell? ⟨g, 0, none⟩ = some (.slice A b_.length c) := blk_cell hS.blk 0
    have k1 : wr.cell? ⟨g, 1, none⟩ = some (.int .i64 at_) := blk_cell hS.blk 1
    have k4 : wr.cell? ⟨g, 4, none⟩ = some (.int .i64 P) := blk_cell hS.blk 4
    have kp : wr.cell? ⟨pb, 0, none⟩ = some (.pointer (some ⟨g, 0, none⟩)) := blk_cell hpb 0
    have HM : Hid (lz_plainOf wr g = P) := Lib.hid (lz_plain_at hS.blk)
    by_cases h64 : P + 64 < at_
    · have d1 : decide ((64 : Int) < (at_ : Int) - P) = true := by simp; omega
      obtain ⟨ad, rfl, hC2⟩ := lz_piece (i := P) (j := P + 64) HC.out (by omega) (by omega)
      have hcl := lz_cut_len b_ P (P + 64) (by omega)
      have hT := fun nq => lz_tell_calls w0 (wr.drewN nq) g gm pb (some ad) c b_ at_ P vo' out' (lz_cut b_ P (P + 64)) L (ad.add P) (c - P) hC2 (by omega) (by omega) (by omega) (by omega) (hS.next (pw_below_drewN (Below.refl _ _) _)) hpb
      rw [show (lz_cut b_ P (P + 64)).length = 64 by omega] at hT
      have HT := Lib.hid hT
      have HR := Lib.hid hR
      clear hS hC2 hpb hR hcl hT
      have hcap : ¬ c = P := by omega
      have hhi : (P : Int) + 64 ≤ c := by omega
      have hP0 : (P : Int) ≤ P + 64 := by omega
      go_wp2
      go_quiet (fail)
      go_wp2
      have hw : IntKind.i64.wrap ((P : Int) + 64) = (P : Int) + 64 := IntWalk.i64_in _ (by omega)
      have hw2 : ((P : Int) + 64).toNat = P + 64 := by omega
      refine lz_still_tail 15 (by kernel_rfl) (by kernel_rfl) ?_
      simp only [List.take_succ_cons, List.take_zero, List.drop_succ_cons, List.drop_zero]
      repeat still_step
      refine wpStill_nil ?_
      go_wp2_with fail
      refine (HT.out (nq + 1)).mono ?_; rintro e w3 ⟨rfl, htold⟩
      obtain ⟨v3, hS3, hpb3⟩ := htold
      have k4 : w3.cell? ⟨g, 4, none⟩ = some (.int .i64 P) := blk_cell hS3.blk 4
      have kf : w3.frozen? ⟨g, 4, none⟩ = false := blk_frozen hS3.blk 4
      have kp : w3.cell? ⟨pb, 0, none⟩ = some (.pointer (some ⟨g, 0, none⟩)) := blk_cell hpb3 0
      have HN := Lib.hid (lz_lits_next hl hat h64 hS3 hpb3 ho' HR.out)
      clear hS3 hpb3
      go_wp2
      exact ⟨HN.out.1, by rw [HM.out]; exact HN.out.2⟩
    · have d1 : decide ((64 : Int) < (at_ : Int) - P) = false := by simp; omega
      by_cases h0 : P < at_
      · have d2 : decide ((P : Int) < at_) = true := by simp; omega
        obtain ⟨ad, rfl, hC2⟩ := lz_piece (i := P) (j := at_) HC.out (by omega) (by omega)
        have hcl := lz_cut_len b_ P at_ (by omega)
        have hT := fun nq => lz_tell_calls w0 (wr.drewN nq) g gm pb (some ad) c b_ at_ P vo' out' (lz_cut b_ P at_) L (ad.add P) (c - P) hC2 (by omega) (by omega) (by omega) (by omega) (hS.next (pw_below_drewN (Below.refl _ _) _)) hpb
        rw [show (lz_cut b_ P at_).length = at_ - P by omega] at hT
        have HT := Lib.hid hT
        have HR := Lib.hid hR
        clear hS hC2 hpb hR hcl hT
        have hcap : ¬ c = P := by omega
        have hhi : (at_ : Int) ≤ c := by omega
        have hP0 : (P : Int) ≤ at_ := by omega
        go_wp2
        go_quiet (fail)
        go_wp2
        go_quiet (fail)
        go_wp2
        refine lz_still_tail 14 (by kernel_rfl) (by kernel_rfl) ?_
        simp only [List.take_succ_cons, List.take_zero, List.drop_succ_cons, List.drop_zero]
        repeat still_step
        refine wpStill_nil ?_
        go_wp2_with fail
        refine (HT.out _).mono ?_; rintro e w3 ⟨rfl, htold⟩
        have HTO := Lib.hid htold
        clear htold
        go_wp2_with fail
        go_end0
        obtain ⟨v3, hS3, hpb3⟩ := HTO.out
        refine ⟨rfl, P, v3, ?_, ?_⟩
        · rw [← HR.out, lz_run_last hat h0 (by omega) (Nat.le_refl _)]
          unfold lz_tok at hS3
          simpa using hS3
        · rw [← HR.out, lz_run_last hat h0 (by omega) (Nat.le_refl _)]
          have := lz_cut_len b_ P at_ hat
          simp only [List.length_append, List.length_cons]; omega
      · have d2 : decide ((P : Int) < at_) = false := by simp; omega
        obtain rfl : P = at_ := by omega
        go_wp2
        go_quiet (fail)
        go_wp2
        go_quiet (fail)
        go_wp2
        go_end0
        refine ⟨rfl, P, vo', ?_, ?_⟩
        · rw [← hR, lz_run_none, List.append_nil]
          exact hS.next (pw_below_drewN (pw_below_drewN (Below.refl _ _) _) _)
        · rw [← hR, lz_run_none, List.append_nil]; exact ho'
end Go.Proofs.YtigcgdhihaibbaaDoor.PLz
