/- Chunk: a chunk is read at a place: the walk. No condition. -/
import Derived.Test.YtigcgdhihaibbaaDoorK3
import Derived.Test.YtigcgdhihaibbaaDoorZU
namespace Go.Proofs.YtigcgdhihaibbaaDoor.PLz
open Go.RowKit Go.Proofs.YtigcgdhihaibbaaDoorW.PrintWords Go.Proofs.YtigcgdhihaibbaaDoorW.PrintLast Go.Proofs.YtigcgdhihaibbaaDoorW.PrintMore
attribute [local go_sem] max2_int min2_int max_two min_two max_three min_three max_four min_four   -- for this text's walks alone
set_option linter.unusedVariables false
set_option linter.unusedSimpArgs false
set_option maxHeartbeats 4000000
set_option maxRecDepth 20000

/-- a chunk at a place: its kind, whether it is packed, how many data it has, what stands there, where it ends; why there is none -/
def ck_read (b : List Int) (at_ : Int) : Option (Int × Int × Int × List Int × Int × Int) :=
  if at_ < 0 ∨ (b.length : Int) < at_ then some (0, 0, 0, [], 0, 2) else
    (ck_byte (b.drop at_.toNat) 0 0).bind fun v1 => (ck_byte (b.drop at_.toNat) v1.2.1 v1.2.2).bind fun v2 =>
      if 1 < v2.1 then some (0, 0, 0, [], 0, 4) else
        (wire_Reader_Int.f (b.drop at_.toNat) v2.2.1 v2.2.2).bind fun v3 => (wire_Reader_Int.f (b.drop at_.toNat) v3.2.1 v3.2.2).bind fun v4 =>
          if v4.2.2 = 0 ∧ ((v2.1 = 0 ∧ v4.1 ≠ v3.1) ∨ (v2.1 = 1 ∧ v3.1 ≤ v4.1)) then some (0, 0, 0, [], 0, 4) else
            (wire_Reader_Bytes.f (b.drop at_.toNat) v4.2.1 v4.2.2 v4.1).bind fun v5 => (wire_Reader_Fixed.f (b.drop at_.toNat) v5.2.1 v5.2.2).bind fun v6 =>
              if v6.2.2 ≠ 0 then some (0, 0, 0, [], 0, v6.2.2) else if ¬ (0 ≤ v5.2.1 ∧ v5.2.1 ≤ (b.drop at_.toNat).length ∧ 0 ≤ v6.2.1 ∧ v6.2.1 ≤ (b.drop at_.toNat).length ∧ 0 ≤ v2.1) then none else
                if ck_crc ((b.drop at_.toNat).take v5.2.1.toNat) ≠ v6.1 then some (0, 0, 0, [], 0, 5) else some (v1.1, v2.1, v3.1, v5.1, at_ + v6.2.1, 0)
structure ck_Pt (w W : World) (b4 pp g : Nat) (l : List Int) (p e : Int) (kind how size : Int) (bv : Value) (next : Int) : Prop where
  r : IsS72 w W g l p e
  hb : Below w.heap.size w W
  res : W.heap[b4]? = some (.cells #[.pointer none, .int .u8 0, .int .u8 0, .int .i64 0, .slice none 0 0, .int .i64 0] 53 (0, 0))
  part : W.heap[pp]? = some (.cells #[.pointer (some ⟨g, 0, none⟩), .int .u8 kind, .int .u8 how, .int .i64 size, bv, .int .i64 next] 53 (0, 0))
  gb : w.heap.size ≤ b4
  pb : w.heap.size ≤ pp
  ne : b4 ≠ pp
theorem ck_Pt.call {w W W' : World} {b4 pp g : Nat} {l : List Int} {p e p2 e2 kind how size next : Int} {bv : Value} (h : ck_Pt w W b4 pp g l p e kind how size bv next) (hI : IsS72 w W' g l p2 e2) (hb : Below w.heap.size w W') (hk : KeepBut W W' g none) :
    ck_Pt w W' b4 pp g l p2 e2 kind how size bv next := by
  obtain ⟨cs, hg⟩ := h.r.blk
  exact ⟨hI, hb, hk.blk h.res (blk_ne h.res hg (by decide)) (by simp), hk.blk h.part (blk_ne h.part hg (by decide)) (by simp), h.gb, h.pb, h.ne⟩
theorem ck_Pt.far {w W : World} {b4 pp g : Nat} {l : List Int} {p e kind how size next : Int} {bv : Value} (h : ck_Pt w W b4 pp g l p e kind how size bv next) (i : Nat) (u : Value) :
    IsS72 w (W.setCell ⟨pp, i, none⟩ u) g l p e ∧ Below w.heap.size w (W.setCell ⟨pp, i, none⟩ u) ∧ (W.setCell ⟨pp, i, none⟩ u).heap[b4]? = some (.cells #[.pointer none, .int .u8 0, .int .u8 0, .int .i64 0, .slice none 0 0, .int .i64 0] 53 (0, 0)) := by
  obtain ⟨cs, hg⟩ := h.r.blk
  exact ⟨h.r.far (blk_ne hg h.part (by decide)) u, h.hb.setCell h.pb _, blk_far h.res (p := ⟨pp, i, none⟩) h.ne u⟩
theorem ck_Pt.set1 {w W : World} {b4 pp g : Nat} {l : List Int} {p e kind how size next : Int} {bv : Value} (h : ck_Pt w W b4 pp g l p e kind how size bv next) (x : Int) : ck_Pt w (W.setCell ⟨pp, 1, none⟩ (.int .u8 x)) b4 pp g l p e x how size bv next :=
  ⟨(h.far 1 _).1, (h.far 1 _).2.1, (h.far 1 _).2.2, by simpa using blk_set h.part 1 (.int .u8 x), h.gb, h.pb, h.ne⟩
theorem ck_Pt.set2 {w W : World} {b4 pp g : Nat} {l : List Int} {p e kind how size next : Int} {bv : Value} (h : ck_Pt w W b4 pp g l p e kind how size bv next) (x : Int) : ck_Pt w (W.setCell ⟨pp, 2, none⟩ (.int .u8 x)) b4 pp g l p e kind x size bv next :=
  ⟨(h.far 2 _).1, (h.far 2 _).2.1, (h.far 2 _).2.2, by simpa using blk_set h.part 2 (.int .u8 x), h.gb, h.pb, h.ne⟩
theorem ck_Pt.set3 {w W : World} {b4 pp g : Nat} {l : List Int} {p e kind how size next : Int} {bv : Value} (h : ck_Pt w W b4 pp g l p e kind how size bv next) (x : Int) : ck_Pt w (W.setCell ⟨pp, 3, none⟩ (.int .i64 x)) b4 pp g l p e kind how x bv next :=
  ⟨(h.far 3 _).1, (h.far 3 _).2.1, (h.far 3 _).2.2, by simpa using blk_set h.part 3 (.int .i64 x), h.gb, h.pb, h.ne⟩
theorem ck_Pt.set4 {w W : World} {b4 pp g : Nat} {l : List Int} {p e kind how size next : Int} {bv : Value} (h : ck_Pt w W b4 pp g l p e kind how size bv next) (x : Value) : ck_Pt w (W.setCell ⟨pp, 4, none⟩ x) b4 pp g l p e kind how size x next :=
  ⟨(h.far 4 _).1, (h.far 4 _).2.1, (h.far 4 _).2.2, by simpa using blk_set h.part 4 x, h.gb, h.pb, h.ne⟩
theorem ck_Pt.set5 {w W : World} {b4 pp g : Nat} {l : List Int} {p e kind how size next : Int} {bv : Value} (h : ck_Pt w W b4 pp g l p e kind how size bv next) (x : Int) : ck_Pt w (W.setCell ⟨pp, 5, none⟩ (.int .i64 x)) b4 pp g l p e kind how size bv x :=
  ⟨(h.far 5 _).1, (h.far 5 _).2.1, (h.far 5 _).2.2, by simpa using blk_set h.part 5 (.int .i64 x), h.gb, h.pb, h.ne⟩
theorem ck_R_call {w W W' : World} {b4 pp g B : Nat} {l xs : List Int} {p e kind how size next : Int} {bv v : Value} (h : ck_Pt w W b4 pp g l p e kind how size bv next) (hk : KeepBut W W' g none) (hR : Kd.R (Kd.int .u8) 5 W B (fun _ => True) v xs) : Kd.R (Kd.int .u8) 5 W' B (fun _ => True) v xs := by
  obtain ⟨cs, hg⟩ := h.r.blk
  exact Kd.R_mono (Kd.R_keep (Kd.R_types hR hg (by simp [Kd.E, Kd.int, Kd.scalar])) hk (fun _ hk => hk.2)) (fun _ _ => trivial)
theorem ck_R_set {w W : World} {b4 pp g B : Nat} {l xs : List Int} {p e kind how size next : Int} {bv v : Value} (h : ck_Pt w W b4 pp g l p e kind how size bv next) (i : Nat) (u : Value) (hR : Kd.R (Kd.int .u8) 5 W B (fun _ => True) v xs) : Kd.R (Kd.int .u8) 5 (W.setCell ⟨pp, i, none⟩ u) B (fun _ => True) v xs :=
  Kd.R_mono (Kd.R_set hR h.part (by simp [Kd.E, Kd.int, Kd.scalar]) i _) (fun _ _ => trivial)
/-- how read ends -/
def ck_readPost (w : World) (kind how size : Int) (body : List Int) (next e : Int) (en : Ending) (w' : World) : Prop :=
  ∃ (rv : Option Addr) (A : Option Addr) (c : Nat), en = .returned (.tuple #[.agg #[.pointer rv, .int .u8 kind, .int .u8 how, .int .i64 size, .slice A body.length c, .int .i64 next], .int .i64 e]) ∧ body.length ≤ c ∧ Kd.R (Kd.int .u8) 5 w' w.heap.size (fun _ => True) (.slice A body.length c) body ∧ Below w.heap.size w w'
theorem ck_setRow_keep (W : World) (g : Nat) (cs : Array Value) : KeepBut W (W.setRow g cs) g none := by
  refine ⟨by simp, fun i _ hne _ => ?_⟩
  simp only [World.setRow, Array.getElem?_modify]
  rw [if_neg (fun e => hne e.symm)]
theorem ck_setRow_below {w W : World} (h : Below w.heap.size w W) (g : Nat) (cs : Array Value) (hg : w.heap.size ≤ g) : Below w.heap.size w (W.setRow g cs) :=
  h.trans ⟨rfl, rfl, rfl, by simp, fun k hk => by
    simp only [World.setRow, Array.getElem?_modify]
    rw [if_neg (fun e => by omega)]⟩
theorem ck_byte_range {l : List Int} {p e k p2 e2 : Int} (hB : IsB l) (h : ck_byte l p e = some (k, p2, e2)) : 0 ≤ k ∧ k < 256 := by
  unfold ck_byte at h
  obtain ⟨⟨bs, p3, e3⟩, hb, h⟩ := Option.bind_eq_some_iff.1 h
  injection h with h
  injection h with h1 h2
  subst h1
  exact isB_get (ck_Bytes_of hB hb).1 0
theorem ck_read_out (A0 : Option Addr) (c0 : Nat) (b : List Int) (at_ : Int) (w : World) (hout : at_ < 0 ∨ (b.length : Int) < at_) :
    Calls Tryd.prog 23 #[.slice A0 b.length c0, .int .i64 at_] w (ck_readPost w 0 0 0 [] 0 2) := by
  have hb1 : Below w.heap.size w (w.alloc (.cells #[.pointer none, .int .u8 0, .int .u8 0, .int .i64 0, .slice none 0 0, .int .i64 0] 53)) := below_alloc (Below.refl _ _) _
  have hn := blk_new w (.cells #[.pointer none, .int .u8 0, .int .u8 0, .int .i64 0, .slice none 0 0, .int .i64 0] 53)
  by_cases h1 : at_ < 0
  · have HN := Lib.hid hn
    clear hn
    go_enter Tryd.func23, Tryd.ntmps23
    go_wp2_with fail
    refine bodyPost_ret (results_ct rfl _ _ w.heap.size _ _ _ _ rfl HN.out Tryd.underlying53 rfl (by kernel_rfl)) rfl ?_
    exact ⟨_, none, 0, rfl, Nat.le_refl _, Kd.R_nil _ _ _ _ _, hb1⟩
  · have h2 : (b.length : Int) < at_ := hout.resolve_left h1
    have HN := Lib.hid hn
    clear hn
    go_enter Tryd.func23, Tryd.ntmps23
    go_wp2_with fail
    refine bodyPost_ret (results_ct rfl _ _ w.heap.size _ _ _ _ rfl HN.out Tryd.underlying53 rfl (by kernel_rfl)) rfl ?_
    exact ⟨_, none, 0, rfl, Nat.le_refl _, Kd.R_nil _ _ _ _ _, hb1⟩
theorem wire_R_C' {W : World} {b e : Nat} {ok : Nat → Prop} {A : Option Addr} {c : Nat} {xs : List Int} (h : Kd.R (Kd.int .u8) e W b ok (.slice A xs.length c) xs) : Kd.C (Kd.int .u8) W A xs.length xs := by
  obtain ⟨A', c', e1, q, C⟩ := wire_form h
  injection e1 with e2 e3 e4
  subst e2
  exact C
theorem ck_read_calls (A0 : Option Addr) (c0 : Nat) (b : List Int) (at_ : Int) (kind how size : Int) (body : List Int) (next e : Int) (w : World) (hr0 : Kd.C (Kd.int .u8) w A0 b.length b) (hc0 : b.length ≤ c0) (hb : IsB b) (hbl : b.length ≤ 1000000) (hT : Tab w)
    (h : ck_read b at_ = some (kind, how, size, body, next, e)) :
    Calls Tryd.prog 23 #[.slice A0 b.length c0, .int .i64 at_] w (ck_readPost w kind how size body next e) := by
  unfold ck_read at h
  by_cases hout : at_ < 0 ∨ (b.length : Int) < at_
  · rw [if_pos hout] at h
    injection h with h
    simp only [Prod.mk.injEq] at h
    obtain ⟨rfl, rfl, rfl, rfl, rfl, rfl⟩ := h
    exact ck_read_out A0 c0 b at_ w hout
  · rw [if_neg hout] at h
    obtain ⟨m, rfl⟩ : ∃ m : Nat, at_ = m := ⟨at_.toNat, by omega⟩
    rw [Int.toNat_natCast] at h
    have hm : m ≤ b.length := by omega
    have hm1 : ¬ (m : Int) < 0 := by omega
    have hm2 : ¬ (b.length : Int) < m := by omega
    obtain ⟨A1, hcut, hC1, hc1⟩ := ck_cut A0 c0 b m hm hc0
    have hlB := isB_drop hb m
    have hlL : (b.drop m).length = b.length - m := List.length_drop
    obtain ⟨l, hl⟩ : ∃ l, b.drop m = l := ⟨_, rfl⟩
    rw [hl] at h hcut hC1 hc1 hlB hlL
    obtain ⟨⟨k1, p1, e1⟩, hv1, hX⟩ := Option.bind_eq_some_iff.1 h
    clear h
    have h := hX
    clear hX
    obtain ⟨⟨h2, p2, e2⟩, hv2, hX⟩ := Option.bind_eq_some_iff.1 h
    clear h
    have h := hX
    clear hX
    simp only at h hv2
    have hh2 := ck_byte_range hlB hv2
    have HLB := Lib.hid hlB
    have HLL := Lib.hid hlL
    have HL := Lib.hid hl
    have HR0 := Lib.hid hr0
    have HR1 := Lib.hid (hC1 w hr0)
    have HT := Lib.hid hT
    have HV1 := Lib.hid hv1
    have HV2 := Lib.hid hv2
    clear hr0 hC1 hT hv1 hv2 hlB hlL hl hout hb
    have hb1 : Below w.heap.size w (w.alloc (.cells #[.pointer none, .int .u8 0, .int .u8 0, .int .i64 0, .slice none 0 0, .int .i64 0] 53)) := below_alloc (Below.refl _ _) _
    have HN := Lib.hid (blk_new w (.cells #[.pointer none, .int .u8 0, .int .u8 0, .int .i64 0, .slice none 0 0, .int .i64 0] 53))
    have HB1 := Lib.hid hb1
    clear hb1
    have HH := Lib.hid h
    clear h
    obtain ⟨b4, hb4⟩ : ∃ b4, w.heap.size = b4 := ⟨_, rfl⟩
    rw [hb4] at HN
    go_enter Tryd.func23, Tryd.ntmps23
    go_wp2_with fail
    refine (wire_Of.calls A1 (c0 - m) l l 0 0 w _ HB1.out HR1.out hc1 rfl).mono ?_; rintro en w1 ⟨g, rfl, I1, B1, b1⟩
    have HRES := Lib.hid ((b1.block b4 (by rw [← hb4]; simp)).trans HN.out)
    have hpt : ck_Pt w (w1.alloc (.cells #[.pointer (some ⟨g, 0, none⟩), .int .u8 0, .int .u8 0, .int .i64 0, .slice none 0 0, .int .i64 0] 53)) b4 w1.heap.size g l 0 0 0 0 0 (.slice none 0 0) 0 :=
      ⟨I1.alloc _, below_alloc B1 _, (Below.heap_alloc _ _ _ (blk_lt HRES.out)).trans HRES.out, blk_new _ _, by omega, B1.size, by have := blk_lt HRES.out; omega⟩
    have S2 := Lib.hid hpt
    clear hpt I1 B1 b1 HRES HN HB1 hcut
    go_wp2_with fail
    obtain ⟨pp, hpp⟩ : ∃ pp, w1.heap.size = pp := ⟨_, rfl⟩
    obtain ⟨W2, hW2⟩ : ∃ W2, w1.alloc (.cells #[.pointer (some ⟨g, 0, none⟩), .int .u8 0, .int .u8 0, .int .i64 0, .slice none 0 0, .int .i64 0] 53) = W2 := ⟨_, rfl⟩
    rw [hW2, hpp] at S2
    rw [hW2, hpp]
    clear hW2 hpp
    refine (ck_byte_calls pp g l 0 0 k1 p1 e1 w W2 (blk_cell S2.out.part 0) S2.out.r S2.out.hb HV1.out).mono ?_; rintro en w3 ⟨rfl, I3, B3, K3⟩
    have S3 := Lib.hid (S2.out.call I3 B3 K3)
    clear I3 B3 K3 S2
    go_wp2_with fail
    refine (ck_byte_calls pp g l p1 e1 h2 p2 e2 w w3 (blk_cell S3.out.part 0) S3.out.r S3.out.hb HV2.out).mono ?_; rintro en w4 ⟨rfl, I4, B4, K4⟩
    have S4 := Lib.hid (S3.out.call I4 B4 K4)
    clear I4 B4 K4 S3
    have c41 : w4.cell? ⟨pp, 1, none⟩ = some (.int .u8 0) := blk_cell S4.out.part 1
    have f41 : w4.frozen? ⟨pp, 1, none⟩ = false := blk_frozen S4.out.part 1
    have S5 := Lib.hid (S4.out.set1 k1)
    have c52 : (w4.setCell ⟨pp, 1, none⟩ (.int .u8 k1)).cell? ⟨pp, 2, none⟩ = some (.int .u8 0) := blk_cell S5.out.part 2
    have f52 : (w4.setCell ⟨pp, 1, none⟩ (.int .u8 k1)).frozen? ⟨pp, 2, none⟩ = false := blk_frozen S5.out.part 2
    have S6 := Lib.hid (S5.out.set2 h2)
    have c62 : ((w4.setCell ⟨pp, 1, none⟩ (.int .u8 k1)).setCell ⟨pp, 2, none⟩ (.int .u8 h2)).cell? ⟨pp, 2, none⟩ = some (.int .u8 h2) := blk_cell S6.out.part 2
    have c60 : ((w4.setCell ⟨pp, 1, none⟩ (.int .u8 k1)).setCell ⟨pp, 2, none⟩ (.int .u8 h2)).cell? ⟨pp, 0, none⟩ = some (.pointer (some ⟨g, 0, none⟩)) := blk_cell S6.out.part 0
    by_cases hgt : 1 < h2
    · have h := HH.out
      clear HH
      rw [if_pos hgt] at h
      injection h with h
      simp only [Prod.mk.injEq] at h
      obtain ⟨r1, r2, r3, r4, r5, r6⟩ := h
      subst r1 r2 r3 r4 r5 r6
      go_wp2_with (first | ((with_reducible refine gate_store (p := 4) rfl ?_); refine wpList_store_row rfl 53 (.tmp 4) (.tmp 32) rfl b4 #[.pointer none, .int .u8 0, .int .u8 0, .int .i64 0, .slice none 0 0, .int .i64 0] rfl rfl 53 _ S6.out.res (by kernel_rfl) rfl (by simp [Value.oneCell']) ?_))
      refine bodyPost_ret (results_ct rfl _ _ b4 _ _ _ _ rfl (setRow_heap _ _ _ _ _ _ S6.out.res) Tryd.underlying53 rfl (by kernel_rfl)) rfl ?_
      exact ⟨_, none, 0, rfl, Nat.le_refl _, Kd.R_nil _ _ _ _ _, ck_setRow_below S6.out.hb _ _ S6.out.gb⟩
    · have h := HH.out
      clear HH
      rw [if_neg hgt] at h
      obtain ⟨⟨n3, p3, e3⟩, hv3, hX⟩ := Option.bind_eq_some_iff.1 h
      clear h
      have h := hX
      clear hX
      obtain ⟨⟨n4, p4, e4⟩, hv4, hX⟩ := Option.bind_eq_some_iff.1 h
      clear h
      have h := hX
      clear hX
      simp only at h hv3 hv4
      have HV3 := Lib.hid hv3
      have HV4 := Lib.hid hv4
      clear hv3 hv4
      have HH := Lib.hid h
      clear h
      go_wp2_with fail
      clear c41 f41 c52 f52 c62 c60
      obtain ⟨W6, hW6⟩ : ∃ W6, (w4.setCell ⟨pp, 1, none⟩ (.int .u8 k1)).setCell ⟨pp, 2, none⟩ (.int .u8 h2) = W6 := ⟨_, rfl⟩
      rw [hW6] at S6 ⊢
      clear hW6 S4 S5
      refine (wire_Reader_Int.calls g l p2 e2 n3 p3 e3 w W6 S6.out.r S6.out.hb HV3.out).mono ?_; rintro en w7 ⟨rfl, I7, B7, K7⟩
      have S7 := Lib.hid (S6.out.call I7 B7 K7)
      clear I7 B7 K7 S6
      have c73 : w7.cell? ⟨pp, 3, none⟩ = some (.int .i64 0) := blk_cell S7.out.part 3
      have f73 : w7.frozen? ⟨pp, 3, none⟩ = false := blk_frozen S7.out.part 3
      have S7b := Lib.hid (S7.out.set3 n3)
      have c7b : (w7.setCell ⟨pp, 3, none⟩ (.int .i64 n3)).cell? ⟨pp, 0, none⟩ = some (.pointer (some ⟨g, 0, none⟩)) := blk_cell S7b.out.part 0
      go_wp2_with fail
      clear c73 f73 c7b
      obtain ⟨W7, hW7⟩ : ∃ W7, w7.setCell ⟨pp, 3, none⟩ (.int .i64 n3) = W7 := ⟨_, rfl⟩
      rw [hW7] at S7b ⊢
      clear hW7 S7
      refine (wire_Reader_Int.calls g l p3 e3 n4 p4 e4 w W7 S7b.out.r S7b.out.hb HV4.out).mono ?_; rintro en w8 ⟨rfl, I8, B8, K8⟩
      have S8 := Lib.hid (S7b.out.call I8 B8 K8)
      clear I8 B8 K8 S7b
      have c80 : w8.cell? ⟨pp, 0, none⟩ = some (.pointer (some ⟨g, 0, none⟩)) := blk_cell S8.out.part 0
      go_wp2_with fail
      have RE0 := Lib.hid (wire_Err_ro g l p4 e4 w w8 S8.out.r)
      refine RE0.out.mono ?_; rintro en W8 ⟨rfl, rfl⟩
      clear RE0 c80
      have c82 : W8.cell? ⟨pp, 2, none⟩ = some (.int .u8 h2) := blk_cell S8.out.part 2
      have c83 : W8.cell? ⟨pp, 3, none⟩ = some (.int .i64 n3) := blk_cell S8.out.part 3
      have h := HH.out
      clear HH
      by_cases he4 : e4 = 0
      · subst he4
        by_cases h20 : h2 = 0
        · subst h20
          by_cases hn : n4 = n3
          · subst hn
            rw [if_neg (by simp)] at h
            obtain ⟨⟨body', p5, e5⟩, hv5, hX⟩ := Option.bind_eq_some_iff.1 h
            clear h
            have h := hX
            clear hX
            obtain ⟨⟨sum, p6, e6⟩, hv6, hX⟩ := Option.bind_eq_some_iff.1 h
            clear h
            have h := hX
            clear hX
            simp only at h hv5 hv6
            have HV5 := Lib.hid hv5
            have HV6 := Lib.hid hv6
            clear hv5 hv6
            have HH := Lib.hid h
            clear h
            have RB := Lib.hid (wire_Reader_Bytes.calls g l p4 0 n4 body' p5 e5 w W8 S8.out.r S8.out.hb HV5.out)
            have c80 : W8.cell? ⟨pp, 0, none⟩ = some (.pointer (some ⟨g, 0, none⟩)) := blk_cell S8.out.part 0
            go_wp2_with fail
            refine RB.out.mono ?_; rintro en w9 ⟨v9, rfl, R9, I9, B9, K9⟩
            have S9 := Lib.hid (S8.out.call I9 B9 K9)
            have RO9 := Lib.hid (wire_R_lower R9 S8.out.hb.size)
            obtain ⟨A9, c9, rfl, q9, C9⟩ := wire_form R9
            clear R9 I9 B9 K9 C9 RB c80
            have c94 : w9.cell? ⟨pp, 4, none⟩ = some (.slice none 0 0) := blk_cell S9.out.part 4
            have f94 : w9.frozen? ⟨pp, 4, none⟩ = false := blk_frozen S9.out.part 4
            have S10 := Lib.hid (S9.out.set4 (.slice A9 body'.length c9))
            have RO10 := Lib.hid (ck_R_set S9.out 4 (.slice A9 body'.length c9) RO9.out)
            have c100 : (w9.setCell ⟨pp, 4, none⟩ (.slice A9 body'.length c9)).cell? ⟨pp, 0, none⟩ = some (.pointer (some ⟨g, 0, none⟩)) := blk_cell S10.out.part 0
            go_wp2_with fail
            clear c94 f94 c100
            obtain ⟨W10, hW10⟩ : ∃ W10, w9.setCell ⟨pp, 4, none⟩ (.slice A9 body'.length c9) = W10 := ⟨_, rfl⟩
            rw [hW10] at S10 RO10 ⊢
            clear hW10 S9 RO9
            have RA := Lib.hid (wire_At_ro g l p5 e5 w W10 S10.out.r)
            refine RA.out.mono ?_; rintro en w11 ⟨rfl, rfl⟩
            have c110 : w11.cell? ⟨pp, 0, none⟩ = some (.pointer (some ⟨g, 0, none⟩)) := blk_cell S10.out.part 0
            go_wp2_with fail
            have RF := Lib.hid (wire_Reader_Fixed.calls g l p5 e5 sum p6 e6 w w11 S10.out.r S10.out.hb HLB.out HV6.out)
            refine RF.out.mono ?_; rintro en w12 ⟨rfl, I12, B12, K12⟩
            have S12 := Lib.hid (S10.out.call I12 B12 K12)
            have RO12 := Lib.hid (ck_R_call S10.out K12 RO10.out)
            clear I12 B12 K12 RF RA c110 S10 RO10
            have c120 : w12.cell? ⟨pp, 0, none⟩ = some (.pointer (some ⟨g, 0, none⟩)) := blk_cell S12.out.part 0
            go_wp2_with fail
            have RE := Lib.hid (wire_Err_ro g l p6 e6 w w12 S12.out.r)
            refine RE.out.mono ?_; rintro en w13 ⟨rfl, rfl⟩
            clear RE c120
            have h := HH.out
            clear HH
            by_cases he6 : e6 = 0
            · subst he6
              rw [if_neg (by simp)] at h
              by_cases hG : 0 ≤ p5 ∧ p5 ≤ l.length ∧ 0 ≤ p6 ∧ p6 ≤ l.length ∧ 0 ≤ (0 : Int)
              · rw [if_neg (by simpa using hG)] at h
                obtain ⟨g1, g2, g3, g4, g5⟩ := hG
                obtain ⟨q5, rfl⟩ := Int.eq_ofNat_of_zero_le g1
                obtain ⟨q6, rfl⟩ := Int.eq_ofNat_of_zero_le g3
                have hll := HLL.out
                obtain ⟨E, hE⟩ : ∃ E : Nat, m + q5 = E := ⟨_, rfl⟩
                have HW5 := Lib.hid (show wrap64 ((m : Int) + (q5 : Int)) = (E : Int) by unfold wrap64; omega)
                have HW6 := Lib.hid (show wrap64 ((m : Int) + (q6 : Int)) = (m : Int) + (q6 : Int) by unfold wrap64; omega)
                obtain ⟨A14, hcut14, hC14, hc14⟩ := ck_mid A0 c0 b m E (by omega) (by omega) hc0
                have hD : (b.drop m).take (E - m) = l.take q5 := by rw [HL.out, ← hE, Nat.add_sub_cancel_left]
                rw [hD] at hcut14 hC14 hc14
                rw [Int.toNat_natCast] at h
                have RS := Lib.hid (ck_crc_calls A14 (c0 - m) (l.take q5) w13 (hC14 _ (Kd.C_below HR0.out S12.out.hb)) (isB_take HLB.out q5) (by rw [List.length_take]; omega) (HT.out.keep S12.out.hb))
                clear hC14 hc14 hD hll
                obtain ⟨D, hDD⟩ : ∃ D, l.take q5 = D := ⟨_, rfl⟩
                rw [hDD] at hcut14 RS h
                have HE := Lib.hid hE
                clear hDD hE
                have HH := Lib.hid h
                clear h
                rw [HW5.out]
                have hwr6 := HW6.out
                go_wp2_with fail
                refine RS.out.mono ?_; rintro en w14 ⟨rfl, rfl⟩
                clear RS hcut14
                have h := HH.out
                clear HH
                obtain ⟨cs, hcs⟩ : ∃ cs, ck_crc D = cs := ⟨_, rfl⟩
                rw [hcs] at h ⊢
                clear hcs
                by_cases hsum : cs = sum
                · subst hsum
                  rw [if_neg (by simp)] at h
                  injection h with h
                  simp only [Prod.mk.injEq] at h
                  obtain ⟨r1, r2, r3, r4, r5, r6⟩ := h
                  subst r1 r2 r3 r4 r5 r6
                  have c140 : w14.cell? ⟨pp, 0, none⟩ = some (.pointer (some ⟨g, 0, none⟩)) := blk_cell S12.out.part 0
                  go_wp2_with fail
                  have RA2 := Lib.hid (wire_At_ro g l (q6 : Int) 0 w w14 S12.out.r)
                  refine RA2.out.mono ?_; rintro en w15 ⟨rfl, rfl⟩
                  clear RA2 c140
                  have c155 : w15.cell? ⟨pp, 5, none⟩ = some (.int .i64 0) := blk_cell S12.out.part 5
                  have f155 : w15.frozen? ⟨pp, 5, none⟩ = false := blk_frozen S12.out.part 5
                  have S16 := Lib.hid (S12.out.set5 ((m : Int) + (q6 : Int)))
                  have RO16 := Lib.hid (ck_R_set S12.out 5 (.int .i64 ((m : Int) + (q6 : Int))) RO12.out)
                  go_wp2_with (first | ((with_reducible refine gate_dst (N := 101) rfl ?_); refine wpList_load_row rfl 53 (.tmp 6) rfl pp rfl 53 _ _ _ S16.out.part Tryd.underlying53 rfl (by kernel_rfl) ?_) | ((with_reducible refine gate_store (p := 4) rfl ?_); refine wpList_store_row rfl 53 (.tmp 4) (.tmp 101) rfl b4 _ rfl rfl 53 _ S16.out.res (by kernel_rfl) rfl (by simp [Value.oneCell']) ?_))
                  refine bodyPost_ret (results_ct rfl _ _ b4 _ _ _ _ rfl (setRow_heap _ _ _ _ _ _ S16.out.res) Tryd.underlying53 rfl (by kernel_rfl)) rfl ?_
                  refine ⟨_, A9, c9, rfl, q9, ?_, ck_setRow_below S16.out.hb _ _ S16.out.gb⟩
                  exact (Kd.R_mono (Kd.R_keep (Kd.R_types RO16.out S16.out.res (by simp [Kd.E, Kd.int, Kd.scalar])) (ck_setRow_keep _ _ _) (fun _ hk => hk.2)) (fun _ _ => trivial))
                · rw [if_pos hsum] at h
                  injection h with h
                  simp only [Prod.mk.injEq] at h
                  obtain ⟨r1, r2, r3, r4, r5, r6⟩ := h
                  subst r1 r2 r3 r4 r5 r6
                  have hs1 : (cs == sum) = false := by simpa using hsum
                  have hs2 : (cs != sum) = true := by simpa using hsum
                  go_wp2_with (first | ((with_reducible refine gate_store (p := 4) rfl ?_); refine wpList_store_row rfl 53 (.tmp 4) (.tmp 94) rfl b4 #[.pointer none, .int .u8 0, .int .u8 0, .int .i64 0, .slice none 0 0, .int .i64 0] rfl rfl 53 _ S12.out.res (by kernel_rfl) rfl (by simp [Value.oneCell']) ?_))
                  refine bodyPost_ret (results_ct rfl _ _ b4 _ _ _ _ rfl (setRow_heap _ _ _ _ _ _ S12.out.res) Tryd.underlying53 rfl (by kernel_rfl)) rfl ?_
                  exact ⟨_, none, 0, rfl, Nat.le_refl _, Kd.R_nil _ _ _ _ _, ck_setRow_below S12.out.hb _ _ S12.out.gb⟩
              · rw [if_pos (by simpa using hG)] at h
                cases h
            · rw [if_pos he6] at h
              injection h with h
              simp only [Prod.mk.injEq] at h
              obtain ⟨r1, r2, r3, r4, r5, r6⟩ := h
              subst r1 r2 r3 r4 r5 r6
              have he1 : (e6 == (0 : Int)) = false := by simpa using he6
              have he2 : (e6 != (0 : Int)) = true := by simpa using he6
              go_wp2_with (first | ((with_reducible refine gate_store (p := 4) rfl ?_); refine wpList_store_row rfl 53 (.tmp 4) (.tmp 85) rfl b4 #[.pointer none, .int .u8 0, .int .u8 0, .int .i64 0, .slice none 0 0, .int .i64 0] rfl rfl 53 _ S12.out.res (by kernel_rfl) rfl (by simp [Value.oneCell']) ?_))
              refine bodyPost_ret (results_ct rfl _ _ b4 _ _ _ _ rfl (setRow_heap _ _ _ _ _ _ S12.out.res) Tryd.underlying53 rfl (by kernel_rfl)) rfl ?_
              exact ⟨_, none, 0, rfl, Nat.le_refl _, Kd.R_nil _ _ _ _ _, ck_setRow_below S12.out.hb _ _ S12.out.gb⟩
          · rw [if_pos ⟨rfl, .inl ⟨rfl, hn⟩⟩] at h
            have hn1 : (n4 == n3) = false := by simpa using hn
            have hn2 : (n4 != n3) = true := by simpa using hn
            injection h with h
            simp only [Prod.mk.injEq] at h
            obtain ⟨r1, r2, r3, r4, r5, r6⟩ := h
            subst r1 r2 r3 r4 r5 r6
            go_wp2_with (first | ((with_reducible refine gate_store (p := 4) rfl ?_); refine wpList_store_row rfl 53 (.tmp 4) (.tmp 66) rfl b4 #[.pointer none, .int .u8 0, .int .u8 0, .int .i64 0, .slice none 0 0, .int .i64 0] rfl rfl 53 _ S8.out.res (by kernel_rfl) rfl (by simp [Value.oneCell']) ?_))
            refine bodyPost_ret (results_ct rfl _ _ b4 _ _ _ _ rfl (setRow_heap _ _ _ _ _ _ S8.out.res) Tryd.underlying53 rfl (by kernel_rfl)) rfl ?_
            exact ⟨_, none, 0, rfl, Nat.le_refl _, Kd.R_nil _ _ _ _ _, ck_setRow_below S8.out.hb _ _ S8.out.gb⟩
        · obtain rfl : h2 = 1 := by omega
          by_cases hn : n3 ≤ n4
          · rw [if_pos ⟨rfl, .inr ⟨rfl, hn⟩⟩] at h
            injection h with h
            simp only [Prod.mk.injEq] at h
            obtain ⟨r1, r2, r3, r4, r5, r6⟩ := h
            subst r1 r2 r3 r4 r5 r6
            go_wp2_with (first | ((with_reducible refine gate_store (p := 4) rfl ?_); refine wpList_store_row rfl 53 (.tmp 4) (.tmp 66) rfl b4 #[.pointer none, .int .u8 0, .int .u8 0, .int .i64 0, .slice none 0 0, .int .i64 0] rfl rfl 53 _ S8.out.res (by kernel_rfl) rfl (by simp [Value.oneCell']) ?_))
            refine bodyPost_ret (results_ct rfl _ _ b4 _ _ _ _ rfl (setRow_heap _ _ _ _ _ _ S8.out.res) Tryd.underlying53 rfl (by kernel_rfl)) rfl ?_
            exact ⟨_, none, 0, rfl, Nat.le_refl _, Kd.R_nil _ _ _ _ _, ck_setRow_below S8.out.hb _ _ S8.out.gb⟩
          · rw [if_neg (by simp; omega)] at h
            obtain ⟨⟨body', p5, e5⟩, hv5, hX⟩ := Option.bind_eq_some_iff.1 h
            clear h
            have h := hX
            clear hX
            obtain ⟨⟨sum, p6, e6⟩, hv6, hX⟩ := Option.bind_eq_some_iff.1 h
            clear h
            have h := hX
            clear hX
            simp only at h hv5 hv6
            have HV5 := Lib.hid hv5
            have HV6 := Lib.hid hv6
            clear hv5 hv6
            have HH := Lib.hid h
            clear h
            have RB := Lib.hid (wire_Reader_Bytes.calls g l p4 0 n4 body' p5 e5 w W8 S8.out.r S8.out.hb HV5.out)
            have c80 : W8.cell? ⟨pp, 0, none⟩ = some (.pointer (some ⟨g, 0, none⟩)) := blk_cell S8.out.part 0
            go_wp2_with fail
            refine RB.out.mono ?_; rintro en w9 ⟨v9, rfl, R9, I9, B9, K9⟩
            have S9 := Lib.hid (S8.out.call I9 B9 K9)
            have RO9 := Lib.hid (wire_R_lower R9 S8.out.hb.size)
            obtain ⟨A9, c9, rfl, q9, C9⟩ := wire_form R9
            clear R9 I9 B9 K9 C9 RB c80
            have c94 : w9.cell? ⟨pp, 4, none⟩ = some (.slice none 0 0) := blk_cell S9.out.part 4
            have f94 : w9.frozen? ⟨pp, 4, none⟩ = false := blk_frozen S9.out.part 4
            have S10 := Lib.hid (S9.out.set4 (.slice A9 body'.length c9))
            have RO10 := Lib.hid (ck_R_set S9.out 4 (.slice A9 body'.length c9) RO9.out)
            have c100 : (w9.setCell ⟨pp, 4, none⟩ (.slice A9 body'.length c9)).cell? ⟨pp, 0, none⟩ = some (.pointer (some ⟨g, 0, none⟩)) := blk_cell S10.out.part 0
            go_wp2_with fail
            clear c94 f94 c100
            obtain ⟨W10, hW10⟩ : ∃ W10, w9.setCell ⟨pp, 4, none⟩ (.slice A9 body'.length c9) = W10 := ⟨_, rfl⟩
            rw [hW10] at S10 RO10 ⊢
            clear hW10 S9 RO9
            have RA := Lib.hid (wire_At_ro g l p5 e5 w W10 S10.out.r)
            refine RA.out.mono ?_; rintro en w11 ⟨rfl, rfl⟩
            have c110 : w11.cell? ⟨pp, 0, none⟩ = some (.pointer (some ⟨g, 0, none⟩)) := blk_cell S10.out.part 0
            go_wp2_with fail
            have RF := Lib.hid (wire_Reader_Fixed.calls g l p5 e5 sum p6 e6 w w11 S10.out.r S10.out.hb HLB.out HV6.out)
            refine RF.out.mono ?_; rintro en w12 ⟨rfl, I12, B12, K12⟩
            have S12 := Lib.hid (S10.out.call I12 B12 K12)
            have RO12 := Lib.hid (ck_R_call S10.out K12 RO10.out)
            clear I12 B12 K12 RF RA c110 S10 RO10
            have c120 : w12.cell? ⟨pp, 0, none⟩ = some (.pointer (some ⟨g, 0, none⟩)) := blk_cell S12.out.part 0
            go_wp2_with fail
            have RE := Lib.hid (wire_Err_ro g l p6 e6 w w12 S12.out.r)
            refine RE.out.mono ?_; rintro en w13 ⟨rfl, rfl⟩
            clear RE c120
            have h := HH.out
            clear HH
            by_cases he6 : e6 = 0
            · subst he6
              rw [if_neg (by simp)] at h
              by_cases hG : 0 ≤ p5 ∧ p5 ≤ l.length ∧ 0 ≤ p6 ∧ p6 ≤ l.length ∧ 0 ≤ (1 : Int)
              · rw [if_neg (by simpa using hG)] at h
                obtain ⟨g1, g2, g3, g4, g5⟩ := hG
                obtain ⟨q5, rfl⟩ := Int.eq_ofNat_of_zero_le g1
                obtain ⟨q6, rfl⟩ := Int.eq_ofNat_of_zero_le g3
                have hll := HLL.out
                obtain ⟨E, hE⟩ : ∃ E : Nat, m + q5 = E := ⟨_, rfl⟩
                have HW5 := Lib.hid (show wrap64 ((m : Int) + (q5 : Int)) = (E : Int) by unfold wrap64; omega)
                have HW6 := Lib.hid (show wrap64 ((m : Int) + (q6 : Int)) = (m : Int) + (q6 : Int) by unfold wrap64; omega)
                obtain ⟨A14, hcut14, hC14, hc14⟩ := ck_mid A0 c0 b m E (by omega) (by omega) hc0
                have hD : (b.drop m).take (E - m) = l.take q5 := by rw [HL.out, ← hE, Nat.add_sub_cancel_left]
                rw [hD] at hcut14 hC14 hc14
                rw [Int.toNat_natCast] at h
                have RS := Lib.hid (ck_crc_calls A14 (c0 - m) (l.take q5) w13 (hC14 _ (Kd.C_below HR0.out S12.out.hb)) (isB_take HLB.out q5) (by rw [List.length_take]; omega) (HT.out.keep S12.out.hb))
                clear hC14 hc14 hD hll
                obtain ⟨D, hDD⟩ : ∃ D, l.take q5 = D := ⟨_, rfl⟩
                rw [hDD] at hcut14 RS h
                have HE := Lib.hid hE
                clear hDD hE
                have HH := Lib.hid h
                clear h
                rw [HW5.out]
                have hwr6 := HW6.out
                go_wp2_with fail
                refine RS.out.mono ?_; rintro en w14 ⟨rfl, rfl⟩
                clear RS hcut14
                have h := HH.out
                clear HH
                obtain ⟨cs, hcs⟩ : ∃ cs, ck_crc D = cs := ⟨_, rfl⟩
                rw [hcs] at h ⊢
                clear hcs
                by_cases hsum : cs = sum
                · subst hsum
                  rw [if_neg (by simp)] at h
                  injection h with h
                  simp only [Prod.mk.injEq] at h
                  obtain ⟨r1, r2, r3, r4, r5, r6⟩ := h
                  subst r1 r2 r3 r4 r5 r6
                  have c140 : w14.cell? ⟨pp, 0, none⟩ = some (.pointer (some ⟨g, 0, none⟩)) := blk_cell S12.out.part 0
                  go_wp2_with fail
                  have RA2 := Lib.hid (wire_At_ro g l (q6 : Int) 0 w w14 S12.out.r)
                  refine RA2.out.mono ?_; rintro en w15 ⟨rfl, rfl⟩
                  clear RA2 c140
                  have c155 : w15.cell? ⟨pp, 5, none⟩ = some (.int .i64 0) := blk_cell S12.out.part 5
                  have f155 : w15.frozen? ⟨pp, 5, none⟩ = false := blk_frozen S12.out.part 5
                  have S16 := Lib.hid (S12.out.set5 ((m : Int) + (q6 : Int)))
                  have RO16 := Lib.hid (ck_R_set S12.out 5 (.int .i64 ((m : Int) + (q6 : Int))) RO12.out)
                  go_wp2_with (first | ((with_reducible refine gate_dst (N := 101) rfl ?_); refine wpList_load_row rfl 53 (.tmp 6) rfl pp rfl 53 _ _ _ S16.out.part Tryd.underlying53 rfl (by kernel_rfl) ?_) | ((with_reducible refine gate_store (p := 4) rfl ?_); refine wpList_store_row rfl 53 (.tmp 4) (.tmp 101) rfl b4 _ rfl rfl 53 _ S16.out.res (by kernel_rfl) rfl (by simp [Value.oneCell']) ?_))
                  refine bodyPost_ret (results_ct rfl _ _ b4 _ _ _ _ rfl (setRow_heap _ _ _ _ _ _ S16.out.res) Tryd.underlying53 rfl (by kernel_rfl)) rfl ?_
                  refine ⟨_, A9, c9, rfl, q9, ?_, ck_setRow_below S16.out.hb _ _ S16.out.gb⟩
                  exact (Kd.R_mono (Kd.R_keep (Kd.R_types RO16.out S16.out.res (by simp [Kd.E, Kd.int, Kd.scalar])) (ck_setRow_keep _ _ _) (fun _ hk => hk.2)) (fun _ _ => trivial))
                · rw [if_pos hsum] at h
                  injection h with h
                  simp only [Prod.mk.injEq] at h
                  obtain ⟨r1, r2, r3, r4, r5, r6⟩ := h
                  subst r1 r2 r3 r4 r5 r6
                  have hs1 : (cs == sum) = false := by simpa using hsum
                  have hs2 : (cs != sum) = true := by simpa using hsum
                  go_wp2_with (first | ((with_reducible refine gate_store (p := 4) rfl ?_); refine wpList_store_row rfl 53 (.tmp 4) (.tmp 94) rfl b4 #[.pointer none, .int .u8 0, .int .u8 0, .int .i64 0, .slice none 0 0, .int .i64 0] rfl rfl 53 _ S12.out.res (by kernel_rfl) rfl (by simp [Value.oneCell']) ?_))
                  refine bodyPost_ret (results_ct rfl _ _ b4 _ _ _ _ rfl (setRow_heap _ _ _ _ _ _ S12.out.res) Tryd.underlying53 rfl (by kernel_rfl)) rfl ?_
                  exact ⟨_, none, 0, rfl, Nat.le_refl _, Kd.R_nil _ _ _ _ _, ck_setRow_below S12.out.hb _ _ S12.out.gb⟩
              · rw [if_pos (by simpa using hG)] at h
                cases h
            · rw [if_pos he6] at h
              injection h with h
              simp only [Prod.mk.injEq] at h
              obtain ⟨r1, r2, r3, r4, r5, r6⟩ := h
              subst r1 r2 r3 r4 r5 r6
              have he1 : (e6 == (0 : Int)) = false := by simpa using he6
              have he2 : (e6 != (0 : Int)) = true := by simpa using he6
              go_wp2_with (first | ((with_reducible refine gate_store (p := 4) rfl ?_); refine wpList_store_row rfl 53 (.tmp 4) (.tmp 85) rfl b4 #[.pointer none, .int .u8 0, .int .u8 0, .int .i64 0, .slice none 0 0, .int .i64 0] rfl rfl 53 _ S12.out.res (by kernel_rfl) rfl (by simp [Value.oneCell']) ?_))
              refine bodyPost_ret (results_ct rfl _ _ b4 _ _ _ _ rfl (setRow_heap _ _ _ _ _ _ S12.out.res) Tryd.underlying53 rfl (by kernel_rfl)) rfl ?_
              exact ⟨_, none, 0, rfl, Nat.le_refl _, Kd.R_nil _ _ _ _ _, ck_setRow_below S12.out.hb _ _ S12.out.gb⟩
      · rw [if_neg (by simp [he4])] at h
        have he41 : (e4 == (0 : Int)) = false := by simpa using he4
        obtain ⟨⟨body', p5, e5⟩, hv5, hX⟩ := Option.bind_eq_some_iff.1 h
        clear h
        have h := hX
        clear hX
        obtain ⟨⟨sum, p6, e6⟩, hv6, hX⟩ := Option.bind_eq_some_iff.1 h
        clear h
        have h := hX
        clear hX
        simp only at h hv5 hv6
        have HV5 := Lib.hid hv5
        have HV6 := Lib.hid hv6
        clear hv5 hv6
        have HH := Lib.hid h
        clear h
        have RB := Lib.hid (wire_Reader_Bytes.calls g l p4 e4 n4 body' p5 e5 w W8 S8.out.r S8.out.hb HV5.out)
        have c80 : W8.cell? ⟨pp, 0, none⟩ = some (.pointer (some ⟨g, 0, none⟩)) := blk_cell S8.out.part 0
        go_wp2_with fail
        refine RB.out.mono ?_; rintro en w9 ⟨v9, rfl, R9, I9, B9, K9⟩
        have S9 := Lib.hid (S8.out.call I9 B9 K9)
        have RO9 := Lib.hid (wire_R_lower R9 S8.out.hb.size)
        obtain ⟨A9, c9, rfl, q9, C9⟩ := wire_form R9
        clear R9 I9 B9 K9 C9 RB c80
        have c94 : w9.cell? ⟨pp, 4, none⟩ = some (.slice none 0 0) := blk_cell S9.out.part 4
        have f94 : w9.frozen? ⟨pp, 4, none⟩ = false := blk_frozen S9.out.part 4
        have S10 := Lib.hid (S9.out.set4 (.slice A9 body'.length c9))
        have RO10 := Lib.hid (ck_R_set S9.out 4 (.slice A9 body'.length c9) RO9.out)
        have c100 : (w9.setCell ⟨pp, 4, none⟩ (.slice A9 body'.length c9)).cell? ⟨pp, 0, none⟩ = some (.pointer (some ⟨g, 0, none⟩)) := blk_cell S10.out.part 0
        go_wp2_with fail
        clear c94 f94 c100
        obtain ⟨W10, hW10⟩ : ∃ W10, w9.setCell ⟨pp, 4, none⟩ (.slice A9 body'.length c9) = W10 := ⟨_, rfl⟩
        rw [hW10] at S10 RO10 ⊢
        clear hW10 S9 RO9
        have RA := Lib.hid (wire_At_ro g l p5 e5 w W10 S10.out.r)
        refine RA.out.mono ?_; rintro en w11 ⟨rfl, rfl⟩
        have c110 : w11.cell? ⟨pp, 0, none⟩ = some (.pointer (some ⟨g, 0, none⟩)) := blk_cell S10.out.part 0
        go_wp2_with fail
        have RF := Lib.hid (wire_Reader_Fixed.calls g l p5 e5 sum p6 e6 w w11 S10.out.r S10.out.hb HLB.out HV6.out)
        refine RF.out.mono ?_; rintro en w12 ⟨rfl, I12, B12, K12⟩
        have S12 := Lib.hid (S10.out.call I12 B12 K12)
        have RO12 := Lib.hid (ck_R_call S10.out K12 RO10.out)
        clear I12 B12 K12 RF RA c110 S10 RO10
        have c120 : w12.cell? ⟨pp, 0, none⟩ = some (.pointer (some ⟨g, 0, none⟩)) := blk_cell S12.out.part 0
        go_wp2_with fail
        have RE := Lib.hid (wire_Err_ro g l p6 e6 w w12 S12.out.r)
        refine RE.out.mono ?_; rintro en w13 ⟨rfl, rfl⟩
        clear RE c120
        have h := HH.out
        clear HH
        by_cases he6 : e6 = 0
        · subst he6
          rw [if_neg (by simp)] at h
          by_cases hG : 0 ≤ p5 ∧ p5 ≤ l.length ∧ 0 ≤ p6 ∧ p6 ≤ l.length ∧ 0 ≤ (h2 : Int)
          · rw [if_neg (by simpa using hG)] at h
            obtain ⟨g1, g2, g3, g4, g5⟩ := hG
            obtain ⟨q5, rfl⟩ := Int.eq_ofNat_of_zero_le g1
            obtain ⟨q6, rfl⟩ := Int.eq_ofNat_of_zero_le g3
            have hll := HLL.out
            obtain ⟨E, hE⟩ : ∃ E : Nat, m + q5 = E := ⟨_, rfl⟩
            have HW5 := Lib.hid (show wrap64 ((m : Int) + (q5 : Int)) = (E : Int) by unfold wrap64; omega)
            have HW6 := Lib.hid (show wrap64 ((m : Int) + (q6 : Int)) = (m : Int) + (q6 : Int) by unfold wrap64; omega)
            obtain ⟨A14, hcut14, hC14, hc14⟩ := ck_mid A0 c0 b m E (by omega) (by omega) hc0
            have hD : (b.drop m).take (E - m) = l.take q5 := by rw [HL.out, ← hE, Nat.add_sub_cancel_left]
            rw [hD] at hcut14 hC14 hc14
            rw [Int.toNat_natCast] at h
            have RS := Lib.hid (ck_crc_calls A14 (c0 - m) (l.take q5) w13 (hC14 _ (Kd.C_below HR0.out S12.out.hb)) (isB_take HLB.out q5) (by rw [List.length_take]; omega) (HT.out.keep S12.out.hb))
            clear hC14 hc14 hD hll
            obtain ⟨D, hDD⟩ : ∃ D, l.take q5 = D := ⟨_, rfl⟩
            rw [hDD] at hcut14 RS h
            have HE := Lib.hid hE
            clear hDD hE
            have HH := Lib.hid h
            clear h
            rw [HW5.out]
            have hwr6 := HW6.out
            go_wp2_with fail
            refine RS.out.mono ?_; rintro en w14 ⟨rfl, rfl⟩
            clear RS hcut14
            have h := HH.out
            clear HH
            obtain ⟨cs, hcs⟩ : ∃ cs, ck_crc D = cs := ⟨_, rfl⟩
            rw [hcs] at h ⊢
            clear hcs
            by_cases hsum : cs = sum
            · subst hsum
              rw [if_neg (by simp)] at h
              injection h with h
              simp only [Prod.mk.injEq] at h
              obtain ⟨r1, r2, r3, r4, r5, r6⟩ := h
              subst r1 r2 r3 r4 r5 r6
              have c140 : w14.cell? ⟨pp, 0, none⟩ = some (.pointer (some ⟨g, 0, none⟩)) := blk_cell S12.out.part 0
              go_wp2_with fail
              have RA2 := Lib.hid (wire_At_ro g l (q6 : Int) 0 w w14 S12.out.r)
              refine RA2.out.mono ?_; rintro en w15 ⟨rfl, rfl⟩
              clear RA2 c140
              have c155 : w15.cell? ⟨pp, 5, none⟩ = some (.int .i64 0) := blk_cell S12.out.part 5
              have f155 : w15.frozen? ⟨pp, 5, none⟩ = false := blk_frozen S12.out.part 5
              have S16 := Lib.hid (S12.out.set5 ((m : Int) + (q6 : Int)))
              have RO16 := Lib.hid (ck_R_set S12.out 5 (.int .i64 ((m : Int) + (q6 : Int))) RO12.out)
              go_wp2_with (first | ((with_reducible refine gate_dst (N := 101) rfl ?_); refine wpList_load_row rfl 53 (.tmp 6) rfl pp rfl 53 _ _ _ S16.out.part Tryd.underlying53 rfl (by kernel_rfl) ?_) | ((with_reducible refine gate_store (p := 4) rfl ?_); refine wpList_store_row rfl 53 (.tmp 4) (.tmp 101) rfl b4 _ rfl rfl 53 _ S16.out.res (by kernel_rfl) rfl (by simp [Value.oneCell']) ?_))
              refine bodyPost_ret (results_ct rfl _ _ b4 _ _ _ _ rfl (setRow_heap _ _ _ _ _ _ S16.out.res) Tryd.underlying53 rfl (by kernel_rfl)) rfl ?_
              refine ⟨_, A9, c9, rfl, q9, ?_, ck_setRow_below S16.out.hb _ _ S16.out.gb⟩
              exact (Kd.R_mono (Kd.R_keep (Kd.R_types RO16.out S16.out.res (by simp [Kd.E, Kd.int, Kd.scalar])) (ck_setRow_keep _ _ _) (fun _ hk => hk.2)) (fun _ _ => trivial))
            · rw [if_pos hsum] at h
              injection h with h
              simp only [Prod.mk.injEq] at h
              obtain ⟨r1, r2, r3, r4, r5, r6⟩ := h
              subst r1 r2 r3 r4 r5 r6
              have hs1 : (cs == sum) = false := by simpa using hsum
              have hs2 : (cs != sum) = true := by simpa using hsum
              go_wp2_with (first | ((with_reducible refine gate_store (p := 4) rfl ?_); refine wpList_store_row rfl 53 (.tmp 4) (.tmp 94) rfl b4 #[.pointer none, .int .u8 0, .int .u8 0, .int .i64 0, .slice none 0 0, .int .i64 0] rfl rfl 53 _ S12.out.res (by kernel_rfl) rfl (by simp [Value.oneCell']) ?_))
              refine bodyPost_ret (results_ct rfl _ _ b4 _ _ _ _ rfl (setRow_heap _ _ _ _ _ _ S12.out.res) Tryd.underlying53 rfl (by kernel_rfl)) rfl ?_
              exact ⟨_, none, 0, rfl, Nat.le_refl _, Kd.R_nil _ _ _ _ _, ck_setRow_below S12.out.hb _ _ S12.out.gb⟩
          · rw [if_pos (by simpa using hG)] at h
            cases h
        · rw [if_pos he6] at h
          injection h with h
          simp only [Prod.mk.injEq] at h
          obtain ⟨r1, r2, r3, r4, r5, r6⟩ := h
          subst r1 r2 r3 r4 r5 r6
          have he1 : (e6 == (0 : Int)) = false := by simpa using he6
          have he2 : (e6 != (0 : Int)) = true := by simpa using he6
          go_wp2_with (first | ((with_reducible refine gate_store (p := 4) rfl ?_); refine wpList_store_row rfl 53 (.tmp 4) (.tmp 85) rfl b4 #[.pointer none, .int .u8 0, .int .u8 0, .int .i64 0, .slice none 0 0, .int .i64 0] rfl rfl 53 _ S12.out.res (by kernel_rfl) rfl (by simp [Value.oneCell']) ?_))
          refine bodyPost_ret (results_ct rfl _ _ b4 _ _ _ _ rfl (setRow_heap _ _ _ _ _ _ S12.out.res) Tryd.underlying53 rfl (by kernel_rfl)) rfl ?_
          exact ⟨_, none, 0, rfl, Nat.le_refl _, Kd.R_nil _ _ _ _ _, ck_setRow_below S12.out.hb _ _ S12.out.gb⟩
end Go.Proofs.YtigcgdhihaibbaaDoor.PLz
