/- Chunk: the document's Read: its walk. No condition. -/
import Derived.Test.YtigcgdhihaibbaaDoorPF
import Derived.Test.YtigcgdhihaibbaaDoorK4
import Derived.Test.YtigcgdhihaibbaaDoorPTkx1
import Derived.Test.YtigcgdhihaibbaaDoorPTkx2
import Derived.Test.YtigcgdhihaibbaaDoorPTkx3
namespace Go.Proofs.YtigcgdhihaibbaaDoor.PLz
open Go.Proofs.YtigcgdhihaibbaaDoor.PTk
open Go.Proofs.YtigcgdhihaibbaaDoor.PRef (rematchref01_Fixed.f rematchref01_Fixed.calls)
open Go.RowKit Go.Proofs.YtigcgdhihaibbaaDoorW.PrintWords Go.Proofs.YtigcgdhihaibbaaDoorW.PrintLast Go.Proofs.YtigcgdhihaibbaaDoorW.PrintMore
attribute [local go_sem] max2_int min2_int max_two min_two max_three min_three max_four min_four   -- for this text's walks alone
set_option linter.unusedVariables false
set_option linter.unusedSimpArgs false
set_option maxHeartbeats 4000000
set_option maxRecDepth 20000

def rf_none (e : Int) : Option (Int × Bool × Int × ByteArray × Int × Int) := some (0, false, 0, ⟨#[]⟩, 0, e)
/-- the document's reading of a chunk -/
def rf_read (k : Nat) (s : ByteArray) (at_ : Int) : Option (Int × Bool × Int × ByteArray × Int × Int) :=
  if at_ < 0 ∨ (s.size : Int) < at_ then rf_none 2 else
    (rematchref01_Reader_Bytes.f (s.extract at_.toNat s.size) 0 0 1).bind fun v1 => (rematchref01_Reader_Bytes.f v1.2.1 v1.2.2.1 v1.2.2.2 1).bind fun v2 =>
      if v2.2.2.2 ≠ 0 then rf_none v2.2.2.2 else if ¬ (0 < v1.1.size ∧ 0 < v2.1.size) then none else if 1 < bt v2.1 0 then rf_none 4 else
        (rematchref01_Reader_Num.f k v2.2.1 v2.2.2.1 v2.2.2.2 2147483647).bind fun v3 => (rematchref01_Reader_Num.f k v3.2.1 v3.2.2.1 v3.2.2.2 2147483647).bind fun v4 =>
          if v4.2.2.2 ≠ 0 then rf_none v4.2.2.2 else if ¬ (0 ≤ v3.1 ∧ v3.1 ≤ 2147483647 ∧ 0 ≤ v4.1 ∧ v4.1 ≤ 2147483647) then none else
            if (bt v2.1 0 = 0 ∧ v4.1 ≠ v3.1) ∨ (bt v2.1 0 = 1 ∧ v3.1 ≤ v4.1) then rf_none 4 else
              (rematchref01_Reader_Bytes.f v4.2.1 v4.2.2.1 v4.2.2.2 v4.1).bind fun v5 => (rematchref01_Reader_Bytes.f v5.2.1 v5.2.2.1 v5.2.2.2 4).bind fun v6 =>
                if v6.2.2.2 ≠ 0 then rf_none v6.2.2.2 else if ¬ (0 ≤ v5.2.2.1 ∧ at_ + v5.2.2.1 ≤ s.size ∧ 0 ≤ v6.2.2.1 ∧ v6.2.2.1 ≤ s.size) then none else
                  (rematchref01_Fixed.f (ck_crc (bytesOf (s.extract at_.toNat (at_ + v5.2.2.1).toNat)))).bind fun sf => if sf.toList ≠ v6.1.toList then rf_none 5 else
                    some (bt v1.1 0, decide (bt v2.1 0 = 1), v3.1, v5.1, at_ + v6.2.2.1, 0)
/-- how it ends -/
def rf_post (w : World) (kind : Int) (pk : Bool) (size : Int) (body : ByteArray) (next e : Int) (en : Ending) (w' : World) : Prop :=
  en = .returned (.tuple #[.agg #[.int .u8 kind, .bool pk, .int .i64 size, .string body, .int .i64 next], .int .i64 e]) ∧ Below w.heap.size w w'
structure rf_St (w W : World) (b4 br : Nat) (S : ByteArray) (A E : Int) : Prop where
  hb : Below w.heap.size w W
  res : W.heap[b4]? = some (.cells #[.int .u8 0, .bool false, .int .i64 0, .string ⟨#[]⟩, .int .i64 0] 31 (0, 0))
  rd : W.heap[br]? = some (.cells #[.string S, .int .i64 A, .int .i64 E] 57 (0, 0))
  gb : w.heap.size ≤ b4
  rb : w.heap.size ≤ br
theorem rf_St.next {w W W' : World} {b4 br : Nat} {S : ByteArray} {A E : Int} (h : rf_St w W b4 br S A E) (hb : Below W.heap.size W W') : rf_St w W' b4 br S A E :=
  ⟨below_then h.hb h.hb.size hb, (hb.block _ (blk_lt h.res)).trans h.res, (hb.block _ (blk_lt h.rd)).trans h.rd, h.gb, h.rb⟩
theorem setRow_far {W : World} {g k : Nat} {cs : Array Value} {x : Option Obj} (hne : k ≠ g) (h : W.heap[k]? = x) : (W.setRow g cs).heap[k]? = x := by
  simp only [World.setRow, Array.getElem?_modify]
  rw [if_neg (fun e => hne e.symm)]
  exact h
theorem rf_St.load {w W : World} {b4 br : Nat} {S S2 : ByteArray} {A E A2 E2 : Int} (h : rf_St w W b4 br S A E) : rf_St w (W.setRow br #[.string S2, .int .i64 A2, .int .i64 E2]) b4 br S2 A2 E2 :=
  ⟨ck_setRow_below h.hb _ _ h.rb, setRow_far (blk_ne h.res h.rd (by decide)) h.res, setRow_heap _ _ _ _ _ _ h.rd, h.gb, h.rb⟩
theorem rf_St.zero {w W : World} {b4 br : Nat} {S : ByteArray} {A E : Int} (h : rf_St w W b4 br S A E) : rf_St w (W.setRow b4 #[.int .u8 0, .bool false, .int .i64 0, .string ⟨#[]⟩, .int .i64 0]) b4 br S A E :=
  ⟨ck_setRow_below h.hb _ _ h.gb, setRow_heap _ _ _ _ _ _ h.res, setRow_far (blk_ne h.rd h.res (by decide)) h.rd, h.gb, h.rb⟩
theorem rf_St.drew {w W : World} {b4 br : Nat} {S : ByteArray} {A E : Int} (h : rf_St w W b4 br S A E) : rf_St w W.drew b4 br S A E := ⟨below_drew1 h.hb, h.res, h.rd, h.gb, h.rb⟩
structure rf_Ck (w W : World) (b4 br bc : Nat) (S : ByteArray) (A E k : Int) (p : Bool) (n : Int) (bd : ByteArray) (x : Int) : Prop where
  st : rf_St w W b4 br S A E
  ck : W.heap[bc]? = some (.cells #[.int .u8 k, .bool p, .int .i64 n, .string bd, .int .i64 x] 31 (0, 0))
  cb : w.heap.size ≤ bc
  c4 : bc ≠ b4
theorem rf_Ck.next {w W W' : World} {b4 br bc : Nat} {S bd : ByteArray} {A E k n x : Int} {p : Bool} (h : rf_Ck w W b4 br bc S A E k p n bd x) (hb : Below W.heap.size W W') : rf_Ck w W' b4 br bc S A E k p n bd x :=
  ⟨h.st.next hb, (hb.block _ (blk_lt h.ck)).trans h.ck, h.cb, h.c4⟩
theorem rf_Ck.load {w W : World} {b4 br bc : Nat} {S S2 bd : ByteArray} {A E A2 E2 k n x : Int} {p : Bool} (h : rf_Ck w W b4 br bc S A E k p n bd x) : rf_Ck w (W.setRow br #[.string S2, .int .i64 A2, .int .i64 E2]) b4 br bc S2 A2 E2 k p n bd x :=
  ⟨h.st.load, setRow_far (blk_ne h.ck h.st.rd (by decide)) h.ck, h.cb, h.c4⟩
theorem rf_Ck.far {w W : World} {b4 br bc : Nat} {S bd : ByteArray} {A E k n x : Int} {p : Bool} (h : rf_Ck w W b4 br bc S A E k p n bd x) (i : Nat) (u : Value) : rf_St w (W.setCell ⟨bc, i, none⟩ u) b4 br S A E :=
  ⟨h.st.hb.setCell h.cb _, blk_far h.st.res (p := ⟨bc, i, none⟩) (fun e => h.c4 e.symm) u, blk_far h.st.rd (p := ⟨bc, i, none⟩) (blk_ne h.st.rd h.ck (by decide)) u, h.st.gb, h.st.rb⟩
theorem rf_Ck.set2 {w W : World} {b4 br bc : Nat} {S bd : ByteArray} {A E k n x : Int} {p : Bool} (h : rf_Ck w W b4 br bc S A E k p n bd x) (y : Int) : rf_Ck w (W.setCell ⟨bc, 2, none⟩ (.int .i64 y)) b4 br bc S A E k p y bd x :=
  ⟨h.far 2 _, by simpa using blk_set h.ck 2 (.int .i64 y), h.cb, h.c4⟩
theorem rf_Ck.set3 {w W : World} {b4 br bc : Nat} {S bd : ByteArray} {A E k n x : Int} {p : Bool} (h : rf_Ck w W b4 br bc S A E k p n bd x) (y : ByteArray) : rf_Ck w (W.setCell ⟨bc, 3, none⟩ (.string y)) b4 br bc S A E k p n y x :=
  ⟨h.far 3 _, by simpa using blk_set h.ck 3 (.string y), h.cb, h.c4⟩
theorem rf_Ck.set4 {w W : World} {b4 br bc : Nat} {S bd : ByteArray} {A E k n x : Int} {p : Bool} (h : rf_Ck w W b4 br bc S A E k p n bd x) (y : Int) : rf_Ck w (W.setCell ⟨bc, 4, none⟩ (.int .i64 y)) b4 br bc S A E k p n bd y :=
  ⟨h.far 4 _, by simpa using blk_set h.ck 4 (.int .i64 y), h.cb, h.c4⟩
theorem rf_St.lay {w W : World} {b4 br bc : Nat} {S : ByteArray} {A E : Int} (h : rf_St w W b4 br S A E) (hz : W.heap[bc]? = some (.cells #[.int .u8 0, .bool false, .int .i64 0, .string ⟨#[]⟩, .int .i64 0] 31 (0, 0))) (hc : w.heap.size ≤ bc) (h4 : bc ≠ b4) (k : Int) (p : Bool) : rf_Ck w (W.setRow bc #[.int .u8 k, .bool p, .int .i64 0, .string ⟨#[]⟩, .int .i64 0]) b4 br bc S A E k p 0 ⟨#[]⟩ 0 :=
  ⟨⟨ck_setRow_below h.hb _ _ hc, setRow_far (fun e => h4 e.symm) h.res, setRow_far (blk_ne h.rd hz (by decide)) h.rd, h.gb, h.rb⟩, setRow_heap _ _ _ _ _ _ hz, hc, h4⟩
theorem rf_bytesOf (s : ByteArray) : IsB (bytesOf s) := by
  intro x hx
  unfold bytesOf at hx
  obtain ⟨y, _, rfl⟩ := List.mem_map.1 hx
  have := y.toNat_lt
  omega
theorem rf_rd (W : World) (s : ByteArray) (hl : s.size ≤ 1000000) : Rd (Lib.bytesWorld W 5 s) (some ⟨W.heap.size, 0, none⟩) s.size (bytesOf s) := by
  obtain ⟨h1, h2, h3⟩ := bytes_reads W 5 s (by omega)
  refine ⟨h1, h2, fun x hx => by have := rf_bytesOf s x hx; omega, fun hn => ?_⟩
  obtain ⟨b, e, hc⟩ := h3 hn
  injection e with e
  subst e
  refine ⟨_, _, rfl, fun j hj => ?_⟩
  have := hc j hj
  rwa [Addr.add_lit] at this
theorem rf_out (s : ByteArray) (at_ : Int) (w : World) (hout : at_ < 0 ∨ (s.size : Int) < at_) : Calls Tryd.prog 10 #[.string s, .int .i64 at_] w (rf_post w 0 false 0 ⟨#[]⟩ 0 2) := by
  have hb1 : Below w.heap.size w (w.alloc (.cells #[.int .u8 0, .bool false, .int .i64 0, .string ⟨#[]⟩, .int .i64 0] 31)) := below_alloc (Below.refl _ _) _
  have hn := blk_new w (.cells #[.int .u8 0, .bool false, .int .i64 0, .string ⟨#[]⟩, .int .i64 0] 31)
  by_cases h1 : at_ < 0
  · have HN := Lib.hid hn
    clear hn
    go_enter Tryd.func10, Tryd.ntmps10
    go_wp2_with fail
    refine bodyPost_ret (results_ct rfl _ _ w.heap.size _ _ _ _ rfl HN.out Tryd.underlying31 rfl (by kernel_rfl)) rfl ?_
    exact ⟨rfl, hb1⟩
  · have h2 : (s.size : Int) < at_ := hout.resolve_left h1
    have HN := Lib.hid hn
    clear hn
    go_enter Tryd.func10, Tryd.ntmps10
    go_wp2_with fail
    refine bodyPost_ret (results_ct rfl _ _ w.heap.size _ _ _ _ rfl HN.out Tryd.underlying31 rfl (by kernel_rfl)) rfl ?_
    exact ⟨rfl, hb1⟩
set_option maxHeartbeats 60000000 in
theorem rf_read_calls (k : Nat) (s : ByteArray) (at_ : Int) (kind : Int) (pk : Bool) (size : Int) (body : ByteArray) (next e : Int) (w : World) (hs : s.size ≤ 100000)
    (h : rf_read k s at_ = some (kind, pk, size, body, next, e)) : Calls Tryd.prog 10 #[.string s, .int .i64 at_] w (rf_post w kind pk size body next e) := by
  unfold rf_read at h
  by_cases hout : at_ < 0 ∨ (s.size : Int) < at_
  · rw [if_pos hout] at h
    unfold rf_none at h
    injection h with h
    simp only [Prod.mk.injEq] at h
    obtain ⟨r1, r2, r3, r4, r5, r6⟩ := h
    subst r1 r2 r3 r4 r5 r6
    exact rf_out s at_ w hout
  · rw [if_neg hout] at h
    obtain ⟨m, rfl⟩ : ∃ m : Nat, at_ = m := ⟨at_.toNat, by omega⟩
    rw [Int.toNat_natCast] at h
    have hm1 : ¬ (m : Int) < 0 := by omega
    have hm2 : ¬ (s.size : Int) < m := by omega
    obtain ⟨⟨r1, S1, A1, E1⟩, hv1, hX⟩ := Option.bind_eq_some_iff.1 h
    clear h
    have h := hX
    clear hX
    obtain ⟨⟨r2, S2, A2, E2⟩, hv2, hX⟩ := Option.bind_eq_some_iff.1 h
    clear h
    have h := hX
    clear hX
    simp only at h hv2
    have HV1 := Lib.hid hv1
    have HV2 := Lib.hid hv2
    have HH := Lib.hid h
    clear h
    have hb1 : Below w.heap.size w (w.alloc (.cells #[.int .u8 0, .bool false, .int .i64 0, .string ⟨#[]⟩, .int .i64 0] 31)) := below_alloc (Below.refl _ _) _
    have HN := Lib.hid (blk_new w (.cells #[.int .u8 0, .bool false, .int .i64 0, .string ⟨#[]⟩, .int .i64 0] 31))
    have HB1 := Lib.hid hb1
    obtain ⟨b4, hb4⟩ : ∃ b4, w.heap.size = b4 := ⟨_, rfl⟩
    rw [hb4] at HN
    clear hb1 hv1 hv2 hout
    go_enter Tryd.func10, Tryd.ntmps10
    go_wp2_with fail
    refine (rematchref01_Reader_Bytes.calls _ 0 0 1 r1 S1 A1 E1 _ HV1.out).mono ?_; rintro en w1 ⟨rfl, b1⟩
    have HRES := Lib.hid ((b1.block b4 (by rw [← hb4]; simp)).trans HN.out)
    have HB2 := Lib.hid (below_then HB1.out HB1.out.size b1)
    clear b1 HN HB1
    obtain ⟨br, hbr⟩ : ∃ br, w1.heap.size = br := ⟨_, rfl⟩
    obtain ⟨W1, hW1⟩ : ∃ W1, w1.alloc (.cells #[.string S1, .int .i64 A1, .int .i64 E1] 57) = W1 := ⟨_, rfl⟩
    have hst : rf_St w W1 b4 br S1 A1 E1 := by
      rw [← hW1, ← hbr]
      exact ⟨below_alloc HB2.out _, (Below.heap_alloc _ _ _ (blk_lt HRES.out)).trans HRES.out, blk_new _ _, by omega, HB2.out.size⟩
    have S1s := Lib.hid hst
    have HZ := Lib.hid (show (w1.alloc (.cells #[.string ⟨#[]⟩, .int .i64 0, .int .i64 0] 57)).heap[br]? = some (.cells #[.string ⟨#[]⟩, .int .i64 0, .int .i64 0] 57 (0, 0)) by rw [← hbr]; exact blk_new _ _)
    have HWS := Lib.hid (show (w1.alloc (.cells #[.string ⟨#[]⟩, .int .i64 0, .int .i64 0] 57)).setRow br #[.string S1, .int .i64 A1, .int .i64 E1] = W1 by rw [← hW1, ← hbr]; exact World.setRow_alloc_new _ _ _ _)
    clear hst hW1 HRES HB2
    go_wp2_with (first | ((with_reducible refine gate_store (p := 7) rfl ?_); refine wpList_store_row rfl 57 (.tmp 7) (.tmp 31) rfl br #[.string S1, .int .i64 A1, .int .i64 E1] rfl rfl 57 _ HZ.out (by kernel_rfl) rfl (by simp [Value.oneCell']) ?_; rw [HWS.out]) | ((with_reducible refine gate_dst (N := 33) rfl ?_); refine wpList_load_row rfl 57 (.tmp 7) rfl br rfl 57 _ _ _ S1s.out.rd Tryd.underlying57 rfl (by kernel_rfl) ?_))
    refine (rematchref01_Reader_Bytes.calls S1 A1 E1 1 r2 S2 A2 E2 _ HV2.out).mono ?_; rintro en w3 ⟨rfl, b3⟩
    have S3 := Lib.hid (S1s.out.next b3)
    have S3L := Lib.hid (S3.out.load (S2 := S2) (A2 := A2) (E2 := E2))
    have k5 : (w3.setRow br #[.string S2, .int .i64 A2, .int .i64 E2]).cell? ⟨br, 2, none⟩ = some (.int .i64 E2) := blk_cell S3L.out.rd 2
    clear b3 HZ HWS S1s
    by_cases he2 : E2 = 0
    · subst he2
      have h := HH.out
      clear HH
      rw [if_neg (by simp)] at h
      by_cases hsz : 0 < r1.size ∧ 0 < r2.size
      · rw [if_neg (fun hn => hn hsz)] at h
        have hi2 := bt_at r2 0
        have hi1 := bt_at r1 0
        rw [show (0 : Int).toNat = 0 from rfl] at hi1 hi2
        obtain ⟨h2, hh2⟩ : ∃ x, bt r2 0 = x := ⟨_, rfl⟩
        obtain ⟨k1, hk1⟩ : ∃ x, bt r1 0 = x := ⟨_, rfl⟩
        have hr2 := bt_range r2 0
        rw [hh2] at hi2 h hr2
        rw [hk1] at hi1 h
        have hz1 := hsz.1
        have hz2 := hsz.2
        clear hsz hh2 hk1
        by_cases hgt : 1 < h2
        · rw [if_pos hgt] at h
          unfold rf_none at h
          injection h with h
          simp only [Prod.mk.injEq] at h
          obtain ⟨r1, r2, r3, r4, r5, r6⟩ := h
          subst r1 r2 r3 r4 r5 r6
          go_wp2_with (first | ((with_reducible refine gate_store (p := 7) rfl ?_); refine wpList_store_row rfl 57 (.tmp 7) (.tmp 36) rfl br #[.string S2, .int .i64 A2, .int .i64 0] rfl rfl 57 _ S3.out.rd (by kernel_rfl) rfl (by simp [Value.oneCell']) ?_) | ((with_reducible refine gate_store (p := 4) rfl ?_); refine wpList_store_row rfl 31 (.tmp 4) (.tmp 46) rfl b4 #[.int .u8 0, .bool false, .int .i64 0, .string ⟨#[]⟩, .int .i64 0] rfl rfl 31 _ S3L.out.res (by kernel_rfl) rfl (by simp [Value.oneCell']) ?_))
          refine bodyPost_ret (results_ct rfl _ _ b4 _ _ _ _ rfl S3L.out.zero.res Tryd.underlying31 rfl (by kernel_rfl)) rfl ?_
          exact ⟨rfl, S3L.out.zero.hb⟩
        · rw [if_neg hgt] at h
          have HH := Lib.hid h
          clear h
          go_wp2_with (first | ((with_reducible refine gate_store (p := 7) rfl ?_); refine wpList_store_row rfl 57 (.tmp 7) (.tmp 36) rfl br #[.string S2, .int .i64 A2, .int .i64 0] rfl rfl 57 _ S3.out.rd (by kernel_rfl) rfl (by simp [Value.oneCell']) ?_))
          refine wp_region_inv (fun a0 w_0 b a' w' => ∃ x47 x48 x49 x50 x51 x52 x9 : Value, a' = (((((((a0.put (some 47) x47).put (some 48) x48).put (some 49) x49).put (some 50) x50).put (some 51) x51).put (some 52) x52).put (some 9) x9) ∧ rf_St w w' b4 br S2 A2 0 ∧ (b 6 = true → b 7 = false → ∃ bc, x9 = .pointer (some ⟨bc, 0, none⟩) ∧ w.heap.size ≤ bc ∧ bc ≠ b4 ∧ w'.heap[bc]? = some (.cells #[.int .u8 0, .bool false, .int .i64 0, .string ⟨#[]⟩, .int .i64 0] 31 (0, 0))) ∧ (b 7 = true → ∃ bc, x9 = .pointer (some ⟨bc, 0, none⟩) ∧ rf_Ck w w' b4 br bc S2 A2 0 k1 (h2 == 1) 0 ⟨#[]⟩ 0) ∧ (b 7 = true → b 6 = true) ∧ (b 0 = true → x47 = .string r1) ∧ (b 1 = true → x48 = .int .u8 k1) ∧ (b 2 = true → x49 = .string r2) ∧ (b 3 = true → x50 = .int .u8 h2) ∧ (b 4 = true → x51 = .bool (h2 == 1)) ∧ (b 5 = true → x52 = .agg #[.int .u8 k1, .bool (h2 == 1), .int .i64 0, .string ⟨#[]⟩, .int .i64 0])) (by kernel_rfl) (by kernel_rfl) ?start ⟨?op0, ?op1, ?op2, ?op3, ?op4, ?op5, ?op6, ?op7, trivial⟩ ?done
          case start => exact ⟨_, _, _, _, _, _, _, by simp only [Act.put, List.setIfInBounds_toArray, List.set_cons_zero, List.set_cons_succ]; rfl, S3L.out.drew, fun h => absurd h (by decide), fun h => absurd h (by decide), fun h => absurd h (by decide), fun h => absurd h (by decide), fun h => absurd h (by decide), fun h => absurd h (by decide), fun h => absurd h (by decide), fun h => absurd h (by decide), fun h => absurd h (by decide)⟩
          case op0 =>
            rintro bb _ w' ⟨x47, x48, x49, x50, x51, x52, x9, rfl, HS, RZ, RC, H7, p47, p48, p49, p50, p51, p52⟩ hb hd K hK
            simp only [Act.put, List.setIfInBounds_toArray, List.set_cons_zero, List.set_cons_succ]
            rw [if_pos (by rfl)]
            go_simp
            exact hK _ _ ⟨.string r1, x48, x49, x50, x51, x52, x9, by simp only [Act.put, List.setIfInBounds_toArray, List.set_cons_zero, List.set_cons_succ], HS, fun h h2 => RZ (by simpa [upb] using h) (by simpa [upb] using h2), fun h => RC (by simpa [upb] using h), fun h => by have := H7 (by simpa [upb] using h); simpa [upb] using this, fun _ => rfl, fun h => p48 (by simpa [upb] using h), fun h => p49 (by simpa [upb] using h), fun h => p50 (by simpa [upb] using h), fun h => p51 (by simpa [upb] using h), fun h => p52 (by simpa [upb] using h)⟩
          case op1 =>
            rintro bb _ w' ⟨x47, x48, x49, x50, x51, x52, x9, rfl, HS, RZ, RC, H7, p47, p48, p49, p50, p51, p52⟩ hb hd K hK
            simp only [Act.put, List.setIfInBounds_toArray, List.set_cons_zero, List.set_cons_succ]
            obtain rfl := (p47 (hd 0 (by decide))).symm
            rw [if_pos (by rfl)]
            go_simp
            exact hK _ _ ⟨.string r1, .int .u8 k1, x49, x50, x51, x52, x9, by simp only [Act.put, List.setIfInBounds_toArray, List.set_cons_zero, List.set_cons_succ], HS, fun h h2 => RZ (by simpa [upb] using h) (by simpa [upb] using h2), fun h => RC (by simpa [upb] using h), fun h => by have := H7 (by simpa [upb] using h); simpa [upb] using this, fun _ => rfl, fun _ => rfl, fun h => p49 (by simpa [upb] using h), fun h => p50 (by simpa [upb] using h), fun h => p51 (by simpa [upb] using h), fun h => p52 (by simpa [upb] using h)⟩
          case op2 =>
            rintro bb _ w' ⟨x47, x48, x49, x50, x51, x52, x9, rfl, HS, RZ, RC, H7, p47, p48, p49, p50, p51, p52⟩ hb hd K hK
            simp only [Act.put, List.setIfInBounds_toArray, List.set_cons_zero, List.set_cons_succ]
            rw [if_pos (by rfl)]
            go_simp
            exact hK _ _ ⟨x47, x48, .string r2, x50, x51, x52, x9, by simp only [Act.put, List.setIfInBounds_toArray, List.set_cons_zero, List.set_cons_succ], HS, fun h h2 => RZ (by simpa [upb] using h) (by simpa [upb] using h2), fun h => RC (by simpa [upb] using h), fun h => by have := H7 (by simpa [upb] using h); simpa [upb] using this, fun h => p47 (by simpa [upb] using h), fun h => p48 (by simpa [upb] using h), fun _ => rfl, fun h => p50 (by simpa [upb] using h), fun h => p51 (by simpa [upb] using h), fun h => p52 (by simpa [upb] using h)⟩
          case op3 =>
            rintro bb _ w' ⟨x47, x48, x49, x50, x51, x52, x9, rfl, HS, RZ, RC, H7, p47, p48, p49, p50, p51, p52⟩ hb hd K hK
            simp only [Act.put, List.setIfInBounds_toArray, List.set_cons_zero, List.set_cons_succ]
            obtain rfl := (p49 (hd 2 (by decide))).symm
            rw [if_pos (by rfl)]
            go_simp
            exact hK _ _ ⟨x47, x48, .string r2, .int .u8 h2, x51, x52, x9, by simp only [Act.put, List.setIfInBounds_toArray, List.set_cons_zero, List.set_cons_succ], HS, fun h h2 => RZ (by simpa [upb] using h) (by simpa [upb] using h2), fun h => RC (by simpa [upb] using h), fun h => by have := H7 (by simpa [upb] using h); simpa [upb] using this, fun h => p47 (by simpa [upb] using h), fun h => p48 (by simpa [upb] using h), fun _ => rfl, fun _ => rfl, fun h => p51 (by simpa [upb] using h), fun h => p52 (by simpa [upb] using h)⟩
          case op4 =>
            rintro bb _ w' ⟨x47, x48, x49, x50, x51, x52, x9, rfl, HS, RZ, RC, H7, p47, p48, p49, p50, p51, p52⟩ hb hd K hK
            simp only [Act.put, List.setIfInBounds_toArray, List.set_cons_zero, List.set_cons_succ]
            obtain rfl := (p50 (hd 3 (by decide))).symm
            rw [if_pos (by rfl)]
            go_simp
            exact hK _ _ ⟨x47, x48, x49, .int .u8 h2, .bool (h2 == 1), x52, x9, by simp only [Act.put, List.setIfInBounds_toArray, List.set_cons_zero, List.set_cons_succ], HS, fun h h2 => RZ (by simpa [upb] using h) (by simpa [upb] using h2), fun h => RC (by simpa [upb] using h), fun h => by have := H7 (by simpa [upb] using h); simpa [upb] using this, fun h => p47 (by simpa [upb] using h), fun h => p48 (by simpa [upb] using h), fun h => p49 (by simpa [upb] using h), fun _ => rfl, fun _ => rfl, fun h => p52 (by simpa [upb] using h)⟩
          case op5 =>
            rintro bb _ w' ⟨x47, x48, x49, x50, x51, x52, x9, rfl, HS, RZ, RC, H7, p47, p48, p49, p50, p51, p52⟩ hb hd K hK
            simp only [Act.put, List.setIfInBounds_toArray, List.set_cons_zero, List.set_cons_succ]
            obtain rfl := (p48 (hd 1 (by decide))).symm
            obtain rfl := (p51 (hd 4 (by decide))).symm
            rw [if_pos (by rfl)]
            go_simp
            exact hK _ _ ⟨x47, .int .u8 k1, x49, x50, .bool (h2 == 1), .agg #[.int .u8 k1, .bool (h2 == 1), .int .i64 0, .string ⟨#[]⟩, .int .i64 0], x9, by simp only [Act.put, List.setIfInBounds_toArray, List.set_cons_zero, List.set_cons_succ], HS, fun h h2 => RZ (by simpa [upb] using h) (by simpa [upb] using h2), fun h => RC (by simpa [upb] using h), fun h => by have := H7 (by simpa [upb] using h); simpa [upb] using this, fun h => p47 (by simpa [upb] using h), fun _ => rfl, fun h => p49 (by simpa [upb] using h), fun h => p50 (by simpa [upb] using h), fun _ => rfl, fun _ => rfl⟩
          case op6 =>
            rintro bb _ w' ⟨x47, x48, x49, x50, x51, x52, x9, rfl, HS, RZ, RC, H7, p47, p48, p49, p50, p51, p52⟩ hb hd K hK
            simp only [Act.put, List.setIfInBounds_toArray, List.set_cons_zero, List.set_cons_succ]
            rw [if_pos (by rfl)]
            have h7 := H7
            go_simp
            exact hK _ _ ⟨x47, x48, x49, x50, x51, x52, .pointer (some ⟨w'.heap.size, 0, none⟩), by simp only [Act.put, List.setIfInBounds_toArray, List.set_cons_zero, List.set_cons_succ], HS.next (below_alloc (Below.refl _ _) _), fun _ _ => ⟨_, rfl, HS.hb.size, (by have := blk_lt HS.res; omega), blk_new _ _⟩, fun h => absurd (h7 (by simpa [upb] using h)) (by rw [hb]; decide), fun h => by simp [upb], fun h => p47 (by simpa [upb] using h), fun h => p48 (by simpa [upb] using h), fun h => p49 (by simpa [upb] using h), fun h => p50 (by simpa [upb] using h), fun h => p51 (by simpa [upb] using h), fun h => p52 (by simpa [upb] using h)⟩
          case op7 =>
            rintro bb _ w' ⟨x47, x48, x49, x50, x51, x52, x9, rfl, HS, RZ, RC, H7, p47, p48, p49, p50, p51, p52⟩ hb hd K hK
            simp only [Act.put, List.setIfInBounds_toArray, List.set_cons_zero, List.set_cons_succ]
            obtain rfl := (p52 (hd 5 (by decide))).symm
            rw [if_pos (by rfl)]
            obtain ⟨bc, e9, hz1, hz2, hz3⟩ := RZ (hd 6 (by decide)) hb
            subst e9
            refine wp_store_row 31 (.tmp 9) (.tmp 52) rfl bc #[.int .u8 k1, .bool (h2 == 1), .int .i64 0, .string ⟨#[]⟩, .int .i64 0] rfl rfl 31 _ hz3 (by kernel_rfl) rfl (by simp [Value.oneCell']) ?_
            exact hK _ _ ⟨x47, x48, x49, x50, x51, .agg #[.int .u8 k1, .bool (h2 == 1), .int .i64 0, .string ⟨#[]⟩, .int .i64 0], .pointer (some ⟨bc, 0, none⟩), by simp only [Act.put, List.setIfInBounds_toArray, List.set_cons_zero, List.set_cons_succ], (HS.lay hz3 hz1 hz2 k1 (h2 == 1)).st, fun _ h => absurd h (by simp [upb]), fun _ => ⟨bc, rfl, HS.lay hz3 hz1 hz2 k1 (h2 == 1)⟩, fun _ => by simpa [upb] using hd 6 (by decide), fun h => p47 (by simpa [upb] using h), fun h => p48 (by simpa [upb] using h), fun h => p49 (by simpa [upb] using h), fun h => p50 (by simpa [upb] using h), fun h => p51 (by simpa [upb] using h), fun _ => rfl⟩
          case done =>
            rintro bb _ w' hb ⟨x47, x48, x49, x50, x51, x52, x9, rfl, HS, RZ, RC, H7, p47, p48, p49, p50, p51, p52⟩
            obtain rfl := (p47 (hb 0 (by decide))).symm
            obtain rfl := (p48 (hb 1 (by decide))).symm
            obtain rfl := (p49 (hb 2 (by decide))).symm
            obtain rfl := (p50 (hb 3 (by decide))).symm
            obtain rfl := (p51 (hb 4 (by decide))).symm
            obtain rfl := (p52 (hb 5 (by decide))).symm
            simp only [Act.put, List.setIfInBounds_toArray, List.set_cons_zero, List.set_cons_succ]
            obtain ⟨bc, e9, HC⟩ := RC (hb 7 (by decide))
            subst e9
            have S9 := Lib.hid HC
            clear HC HS RZ RC H7
            clear hb p47 p48 p49 p50 p51 p52
            obtain ⟨pq, hpq⟩ : ∃ q, (h2 == (1 : Int)) = q := ⟨_, rfl⟩
            rw [hpq] at S9 ⊢
            have HPQ := Lib.hid hpq
            clear hpq
            have h := HH.out
            clear HH
            obtain ⟨⟨n3, S3, A3, E3⟩, hv3, hX⟩ := Option.bind_eq_some_iff.1 h
            clear h
            have h := hX
            clear hX
            obtain ⟨⟨n4, S4, A4, E4⟩, hv4, hX⟩ := Option.bind_eq_some_iff.1 h
            clear h
            have h := hX
            clear hX
            simp only at h hv4
            have HV3 := Lib.hid hv3
            have HV4 := Lib.hid hv4
            clear hv3 hv4
            have HH := Lib.hid h
            clear h
            go_wp2_with (first | ((with_reducible refine gate_dst (N := 54) rfl ?_); refine wpList_load_row rfl 57 (.tmp 7) rfl br rfl 57 _ _ _ S9.out.st.rd Tryd.underlying57 rfl (by kernel_rfl) ?_))
            refine (rematchref01_Reader_Num.calls k S2 A2 0 2147483647 n3 S3 A3 E3 _ HV3.out).mono ?_; rintro en w5 ⟨rfl, b5⟩
            have T5 := Lib.hid (S9.out.next b5)
            have T5L := Lib.hid (T5.out.load (S2 := S3) (A2 := A3) (E2 := E3))
            clear b5 S9
            go_wp2_with (first | ((with_reducible refine gate_store (p := 7) rfl ?_); refine wpList_store_row rfl 57 (.tmp 7) (.tmp 57) rfl br #[.string S3, .int .i64 A3, .int .i64 E3] rfl rfl 57 _ T5.out.st.rd (by kernel_rfl) rfl (by simp [Value.oneCell']) ?_) | ((with_reducible refine gate_dst (N := 59) rfl ?_); refine wpList_load_row rfl 57 (.tmp 7) rfl br rfl 57 _ _ _ T5L.out.st.rd Tryd.underlying57 rfl (by kernel_rfl) ?_))
            refine (rematchref01_Reader_Num.calls k S3 A3 E3 2147483647 n4 S4 A4 E4 _ HV4.out).mono ?_; rintro en w6 ⟨rfl, b6⟩
            have T6 := Lib.hid (T5L.out.next b6)
            have T6L := Lib.hid (T6.out.load (S2 := S4) (A2 := A4) (E2 := E4))
            have T6S := Lib.hid T6L.out.st
            clear b6 T5 T5L
            have k12 : (w6.setRow br #[.string S4, .int .i64 A4, .int .i64 E4]).cell? ⟨br, 2, none⟩ = some (.int .i64 E4) := blk_cell T6S.out.rd 2
            have k13 : (w6.setRow br #[.string S4, .int .i64 A4, .int .i64 E4]).cell? ⟨bc, 1, none⟩ = some (.bool pq) := blk_cell T6L.out.ck 1
            by_cases he4 : E4 = 0
            · subst he4
              have h := HH.out
              clear HH
              rw [if_neg (fun hn => hn rfl)] at h
              by_cases hrg : 0 ≤ n3 ∧ n3 ≤ 2147483647 ∧ 0 ≤ n4 ∧ n4 ≤ 2147483647
              · rw [if_neg (fun hn => hn hrg)] at h
                have c3 : IntKind.i64.wrap n3 = n3 := IntWalk.i64_in _ (by omega)
                have c4 : IntKind.i64.wrap n4 = n4 := IntWalk.i64_in _ (by omega)
                by_cases hp : h2 = 1
                · obtain rfl : pq = true := by rw [← HPQ.out, hp]; rfl
                  by_cases hn : n3 ≤ n4
                  · rw [if_pos (.inr ⟨hp, hn⟩)] at h
                    unfold rf_none at h
                    injection h with h
                    simp only [Prod.mk.injEq] at h
                    obtain ⟨r1, r2, r3, r4, r5, r6⟩ := h
                    subst r1 r2 r3 r4 r5 r6
                    go_wp2_with (first | ((with_reducible refine gate_store (p := 7) rfl ?_); refine wpList_store_row rfl 57 (.tmp 7) (.tmp 62) rfl br #[.string S4, .int .i64 A4, .int .i64 0] rfl rfl 57 _ T6.out.st.rd (by kernel_rfl) rfl (by simp [Value.oneCell']) ?_) | ((with_reducible refine gate_store (p := 4) rfl ?_); refine wpList_store_row rfl 31 (.tmp 4) (.tmp 86) rfl b4 #[.int .u8 0, .bool false, .int .i64 0, .string ⟨#[]⟩, .int .i64 0] rfl rfl 31 _ T6L.out.st.res (by kernel_rfl) rfl (by simp [Value.oneCell']) ?_))
                    refine bodyPost_ret (results_ct rfl _ _ b4 _ _ _ _ rfl T6L.out.st.zero.res Tryd.underlying31 rfl (by kernel_rfl)) rfl ?_
                    exact ⟨rfl, T6L.out.st.zero.hb⟩
                  · rw [if_neg (by omega)] at h
                    obtain ⟨⟨r5, S5, A5, E5⟩, hv5, hX⟩ := Option.bind_eq_some_iff.1 h
                    clear h
                    have h := hX
                    clear hX
                    obtain ⟨⟨r6, S6, A6, E6⟩, hv6, hX⟩ := Option.bind_eq_some_iff.1 h
                    clear h
                    have h := hX
                    clear hX
                    simp only at h hv6
                    have HV5 := Lib.hid hv5
                    have HV6 := Lib.hid hv6
                    clear hv5 hv6
                    have HH := Lib.hid h
                    clear h
                    go_wp2_with (first | ((with_reducible refine gate_store (p := 7) rfl ?_); refine wpList_store_row rfl 57 (.tmp 7) (.tmp 62) rfl br #[.string S4, .int .i64 A4, .int .i64 0] rfl rfl 57 _ T6.out.st.rd (by kernel_rfl) rfl (by simp [Value.oneCell']) ?_) | ((with_reducible refine gate_dst (N := 88) rfl ?_); refine wpList_load_row rfl 57 (.tmp 7) rfl br rfl 57 _ _ _ T6L.out.st.rd Tryd.underlying57 rfl (by kernel_rfl) ?_))
                    refine (rematchref01_Reader_Bytes.calls S4 A4 0 n4 r5 S5 A5 E5 _ HV5.out).mono ?_; rintro en w7 ⟨rfl, b7⟩
                    have U7 := Lib.hid (T6L.out.next b7)
                    have U7L := Lib.hid (U7.out.load (S2 := S5) (A2 := A5) (E2 := E5))
                    have k17 : (w7.setRow br #[.string S5, .int .i64 A5, .int .i64 E5]).cell? ⟨br, 1, none⟩ = some (.int .i64 A5) := blk_cell U7L.out.st.rd 1
                    clear b7 T6 T6L T6S k12 k13
                    go_wp2_with (first | ((with_reducible refine gate_store (p := 7) rfl ?_); refine wpList_store_row rfl 57 (.tmp 7) (.tmp 93) rfl br #[.string S5, .int .i64 A5, .int .i64 E5] rfl rfl 57 _ U7.out.st.rd (by kernel_rfl) rfl (by simp [Value.oneCell']) ?_) | ((with_reducible refine gate_dst (N := 97) rfl ?_); refine wpList_load_row rfl 57 (.tmp 7) rfl br rfl 57 _ _ _ U7L.out.st.rd Tryd.underlying57 rfl (by kernel_rfl) ?_))
                    clear k17
                    refine (rematchref01_Reader_Bytes.calls S5 A5 E5 4 r6 S6 A6 E6 _ HV6.out).mono ?_; rintro en w8 ⟨rfl, b8⟩
                    have U8 := Lib.hid (U7L.out.next b8)
                    have U8L := Lib.hid (U8.out.load (S2 := S6) (A2 := A6) (E2 := E6))
                    have U8S := Lib.hid U8L.out.st
                    have k19 : (w8.setRow br #[.string S6, .int .i64 A6, .int .i64 E6]).cell? ⟨br, 2, none⟩ = some (.int .i64 E6) := blk_cell U8S.out.rd 2
                    have k191 : (w8.setRow br #[.string S6, .int .i64 A6, .int .i64 E6]).cell? ⟨br, 1, none⟩ = some (.int .i64 A6) := blk_cell U8S.out.rd 1
                    clear b8 U7 U7L
                    by_cases he6 : E6 = 0
                    · subst he6
                      have h := HH.out
                      clear HH
                      rw [if_neg (fun hn => hn rfl)] at h
                      by_cases hG : 0 ≤ A5 ∧ (m : Int) + A5 ≤ s.size ∧ 0 ≤ A6 ∧ A6 ≤ s.size
                      · rw [if_neg (fun hn => hn hG)] at h
                        obtain ⟨g1, g2, g3, g4⟩ := hG
                        obtain ⟨q5, rfl⟩ := Int.eq_ofNat_of_zero_le g1
                        obtain ⟨E, hE⟩ : ∃ E : Nat, m + q5 = E := ⟨_, rfl⟩
                        have HW5 := Lib.hid (show wrap64 ((m : Int) + (q5 : Int)) = (E : Int) by unfold wrap64; omega)
                        have HW6 := Lib.hid (show wrap64 ((m : Int) + A6) = (m : Int) + A6 by unfold wrap64; omega)
                        rw [show ((m : Int) + (q5 : Int)).toNat = E by omega] at h
                        have hmE : (m : Int) ≤ E := by omega
                        have hEs : (E : Int) ≤ s.size := by omega
                        have hmE' : m ≤ E := by omega
                        have hEs' : E ≤ s.size := by omega
                        obtain ⟨sf, hf, hX⟩ := Option.bind_eq_some_iff.1 h
                        clear h
                        have h := hX
                        clear hX
                        have HF := Lib.hid hf
                        have HEQ := Lib.hid hE
                        clear hf hE
                        obtain ⟨Dq, hDq⟩ : ∃ D, s.extract m E = D := ⟨_, rfl⟩
                        have HD := Lib.hid hDq
                        have hDs : Dq.size ≤ 100000 := by rw [← hDq, ByteArray.size_extract]; omega
                        rw [hDq] at HF
                        obtain ⟨W8, hW8⟩ : ∃ W8, w8.setRow br #[.string S6, .int .i64 A6, .int .i64 0] = W8 := ⟨_, rfl⟩
                        rw [hW8] at U8L U8S k19 k191
                        have HW8 := Lib.hid hW8
                        clear hW8
                        have kb := print_bytes (P := Tryd.prog) 9 22 5 Tryd.underlying9 Tryd.underlying22 (by kernel_rfl) Dq W8
                        have BW := Lib.hid (bytes_below (Below.refl W8.heap.size _) (Nat.le_refl _) 5 Dq)
                        have HRD := Lib.hid (rf_rd W8 Dq (by omega))
                        have HH := Lib.hid h
                        clear h
                        have hE' : (m : Int) + (q5 : Int) = (E : Int) := by have := HEQ.out; omega
                        have HWE := Lib.hid (show wrap64 (E : Int) = (E : Int) by unfold wrap64; omega)
                        have hw5 := HWE.out
                        clear g1 g2 HW5 U8S
                        go_wp2_with (first | ((with_reducible refine gate_store (p := 7) rfl ?_); refine wpList_store_row rfl 57 (.tmp 7) (.tmp 100) rfl br #[.string S6, .int .i64 A6, .int .i64 0] rfl rfl 57 _ U8.out.st.rd (by kernel_rfl) rfl (by simp [Value.oneCell']) ?_; rw [HW8.out]))
                        refine (rsum_any _ _ _ (bytesOf Dq) _ HRD.out).mono ?_; rintro en w9 ⟨rfl, hw9⟩
                        have BW9 := BW.out
                        rw [hw9] at BW9
                        have U9 := Lib.hid (U8L.out.next BW9)
                        clear kb HRD BW BW9 hw9 hE' hw5 hDq k19 k191 U8L
                        go_wp2_with fail
                        refine (rematchref01_Fixed.calls (ck_crc (bytesOf Dq)) sf _ HF.out).mono ?_; rintro en w10 ⟨rfl, b10⟩
                        have U10 := Lib.hid (U9.out.next b10)
                        clear b10 U9
                        have h := HH.out
                        clear HH
                        by_cases hsum : sf.toList = r6.toList
                        · rw [if_neg (fun hn => hn hsum)] at h
                          have s1 : (sf.toList == r6.toList) = true := by simpa using hsum
                          injection h with h
                          simp only [Prod.mk.injEq] at h
                          obtain ⟨z1, z2, z3, z4, z5, z6⟩ := h
                          have HZ2 := Lib.hid z2
                          subst z1 z3 z4 z5 z6
                          clear z2
                          have V2 := Lib.hid (U10.out.set2 n3)
                          have V3 := Lib.hid (V2.out.set3 r5)
                          have V4 := Lib.hid (V3.out.set4 ((m : Int) + A6))
                          have ca2 : w10.cell? ⟨bc, 2, none⟩ = some (.int .i64 0) := blk_cell U10.out.ck 2
                          have fa2 : w10.frozen? ⟨bc, 2, none⟩ = false := blk_frozen U10.out.ck 2
                          have ca3 : (w10.setCell ⟨bc, 2, none⟩ (.int .i64 n3)).cell? ⟨bc, 3, none⟩ = some (.string ⟨#[]⟩) := blk_cell V2.out.ck 3
                          have fa3 : (w10.setCell ⟨bc, 2, none⟩ (.int .i64 n3)).frozen? ⟨bc, 3, none⟩ = false := blk_frozen V2.out.ck 3
                          have ca1 : ((w10.setCell ⟨bc, 2, none⟩ (.int .i64 n3)).setCell ⟨bc, 3, none⟩ (.string r5)).cell? ⟨br, 1, none⟩ = some (.int .i64 A6) := blk_cell V3.out.st.rd 1
                          have ca4 : ((w10.setCell ⟨bc, 2, none⟩ (.int .i64 n3)).setCell ⟨bc, 3, none⟩ (.string r5)).cell? ⟨bc, 4, none⟩ = some (.int .i64 0) := blk_cell V3.out.ck 4
                          have fa4 : ((w10.setCell ⟨bc, 2, none⟩ (.int .i64 n3)).setCell ⟨bc, 3, none⟩ (.string r5)).frozen? ⟨bc, 4, none⟩ = false := blk_frozen V3.out.ck 4
                          have hw6 := HW6.out
                          go_wp2_with (first | ((with_reducible refine gate_dst (N := 129) rfl ?_); refine wpList_load_row rfl 31 (.tmp 9) rfl bc rfl 31 _ _ _ V4.out.ck Tryd.underlying31 rfl (by kernel_rfl) ?_) | ((with_reducible refine gate_store (p := 4) rfl ?_); refine wpList_store_row rfl 31 (.tmp 4) (.tmp 129) rfl b4 #[.int .u8 k1, .bool true, .int .i64 n3, .string r5, .int .i64 ((m : Int) + A6)] rfl rfl 31 _ V4.out.st.res (by kernel_rfl) rfl (by simp [Value.oneCell']) ?_))
                          refine bodyPost_ret (results_ct rfl _ _ b4 _ _ _ _ rfl (setRow_heap _ _ _ _ _ _ V4.out.st.res) Tryd.underlying31 rfl (by kernel_rfl)) rfl ?_
                          exact ⟨by rw [← HZ2.out]; simp [hp], ck_setRow_below V4.out.st.hb _ _ V4.out.st.gb⟩
                        · rw [if_pos hsum] at h
                          unfold rf_none at h
                          injection h with h
                          simp only [Prod.mk.injEq] at h
                          obtain ⟨r1, r2, r3, r4, r5, r6⟩ := h
                          subst r1 r2 r3 r4 r5 r6
                          have s1 : (sf.toList == r6.toList) = false := by simpa using hsum
                          go_wp2_with (first | ((with_reducible refine gate_store (p := 4) rfl ?_); refine wpList_store_row rfl 31 (.tmp 4) (.tmp 118) rfl b4 #[.int .u8 0, .bool false, .int .i64 0, .string ⟨#[]⟩, .int .i64 0] rfl rfl 31 _ U10.out.st.res (by kernel_rfl) rfl (by simp [Value.oneCell']) ?_))
                          refine bodyPost_ret (results_ct rfl _ _ b4 _ _ _ _ rfl U10.out.st.zero.res Tryd.underlying31 rfl (by kernel_rfl)) rfl ?_
                          exact ⟨rfl, U10.out.st.zero.hb⟩
                      · rw [if_pos hG] at h
                        cases h
                    · have h := HH.out
                      clear HH
                      rw [if_pos he6] at h
                      unfold rf_none at h
                      injection h with h
                      simp only [Prod.mk.injEq] at h
                      obtain ⟨r1, r2, r3, r4, r5, r6⟩ := h
                      subst r1 r2 r3 r4 r5 r6
                      have g1 : (E6 == (0 : Int)) = false := by simpa using he6
                      have g2 : (E6 != (0 : Int)) = true := by simpa using he6
                      go_wp2_with (first | ((with_reducible refine gate_store (p := 7) rfl ?_); refine wpList_store_row rfl 57 (.tmp 7) (.tmp 100) rfl br #[.string S6, .int .i64 A6, .int .i64 E6] rfl rfl 57 _ U8.out.st.rd (by kernel_rfl) rfl (by simp [Value.oneCell']) ?_))
                      refine wp_region_inv (fun a0 w_0 b a' w' => ∃ x104 x105 x106 x5 : Value, a' = ((((a0.put (some 104) x104).put (some 105) x105).put (some 106) x106).put (some 5) x5) ∧ rf_St w w' b4 br S6 A6 E6 ∧ (b 0 = true → x104 = .agg #[.int .u8 0, .bool false, .int .i64 0, .string ⟨#[]⟩, .int .i64 0]) ∧ (b 1 = true → x105 = .pointer (some ⟨br, 2, none⟩)) ∧ (b 2 = true → x106 = .int .i64 E6) ∧ (b 4 = true → x5 = .int .i64 E6)) (by kernel_rfl) (by kernel_rfl) ?start ⟨?op0, ?op1, ?op2, ?op3, ?op4, trivial⟩ ?done
                      case start => exact ⟨_, _, _, _, by simp only [Act.put, List.setIfInBounds_toArray, List.set_cons_zero, List.set_cons_succ]; rfl, U8S.out.drew, fun h => absurd h (by decide), fun h => absurd h (by decide), fun h => absurd h (by decide), fun h => absurd h (by decide)⟩
                      case op0 =>
                        rintro bb _ w' ⟨x104, x105, x106, x5, rfl, HS, p104, p105, p106, p5⟩ hb hd K hK
                        simp only [Act.put, List.setIfInBounds_toArray, List.set_cons_zero, List.set_cons_succ]
                        rw [if_pos (by rfl)]
                        go_simp
                        exact hK _ _ ⟨.agg #[.int .u8 0, .bool false, .int .i64 0, .string ⟨#[]⟩, .int .i64 0], x105, x106, x5, by simp only [Act.put, List.setIfInBounds_toArray, List.set_cons_zero, List.set_cons_succ], HS, fun _ => rfl, fun h => p105 (by simpa [upb] using h), fun h => p106 (by simpa [upb] using h), fun h => p5 (by simpa [upb] using h)⟩
                      case op1 =>
                        rintro bb _ w' ⟨x104, x105, x106, x5, rfl, HS, p104, p105, p106, p5⟩ hb hd K hK
                        simp only [Act.put, List.setIfInBounds_toArray, List.set_cons_zero, List.set_cons_succ]
                        rw [if_pos (by rfl)]
                        go_simp
                        exact hK _ _ ⟨x104, .pointer (some ⟨br, 2, none⟩), x106, x5, by simp only [Act.put, List.setIfInBounds_toArray, List.set_cons_zero, List.set_cons_succ], HS, fun h => p104 (by simpa [upb] using h), fun _ => rfl, fun h => p106 (by simpa [upb] using h), fun h => p5 (by simpa [upb] using h)⟩
                      case op2 =>
                        rintro bb _ w' ⟨x104, x105, x106, x5, rfl, HS, p104, p105, p106, p5⟩ hb hd K hK
                        simp only [Act.put, List.setIfInBounds_toArray, List.set_cons_zero, List.set_cons_succ]
                        obtain rfl := (p105 (hd 1 (by decide))).symm
                        rw [if_pos (by rfl)]
                        have k0 : w'.cell? ⟨br, 2, none⟩ = some (.int .i64 E6) := blk_cell HS.rd 2
                        go_simp
                        exact hK _ _ ⟨x104, .pointer (some ⟨br, 2, none⟩), .int .i64 E6, x5, by simp only [Act.put, List.setIfInBounds_toArray, List.set_cons_zero, List.set_cons_succ], HS, fun h => p104 (by simpa [upb] using h), fun _ => rfl, fun _ => rfl, fun h => p5 (by simpa [upb] using h)⟩
                      case op3 =>
                        rintro bb _ w' ⟨x104, x105, x106, x5, rfl, HS, p104, p105, p106, p5⟩ hb hd K hK
                        simp only [Act.put, List.setIfInBounds_toArray, List.set_cons_zero, List.set_cons_succ]
                        obtain rfl := (p104 (hd 0 (by decide))).symm
                        rw [if_pos (by rfl)]
                        refine wp_store_row 31 (.tmp 4) (.tmp 104) rfl b4 #[.int .u8 0, .bool false, .int .i64 0, .string ⟨#[]⟩, .int .i64 0] rfl rfl 31 _ HS.res (by kernel_rfl) rfl (by simp [Value.oneCell']) ?_
                        exact hK _ _ ⟨.agg #[.int .u8 0, .bool false, .int .i64 0, .string ⟨#[]⟩, .int .i64 0], x105, x106, x5, by simp only [Act.put, List.setIfInBounds_toArray, List.set_cons_zero, List.set_cons_succ], HS.zero, fun _ => rfl, fun h => p105 (by simpa [upb] using h), fun h => p106 (by simpa [upb] using h), fun h => p5 (by simpa [upb] using h)⟩
                      case op4 =>
                        rintro bb _ w' ⟨x104, x105, x106, x5, rfl, HS, p104, p105, p106, p5⟩ hb hd K hK
                        simp only [Act.put, List.setIfInBounds_toArray, List.set_cons_zero, List.set_cons_succ]
                        obtain rfl := (p106 (hd 2 (by decide))).symm
                        rw [if_pos (by rfl)]
                        go_simp
                        exact hK _ _ ⟨x104, x105, .int .i64 E6, .int .i64 E6, by simp only [Act.put, List.setIfInBounds_toArray, List.set_cons_zero, List.set_cons_succ], HS, fun h => p104 (by simpa [upb] using h), fun h => p105 (by simpa [upb] using h), fun _ => rfl, fun _ => rfl⟩
                      case done =>
                        rintro bb _ w' hb ⟨x104, x105, x106, x5, rfl, HS, p104, p105, p106, p5⟩
                        obtain rfl := (p104 (hb 0 (by decide))).symm
                        obtain rfl := (p105 (hb 1 (by decide))).symm
                        obtain rfl := (p106 (hb 2 (by decide))).symm
                        obtain rfl := (p5 (hb 4 (by decide))).symm
                        simp only [Act.put, List.setIfInBounds_toArray, List.set_cons_zero, List.set_cons_succ]
                        clear hb p104 p105 p106 p5
                        go_wp2_with fail
                        refine bodyPost_ret (results_ct rfl _ _ b4 _ _ _ _ rfl HS.res Tryd.underlying31 rfl (by kernel_rfl)) rfl ?_
                        exact ⟨rfl, HS.hb⟩
                · obtain rfl : pq = false := by rw [← HPQ.out]; simpa using hp
                  by_cases hn : n4 = n3
                  · subst hn
                    rw [if_neg (by omega)] at h
                    obtain ⟨⟨r5, S5, A5, E5⟩, hv5, hX⟩ := Option.bind_eq_some_iff.1 h
                    clear h
                    have h := hX
                    clear hX
                    obtain ⟨⟨r6, S6, A6, E6⟩, hv6, hX⟩ := Option.bind_eq_some_iff.1 h
                    clear h
                    have h := hX
                    clear hX
                    simp only at h hv6
                    have HV5 := Lib.hid hv5
                    have HV6 := Lib.hid hv6
                    clear hv5 hv6
                    have HH := Lib.hid h
                    clear h
                    go_wp2_with (first | ((with_reducible refine gate_store (p := 7) rfl ?_); refine wpList_store_row rfl 57 (.tmp 7) (.tmp 62) rfl br #[.string S4, .int .i64 A4, .int .i64 0] rfl rfl 57 _ T6.out.st.rd (by kernel_rfl) rfl (by simp [Value.oneCell']) ?_) | ((with_reducible refine gate_dst (N := 88) rfl ?_); refine wpList_load_row rfl 57 (.tmp 7) rfl br rfl 57 _ _ _ T6L.out.st.rd Tryd.underlying57 rfl (by kernel_rfl) ?_))
                    refine (rematchref01_Reader_Bytes.calls S4 A4 0 n4 r5 S5 A5 E5 _ HV5.out).mono ?_; rintro en w7 ⟨rfl, b7⟩
                    have U7 := Lib.hid (T6L.out.next b7)
                    have U7L := Lib.hid (U7.out.load (S2 := S5) (A2 := A5) (E2 := E5))
                    have k17 : (w7.setRow br #[.string S5, .int .i64 A5, .int .i64 E5]).cell? ⟨br, 1, none⟩ = some (.int .i64 A5) := blk_cell U7L.out.st.rd 1
                    clear b7 T6 T6L T6S k12 k13
                    go_wp2_with (first | ((with_reducible refine gate_store (p := 7) rfl ?_); refine wpList_store_row rfl 57 (.tmp 7) (.tmp 93) rfl br #[.string S5, .int .i64 A5, .int .i64 E5] rfl rfl 57 _ U7.out.st.rd (by kernel_rfl) rfl (by simp [Value.oneCell']) ?_) | ((with_reducible refine gate_dst (N := 97) rfl ?_); refine wpList_load_row rfl 57 (.tmp 7) rfl br rfl 57 _ _ _ U7L.out.st.rd Tryd.underlying57 rfl (by kernel_rfl) ?_))
                    clear k17
                    refine (rematchref01_Reader_Bytes.calls S5 A5 E5 4 r6 S6 A6 E6 _ HV6.out).mono ?_; rintro en w8 ⟨rfl, b8⟩
                    have U8 := Lib.hid (U7L.out.next b8)
                    have U8L := Lib.hid (U8.out.load (S2 := S6) (A2 := A6) (E2 := E6))
                    have U8S := Lib.hid U8L.out.st
                    have k19 : (w8.setRow br #[.string S6, .int .i64 A6, .int .i64 E6]).cell? ⟨br, 2, none⟩ = some (.int .i64 E6) := blk_cell U8S.out.rd 2
                    have k191 : (w8.setRow br #[.string S6, .int .i64 A6, .int .i64 E6]).cell? ⟨br, 1, none⟩ = some (.int .i64 A6) := blk_cell U8S.out.rd 1
                    clear b8 U7 U7L
                    by_cases he6 : E6 = 0
                    · subst he6
                      have h := HH.out
                      clear HH
                      rw [if_neg (fun hn => hn rfl)] at h
                      by_cases hG : 0 ≤ A5 ∧ (m : Int) + A5 ≤ s.size ∧ 0 ≤ A6 ∧ A6 ≤ s.size
                      · rw [if_neg (fun hn => hn hG)] at h
                        obtain ⟨g1, g2, g3, g4⟩ := hG
                        obtain ⟨q5, rfl⟩ := Int.eq_ofNat_of_zero_le g1
                        obtain ⟨E, hE⟩ : ∃ E : Nat, m + q5 = E := ⟨_, rfl⟩
                        have HW5 := Lib.hid (show wrap64 ((m : Int) + (q5 : Int)) = (E : Int) by unfold wrap64; omega)
                        have HW6 := Lib.hid (show wrap64 ((m : Int) + A6) = (m : Int) + A6 by unfold wrap64; omega)
                        rw [show ((m : Int) + (q5 : Int)).toNat = E by omega] at h
                        have hmE : (m : Int) ≤ E := by omega
                        have hEs : (E : Int) ≤ s.size := by omega
                        have hmE' : m ≤ E := by omega
                        have hEs' : E ≤ s.size := by omega
                        obtain ⟨sf, hf, hX⟩ := Option.bind_eq_some_iff.1 h
                        clear h
                        have h := hX
                        clear hX
                        have HF := Lib.hid hf
                        have HEQ := Lib.hid hE
                        clear hf hE
                        obtain ⟨Dq, hDq⟩ : ∃ D, s.extract m E = D := ⟨_, rfl⟩
                        have HD := Lib.hid hDq
                        have hDs : Dq.size ≤ 100000 := by rw [← hDq, ByteArray.size_extract]; omega
                        rw [hDq] at HF
                        obtain ⟨W8, hW8⟩ : ∃ W8, w8.setRow br #[.string S6, .int .i64 A6, .int .i64 0] = W8 := ⟨_, rfl⟩
                        rw [hW8] at U8L U8S k19 k191
                        have HW8 := Lib.hid hW8
                        clear hW8
                        have kb := print_bytes (P := Tryd.prog) 9 22 5 Tryd.underlying9 Tryd.underlying22 (by kernel_rfl) Dq W8
                        have BW := Lib.hid (bytes_below (Below.refl W8.heap.size _) (Nat.le_refl _) 5 Dq)
                        have HRD := Lib.hid (rf_rd W8 Dq (by omega))
                        have HH := Lib.hid h
                        clear h
                        have hE' : (m : Int) + (q5 : Int) = (E : Int) := by have := HEQ.out; omega
                        have HWE := Lib.hid (show wrap64 (E : Int) = (E : Int) by unfold wrap64; omega)
                        have hw5 := HWE.out
                        clear g1 g2 HW5 U8S
                        go_wp2_with (first | ((with_reducible refine gate_store (p := 7) rfl ?_); refine wpList_store_row rfl 57 (.tmp 7) (.tmp 100) rfl br #[.string S6, .int .i64 A6, .int .i64 0] rfl rfl 57 _ U8.out.st.rd (by kernel_rfl) rfl (by simp [Value.oneCell']) ?_; rw [HW8.out]))
                        refine (rsum_any _ _ _ (bytesOf Dq) _ HRD.out).mono ?_; rintro en w9 ⟨rfl, hw9⟩
                        have BW9 := BW.out
                        rw [hw9] at BW9
                        have U9 := Lib.hid (U8L.out.next BW9)
                        clear kb HRD BW BW9 hw9 hE' hw5 hDq k19 k191 U8L
                        go_wp2_with fail
                        refine (rematchref01_Fixed.calls (ck_crc (bytesOf Dq)) sf _ HF.out).mono ?_; rintro en w10 ⟨rfl, b10⟩
                        have U10 := Lib.hid (U9.out.next b10)
                        clear b10 U9
                        have h := HH.out
                        clear HH
                        by_cases hsum : sf.toList = r6.toList
                        · rw [if_neg (fun hn => hn hsum)] at h
                          have s1 : (sf.toList == r6.toList) = true := by simpa using hsum
                          injection h with h
                          simp only [Prod.mk.injEq] at h
                          obtain ⟨z1, z2, z3, z4, z5, z6⟩ := h
                          have HZ2 := Lib.hid z2
                          subst z1 z3 z4 z5 z6
                          clear z2
                          have V2 := Lib.hid (U10.out.set2 n4)
                          have V3 := Lib.hid (V2.out.set3 r5)
                          have V4 := Lib.hid (V3.out.set4 ((m : Int) + A6))
                          have ca2 : w10.cell? ⟨bc, 2, none⟩ = some (.int .i64 0) := blk_cell U10.out.ck 2
                          have fa2 : w10.frozen? ⟨bc, 2, none⟩ = false := blk_frozen U10.out.ck 2
                          have ca3 : (w10.setCell ⟨bc, 2, none⟩ (.int .i64 n4)).cell? ⟨bc, 3, none⟩ = some (.string ⟨#[]⟩) := blk_cell V2.out.ck 3
                          have fa3 : (w10.setCell ⟨bc, 2, none⟩ (.int .i64 n4)).frozen? ⟨bc, 3, none⟩ = false := blk_frozen V2.out.ck 3
                          have ca1 : ((w10.setCell ⟨bc, 2, none⟩ (.int .i64 n4)).setCell ⟨bc, 3, none⟩ (.string r5)).cell? ⟨br, 1, none⟩ = some (.int .i64 A6) := blk_cell V3.out.st.rd 1
                          have ca4 : ((w10.setCell ⟨bc, 2, none⟩ (.int .i64 n4)).setCell ⟨bc, 3, none⟩ (.string r5)).cell? ⟨bc, 4, none⟩ = some (.int .i64 0) := blk_cell V3.out.ck 4
                          have fa4 : ((w10.setCell ⟨bc, 2, none⟩ (.int .i64 n4)).setCell ⟨bc, 3, none⟩ (.string r5)).frozen? ⟨bc, 4, none⟩ = false := blk_frozen V3.out.ck 4
                          have hw6 := HW6.out
                          go_wp2_with (first | ((with_reducible refine gate_dst (N := 129) rfl ?_); refine wpList_load_row rfl 31 (.tmp 9) rfl bc rfl 31 _ _ _ V4.out.ck Tryd.underlying31 rfl (by kernel_rfl) ?_) | ((with_reducible refine gate_store (p := 4) rfl ?_); refine wpList_store_row rfl 31 (.tmp 4) (.tmp 129) rfl b4 #[.int .u8 k1, .bool false, .int .i64 n4, .string r5, .int .i64 ((m : Int) + A6)] rfl rfl 31 _ V4.out.st.res (by kernel_rfl) rfl (by simp [Value.oneCell']) ?_))
                          refine bodyPost_ret (results_ct rfl _ _ b4 _ _ _ _ rfl (setRow_heap _ _ _ _ _ _ V4.out.st.res) Tryd.underlying31 rfl (by kernel_rfl)) rfl ?_
                          exact ⟨by rw [← HZ2.out]; simp [hp], ck_setRow_below V4.out.st.hb _ _ V4.out.st.gb⟩
                        · rw [if_pos hsum] at h
                          unfold rf_none at h
                          injection h with h
                          simp only [Prod.mk.injEq] at h
                          obtain ⟨r1, r2, r3, r4, r5, r6⟩ := h
                          subst r1 r2 r3 r4 r5 r6
                          have s1 : (sf.toList == r6.toList) = false := by simpa using hsum
                          go_wp2_with (first | ((with_reducible refine gate_store (p := 4) rfl ?_); refine wpList_store_row rfl 31 (.tmp 4) (.tmp 118) rfl b4 #[.int .u8 0, .bool false, .int .i64 0, .string ⟨#[]⟩, .int .i64 0] rfl rfl 31 _ U10.out.st.res (by kernel_rfl) rfl (by simp [Value.oneCell']) ?_))
                          refine bodyPost_ret (results_ct rfl _ _ b4 _ _ _ _ rfl U10.out.st.zero.res Tryd.underlying31 rfl (by kernel_rfl)) rfl ?_
                          exact ⟨rfl, U10.out.st.zero.hb⟩
                      · rw [if_pos hG] at h
                        cases h
                    · have h := HH.out
                      clear HH
                      rw [if_pos he6] at h
                      unfold rf_none at h
                      injection h with h
                      simp only [Prod.mk.injEq] at h
                      obtain ⟨r1, r2, r3, r4, r5, r6⟩ := h
                      subst r1 r2 r3 r4 r5 r6
                      have g1 : (E6 == (0 : Int)) = false := by simpa using he6
                      have g2 : (E6 != (0 : Int)) = true := by simpa using he6
                      go_wp2_with (first | ((with_reducible refine gate_store (p := 7) rfl ?_); refine wpList_store_row rfl 57 (.tmp 7) (.tmp 100) rfl br #[.string S6, .int .i64 A6, .int .i64 E6] rfl rfl 57 _ U8.out.st.rd (by kernel_rfl) rfl (by simp [Value.oneCell']) ?_))
                      refine wp_region_inv (fun a0 w_0 b a' w' => ∃ x104 x105 x106 x5 : Value, a' = ((((a0.put (some 104) x104).put (some 105) x105).put (some 106) x106).put (some 5) x5) ∧ rf_St w w' b4 br S6 A6 E6 ∧ (b 0 = true → x104 = .agg #[.int .u8 0, .bool false, .int .i64 0, .string ⟨#[]⟩, .int .i64 0]) ∧ (b 1 = true → x105 = .pointer (some ⟨br, 2, none⟩)) ∧ (b 2 = true → x106 = .int .i64 E6) ∧ (b 4 = true → x5 = .int .i64 E6)) (by kernel_rfl) (by kernel_rfl) ?start ⟨?op0, ?op1, ?op2, ?op3, ?op4, trivial⟩ ?done
                      case start => exact ⟨_, _, _, _, by simp only [Act.put, List.setIfInBounds_toArray, List.set_cons_zero, List.set_cons_succ]; rfl, U8S.out.drew, fun h => absurd h (by decide), fun h => absurd h (by decide), fun h => absurd h (by decide), fun h => absurd h (by decide)⟩
                      case op0 =>
                        rintro bb _ w' ⟨x104, x105, x106, x5, rfl, HS, p104, p105, p106, p5⟩ hb hd K hK
                        simp only [Act.put, List.setIfInBounds_toArray, List.set_cons_zero, List.set_cons_succ]
                        rw [if_pos (by rfl)]
                        go_simp
                        exact hK _ _ ⟨.agg #[.int .u8 0, .bool false, .int .i64 0, .string ⟨#[]⟩, .int .i64 0], x105, x106, x5, by simp only [Act.put, List.setIfInBounds_toArray, List.set_cons_zero, List.set_cons_succ], HS, fun _ => rfl, fun h => p105 (by simpa [upb] using h), fun h => p106 (by simpa [upb] using h), fun h => p5 (by simpa [upb] using h)⟩
                      case op1 =>
                        rintro bb _ w' ⟨x104, x105, x106, x5, rfl, HS, p104, p105, p106, p5⟩ hb hd K hK
                        simp only [Act.put, List.setIfInBounds_toArray, List.set_cons_zero, List.set_cons_succ]
                        rw [if_pos (by rfl)]
                        go_simp
                        exact hK _ _ ⟨x104, .pointer (some ⟨br, 2, none⟩), x106, x5, by simp only [Act.put, List.setIfInBounds_toArray, List.set_cons_zero, List.set_cons_succ], HS, fun h => p104 (by simpa [upb] using h), fun _ => rfl, fun h => p106 (by simpa [upb] using h), fun h => p5 (by simpa [upb] using h)⟩
                      case op2 =>
                        rintro bb _ w' ⟨x104, x105, x106, x5, rfl, HS, p104, p105, p106, p5⟩ hb hd K hK
                        simp only [Act.put, List.setIfInBounds_toArray, List.set_cons_zero, List.set_cons_succ]
                        obtain rfl := (p105 (hd 1 (by decide))).symm
                        rw [if_pos (by rfl)]
                        have k0 : w'.cell? ⟨br, 2, none⟩ = some (.int .i64 E6) := blk_cell HS.rd 2
                        go_simp
                        exact hK _ _ ⟨x104, .pointer (some ⟨br, 2, none⟩), .int .i64 E6, x5, by simp only [Act.put, List.setIfInBounds_toArray, List.set_cons_zero, List.set_cons_succ], HS, fun h => p104 (by simpa [upb] using h), fun _ => rfl, fun _ => rfl, fun h => p5 (by simpa [upb] using h)⟩
                      case op3 =>
                        rintro bb _ w' ⟨x104, x105, x106, x5, rfl, HS, p104, p105, p106, p5⟩ hb hd K hK
                        simp only [Act.put, List.setIfInBounds_toArray, List.set_cons_zero, List.set_cons_succ]
                        obtain rfl := (p104 (hd 0 (by decide))).symm
                        rw [if_pos (by rfl)]
                        refine wp_store_row 31 (.tmp 4) (.tmp 104) rfl b4 #[.int .u8 0, .bool false, .int .i64 0, .string ⟨#[]⟩, .int .i64 0] rfl rfl 31 _ HS.res (by kernel_rfl) rfl (by simp [Value.oneCell']) ?_
                        exact hK _ _ ⟨.agg #[.int .u8 0, .bool false, .int .i64 0, .string ⟨#[]⟩, .int .i64 0], x105, x106, x5, by simp only [Act.put, List.setIfInBounds_toArray, List.set_cons_zero, List.set_cons_succ], HS.zero, fun _ => rfl, fun h => p105 (by simpa [upb] using h), fun h => p106 (by simpa [upb] using h), fun h => p5 (by simpa [upb] using h)⟩
                      case op4 =>
                        rintro bb _ w' ⟨x104, x105, x106, x5, rfl, HS, p104, p105, p106, p5⟩ hb hd K hK
                        simp only [Act.put, List.setIfInBounds_toArray, List.set_cons_zero, List.set_cons_succ]
                        obtain rfl := (p106 (hd 2 (by decide))).symm
                        rw [if_pos (by rfl)]
                        go_simp
                        exact hK _ _ ⟨x104, x105, .int .i64 E6, .int .i64 E6, by simp only [Act.put, List.setIfInBounds_toArray, List.set_cons_zero, List.set_cons_succ], HS, fun h => p104 (by simpa [upb] using h), fun h => p105 (by simpa [upb] using h), fun _ => rfl, fun _ => rfl⟩
                      case done =>
                        rintro bb _ w' hb ⟨x104, x105, x106, x5, rfl, HS, p104, p105, p106, p5⟩
                        obtain rfl := (p104 (hb 0 (by decide))).symm
                        obtain rfl := (p105 (hb 1 (by decide))).symm
                        obtain rfl := (p106 (hb 2 (by decide))).symm
                        obtain rfl := (p5 (hb 4 (by decide))).symm
                        simp only [Act.put, List.setIfInBounds_toArray, List.set_cons_zero, List.set_cons_succ]
                        clear hb p104 p105 p106 p5
                        go_wp2_with fail
                        refine bodyPost_ret (results_ct rfl _ _ b4 _ _ _ _ rfl HS.res Tryd.underlying31 rfl (by kernel_rfl)) rfl ?_
                        exact ⟨rfl, HS.hb⟩
                  · rw [if_pos (.inl ⟨by omega, hn⟩)] at h
                    have hn1 : (n4 == n3) = false := by simpa using hn
                    have hn2 : (n4 != n3) = true := by simpa using hn
                    unfold rf_none at h
                    injection h with h
                    simp only [Prod.mk.injEq] at h
                    obtain ⟨r1, r2, r3, r4, r5, r6⟩ := h
                    subst r1 r2 r3 r4 r5 r6
                    go_wp2_with (first | ((with_reducible refine gate_store (p := 7) rfl ?_); refine wpList_store_row rfl 57 (.tmp 7) (.tmp 62) rfl br #[.string S4, .int .i64 A4, .int .i64 0] rfl rfl 57 _ T6.out.st.rd (by kernel_rfl) rfl (by simp [Value.oneCell']) ?_) | ((with_reducible refine gate_store (p := 4) rfl ?_); refine wpList_store_row rfl 31 (.tmp 4) (.tmp 86) rfl b4 #[.int .u8 0, .bool false, .int .i64 0, .string ⟨#[]⟩, .int .i64 0] rfl rfl 31 _ T6L.out.st.res (by kernel_rfl) rfl (by simp [Value.oneCell']) ?_))
                    refine bodyPost_ret (results_ct rfl _ _ b4 _ _ _ _ rfl T6L.out.st.zero.res Tryd.underlying31 rfl (by kernel_rfl)) rfl ?_
                    exact ⟨rfl, T6L.out.st.zero.hb⟩
              · rw [if_pos hrg] at h
                cases h
            · have h := HH.out
              clear HH
              rw [if_pos he4] at h
              unfold rf_none at h
              injection h with h
              simp only [Prod.mk.injEq] at h
              obtain ⟨r1, r2, r3, r4, r5, r6⟩ := h
              subst r1 r2 r3 r4 r5 r6
              have g1 : (E4 == (0 : Int)) = false := by simpa using he4
              have g2 : (E4 != (0 : Int)) = true := by simpa using he4
              go_wp2_with (first | ((with_reducible refine gate_store (p := 7) rfl ?_); refine wpList_store_row rfl 57 (.tmp 7) (.tmp 62) rfl br #[.string S4, .int .i64 A4, .int .i64 E4] rfl rfl 57 _ T6.out.st.rd (by kernel_rfl) rfl (by simp [Value.oneCell']) ?_))
              refine wp_region_inv (fun a0 w_0 b a' w' => ∃ x66 x67 x68 x5 : Value, a' = ((((a0.put (some 66) x66).put (some 67) x67).put (some 68) x68).put (some 5) x5) ∧ rf_St w w' b4 br S4 A4 E4 ∧ (b 0 = true → x66 = .agg #[.int .u8 0, .bool false, .int .i64 0, .string ⟨#[]⟩, .int .i64 0]) ∧ (b 1 = true → x67 = .pointer (some ⟨br, 2, none⟩)) ∧ (b 2 = true → x68 = .int .i64 E4) ∧ (b 4 = true → x5 = .int .i64 E4)) (by kernel_rfl) (by kernel_rfl) ?start ⟨?op0, ?op1, ?op2, ?op3, ?op4, trivial⟩ ?done
              case start => exact ⟨_, _, _, _, by simp only [Act.put, List.setIfInBounds_toArray, List.set_cons_zero, List.set_cons_succ]; rfl, T6S.out.drew, fun h => absurd h (by decide), fun h => absurd h (by decide), fun h => absurd h (by decide), fun h => absurd h (by decide)⟩
              case op0 =>
                rintro bb _ w' ⟨x66, x67, x68, x5, rfl, HS, p66, p67, p68, p5⟩ hb hd K hK
                simp only [Act.put, List.setIfInBounds_toArray, List.set_cons_zero, List.set_cons_succ]
                rw [if_pos (by rfl)]
                go_simp
                exact hK _ _ ⟨.agg #[.int .u8 0, .bool false, .int .i64 0, .string ⟨#[]⟩, .int .i64 0], x67, x68, x5, by simp only [Act.put, List.setIfInBounds_toArray, List.set_cons_zero, List.set_cons_succ], HS, fun _ => rfl, fun h => p67 (by simpa [upb] using h), fun h => p68 (by simpa [upb] using h), fun h => p5 (by simpa [upb] using h)⟩
              case op1 =>
                rintro bb _ w' ⟨x66, x67, x68, x5, rfl, HS, p66, p67, p68, p5⟩ hb hd K hK
                simp only [Act.put, List.setIfInBounds_toArray, List.set_cons_zero, List.set_cons_succ]
                rw [if_pos (by rfl)]
                go_simp
                exact hK _ _ ⟨x66, .pointer (some ⟨br, 2, none⟩), x68, x5, by simp only [Act.put, List.setIfInBounds_toArray, List.set_cons_zero, List.set_cons_succ], HS, fun h => p66 (by simpa [upb] using h), fun _ => rfl, fun h => p68 (by simpa [upb] using h), fun h => p5 (by simpa [upb] using h)⟩
              case op2 =>
                rintro bb _ w' ⟨x66, x67, x68, x5, rfl, HS, p66, p67, p68, p5⟩ hb hd K hK
                simp only [Act.put, List.setIfInBounds_toArray, List.set_cons_zero, List.set_cons_succ]
                obtain rfl := (p67 (hd 1 (by decide))).symm
                rw [if_pos (by rfl)]
                have k0 : w'.cell? ⟨br, 2, none⟩ = some (.int .i64 E4) := blk_cell HS.rd 2
                go_simp
                exact hK _ _ ⟨x66, .pointer (some ⟨br, 2, none⟩), .int .i64 E4, x5, by simp only [Act.put, List.setIfInBounds_toArray, List.set_cons_zero, List.set_cons_succ], HS, fun h => p66 (by simpa [upb] using h), fun _ => rfl, fun _ => rfl, fun h => p5 (by simpa [upb] using h)⟩
              case op3 =>
                rintro bb _ w' ⟨x66, x67, x68, x5, rfl, HS, p66, p67, p68, p5⟩ hb hd K hK
                simp only [Act.put, List.setIfInBounds_toArray, List.set_cons_zero, List.set_cons_succ]
                obtain rfl := (p66 (hd 0 (by decide))).symm
                rw [if_pos (by rfl)]
                refine wp_store_row 31 (.tmp 4) (.tmp 66) rfl b4 #[.int .u8 0, .bool false, .int .i64 0, .string ⟨#[]⟩, .int .i64 0] rfl rfl 31 _ HS.res (by kernel_rfl) rfl (by simp [Value.oneCell']) ?_
                exact hK _ _ ⟨.agg #[.int .u8 0, .bool false, .int .i64 0, .string ⟨#[]⟩, .int .i64 0], x67, x68, x5, by simp only [Act.put, List.setIfInBounds_toArray, List.set_cons_zero, List.set_cons_succ], HS.zero, fun _ => rfl, fun h => p67 (by simpa [upb] using h), fun h => p68 (by simpa [upb] using h), fun h => p5 (by simpa [upb] using h)⟩
              case op4 =>
                rintro bb _ w' ⟨x66, x67, x68, x5, rfl, HS, p66, p67, p68, p5⟩ hb hd K hK
                simp only [Act.put, List.setIfInBounds_toArray, List.set_cons_zero, List.set_cons_succ]
                obtain rfl := (p68 (hd 2 (by decide))).symm
                rw [if_pos (by rfl)]
                go_simp
                exact hK _ _ ⟨x66, x67, .int .i64 E4, .int .i64 E4, by simp only [Act.put, List.setIfInBounds_toArray, List.set_cons_zero, List.set_cons_succ], HS, fun h => p66 (by simpa [upb] using h), fun h => p67 (by simpa [upb] using h), fun _ => rfl, fun _ => rfl⟩
              case done =>
                rintro bb _ w' hb ⟨x66, x67, x68, x5, rfl, HS, p66, p67, p68, p5⟩
                obtain rfl := (p66 (hb 0 (by decide))).symm
                obtain rfl := (p67 (hb 1 (by decide))).symm
                obtain rfl := (p68 (hb 2 (by decide))).symm
                obtain rfl := (p5 (hb 4 (by decide))).symm
                simp only [Act.put, List.setIfInBounds_toArray, List.set_cons_zero, List.set_cons_succ]
                clear hb p66 p67 p68 p5
                go_wp2_with fail
                refine bodyPost_ret (results_ct rfl _ _ b4 _ _ _ _ rfl HS.res Tryd.underlying31 rfl (by kernel_rfl)) rfl ?_
                exact ⟨rfl, HS.hb⟩
      · rw [if_pos hsz] at h
        cases h
    · have h := HH.out
      clear HH
      rw [if_pos he2] at h
      unfold rf_none at h
      injection h with h
      simp only [Prod.mk.injEq] at h
      obtain ⟨r1, r2, r3, r4, r5, r6⟩ := h
      subst r1 r2 r3 r4 r5 r6
      have g1 : (E2 == (0 : Int)) = false := by simpa using he2
      have g2 : (E2 != (0 : Int)) = true := by simpa using he2
      go_wp2_with (first | ((with_reducible refine gate_store (p := 7) rfl ?_); refine wpList_store_row rfl 57 (.tmp 7) (.tmp 36) rfl br #[.string S2, .int .i64 A2, .int .i64 E2] rfl rfl 57 _ S3.out.rd (by kernel_rfl) rfl (by simp [Value.oneCell']) ?_))
      refine wp_region_inv (fun a0 w_0 b a' w' => ∃ x40 x41 x42 x5 : Value, a' = ((((a0.put (some 40) x40).put (some 41) x41).put (some 42) x42).put (some 5) x5) ∧ rf_St w w' b4 br S2 A2 E2 ∧ (b 0 = true → x40 = .agg #[.int .u8 0, .bool false, .int .i64 0, .string ⟨#[]⟩, .int .i64 0]) ∧ (b 1 = true → x41 = .pointer (some ⟨br, 2, none⟩)) ∧ (b 2 = true → x42 = .int .i64 E2) ∧ (b 4 = true → x5 = .int .i64 E2)) (by kernel_rfl) (by kernel_rfl) ?start ⟨?op0, ?op1, ?op2, ?op3, ?op4, trivial⟩ ?done
      case start => exact ⟨_, _, _, _, by simp only [Act.put, List.setIfInBounds_toArray, List.set_cons_zero, List.set_cons_succ]; rfl, S3L.out.drew, fun h => absurd h (by decide), fun h => absurd h (by decide), fun h => absurd h (by decide), fun h => absurd h (by decide)⟩
      case op0 =>
        rintro bb _ w' ⟨x40, x41, x42, x5, rfl, HS, p40, p41, p42, p5⟩ hb hd K hK
        simp only [Act.put, List.setIfInBounds_toArray, List.set_cons_zero, List.set_cons_succ]
        rw [if_pos (by rfl)]
        go_simp
        exact hK _ _ ⟨.agg #[.int .u8 0, .bool false, .int .i64 0, .string ⟨#[]⟩, .int .i64 0], x41, x42, x5, by simp only [Act.put, List.setIfInBounds_toArray, List.set_cons_zero, List.set_cons_succ], HS, fun _ => rfl, fun h => p41 (by simpa [upb] using h), fun h => p42 (by simpa [upb] using h), fun h => p5 (by simpa [upb] using h)⟩
      case op1 =>
        rintro bb _ w' ⟨x40, x41, x42, x5, rfl, HS, p40, p41, p42, p5⟩ hb hd K hK
        simp only [Act.put, List.setIfInBounds_toArray, List.set_cons_zero, List.set_cons_succ]
        rw [if_pos (by rfl)]
        go_simp
        exact hK _ _ ⟨x40, .pointer (some ⟨br, 2, none⟩), x42, x5, by simp only [Act.put, List.setIfInBounds_toArray, List.set_cons_zero, List.set_cons_succ], HS, fun h => p40 (by simpa [upb] using h), fun _ => rfl, fun h => p42 (by simpa [upb] using h), fun h => p5 (by simpa [upb] using h)⟩
      case op2 =>
        rintro bb _ w' ⟨x40, x41, x42, x5, rfl, HS, p40, p41, p42, p5⟩ hb hd K hK
        simp only [Act.put, List.setIfInBounds_toArray, List.set_cons_zero, List.set_cons_succ]
        obtain rfl := (p41 (hd 1 (by decide))).symm
        rw [if_pos (by rfl)]
        have k0 : w'.cell? ⟨br, 2, none⟩ = some (.int .i64 E2) := blk_cell HS.rd 2
        go_simp
        exact hK _ _ ⟨x40, .pointer (some ⟨br, 2, none⟩), .int .i64 E2, x5, by simp only [Act.put, List.setIfInBounds_toArray, List.set_cons_zero, List.set_cons_succ], HS, fun h => p40 (by simpa [upb] using h), fun _ => rfl, fun _ => rfl, fun h => p5 (by simpa [upb] using h)⟩
      case op3 =>
        rintro bb _ w' ⟨x40, x41, x42, x5, rfl, HS, p40, p41, p42, p5⟩ hb hd K hK
        simp only [Act.put, List.setIfInBounds_toArray, List.set_cons_zero, List.set_cons_succ]
        obtain rfl := (p40 (hd 0 (by decide))).symm
        rw [if_pos (by rfl)]
        refine wp_store_row 31 (.tmp 4) (.tmp 40) rfl b4 #[.int .u8 0, .bool false, .int .i64 0, .string ⟨#[]⟩, .int .i64 0] rfl rfl 31 _ HS.res (by kernel_rfl) rfl (by simp [Value.oneCell']) ?_
        exact hK _ _ ⟨.agg #[.int .u8 0, .bool false, .int .i64 0, .string ⟨#[]⟩, .int .i64 0], x41, x42, x5, by simp only [Act.put, List.setIfInBounds_toArray, List.set_cons_zero, List.set_cons_succ], HS.zero, fun _ => rfl, fun h => p41 (by simpa [upb] using h), fun h => p42 (by simpa [upb] using h), fun h => p5 (by simpa [upb] using h)⟩
      case op4 =>
        rintro bb _ w' ⟨x40, x41, x42, x5, rfl, HS, p40, p41, p42, p5⟩ hb hd K hK
        simp only [Act.put, List.setIfInBounds_toArray, List.set_cons_zero, List.set_cons_succ]
        obtain rfl := (p42 (hd 2 (by decide))).symm
        rw [if_pos (by rfl)]
        go_simp
        exact hK _ _ ⟨x40, x41, .int .i64 E2, .int .i64 E2, by simp only [Act.put, List.setIfInBounds_toArray, List.set_cons_zero, List.set_cons_succ], HS, fun h => p40 (by simpa [upb] using h), fun h => p41 (by simpa [upb] using h), fun _ => rfl, fun _ => rfl⟩
      case done =>
        rintro bb _ w' hb ⟨x40, x41, x42, x5, rfl, HS, p40, p41, p42, p5⟩
        obtain rfl := (p40 (hb 0 (by decide))).symm
        obtain rfl := (p41 (hb 1 (by decide))).symm
        obtain rfl := (p42 (hb 2 (by decide))).symm
        obtain rfl := (p5 (hb 4 (by decide))).symm
        simp only [Act.put, List.setIfInBounds_toArray, List.set_cons_zero, List.set_cons_succ]
        clear hb p40 p41 p42 p5
        go_wp2_with fail
        refine bodyPost_ret (results_ct rfl _ _ b4 _ _ _ _ rfl HS.res Tryd.underlying31 rfl (by kernel_rfl)) rfl ?_
        exact ⟨rfl, HS.hb⟩
end Go.Proofs.YtigcgdhihaibbaaDoor.PLz
