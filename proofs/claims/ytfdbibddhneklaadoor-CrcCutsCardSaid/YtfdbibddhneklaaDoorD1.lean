/- The walk of the law CrcCuts, first half: however bytes are cut, they have one checksum. No condition. -/
import Derived.Test.YtfdbibddhneklaaDoorC4
import Derived.Laws.AppendOwnNone
import Derived.Deep.AppendLies
namespace Go.Proofs.YtfdbibddhneklaaDoor
open Go.RowKit CrcP
/-- a slice of uint16 that is read -/
def Rd16 (w : World) (a : Option Addr) (n : Nat) (xs : List Int) : Prop :=
  xs.length = n ∧ (∀ x ∈ xs, 0 ≤ x ∧ x ≤ 65535) ∧ (0 < n → ∃ b o, a = some ⟨b, o, none⟩ ∧ ∀ j, j < n → w.cell? ⟨b, o + j, none⟩ = some (.int .u16 (xs.getD j 0)))
theorem rd_take {w : World} {A : Option Addr} {N m : Nat} {l : List Int} (h : Rd w A N l) (hm : m ≤ N) : Rd w A m (l.take m) := by
  obtain ⟨h1, h2, h3, h4⟩ := h
  refine ⟨by rw [List.length_take]; omega, by omega, fun x hx => h3 x (List.mem_of_mem_take hx), fun hp => ?_⟩
  obtain ⟨b, o, e, hc⟩ := h4 (by omega)
  exact ⟨b, o, e, fun j hj => by rw [hc j (by omega)]; simp [hj]⟩
theorem rd_drop {w : World} {A : Option Addr} {N m : Nat} {l : List Int} (h : Rd w A N l) (hm : m ≤ N) (A' : Option Addr) (hA : m < N → A' = A.map (·.add m)) : Rd w A' (N - m) (l.drop m) := by
  obtain ⟨h1, h2, h3, h4⟩ := h
  refine ⟨by rw [List.length_drop]; omega, by omega, fun x hx => h3 x (List.mem_of_mem_drop hx), fun hp => ?_⟩
  obtain ⟨b, o, e, hc⟩ := h4 (by omega)
  refine ⟨b, o + m, by rw [hA (by omega), e]; unfold Addr.add; by_cases h0 : m = 0 <;> simp [h0], fun j hj => ?_⟩
  rw [Nat.add_assoc, hc (m + j) (by omega)]
  simp
theorem moreB_append (s : BitVec 32) (a b : List Int) : moreB (moreB s a) b = moreB s (a ++ b) := by
  unfold moreB
  rw [BitVec.not_not, List.map_append, run_append]
theorem gb_refl (w : World) (row : Option Nat) : w.grownBy w row := ⟨rfl, rfl, rfl, Nat.le_refl _, fun _ _ _ => rfl⟩
/-- 'append(own, xs...)' of bytes, nil or not -/
theorem wpList_append_rd {P : Program} {w : World} {ops : Array Oper} {rest : List Oper} {o : Oper} {a : Act} {Q : Exit → Act → World → Prop} (hgd : o.guard = none) (s x : Operand) (t : TypeId)
    (ho : o.op = .call { callee := .builtin .append, args := #[s, x], argTypes := #[t, t] })
    (base : Nat) (e : TypeId) (i : TypeInfo) (z : Value) (ht : P.underlying t = some (.slice e)) (hi : P.info? e = some i) (hz : i.zero = some z)
    (hsize : i.size = 1) (hby : i.bytes = 1) (hzs : z.cells.size = 1)
    (v : Value) (n : Nat) (xs : List Value) (hs : a.eval s = v) (hown : w.ownsRow base e 1 v n xs)
    (A : Option Addr) (m c : Nat) (ys : List Int) (hx : a.eval x = .slice A m c) (hnone : A = none → m = 0 ∧ c = 0) (hrd : Rd w A m ys)
    (h63 : n + m ≤ maxLen) (hbytes : n + m ≤ 140737488355328) (hbase : base ≤ w.heap.size)
    (h : ∀ v' w', w'.ownsRow base e 1 v' (n + m) (xs ++ ys.map (Value.int .u8)) → w.grownBy w' v.ownBlock → wpList P ops Q rest (a.put o.dst v') w') : wpList P ops Q (o :: rest) a w := by
  cases A with
  | none =>
    obtain ⟨rfl, rfl⟩ := hnone rfl
    have hy : ys = [] := List.eq_nil_of_length_eq_zero hrd.1
    subst hy
    exact wpList_append_own_none hgd s x t ho base e i 1 ht hi v n xs hs hown hx (h v w (by simpa using hown) (gb_refl _ _))
  | some ad =>
    refine wpList_append_own w hgd s x t ho base e i z 1 1 ht hi hz hsize hby hzs (by omega) v n xs hs hown ad m c (ys.map (Value.int .u8)) hx (by simp [hrd.1]) ?_ ?_ h63 (by omega) hbase (fun v' w' h1 h2 _ => h v' w' h1 h2)
    · intro j u hu
      have hj : j < m := by
        have := (List.getElem?_eq_some_iff.1 hu).1
        rw [List.length_map, hrd.1] at this
        exact this
      obtain ⟨b, o', e', hc⟩ := hrd.2.2.2 (by omega)
      rw [Option.some.inj e', Addr.add_lit, hc j hj]
      rw [← hu]
      have : j < ys.length := by rw [hrd.1]; exact hj
      simp [this]
    · intro u hu
      obtain ⟨y, _, rfl⟩ := List.mem_map.1 hu
      rfl
theorem Tryd.info5 : (Tryd.prog.info? 5).map (fun i => (i.zero, i.size, i.bytes)) = some (some (.int .u8 0), 1, 1) := by kernel_rfl
/-- byte number i of what is changed -/
def dI (change : Int) (i : Nat) : Int := change / ((2 ^ (8 * i) : Nat) : Int) % 256
/-- the text behind i changes -/
def oth (l : List Int) (n k0 : Nat) (change : Int) : Nat → List Int
  | 0 => l
  | i + 1 => if k0 + i < n then (oth l n k0 change i).set (k0 + i) (bits .xor .u8 ((oth l n k0 change i).getD (k0 + i) 0) (dI change i)) else oth l n k0 change i
theorem oth_len (l : List Int) (n k0 : Nat) (change : Int) (i : Nat) : (oth l n k0 change i).length = l.length := by
  induction i with
  | zero => rfl
  | succ i ih => unfold oth; split <;> simp [ih]
theorem dI0 (c : Int) : dI c 0 = c % 256 := by simp [dI]
theorem dI1 (c : Int) : dI c 1 = c / 256 % 256 := rfl
theorem dI2 (c : Int) : dI c 2 = c / 65536 % 256 := rfl
theorem dI3 (c : Int) (h : 0 ≤ c ∧ c ≤ 4294967295) : dI c 3 = c / 16777216 := by rw [show dI c 3 = c / 16777216 % 256 from rfl]; omega
theorem own_turn {w wr : World} {g cap n k0 : Nat} {xs : List Int} {change : Int} {k : Nat} (h : wr.ownsRow w.heap.size 5 1 (.slice (some ⟨g, 0, none⟩) n cap) n ((oth xs n k0 change k).map (Value.int .u8))) (hin : k0 + k < n) (z d : Int) (hz : (oth xs n k0 change k).getD (k0 + k) 0 = z) (hd : dI change k = d) :
    (wr.setCell ⟨g, k0 + k, none⟩ (.int .u8 (bits .xor .u8 z d))).drew.ownsRow w.heap.size 5 1 (.slice (some ⟨g, 0, none⟩) n cap) n ((oth xs n k0 change (k + 1)).map (Value.int .u8)) := by
  have h2 := (h.stored (k0 + k) (.int .u8 (bits .xor .u8 z d))).1
  unfold oth
  rw [if_pos hin, hz, hd, List.map_set]
  exact h2
theorem rd_of_own {wr : World} {B g cap n : Nat} {l : List Int} (h : wr.ownsRow B 5 1 (.slice (some ⟨g, 0, none⟩) n cap) n (l.map (Value.int .u8))) (hx : ∀ x ∈ l, 0 ≤ x ∧ x ≤ 255) (hn : n ≤ 9223372036854775807) : Rd wr (some ⟨g, 0, none⟩) n l := by
  have hl : l.length = n := by have := h.1; simpa using this
  refine ⟨hl, hn, hx, fun _ => ⟨g, 0, rfl, fun j hj => ?_⟩⟩
  rw [Nat.zero_add, h.cellAt j (by omega)]
  simp [hl, hj]
theorem bits_u8_range (a b : Int) : 0 ≤ bits .xor .u8 a b ∧ bits .xor .u8 a b ≤ 255 := by
  unfold bits
  rw [IntKind.wrap_u8]
  omega
theorem oth_range {l : List Int} (h : ∀ x ∈ l, 0 ≤ x ∧ x ≤ 255) (n k0 : Nat) (change : Int) (i : Nat) : ∀ x ∈ oth l n k0 change i, 0 ≤ x ∧ x ≤ 255 := by
  induction i with
  | zero => exact h
  | succ i ih =>
    unfold oth
    split
    · intro x hx
      rcases List.mem_or_eq_of_mem_set hx with hx | rfl
      · exact ih x hx
      · exact bits_u8_range _ _
    · exact ih
theorem str_eq {a b : List Int} (ha : ∀ x ∈ a, 0 ≤ x ∧ x ≤ 255) (hb : ∀ x ∈ b, 0 ≤ x ∧ x ≤ 255) : (strOfNums a).toList = (strOfNums b).toList ↔ a = b := by
  rw [ByteArray.toList_eq, ByteArray.toList_eq, strOfNums_data, strOfNums_data]
  constructor
  · intro h
    have hl : a.length = b.length := by simpa using congrArg List.length h
    apply List.ext_getElem hl
    intro i h1 h2
    have h3 := congrArg (fun l => l[i]?) h
    simp only [List.getElem?_map, List.getElem?_eq_getElem h1, List.getElem?_eq_getElem h2, Option.map_some, Option.some.injEq] at h3
    have r1 := ha _ (List.getElem_mem h1)
    have r2 := hb _ (List.getElem_mem h2)
    have h4 := congrArg UInt8.toNat h3
    simp only [UInt8.toNat_ofNat'] at h4
    omega
  · intro h; rw [h]
theorem bv_inj {a b : List Int} (ha : ∀ x ∈ a, 0 ≤ x ∧ x ≤ 255) (hb : ∀ x ∈ b, 0 ≤ x ∧ x ≤ 255) (h : a.map bv = b.map bv) : a = b := by
  have hl : a.length = b.length := by simpa using congrArg List.length h
  apply List.ext_getElem hl
  intro i h1 h2
  have h3 := congrArg (fun l => l[i]?) h
  simp only [List.getElem?_map, List.getElem?_eq_getElem h1, List.getElem?_eq_getElem h2, Option.map_some, Option.some.injEq] at h3
  rw [← bv_toNat _ (ha _ (List.getElem_mem h1)), ← bv_toNat _ (hb _ (List.getElem_mem h2)), h3]
theorem oth_off (l : List Int) (n k0 : Nat) (change : Int) (i : Nat) : ∀ j, (j < k0 ∨ k0 + i ≤ j) → (oth l n k0 change i)[j]? = l[j]? := by
  induction i with
  | zero => intro j _; rfl
  | succ i ih =>
    intro j hj
    unfold oth
    split
    · rw [List.getElem?_set_ne (by omega)]
      exact ih j (by omega)
    · exact ih j (by omega)
theorem cut3 {α : Type} (l : List α) (k : Nat) : l = l.take k ++ (l.drop k).take 4 ++ l.drop (k + 4) := by
  rw [List.append_assoc, ← List.drop_drop, List.take_append_drop, List.take_append_drop]
theorem byte_high (c : Int) (h : 0 ≤ c ∧ c ≤ 255) : ∀ i, 8 ≤ i → (bv c).getLsbD i = false := by
  intro i hi
  have h1 : (bv c).toNat < 2 ^ 8 := by have := bv_toNat c h; omega
  have h2 : (bv c).toNat < 2 ^ i := Nat.lt_of_lt_of_le h1 (Nat.pow_le_pow_right (by omega) hi)
  exact Nat.testBit_lt_two_pow h2
theorem crc_oth {l : List Int} (hl : ∀ x ∈ l, 0 ≤ x ∧ x ≤ 255) (n k0 : Nat) (change : Int) : moreB 0#32 (oth l n k0 change 4) = moreB 0#32 l ↔ oth l n k0 change 4 = l := by
  constructor
  · intro h
    have ho := oth_range hl n k0 change 4
    have hoff := oth_off l n k0 change 4
    have hlen := oth_len l n k0 change 4
    generalize oth l n k0 change 4 = o at *
    have h1 : run (~~~ 0#32) (o.map bv) = run (~~~ 0#32) (l.map bv) := by
      unfold moreB at h
      have := congrArg (fun x => ~~~ x) h
      simpa only [BitVec.not_not] using this
    have hpre : o.take k0 = l.take k0 := by
      apply List.ext_getElem?
      intro j
      rw [List.getElem?_take, List.getElem?_take]
      split
      · exact hoff j (by omega)
      · rfl
    have hpost : o.drop (k0 + 4) = l.drop (k0 + 4) := by
      apply List.ext_getElem?
      intro j
      rw [List.getElem?_drop, List.getElem?_drop]
      exact hoff _ (by omega)
    have hmid : (o.drop k0).take 4 = (l.drop k0).take 4 := by
      refine bv_inj (fun x hx => ho x (List.mem_of_mem_drop (List.mem_of_mem_take hx))) (fun x hx => hl x (List.mem_of_mem_drop (List.mem_of_mem_take hx))) ?_
      have e1 : o.map bv = (l.take k0).map bv ++ ((o.drop k0).take 4).map bv ++ (l.drop (k0 + 4)).map bv := by
        conv => lhs; rw [cut3 o k0, hpre, hpost]
        simp only [List.map_append]
      have e2 : l.map bv = (l.take k0).map bv ++ ((l.drop k0).take 4).map bv ++ (l.drop (k0 + 4)).map bv := by
        conv => lhs; rw [cut3 l k0]
        simp only [List.map_append]
      rw [e1, e2] at h1
      refine run_burst _ _ _ _ _ (by simp [hlen]) (by simp; omega) ?_ ?_ h1
      · intro c hc i hi
        obtain ⟨x, hx, rfl⟩ := List.mem_map.1 hc
        exact byte_high x (ho x (List.mem_of_mem_drop (List.mem_of_mem_take hx))) i hi
      · intro c hc i hi
        obtain ⟨x, hx, rfl⟩ := List.mem_map.1 hc
        exact byte_high x (hl x (List.mem_of_mem_drop (List.mem_of_mem_take hx))) i hi
    rw [cut3 o k0, cut3 l k0, hpre, hpost, hmid]
  · intro h; rw [h]
theorem crc_fin {l : List Int} (hl : ∀ x ∈ l, 0 ≤ x ∧ x ≤ 255) (n k0 : Nat) (change : Int) :
    (((moreB 0#32 (oth l n k0 change 4)).toNat : Int) == ((moreB 0#32 l).toNat : Int)) = ((strOfNums (oth l n k0 change 4)).toList == (strOfNums l).toList) := by
  rw [Bool.eq_iff_iff, beq_iff_eq, beq_iff_eq, str_eq (oth_range hl n k0 change 4) hl, ← crc_oth hl n k0 change]
  constructor
  · intro h
    apply BitVec.eq_of_toNat_eq
    omega
  · intro h; rw [h]
theorem rd_string {P : Program} {w : World} {src dst e : TypeId} {A : Option Addr} {n c : Nat} {xs : List Int} (hs : P.underlying src = some (.slice e)) (he : P.underlying e = some (.int .u8)) (hd : P.underlying dst = some .string) (hnone : A = none → n = 0 ∧ c = 0)
    (h : Rd w A n xs) : (convert src dst (.slice A n c)).run P w = .ok (.string (strOfNums xs)) w := by
  cases A with
  | none =>
    obtain ⟨rfl, rfl⟩ := hnone rfl
    obtain rfl : xs = [] := List.eq_nil_of_length_eq_zero h.1
    exact run_convert_bytes_nil w src e hs he 0 0 dst hd
  | some ad =>
    by_cases hn : 0 < n
    · obtain ⟨b, o, e', hc⟩ := h.2.2.2 hn
      rw [Option.some.inj e']
      exact run_convert_bytes_arg w src e hs he b o n c xs h.1 hc dst hd
    · obtain rfl : n = 0 := by omega
      obtain rfl : xs = [] := List.eq_nil_of_length_eq_zero h.1
      have hl : (loadCells ad 0).run P w = .ok (([] : List Int).map (Value.int .u8)).toArray w := by simp [loadCells, loadCellsFrom]
      rw [run_convert_bytes_string w src dst e _ 0 c hs he hd, run_bytesToString w ad 0 c [] hl]
      rfl
set_option maxHeartbeats 4000000 in
set_option maxRecDepth 100000 in
theorem crcCuts_small (a : Option Addr) (n c : Nat) (xs : List Int) (a2 : Option Addr) (n2 c2 : Nat) (ys : List Int) (at_ change : Int) (w : World) (hr : Rd w a n xs) (hn : n ≤ 3000) (hnc : n ≤ c) (hnone : a = none → n = 0 ∧ c = 0) (hr2 : Rd16 w a2 n2 ys) (hn2 : n2 ≤ 40) (ha : 0 ≤ at_ ∧ at_ ≤ 65535) (hc : 0 ≤ change ∧ change ≤ 4294967295) (ht : Tab w) :
    Calls Tryd.prog 4 #[.slice a n c, .slice a2 n2 c2, .int .u16 at_, .int .u32 change] w fun e w' => e = .returned (.bool true) ∧ Below w.heap.size w w' := by
  have hr0 := Lib.hid hr
  have hr3 := Lib.hid hr2
  have ht2 := Lib.hid ht
  have hnone2 := Lib.hid hnone
  obtain ⟨i0, hi, hz0, hz1, hz2⟩ := info_parts Tryd.info5
  have hi_ := Lib.hid hi
  have hz0_ := Lib.hid hz0
  have hz1_ := Lib.hid hz1
  have hz2_ := Lib.hid hz2
  clear hr hr2 ht hnone hi hz0 hz1 hz2
  go_enter Tryd.func4, Tryd.ntmps4
  go_wp2
  go_loop [9, 10, 11, 12] (fun s l i _ => ∃ (k off : Nat) (A : Option Addr) (C : Nat), k ≤ n2 ∧ off ≤ n ∧ i = .int .i64 k ∧ l = .slice A (n - off : Nat) C ∧ n - off ≤ C ∧ Hid (Rd w A (n - off) (xs.drop off)) ∧ s = .int .u32 ((moreB 0#32 (xs.take off)).toNat : Int)) (fun _ _ i _ => n2 - (intOf i).toNat)
  case atStart => exact ⟨0, 0, a, c, by omega, by omega, rfl, rfl, by omega, by simpa using hr0, by rw [List.take_zero]; rfl⟩
  case round =>
    obtain ⟨k, off, A, C, hk, hoff, rfl, rfl, hC, hA, rfl⟩ := hrel
    by_cases hlt : k < n2
    · obtain ⟨hl2, hb2, hcs⟩ := hr3.out
      obtain ⟨b, o, rfl, hcell⟩ := hcs (by omega)
      have hc1 := hcell k hlt
      have hmem : ys.getD k 0 ∈ ys := by
        have : k < ys.length := by rw [hl2]; exact hlt
        simp [this]
      have hbd := hb2 _ hmem
      generalize ys.getD k 0 = y at *
      obtain ⟨y, rfl⟩ := Int.eq_ofNat_of_zero_le hbd.1
      have hne : ¬ ((n - off : Nat) : Int) + 1 = 0 := by omega
      have hm : y % (n - off + 1) ≤ n - off := by have := Nat.mod_lt y (show 0 < n - off + 1 by omega); omega
      have hm0 : 0 ≤ (y : Int) % (((n - off : Nat) : Int) + 1) := Int.emod_nonneg _ (by omega)
      have hm3 : (y : Int) % (((n - off : Nat) : Int) + 1) ≤ ((n - off : Nat) : Int) := by have := Int.emod_lt_of_pos (y : Int) (show (0 : Int) < ((n - off : Nat) : Int) + 1 by omega); omega
      have hm1 : (y : Int) % (((n - off : Nat) : Int) + 1) ≤ C := by omega
      have htk : moreB (moreB 0#32 (xs.take off)) ((xs.drop off).take (y % (n - off + 1))) = moreB 0#32 (xs.take (off + y % (n - off + 1))) := by
        rw [moreB_append, List.take_add]
      have htk2 := Lib.hid htk
      clear hcs hcell hmem hl2 hb2 htk
      go_wp2_with fail
      refine (more_any (moreB 0#32 (xs.take off)) A _ C _ w (rd_take hA.out hm) ht2.out).mono ?_; rintro e w' ⟨rfl, rfl⟩
      rw [htk2.out]
      go_wp2_with fail
      refine ⟨⟨k + 1, off + y % (n - off + 1), _, C - y % (n - off + 1), by omega, by omega, by go_num, by rw [Nat.sub_sub], by omega, ?_, rfl⟩, by simp [intOf]; omega⟩
      have h := rd_drop hA.out hm (if C = y % (n - off + 1) then A else Option.map (fun x => x.add (y % (n - off + 1))) A) (fun hlt => if_neg (by omega))
      rw [Nat.sub_sub, List.drop_drop] at h
      exact h
    · have hmore : moreB (moreB 0#32 (xs.take off)) (xs.drop off) = moreB 0#32 xs := by rw [moreB_append, List.take_append_drop]
      have hmore2 := Lib.hid hmore
      clear hmore
      go_wp2_with fail
      refine (more_any (moreB 0#32 (xs.take off)) A _ C _ w hA.out ht2.out).mono ?_; rintro e w' ⟨rfl, rfl⟩
      rw [hmore2.out]
      go_wp2_with fail
      refine (sum_any a n c xs w hr0.out ht2.out).mono ?_; rintro e w' ⟨rfl, rfl⟩
      go_wp2_with (first | (at_builtin; refine wpList_append_rd rfl _ _ 22 rfl w.heap.size 5 i0 (.int .u8 0) Tryd.underlying22 hi_.out hz0_.out hz1_.out hz2_.out rfl (.slice none 0 0) 0 [] rfl ⟨rfl, .inl ⟨rfl, rfl⟩⟩ a n c xs rfl hnone2.out hr0.out ?_ ?_ (Nat.le_refl _) ?_))
      case refine_1 => unfold maxLen; omega
      case refine_2 => omega
      intro v' w1 hown hg
      have H : Below w.heap.size w w1 := (Below.refl _ _).grown hg (Nat.le_refl _) (fun k hk => by cases hk)
      clear hg
      have hT1 := Lib.hid (ht2.out.keep H)
      have hR1 := Lib.hid (hr0.out.keep H)
      by_cases hn0 : n = 0
      · obtain ⟨A, C, rfl, hAC⟩ : ∃ A C, v' = .slice A 0 C ∧ (A = none → 0 = 0 ∧ C = 0) := by
          rcases hown.2 with ⟨h1, h2⟩ | ⟨g, cap, _, h1, _⟩
          · exact ⟨none, 0, h1, fun _ => ⟨rfl, rfl⟩⟩
          · exact ⟨some ⟨g, 0, none⟩, cap, by rw [h1]; simp [hn0], fun h => by cases h⟩
        subst hn0
        have hx0 : xs = [] := List.eq_nil_of_length_eq_zero hr0.out.1
        subst hx0
        clear hown
        go_wp2_with fail
        go_loopw [14, 15] (fun i _ wr => i = .int .i64 0 ∧ Below w.heap.size w wr) (fun i _ _ => 4 - (intOf i).toNat)
        case atStart => exact ⟨rfl, H⟩
        case round =>
          obtain ⟨rfl, Hk⟩ := hrel
          have hRb := hr0.out.keep Hk
          have hTr := ht2.out.keep Hk
          have hRo : Rd wr A 0 [] := ⟨rfl, by omega, by simp, fun h => by omega⟩
          have hs1 : (convert 22 9 (.slice A 0 C)).run Tryd.prog wr.drew = .ok (.string (strOfNums [])) wr.drew := rd_string Tryd.underlying22 Tryd.underlying5 Tryd.underlying9 (fun h => ⟨rfl, (hAC h).2⟩) (show Rd wr.drew _ _ _ from hRo)
          have hs2 : (convert 22 9 (.slice a 0 c)).run Tryd.prog wr.drew = .ok (.string (strOfNums [])) wr.drew := rd_string Tryd.underlying22 Tryd.underlying5 Tryd.underlying9 (fun h => ⟨rfl, (hnone2.out h).2⟩) (show Rd wr.drew _ _ _ from hRb)
          have hRo2 := Lib.hid hRo
          have hRb2 := Lib.hid hRb
          have hTr2 := Lib.hid hTr
          clear hRo hRb hTr
          go_wp2_with fail
          refine still_tail 12 (by kernel_rfl) (by kernel_rfl) ?_
          simp only [List.take_succ_cons, List.take_zero, List.drop_succ_cons, List.drop_zero]
          repeat still_step
          still_call ((sum_any A 0 C [] _ (show Rd wr.drew _ _ _ from hRo2.out) (show Tab wr.drew from hTr2.out)).mono fun _ _ ⟨he, hw⟩ => ⟨he, hw.symm⟩)
          repeat still_step
          still_call ((sum_any a 0 c [] _ (show Rd wr.drew _ _ _ from hRb2.out) (show Tab wr.drew from hTr2.out)).mono fun _ _ ⟨he, hw⟩ => ⟨he, hw.symm⟩)
          repeat still_step
          refine wpStill_nil ?_
          have HD : Below w.heap.size w wr.drew := Hk.drew
          go_wp2_with fail
          refine (wakes_true _ (show Tab wr.drew from hTr2.out)).mono ?_; rintro e w5 ⟨rfl, hb⟩
          go_wp2_with fail
          go_ret
          exact ⟨rfl, bnext HD (Nat.le_refl _) hb⟩
      · obtain ⟨g, cap, rfl, hbase, hgl⟩ := hown.form (by omega)
        have hn1 : ¬ (n : Int) = 0 := by omega
        have hn2 : (0 : Int) < (n : Int) := by omega
        obtain ⟨k0, hk0⟩ : ∃ k0 : Nat, at_ % (n : Int) = (k0 : Int) ∧ k0 < n := ⟨(at_ % (n : Int)).toNat, by
          have h1 := Int.emod_nonneg at_ (show (n : Int) ≠ 0 by omega)
          have h2 := Int.emod_lt_of_pos at_ hn2
          omega⟩
        have hk1 := hk0.1
        have hk2 := hk0.2
        have hown2 := Lib.hid hown
        clear hown hk0
        go_wp2_with fail
        go_loopw [14, 15] (fun i _ wr => ∃ k : Nat, k ≤ 4 ∧ i = .int .i64 k ∧ Hid (wr.ownsRow w.heap.size 5 1 (.slice (some ⟨g, 0, none⟩) n cap) n ((oth xs n k0 change k).map (Value.int .u8))) ∧ Below w.heap.size w wr) (fun i _ _ => 4 - (intOf i).toNat)
        case atStart => exact ⟨0, by omega, rfl, hown2, H⟩
        case round =>
          obtain ⟨k, hk, rfl, hownk, Hk⟩ := hrel
          by_cases hlt4 : k < 4
          · by_cases hin : k0 + k < n
            · have hcellk := hownk.out.cellAt (k0 + k) (by omega)
              have hfrz := hownk.out.frozenAt (k0 + k)
              have hlen : k0 + k < (oth xs n k0 change k).length := by rw [oth_len, hr0.out.1]; exact hin
              have hcv : ((oth xs n k0 change k).map (Value.int .u8))[k0 + k]? = some (.int .u8 ((oth xs n k0 change k).getD (k0 + k) 0)) := by simp [hlen]
              rw [hcv] at hcellk
              obtain rfl | rfl | rfl | rfl : k = 0 ∨ k = 1 ∨ k = 2 ∨ k = 3 := by omega
              · rw [show ((0 : Nat) : Int) = 0 from rfl]
                simp only [Nat.add_zero] at hcellk hfrz
                clear hcv
                generalize hz0 : (oth xs n k0 change 0).getD (k0 + 0) 0 = z at hcellk
                have hz := Lib.hid hz0
                clear hz0
                have hin2 : ((k0 : Int) + 0) < n := by omega
                go_wp2_with fail
                go_region
                go_wp2_with fail
                refine ⟨⟨1, by omega, rfl, own_turn hownk.out hin z _ hz.out (dI0 change), (Hk.setCell (by simp; omega) _).drew⟩, by simp [intOf]⟩
              · rw [show ((1 : Nat) : Int) = 1 from rfl]
                clear hcv
                generalize hz0 : (oth xs n k0 change 1).getD (k0 + 1) 0 = z at hcellk
                have hz := Lib.hid hz0
                clear hz0
                have hin2 : ((k0 : Int) + 1) < n := by omega
                go_wp2_with fail
                go_region
                go_wp2_with fail
                refine ⟨⟨2, by omega, rfl, own_turn hownk.out hin z _ hz.out (dI1 change), (Hk.setCell (by simp; omega) _).drew⟩, by simp [intOf]⟩
              · rw [show ((2 : Nat) : Int) = 2 from rfl]
                clear hcv
                generalize hz0 : (oth xs n k0 change 2).getD (k0 + 2) 0 = z at hcellk
                have hz := Lib.hid hz0
                clear hz0
                have hin2 : ((k0 : Int) + 2) < n := by omega
                go_wp2_with fail
                go_region
                go_wp2_with fail
                refine ⟨⟨3, by omega, rfl, own_turn hownk.out hin z _ hz.out (dI2 change), (Hk.setCell (by simp; omega) _).drew⟩, by simp [intOf]⟩
              · rw [show ((3 : Nat) : Int) = 3 from rfl]
                clear hcv
                generalize hz0 : (oth xs n k0 change 3).getD (k0 + 3) 0 = z at hcellk
                have hz := Lib.hid hz0
                clear hz0
                have hin2 : ((k0 : Int) + 3) < n := by omega
                go_wp2_with fail
                go_region
                go_wp2_with fail
                refine ⟨⟨4, by omega, rfl, own_turn hownk.out hin z _ hz.out (dI3 change hc), (Hk.setCell (by simp; omega) _).drew⟩, by simp [intOf]⟩
            · have hsame : oth xs n k0 change (k + 1) = oth xs n k0 change k := by rw [oth, if_neg hin]
              have hsame2 := Lib.hid hsame
              clear hsame
              go_wp2_with fail
              refine ⟨⟨k + 1, by omega, by go_num, by rw [hsame2.out]; exact hownk, Hk⟩, by simp [intOf]; omega⟩
          · have hk4 : k = 4 := by omega
            subst hk4
            have hRo := rd_of_own hownk.out (oth_range hr0.out.2.2.1 n k0 change 4) (by omega)
            have hRb := hr0.out.keep Hk
            have hTr := ht2.out.keep Hk
            have hs1 : (convert 22 9 (.slice (some ⟨g, 0, none⟩) n cap)).run Tryd.prog wr.drew = .ok (.string (strOfNums (oth xs n k0 change 4))) wr.drew := rd_string Tryd.underlying22 Tryd.underlying5 Tryd.underlying9 (fun h => by cases h) (show Rd wr.drew _ _ _ from hRo)
            have hs2 : (convert 22 9 (.slice a n c)).run Tryd.prog wr.drew = .ok (.string (strOfNums xs)) wr.drew := rd_string Tryd.underlying22 Tryd.underlying5 Tryd.underlying9 hnone2.out (show Rd wr.drew _ _ _ from hRb)
            have hRo2 := Lib.hid hRo
            have hRb2 := Lib.hid hRb
            have hTr2 := Lib.hid hTr
            clear hRo hRb hTr
            go_wp2_with fail
            refine still_tail 12 (by kernel_rfl) (by kernel_rfl) ?_
            simp only [List.take_succ_cons, List.take_zero, List.drop_succ_cons, List.drop_zero]
            repeat still_step
            still_call ((sum_any (some ⟨g, 0, none⟩) n cap (oth xs n k0 change 4) _ (show Rd wr.drew _ _ _ from hRo2.out) (show Tab wr.drew from hTr2.out)).mono fun _ _ ⟨he, hw⟩ => ⟨he, hw.symm⟩)
            repeat still_step
            still_call ((sum_any a n c xs _ (show Rd wr.drew _ _ _ from hRb2.out) (show Tab wr.drew from hTr2.out)).mono fun _ _ ⟨he, hw⟩ => ⟨he, hw.symm⟩)
            repeat still_step
            refine wpStill_nil ?_
            have hfin := Lib.hid (crc_fin hr0.out.2.2.1 n k0 change)
            have HD : Below w.heap.size w wr.drew := Hk.drew
            go_wp2_with fail
            refine (wakes_true _ (show Tab wr.drew from hTr2.out)).mono ?_; rintro e w5 ⟨rfl, hb⟩
            go_wp2_with fail
            go_ret
            exact ⟨rfl, bnext HD (Nat.le_refl _) hb⟩
/-- too much for the statement: then it asks the table alone -/
theorem crcCuts_big (a : Option Addr) (n c : Nat) (a2 : Option Addr) (n2 c2 : Nat) (at_ change : Int) (w : World) (hbig : 3000 < n ∨ 40 < n2) (ht : Tab w) :
    Calls Tryd.prog 4 #[.slice a n c, .slice a2 n2 c2, .int .u16 at_, .int .u32 change] w fun e w' => e = .returned (.bool true) ∧ Below w.heap.size w w' := by
  have ht2 := Lib.hid ht
  clear ht
  by_cases hn : 3000 < n
  · clear hbig
    go_enter Tryd.func4, Tryd.ntmps4
    go_wp2_with fail
    refine (wakes_true _ (show Tab w from ht2.out)).mono ?_; rintro e w5 ⟨rfl, hb⟩
    go_wp2_with fail
    go_ret
    exact ⟨rfl, hb⟩
  · obtain hn2 : 40 < n2 := by omega
    clear hbig
    go_enter Tryd.func4, Tryd.ntmps4
    go_wp2_with fail
    refine (wakes_true _ (show Tab w from ht2.out)).mono ?_; rintro e w5 ⟨rfl, hb⟩
    go_wp2_with fail
    go_ret
    exact ⟨rfl, hb⟩
theorem rd16_of_row {w : World} {a : Option Addr} {n c : Nat} {xs : List Int} (h : IsRow .u16 w a n c xs) : Rd16 w a n (xs.take n) := by
  rcases h with ⟨rfl, rfl, rfl, rfl⟩ | ⟨x, rfl, h1, h2, h3, h4, h5⟩
  · exact ⟨rfl, by simp, fun h => by omega⟩
  · refine ⟨by simp; omega, fun z hz2 => bounds_u16 (h5 z (List.mem_of_mem_take hz2)), fun hn => ?_⟩
    obtain ⟨b, o, spot⟩ := x
    have h0 := h4 0 (by omega)
    have hspot : spot = none := by simpa [Addr.add] using World.cell?_spot h0
    subst hspot
    refine ⟨b, o, rfl, fun j hj => ?_⟩
    have := h4 j (by omega)
    rw [Addr.add_lit] at this
    rw [this]
    simp [hj]
theorem crcCuts_true (a : Option Addr) (n c : Nat) (xs : List Int) (a2 : Option Addr) (n2 c2 : Nat) (ys : List Int) (at_ change : Int) (w : World) (hr : Rd w a n xs) (hnc : n ≤ c) (hnone : a = none → n = 0 ∧ c = 0) (hr2 : Rd16 w a2 n2 ys) (ha : 0 ≤ at_ ∧ at_ ≤ 65535) (hc : 0 ≤ change ∧ change ≤ 4294967295) (ht : Tab w) :
    Calls Tryd.prog 4 #[.slice a n c, .slice a2 n2 c2, .int .u16 at_, .int .u32 change] w fun e w' => e = .returned (.bool true) ∧ Below w.heap.size w w' := by
  by_cases h : 3000 < n ∨ 40 < n2
  · exact crcCuts_big a n c a2 n2 c2 at_ change w h ht
  · exact crcCuts_small a n c xs a2 n2 c2 ys at_ change w hr (by omega) hnc hnone hr2 (by omega) ha hc ht
theorem row_cap {k : IntKind} {w : World} {a : Option Addr} {n c : Nat} {xs : List Int} (h : IsRow k w a n c xs) : n ≤ c ∧ (a = none → n = 0 ∧ c = 0) := by
  rcases h with ⟨rfl, rfl, rfl, rfl⟩ | ⟨x, rfl, h1, h2, h3, h4, h5⟩
  · exact ⟨Nat.le_refl _, fun _ => ⟨rfl, rfl⟩⟩
  · exact ⟨h1, fun h => by cases h⟩
theorem crcCuts_row (a : Option Addr) (n c : Nat) (xs : List Int) (a2 : Option Addr) (n2 c2 : Nat) (ys : List Int) (at_ change : Int) (w : World) (hr : IsRow .u8 w a n c xs) (hr2 : IsRow .u16 w a2 n2 c2 ys) (ha : (Lit.int .u16 at_).wf = true) (hc : (Lit.int .u32 change).wf = true) (ht : Tab w) :
    Calls Tryd.prog 4 #[.slice a n c, .slice a2 n2 c2, .int .u16 at_, .int .u32 change] w fun e w' => e = .returned (.bool true) ∧ Below w.heap.size w w' :=
  crcCuts_true a n c _ a2 n2 c2 _ at_ change w (rd_of_row hr) (row_cap hr).1 (row_cap hr).2 (rd16_of_row hr2) (bounds_u16 ha) (bounds_u32 hc) ht
end Go.Proofs.YtfdbibddhneklaaDoor
