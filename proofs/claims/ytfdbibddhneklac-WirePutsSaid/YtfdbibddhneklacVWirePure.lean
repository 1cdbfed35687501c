import Derived.Test.YtfdbibddhneklacVWireBits
namespace Go.Proofs.Ytfdbibddhneklac.PWireBack
open Go.RowKit Go.Proofs.YtfdbibddhneklacW.PrintWords Go.Proofs.YtfdbibddhneklacW.PrintLast Go.Proofs.YtfdbibddhneklacW.PrintMore
set_option linter.unusedVariables false
theorem wire_bytes_of {l : List Int} (h : ∀ x ∈ l, 0 ≤ x ∧ x < 256) : wire_bytes l = true := by
  unfold wire_bytes
  rw [List.all_eq_true]
  intro x hx
  simpa using h x hx
theorem wire_vb_bytes (k : Nat) : ∀ n : Int, 0 ≤ n → ∀ x ∈ wire_vb k n, 0 ≤ x ∧ x < 256 := by
  induction k with
  | zero => intro n h x hx; simp [wire_vb] at hx; omega
  | succ k ih =>
    intro n h x hx
    rw [wire_vb] at hx
    split at hx
    · rcases List.mem_cons.1 hx with rfl | hx
      · omega
      · exact ih _ (by omega) x hx
    · simp at hx; omega
theorem wire_varint_of {l : List Int} (h : ∀ x ∈ l, 0 ≤ x ∧ x < 256) (hl : l.length ≤ 140737488355328) : wire_varint.f l = some (wire_vr l 10 0 0) := by
  unfold wire_varint.f
  rw [if_pos ⟨wire_bytes_of h, hl⟩]
theorem wire_Num_at (pre rest : List Int) (v : Int) (hv : 0 ≤ v ∧ v < 18446744073709551616) (hb : ∀ x ∈ rest, 0 ≤ x ∧ x < 256) (hl : (pre ++ (wire_vb 9 v ++ rest)).length ≤ 140737488355328) :
    wire_Reader_Num.f (pre ++ (wire_vb 9 v ++ rest)) pre.length 0 = some (v, (pre.length : Int) + (wire_vb 9 v).length, 0) := by
  unfold wire_Reader_Num.f
  have hl' := hl
  rw [List.length_append] at hl'
  rw [if_pos rfl, if_pos ⟨by omega, by rw [List.length_append]; omega, hl⟩, Int.toNat_natCast, List.drop_left,
    wire_varint_of (fun x hx => by rcases List.mem_append.1 hx with h | h; exact wire_vb_bytes 9 v hv.1 x h; exact hb x h) (by omega), wire_vr_put v rest hv]
  rfl
theorem wire_Signed_at (pre rest : List Int) (m : Int) (hm : -9223372036854775808 ≤ m ∧ m < 9223372036854775808) (hb : ∀ x ∈ rest, 0 ≤ x ∧ x < 256) (hl : (pre ++ (wire_vb 9 (wire_zig m) ++ rest)).length ≤ 140737488355328) :
    wire_Reader_Signed.f (pre ++ (wire_vb 9 (wire_zig m) ++ rest)) pre.length 0 = some (m, (pre.length : Int) + (wire_vb 9 (wire_zig m)).length, 0) := by
  unfold wire_Reader_Signed.f
  rw [wire_Num_at pre rest _ (wire_zig_range m hm) hb hl]
  show some (Go.bits .xor .i64 (wrap64 (wire_zig m / 2)) (wrap64 (-(wrap64 (Go.bits .and .u64 (wire_zig m) 1)))), _, _) = _
  rw [wire_unzig m hm]
theorem wire_Fixed_at (pre rest : List Int) (n : Int) (hn : 0 ≤ n ∧ n < 4294967296) (hl : (pre ++ ([n / 16777216, n / 65536 % 256, n / 256 % 256, n % 256] ++ rest)).length ≤ 140737488355328) :
    wire_Reader_Fixed.f 5 (pre ++ ([n / 16777216, n / 65536 % 256, n / 256 % 256, n % 256] ++ rest)) pre.length 0 = some (n, (pre.length : Int) + 4, 0) := by
  have hB : wire_Reader_Bytes.f (pre ++ ([n / 16777216, n / 65536 % 256, n / 256 % 256, n % 256] ++ rest)) pre.length 0 4 = some ([n / 16777216, n / 65536 % 256, n / 256 % 256, n % 256], (pre.length : Int) + 4, 0) := by
    unfold wire_Reader_Bytes.f
    rw [if_pos rfl, if_pos ⟨by omega, by rw [List.length_append]; omega, hl⟩, Int.toNat_natCast, List.drop_left, if_neg (by decide), if_neg (by simp; omega)]
    rfl
  unfold wire_Reader_Fixed.f
  rw [hB]
  exact wire_fixed4 n hn _ _ _
theorem wire_str_bytes (s : ByteArray) : strOfNums (bytesOf s) = s := by
  unfold strOfNums bytesOf
  apply ByteArray.ext
  simp only [List.map_map]
  have : ((fun n : Int => UInt8.ofNat n.toNat) ∘ fun b : UInt8 => (b.toNat : Int)) = id := by
    funext b; simp
  rw [this]
  simp
theorem wire_bytesOf_range (s : ByteArray) : ∀ x ∈ bytesOf s, 0 ≤ x ∧ x < 256 := by
  intro x hx
  unfold bytesOf at hx
  obtain ⟨b, _, rfl⟩ := List.mem_map.1 hx
  have := b.toNat_lt
  omega
theorem wire_Text_at (pre rest : List Int) (s : ByteArray) (hs : s.size ≤ 2000) (hb : ∀ x ∈ rest, 0 ≤ x ∧ x < 256) (hl : (pre ++ (wire_vb 9 s.size ++ (bytesOf s ++ rest))).length ≤ 140737488355328) :
    wire_Reader_Text.f (pre ++ (wire_vb 9 s.size ++ (bytesOf s ++ rest))) pre.length 0 s.size = some (s, (pre.length : Int) + ((wire_vb 9 s.size).length + s.size), 0) := by
  unfold wire_Reader_Text.f
  have hl' := hl
  rw [List.length_append] at hl'
  rw [if_pos rfl, if_pos ⟨by omega, by rw [List.length_append]; omega, hl, by omega⟩, Int.toNat_natCast, List.drop_left,
    wire_varint_of (fun x hx => by
      rcases List.mem_append.1 hx with h | h
      · exact wire_vb_bytes 9 _ (by omega) x h
      · rcases List.mem_append.1 h with h | h
        · exact wire_bytesOf_range s x h
        · exact hb x h) (by omega), wire_vr_put (s.size : Int) _ (by omega)]
  show wire_Text_out _ _ _ _ = _
  unfold wire_Text_out
  have hlen := bytesOf_length s
  rw [if_neg (by simp), if_neg (by omega), if_neg (by simp), if_neg (by first | (simp; done) | (simp; omega)), if_neg (by first | (simp [hlen]; done) | (simp [hlen]; omega))]
  simp only [Int.toNat_natCast, List.drop_left]
  rw [← hlen, List.take_left, wire_str_bytes]
theorem wire_Put_nil (v : Int) (l : List Int) (hl : l.length ≤ 100000) (hv : 0 ≤ v ∧ v < 18446744073709551616) : wire_Put.f l v = some (l ++ wire_vb 9 v) := by
  unfold wire_Put.f
  rw [if_pos ⟨hv.1, hv.2, by omega⟩]
theorem wire_PutSigned_at (m : Int) (l : List Int) (hl : l.length ≤ 100000) (hm : -9223372036854775808 ≤ m ∧ m < 9223372036854775808) : wire_PutSigned.f l m = some (l ++ wire_vb 9 (wire_zig m)) := by
  unfold wire_PutSigned.f
  rw [wire_zig_of m hm, wire_Put_nil _ l hl (wire_zig_range m hm)]
  rfl
theorem wire_PutText_at (s : ByteArray) (l : List Int) (hl : l.length ≤ 100000) (hs : s.size ≤ 2000) : wire_PutText.f l s = some (l ++ wire_vb 9 s.size ++ bytesOf s) := by
  unfold wire_PutText.f
  have hw : IntKind.u64.wrap (s.size : Int) = s.size := by rw [IntKind.wrap_u64]; omega
  have hvl := (wire_vb_len 9 (s.size : Int)).2
  rw [hw, wire_Put_nil _ l hl (by omega)]
  show (if (l ++ wire_vb 9 s.size).length + s.size < 140737488355328 then _ else none) = _
  rw [if_pos (by rw [List.length_append]; omega)]
theorem wire_app_range {l1 l2 : List Int} (h1 : ∀ x ∈ l1, 0 ≤ x ∧ x < 256) (h2 : ∀ x ∈ l2, 0 ≤ x ∧ x < 256) : ∀ x ∈ l1 ++ l2, 0 ≤ x ∧ x < 256 := fun x hx => by
  rcases List.mem_append.1 hx with h | h
  · exact h1 x h
  · exact h2 x h
theorem wire_reads (a m n : Int) (s : ByteArray) (z : List Int) (ha : 0 ≤ a ∧ a < 18446744073709551616) (hn : 0 ≤ n ∧ n < 4294967296) (hm : -9223372036854775808 ≤ m ∧ m < 9223372036854775808)
    (hs : s.size ≤ 2000) (hzl : z.length ≤ 2000) (hz : ∀ x ∈ z, 0 ≤ x ∧ x < 256) (Y : List Int) (hY : Y = wire_vb 9 a ++ (wire_vb 9 (wire_zig m) ++ ([n / 16777216, n / 65536 % 256, n / 256 % 256, n % 256] ++ (wire_vb 9 (s.size : Int) ++ (bytesOf s ++ z))))) :
    ∃ k1 k2 k3 k4 : Int, wire_Reader_Num.f Y 0 0 = some (a, k1, 0) ∧ wire_Reader_Signed.f Y k1 0 = some (m, k2, 0) ∧ wire_Reader_Fixed.f 5 Y k2 0 = some (n, k3, 0) ∧ wire_Reader_Text.f Y k3 0 s.size = some (s, k4, 0) ∧ k4 = (Y.length : Int) - z.length ∧ 0 ≤ k4 ∧ Y.length ≤ 5000 := by
  have L1 := (wire_vb_len 9 a).2
  have L2 := (wire_vb_len 9 (wire_zig m)).2
  have L3 := (wire_vb_len 9 (s.size : Int)).2
  have hbl := bytesOf_length s
  have z5 := wire_app_range (wire_bytesOf_range s) hz
  have z4 := wire_app_range (wire_vb_bytes 9 (s.size : Int) (by omega)) z5
  have z3 : ∀ x ∈ [n / 16777216, n / 65536 % 256, n / 256 % 256, n % 256] ++ (wire_vb 9 (s.size : Int) ++ (bytesOf s ++ z)), 0 ≤ x ∧ x < 256 := wire_app_range (by intro x hx; simp at hx; omega) z4
  have z2 := wire_app_range (wire_vb_bytes 9 (wire_zig m) (wire_zig_range m hm).1) z3
  have hlen : Y.length = (wire_vb 9 a).length + ((wire_vb 9 (wire_zig m)).length + (4 + ((wire_vb 9 (s.size : Int)).length + (s.size + z.length)))) := by
    rw [hY]; simp only [List.length_append, List.length_cons, List.length_nil, hbl]
  have hle : Y.length ≤ 140737488355328 := by omega
  refine ⟨((wire_vb 9 a).length : Int), (wire_vb 9 a).length + (wire_vb 9 (wire_zig m)).length, (wire_vb 9 a).length + (wire_vb 9 (wire_zig m)).length + 4, (wire_vb 9 a).length + (wire_vb 9 (wire_zig m)).length + 4 + ((wire_vb 9 (s.size : Int)).length + s.size), ?_, ?_, ?_, ?_, by omega, by omega, by omega⟩
  · have := wire_Num_at [] _ a ha z2 (by rw [List.nil_append, ← hY]; exact hle)
    rw [List.nil_append, ← hY] at this
    simpa using this
  · have := wire_Signed_at (wire_vb 9 a) _ m hm z3 (by rw [← hY]; exact hle)
    rw [← hY] at this
    exact this
  · have e : Y = (wire_vb 9 a ++ wire_vb 9 (wire_zig m)) ++ ([n / 16777216, n / 65536 % 256, n / 256 % 256, n % 256] ++ (wire_vb 9 (s.size : Int) ++ (bytesOf s ++ z))) := by rw [hY]; simp only [List.append_assoc]
    have := wire_Fixed_at (wire_vb 9 a ++ wire_vb 9 (wire_zig m)) _ n hn (by rw [← e]; exact hle)
    rw [← e, List.length_append, Int.natCast_add] at this
    exact this
  · have e : Y = (wire_vb 9 a ++ (wire_vb 9 (wire_zig m) ++ [n / 16777216, n / 65536 % 256, n / 256 % 256, n % 256])) ++ (wire_vb 9 (s.size : Int) ++ (bytesOf s ++ z)) := by rw [hY]; simp only [List.append_assoc]
    have := wire_Text_at (wire_vb 9 a ++ (wire_vb 9 (wire_zig m) ++ [n / 16777216, n / 65536 % 256, n / 256 % 256, n % 256])) z s hs hz (by rw [← e]; exact hle)
    rw [← e] at this
    simp only [List.length_append, List.length_cons, List.length_nil, Int.natCast_add] at this
    simpa [Int.add_assoc] using this
theorem wire_vr_err (l : List Int) (k : Nat) : ∀ (i : Nat) (n : Int), (wire_vr l k i n).2.2 ≠ 0 → (wire_vr l k i n).1 = 0 := by
  induction k with
  | zero => intro i n _; rfl
  | succ k ih =>
    intro i n
    rw [wire_vr]
    split
    · intro _; rfl
    · split
      · intro _; rfl
      · split
        · intro h; exact absurd rfl h
        · exact ih _ _
/-- what is read of any bytes as a number: none, and then nothing; or one whose own bytes begin them -/
theorem wire_first (z : List Int) (hz : ∀ x ∈ z, 0 ≤ x ∧ x < 256) (hl : z.length ≤ 2000) : ∃ v c e : Int, wire_Reader_Num.f z 0 0 = some (v, c, e) ∧ ((e ≠ 0 ∧ v = 0 ∧ c = 0) ∨ (e = 0 ∧ 0 ≤ v ∧ v < 18446744073709551616 ∧ c = ((wire_vb 9 v).length : Int) ∧ (wire_vb 9 v).length ≤ z.length ∧ z.take (wire_vb 9 v).length = wire_vb 9 v)) := by
  have hN : wire_Reader_Num.f z 0 0 = some ((wire_vr z 10 0 0).1, (if (wire_vr z 10 0 0).2.2 = 0 then 0 + (wire_vr z 10 0 0).2.1 else 0), (wire_vr z 10 0 0).2.2) := by
    unfold wire_Reader_Num.f
    rw [if_pos rfl, if_pos ⟨by omega, by omega, by omega⟩]
    show (wire_varint.f z).bind _ = _
    rw [wire_varint_of hz (by omega)]
    rfl
  refine ⟨_, _, _, hN, ?_⟩
  by_cases he : (wire_vr z 10 0 0).2.2 = 0
  · right
    obtain ⟨m, h1, h2, h3, _, h5, h6, h7⟩ := wire_vr_back z hz 9 0 0 (wire_vr z 10 0 0).1 (wire_vr z 10 0 0).2.1 rfl (Prod.ext rfl (Prod.ext rfl he))
    have e1 : (wire_vr z 10 0 0).1 = m := by rw [h1]; simp
    rw [if_pos he, e1]
    have : (2 : Int) * 128 ^ 9 = 18446744073709551616 := by decide
    refine ⟨he, h2, by omega, by omega, by omega, by simpa using h6⟩
  · left
    rw [if_neg he]
    exact ⟨he, wire_vr_err z 10 0 0 he, rfl⟩
theorem wire_str_back (l : List Int) (h : ∀ x ∈ l, 0 ≤ x ∧ x < 256) : (strOfNums l).data.toList.map (fun b : UInt8 => (b.toNat : Int)) = l := by
  unfold strOfNums
  simp only [List.map_map]
  conv => rhs; rw [← List.map_id l]
  refine List.map_congr_left fun x hx => ?_
  have := h x hx
  simp only [Function.comp, id]
  rw [UInt8.toNat_ofNat']
  omega
theorem wire_cmp (l1 l2 : List Int) (h1 : ∀ x ∈ l1, 0 ≤ x ∧ x < 256) (h2 : ∀ x ∈ l2, 0 ≤ x ∧ x < 256) (hne : l1 ≠ l2) : ((strOfNums l1).toList == (strOfNums l2).toList) = false := by
  rw [ByteArray.toList_eq, ByteArray.toList_eq]
  refine beq_eq_false_iff_ne.2 fun e => hne ?_
  rw [← wire_str_back l1 h1, ← wire_str_back l2 h2, e]
theorem wire_unlike_str (a b : Int) (ha : 0 ≤ a ∧ a < 18446744073709551616) (hb : 0 ≤ b ∧ b < 18446744073709551616) (hab : a ≠ b) : ((strOfNums ((wire_vb 9 a).take (wire_vb 9 b).length)).toList == (strOfNums (wire_vb 9 b)).toList) = false :=
  wire_cmp _ _ (fun x hx => wire_vb_bytes 9 a ha.1 x (List.mem_of_mem_take hx)) (wire_vb_bytes 9 b hb.1) (fun e => hab (wire_vb_unlike b a hb ha e.symm).symm)
end Go.Proofs.Ytfdbibddhneklac.PWireBack
