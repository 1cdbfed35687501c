import Derived.Test.YtigcgdhihaibbaaDoorZ0
import Derived.WideKeyArr
import Derived.WideKeyEntry
namespace Go.Proofs.YtigcgdhihaibbaaDoor.PLz
open Go.RowKit Go.Proofs.YtigcgdhihaibbaaDoorW.PrintWords Go.Proofs.YtigcgdhihaibbaaDoorW.PrintLast Go.Proofs.YtigcgdhihaibbaaDoorW.PrintMore
attribute [local go_sem] max2_int min2_int max_two min_two max_three min_three max_four min_four   -- for this text's walks alone
set_option linter.unusedVariables false
set_option linter.unusedSimpArgs false
theorem lz_under77 : Tryd.prog.underlying 86 = some (.array 3 5) := by kernel_rfl
theorem lz_under53 : Tryd.prog.underlying 67 = some (.map 86 89) := by kernel_rfl
theorem lz_arr : WideMaps.ArrKey Tryd.prog 86 5 3 := ⟨lz_under77, by kernel_rfl, by kernel_rfl, by kernel_rfl⟩
theorem lz_law : WideMaps.KeyLaw Tryd.prog 86 := lz_arr.law
theorem lz_types : ∃ m, Tryd.prog.types.size = m + 1 := by
  have h : 0 < Tryd.prog.types.size := of_decide_eq_true (by kernel_rfl)
  exact ⟨Tryd.prog.types.size - 1, by omega⟩
theorem lz_zero (w : World) : (zeroValue 89).run Tryd.prog w = .ok (.slice none 0 0) w := by kernel_rfl
/-- a key's value -/
def lz_kv (k : Int × Int × Int) : Value := .agg #[.int .u8 k.1, .int .u8 k.2.1, .int .u8 k.2.2]
def lz_kb (k : Int × Int × Int) : Prop := (0 ≤ k.1 ∧ k.1 < 256) ∧ (0 ≤ k.2.1 ∧ k.2.1 < 256) ∧ (0 ≤ k.2.2 ∧ k.2.2 < 256)
theorem lz_wf (x : Int) (h : 0 ≤ x ∧ x < 256) : (Lit.int .u8 x).wf = true := by simp [Lit.wf, IntKind.min, IntKind.max, IntKind.bits, IntKind.signed]; omega
theorem lz_keyOf (k : Int × Int × Int) (h : lz_kb k) : ∃ l, keyOf Tryd.prog 86 (lz_kv k) = some l := by
  have hkt := lz_arr.keyType lz_types
  obtain ⟨m, hm⟩ := lz_types
  have wa := lz_wf _ h.1
  have wb := lz_wf _ h.2.1
  have wc := lz_wf _ h.2.2
  have he : Tryd.prog.underlying 5 = some (.int .u8) := by kernel_rfl
  refine ⟨.string (keyBytes [.int .u8 k.1, .int .u8 k.2.1, .int .u8 k.2.2]), ?_⟩
  unfold keyOf lz_kv
  simp only [lz_under77]
  rw [if_pos (by simp [hkt, Value.formed, lz_under77, lz_arr.size]), hm]
  unfold Program.keyLits
  simp only [lz_under77, Value.cells]
  rw [if_pos (by rw [lz_arr.size]; rfl), show List.range 3 = [0, 1, 2] from rfl, List.mapM_cons, List.mapM_cons, List.mapM_cons, List.mapM_nil]
  simp [lz_arr.one, Program.keyLits, he, wa, wb, wc]
theorem lz_kv_inj {k k' : Int × Int × Int} (h : lz_kv k = lz_kv k') : k = k' := by
  obtain ⟨a, b, c⟩ := k
  obtain ⟨a', b', c'⟩ := k'
  simp [lz_kv] at h
  obtain ⟨rfl, rfl, rfl⟩ := h
  rfl
def lz_Map (W : World) (gm : Nat) (L : List ((Int × Int × Int) × Value)) : Prop :=
  ∃ (es : Array MapEntry) (clock : Nat), W.heap[gm]? = some (.map es clock) ∧ es.toList.map (fun e => (e.key, e.val)) = L.map (fun p => (lz_kv p.1, p.2)) ∧ (es.toList.map (·.born)).Nodup ∧ (∀ e ∈ es.toList, e.born < clock) ∧ (∀ p ∈ L, lz_kb p.1) ∧ (L.map (·.1)).Nodup
def lz_get (L : List ((Int × Int × Int) × Value)) (k : Int × Int × Int) : Value := ((L.find? (fun p => decide (p.1 = k))).map (·.2)).getD (.slice none 0 0)
def lz_put (L : List ((Int × Int × Int) × Value)) (k : Int × Int × Int) (v : Value) : List ((Int × Int × Int) × Value) :=
  if k ∈ L.map (·.1) then L.map (fun p => if p.1 = k then (k, v) else p) else L ++ [(k, v)]
theorem lz_get_no {L : List ((Int × Int × Int) × Value)} {k : Int × Int × Int} (h : k ∉ L.map (·.1)) : lz_get L k = .slice none 0 0 := by
  unfold lz_get
  rw [List.find?_eq_none.2 (fun p hp => by simpa using fun e => h (List.mem_map.2 ⟨p, hp, e⟩))]
  rfl
theorem lz_get_at : ∀ {L : List ((Int × Int × Int) × Value)} {k : Int × Int × Int} {v : Value} (_ : (L.map (·.1)).Nodup) (_ : (k, v) ∈ L), lz_get L k = v := by
  intro L
  induction L with
  | nil => intro k v _ h; simp at h
  | cons p L ih =>
    intro k v hn h
    simp only [List.map_cons, List.nodup_cons] at hn
    unfold lz_get
    rw [List.find?_cons]
    by_cases hp : p.1 = k
    · rcases List.mem_cons.1 h with rfl | h
      · simp
      · exact absurd (List.mem_map.2 ⟨_, h, rfl⟩) (hp ▸ hn.1)
    · rw [show decide (p.1 = k) = false by simpa using hp]
      rcases List.mem_cons.1 h with rfl | h
      · exact absurd rfl hp
      · exact ih hn.2 h
theorem lz_get_other {L : List ((Int × Int × Int) × Value)} {k k' : Int × Int × Int} (v : Value) (h : k' ≠ k) : lz_get (lz_put L k v) k' = lz_get L k' := by
  unfold lz_put
  split
  · unfold lz_get
    congr 1
    induction L with
    | nil => rfl
    | cons p L ih =>
      simp only [List.map_cons, List.find?_cons]
      by_cases hp : p.1 = k
      · simp only [hp, if_true]
        rw [show decide (k = k') = false by simpa using fun e => h e.symm]
        by_cases hm : k ∈ L.map (·.1)
        · exact ih hm
        · clear ih
          congr 1
          have : L.map (fun p => if p.1 = k then (k, v) else p) = L := by
            conv => rhs; rw [← List.map_id L]
            refine List.map_congr_left fun q hq => ?_
            rw [if_neg (fun e => hm (List.mem_map.2 ⟨q, hq, e⟩))]; rfl
          rw [this]
      · simp only [if_neg hp]
        by_cases hp' : p.1 = k'
        · simp [hp']
        · rw [show decide (p.1 = k') = false by simpa using hp']
          rename_i hmem
          have hm : k ∈ L.map (·.1) := by
            simp only [List.map_cons, List.mem_cons] at hmem
            rcases hmem with e | e
            · exact absurd e.symm hp
            · exact e
          exact ih hm
  · unfold lz_get
    rw [List.find?_append]
    have : List.find? (fun p => decide (p.1 = k')) [(k, v)] = none := by
      simp; exact fun e => h e.symm
    rw [this]
    simp
theorem lz_put_keys (L : List ((Int × Int × Int) × Value)) (k : Int × Int × Int) (v : Value) (hn : (L.map (·.1)).Nodup) : ((lz_put L k v).map (·.1)).Nodup ∧ (k, v) ∈ lz_put L k v ∧ (∀ p ∈ lz_put L k v, p = (k, v) ∨ (p ∈ L ∧ p.1 ≠ k)) := by
  unfold lz_put
  split
  · rename_i hm
    have e : (L.map (fun p => if p.1 = k then (k, v) else p)).map (·.1) = L.map (·.1) := by
      rw [List.map_map]
      refine List.map_congr_left fun q hq => ?_
      by_cases h : q.1 = k <;> simp [h]
    refine ⟨by rw [e]; exact hn, ?_, ?_⟩
    · obtain ⟨p, hp, rfl⟩ := List.mem_map.1 hm
      exact List.mem_map.2 ⟨p, hp, by simp⟩
    · intro p hp
      obtain ⟨q, hq, rfl⟩ := List.mem_map.1 hp
      by_cases h : q.1 = k
      · left; simp [h]
      · right; rw [if_neg h]; exact ⟨hq, h⟩
  · rename_i hm
    refine ⟨?_, by simp, ?_⟩
    · rw [List.map_append]
      refine List.nodup_append.2 ⟨hn, by simp, fun a ha c hc e => ?_⟩
      simp at hc
      exact hm (hc ▸ e ▸ ha)
    · intro p hp
      rcases List.mem_append.1 hp with hp | hp
      · exact .inr ⟨hp, fun e => hm (List.mem_map.2 ⟨p, hp, e⟩)⟩
      · left; simpa using hp
theorem lz_get_put (L : List ((Int × Int × Int) × Value)) (k : Int × Int × Int) (v : Value) (hn : (L.map (·.1)).Nodup) : lz_get (lz_put L k v) k = v := by
  obtain ⟨h1, h2, _⟩ := lz_put_keys L k v hn
  exact lz_get_at h1 h2
theorem lz_keys_of {W : World} {gm : Nat} {L : List ((Int × Int × Int) × Value)} {es : Array MapEntry} (hm : es.toList.map (fun e => (e.key, e.val)) = L.map (fun p => (lz_kv p.1, p.2))) (hb : ∀ p ∈ L, lz_kb p.1) : ∀ e ∈ es.toList, ∃ l, keyOf Tryd.prog 86 e.key = some l := by
  intro e he
  have : (e.key, e.val) ∈ L.map (fun p => (lz_kv p.1, p.2)) := by rw [← hm]; exact List.mem_map.2 ⟨e, he, rfl⟩
  obtain ⟨p, hp, e1⟩ := List.mem_map.1 this
  simp only [Prod.mk.injEq] at e1
  rw [← e1.1]
  exact lz_keyOf _ (hb p hp)
theorem lz_lookup {W : World} {gm : Nat} {L : List ((Int × Int × Int) × Value)} (h : lz_Map W gm L) (k : Int × Int × Int) (hk : lz_kb k) : (Instr.lookup 67 (.map (some gm)) (lz_kv k) false).run Tryd.prog W = .ok (lz_get L k) W := by
  obtain ⟨es, clock, hb, hm, hborn, hlt, hkb, hn⟩ := h
  obtain ⟨l, hl⟩ := lz_keyOf k hk
  have hks := lz_keys_of (W := W) (gm := gm) hm hkb
  rcases lz_law.find W hl es.toList hks with ⟨h1, h2⟩ | ⟨j, e0, h1, h2, h3⟩
  · have hno : k ∉ L.map (·.1) := by
      intro hmem
      obtain ⟨p, hp, rfl⟩ := List.mem_map.1 hmem
      have : (lz_kv p.1, p.2) ∈ es.toList.map (fun e => (e.key, e.val)) := by rw [hm]; exact List.mem_map.2 ⟨p, hp, rfl⟩
      obtain ⟨e, he, e1⟩ := List.mem_map.1 this
      simp only [Prod.mk.injEq] at e1
      exact h2 e he e1.1
    rw [lz_get_no hno]
    simp [Instr.lookup, run_underlying lz_under53, MapKept.run_getObj_map hb, lz_law.check W es.isEmpty hl, h1, lz_zero, Result.andThen]
  · have hmem : (lz_kv k, e0.val) ∈ L.map (fun p => (lz_kv p.1, p.2)) := by
      rw [← hm]; exact List.mem_map.2 ⟨e0, List.mem_of_getElem? h2, by rw [h3]⟩
    obtain ⟨p, hp, e1⟩ := List.mem_map.1 hmem
    simp only [Prod.mk.injEq] at e1
    have hpk := lz_kv_inj e1.1
    rw [lz_get_at hn (show (k, e0.val) ∈ L by rw [← hpk, ← e1.2]; exact hp)]
    simp [Instr.lookup, run_underlying lz_under53, MapKept.run_getObj_map hb, lz_law.check W es.isEmpty hl, h1, Result.andThen]
theorem lz_find {es : Array MapEntry} {L : List ((Int × Int × Int) × Value)} (hm : es.toList.map (fun e => (e.key, e.val)) = L.map (fun p => (lz_kv p.1, p.2))) (hkb : ∀ p ∈ L, lz_kb p.1) (hn : (L.map (·.1)).Nodup) (k : Int × Int × Int) (hk : lz_kb k) :
    (k ∉ L.map (·.1) ∧ ∀ W, (Instr.findKey 86 (lz_kv k) es.toList).run Tryd.prog W = .ok none W) ∨
    ∃ j e0, es.toList[j]? = some e0 ∧ e0.key = lz_kv k ∧ (k, e0.val) ∈ L ∧ ∀ W, (Instr.findKey 86 (lz_kv k) es.toList).run Tryd.prog W = .ok (some (j, e0.val)) W := by
  obtain ⟨l, hl⟩ := lz_keyOf k hk
  have hks := lz_keys_of (W := default) (gm := 0) hm hkb
  have hnk : (es.toList.map (·.key)).Nodup := by
    have e1 : es.toList.map (·.key) = (L.map (·.1)).map lz_kv := by
      have := congrArg (List.map Prod.fst) hm
      simpa [List.map_map, Function.comp_def] using this
    rw [e1]
    exact (List.pairwise_map.2 (hn.imp (fun h e => h (lz_kv_inj e))))
  by_cases hin : k ∈ L.map (·.1)
  · right
    obtain ⟨p, hp, rfl⟩ := List.mem_map.1 hin
    have : (lz_kv p.1, p.2) ∈ es.toList.map (fun e => (e.key, e.val)) := by rw [hm]; exact List.mem_map.2 ⟨p, hp, rfl⟩
    obtain ⟨e, he, e1⟩ := List.mem_map.1 this
    simp only [Prod.mk.injEq] at e1
    obtain ⟨j, hj⟩ := List.mem_iff_getElem?.1 he
    refine ⟨j, e, hj, e1.1, by rw [e1.2]; exact hp, fun W => ?_⟩
    rcases lz_law.find W hl es.toList hks with ⟨_, h2⟩ | ⟨j', e', h1, h2, h3⟩
    · exact absurd e1.1 (h2 e he)
    · have a1 : (es.toList.map (·.key))[j]? = some (lz_kv p.1) := by rw [List.getElem?_map, hj]; simp [e1.1]
      have a2 : (es.toList.map (·.key))[j']? = some (lz_kv p.1) := by rw [List.getElem?_map, h2]; simp [h3]
      have hil : j < (es.toList.map (·.key)).length := (List.getElem?_eq_some_iff.1 a1).1
      obtain rfl := (List.getElem?_inj hil hnk).1 (a1.trans a2.symm)
      rw [hj] at h2
      obtain rfl := Option.some.inj h2
      exact h1
  · left
    refine ⟨hin, fun W => ?_⟩
    rcases lz_law.find W hl es.toList hks with ⟨h1, _⟩ | ⟨j', e', h1, h2, h3⟩
    · exact h1
    · exfalso
      have hmem : (lz_kv k, e'.val) ∈ L.map (fun p => (lz_kv p.1, p.2)) := by rw [← hm]; exact List.mem_map.2 ⟨e', List.mem_of_getElem? h2, by rw [h3]⟩
      obtain ⟨p, hp, e1⟩ := List.mem_map.1 hmem
      simp only [Prod.mk.injEq] at e1
      exact hin (List.mem_map.2 ⟨p, hp, lz_kv_inj e1.1⟩)
theorem lz_entry {W : World} {gm : Nat} {L : List ((Int × Int × Int) × Value)} (h : lz_Map W gm L) (k : Int × Int × Int) (hk : lz_kb k) :
    ∃ (es : Array MapEntry) (clock st : Nat) (es1 : Array MapEntry) (clock1 : Nat), W.heap[gm]? = some (.map es clock) ∧ (∀ w' : World, w'.heap[gm]? = some (.map es clock) → (Instr.mapEntry 67 (.map (some gm)) (lz_kv k)).run Tryd.prog w' = .ok (.tuple #[lz_get L k, goInt st]) (ChangeMaps.setBlock w' gm (.map es1 clock1))) ∧
      ∀ (w2 : World) (val : Value), w2.heap[gm]? = some (.map es1 clock1) → ∃ es' clock', (Instr.entryStore 67 (.map (some gm)) (goInt st) val).run Tryd.prog w2 = .ok () (ChangeMaps.setBlock w2 gm (.map es' clock')) ∧ lz_Map (ChangeMaps.setBlock w2 gm (.map es' clock')) gm (lz_put L k val) := by
  obtain ⟨es, clock, hb, hm, hborn, hlt, hkb, hn⟩ := h
  obtain ⟨l, hl⟩ := lz_keyOf k hk
  rcases lz_find hm hkb hn k hk with ⟨hno, h1⟩ | ⟨j, e0, h2, h3, hin0, h1⟩
  · have hbn : ((es.push ⟨lz_kv k, .slice none 0 0, clock⟩).toList.map (·.born)).Nodup := by
      simp only [Array.toList_push, List.map_append, List.map_cons, List.map_nil]
      refine List.nodup_append.2 ⟨hborn, by simp, fun a ha c hc e1 => ?_⟩
      simp only [List.mem_singleton] at hc
      obtain ⟨x, hx, rfl⟩ := List.mem_map.1 ha
      have := hlt x hx
      omega
    refine ⟨es, clock, clock, es.push ⟨lz_kv k, .slice none 0 0, clock⟩, clock + 1, hb, ?_, fun w2 val hw2 => ⟨es.push ⟨lz_kv k, val, clock⟩, clock + 1, ?_, ?_⟩⟩
    · intro w' hw'
      rw [lz_get_no hno]
      simp [Instr.mapEntry, run_underlying lz_under53, MapKept.run_getObj_map hw', lz_law.check w' false hl, h1, lz_zero, MapKept.run_setObj_map _ hw', Result.andThen, ChangeMaps.setBlock]
    · have hidx : (es.push ⟨lz_kv k, .slice none 0 0, clock⟩).findIdx? (fun e => ((e.born : Nat) : Int) == ((clock : Nat) : Int)) = some es.size := by
        rw [WideElems.findIdx_arr]
        exact WideElems.findIdx_born (l := (es.push ⟨lz_kv k, .slice none 0 0, clock⟩).toList) (j := es.size) (e0 := ⟨lz_kv k, .slice none 0 0, clock⟩) hbn (by simp)
      have hmod : (es.push ⟨lz_kv k, .slice none 0 0, clock⟩).modify es.size (fun e => { e with val := val }) = es.push ⟨lz_kv k, val, clock⟩ := by
        apply Array.ext'
        rw [Array.toList_modify, Array.toList_push, Array.toList_push, ← Array.length_toList, WideElems.modify_last]
      simp [Instr.entryStore, MapKept.run_getObj_map hw2, asInt, asIntOf, goInt, hidx, hmod, MapKept.run_setObj_map _ hw2, Result.andThen, ChangeMaps.setBlock]
    · have hlt2 : gm < w2.heap.size := (Array.getElem?_eq_some_iff.1 hw2).1
      refine ⟨_, _, ChangeMaps.heap_setBlock_same hw2 _, ?_, ?_, ?_, ?_, (lz_put_keys L k val hn).1⟩
      · unfold lz_put
        rw [if_neg hno]
        simp [hm]
      · have : (es.push ⟨lz_kv k, val, clock⟩).toList.map (·.born) = (es.push ⟨lz_kv k, .slice none 0 0, clock⟩).toList.map (·.born) := by simp
        rw [this]; exact hbn
      · intro e he
        simp only [Array.toList_push, List.mem_append, List.mem_singleton] at he
        rcases he with he | rfl
        · have := hlt e he; omega
        · simp
      · intro p hp
        rcases (lz_put_keys L k val hn).2.2 p hp with rfl | ⟨h, _⟩
        · exact hk
        · exact hkb p h
  · have hj : es[j]? = some e0 := by simpa using h2
    have hsame : es.modify j (fun e => { e with key := lz_kv k }) = es := by
      apply Array.ext'
      rw [Array.toList_modify, ChangeMaps.modify_eq_set _ _ _ _ h2]
      have : ({ e0 with key := lz_kv k } : MapEntry) = e0 := by rw [← h3]
      rw [this]
      exact WideElems.set_self _ _ _ h2
    refine ⟨es, clock, e0.born, es, clock, hb, ?_, fun w2 val hw2 => ⟨es.modify j (fun e' => { e' with val := val }), clock, ?_, ?_⟩⟩
    · intro w' hw'
      rw [lz_get_at hn hin0]
      simp [Instr.mapEntry, run_underlying lz_under53, MapKept.run_getObj_map hw', lz_law.check w' false hl, h1, hj, h3, lz_law.stays w' hl, hsame, MapKept.run_setObj_map _ hw', Result.andThen, ChangeMaps.setBlock]
    · have hidx : es.findIdx? (fun e => ((e.born : Nat) : Int) == ((e0.born : Nat) : Int)) = some j := by
        rw [WideElems.findIdx_arr]
        exact WideElems.findIdx_born hborn h2
      simp [Instr.entryStore, MapKept.run_getObj_map hw2, asInt, asIntOf, goInt, hidx, MapKept.run_setObj_map _ hw2, Result.andThen, ChangeMaps.setBlock]
    · have hlt2 : gm < w2.heap.size := (Array.getElem?_eq_some_iff.1 hw2).1
      have hset : (es.modify j (fun e' => { e' with val := val })).toList = es.toList.set j { e0 with val := val } := by
        rw [Array.toList_modify, ChangeMaps.modify_eq_set _ _ _ _ h2]
      refine ⟨_, _, ChangeMaps.heap_setBlock_same hw2 _, ?_, ?_, ?_, ?_, (lz_put_keys L k val hn).1⟩
      · rw [hset]
        have hin : k ∈ L.map (·.1) := List.mem_map.2 ⟨_, hin0, rfl⟩
        unfold lz_put
        rw [if_pos hin]
        apply List.ext_getElem?
        intro i
        have hmi : (es.toList.map (fun e => (e.key, e.val)))[i]? = (L.map (fun p => (lz_kv p.1, p.2)))[i]? := by rw [hm]
        simp only [List.getElem?_map, List.map_map] at hmi ⊢
        by_cases hij : i = j
        · subst hij
          rw [h2] at hmi
          simp only [Option.map_some] at hmi
          have hil : i < es.toList.length := (List.getElem?_eq_some_iff.1 h2).1
          rw [List.getElem?_set_self hil]
          cases hL : L[i]? with
          | none => rw [hL] at hmi; simp at hmi
          | some q =>
            rw [hL] at hmi
            simp only [Option.map_some, Option.some.injEq, Prod.mk.injEq] at hmi
            have hq : q.1 = k := lz_kv_inj (hmi.1.symm.trans h3)
            simp [hq, h3]
        · rw [List.getElem?_set_ne (fun e => hij e.symm)]
          rw [hmi]
          cases hL : L[i]? with
          | none => rfl
          | some q =>
            have hq : q.1 ≠ k := by
              intro e
              have hLj : (L.map (fun p => (lz_kv p.1, p.2)))[j]? = some (e0.key, e0.val) := by
                rw [← hm, List.getElem?_map, h2]; rfl
              rw [List.getElem?_map] at hLj
              cases hL2 : L[j]? with
              | none => rw [hL2] at hLj; simp at hLj
              | some q2 =>
                rw [hL2] at hLj
                simp only [Option.map_some, Option.some.injEq, Prod.mk.injEq] at hLj
                have hq2 : q2.1 = k := lz_kv_inj (hLj.1.trans h3)
                have a1 : (L.map (·.1))[i]? = some k := by rw [List.getElem?_map, hL]; simp [e]
                have a2 : (L.map (·.1))[j]? = some k := by rw [List.getElem?_map, hL2]; simp [hq2]
                have hil : i < (L.map (·.1)).length := (List.getElem?_eq_some_iff.1 a1).1
                exact hij ((List.getElem?_inj hil hn).1 (a1.trans a2.symm))
            simp [hq]
      · rw [hset]
        have : (es.toList.set j { e0 with val := val }).map (·.born) = es.toList.map (·.born) := by
          rw [List.map_set]
          exact WideElems.set_self _ _ _ (by rw [List.getElem?_map, h2]; rfl)
        rw [this]; exact hborn
      · rw [hset]
        intro e he
        rcases List.mem_or_eq_of_mem_set he with he | rfl
        · exact hlt e he
        · exact hlt e0 (List.mem_of_getElem? h2)
      · intro p hp
        rcases (lz_put_keys L k val hn).2.2 p hp with rfl | ⟨h, _⟩
        · exact hk
        · exact hkb p h
end Go.Proofs.YtigcgdhihaibbaaDoor.PLz
