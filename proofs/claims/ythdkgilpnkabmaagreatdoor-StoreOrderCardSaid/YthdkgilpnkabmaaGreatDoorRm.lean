/- Maps whose entries are known one by one: made, asked, written, ranged over. -/
import Derived.Maps.RangeWalk
import Derived.Below
namespace Go.Proofs.YthdkgilpnkabmaaGreatDoor.Rm
open Go Go.RowKit Go.ChangeMaps Go.MapKept Go.WideElems
open Go.Maps (Keyed)
set_option linter.unusedVariables false
set_option linter.unusedSimpArgs false
section
variable {α β : Type}
/-! ### lists of pairs -/
def getM [DecidableEq α] (M : List (α × β)) (a : α) : Option β := (M.find? (fun p => decide (p.1 = a))).map (·.2)
def setM [DecidableEq α] (M : List (α × β)) (a : α) (v : β) : List (α × β) := if (getM M a).isNone then M ++ [(a, v)] else M.map (fun p => if p.1 = a then (a, v) else p)
theorem getM_none [DecidableEq α] {M : List (α × β)} {a : α} : getM M a = none ↔ ∀ p ∈ M, p.1 ≠ a := by
  unfold getM
  rw [Option.map_eq_none_iff, List.find?_eq_none]
  exact ⟨fun h p hp e => h p hp (by simpa using e), fun h p hp => by simpa using h p hp⟩
theorem getM_mem [DecidableEq α] {M : List (α × β)} {a : α} {v : β} (h : getM M a = some v) : (a, v) ∈ M := by
  unfold getM at h
  obtain ⟨p, hp, rfl⟩ := Option.map_eq_some_iff.1 h
  have := List.find?_some hp
  have hm := List.mem_of_find?_eq_some hp
  obtain ⟨x, y⟩ := p
  obtain rfl : x = a := by simpa using this
  exact hm
theorem getM_of_mem [DecidableEq α] {M : List (α × β)} (hn : (M.map Prod.fst).Nodup) {a : α} {v : β} (h : (a, v) ∈ M) : getM M a = some v := by
  cases hg : getM M a with
  | none => exact absurd rfl (getM_none.1 hg _ h)
  | some u =>
    have hu := getM_mem hg
    have : ∀ (M : List (α × β)), (M.map Prod.fst).Nodup → (a, v) ∈ M → (a, u) ∈ M → v = u := by
      intro M
      induction M with
      | nil => intro _ h _; simp at h
      | cons p r ih =>
        intro hn h1 h2
        simp only [List.map_cons, List.nodup_cons] at hn
        rcases List.mem_cons.1 h1 with e1 | h1
        · rcases List.mem_cons.1 h2 with e2 | h2
          · rw [← e1] at e2; cases e2; rfl
          · exact absurd (List.mem_map.2 ⟨_, h2, by rw [← e1]⟩) hn.1
        · rcases List.mem_cons.1 h2 with e2 | h2
          · exact absurd (List.mem_map.2 ⟨_, h1, by rw [← e2]⟩) hn.1
          · exact ih hn.2 h1 h2
    rw [this M hn h hu]
theorem keys_set [DecidableEq α] (M : List (α × β)) (a : α) (v : β) : (setM M a v).map Prod.fst = if (getM M a).isNone then M.map Prod.fst ++ [a] else M.map Prod.fst := by
  unfold setM
  split
  · simp
  · rw [List.map_map]
    refine List.map_congr_left (fun p _ => ?_)
    simp only [Function.comp_apply]
    split
    · rename_i h; exact h.symm
    · rfl
theorem nodup_set [DecidableEq α] {M : List (α × β)} (hn : (M.map Prod.fst).Nodup) (a : α) (v : β) : ((setM M a v).map Prod.fst).Nodup := by
  rw [keys_set]
  split
  · rename_i h
    refine List.nodup_append.2 ⟨hn, by simp, ?_⟩
    intro x hx y hy
    simp only [List.mem_singleton] at hy
    subst hy
    obtain ⟨p, hp, rfl⟩ := List.mem_map.1 hx
    exact getM_none.1 (by simpa using h) p hp
  · exact hn
theorem mem_set [DecidableEq α] {M : List (α × β)} {a : α} {v : β} {p : α × β} : p ∈ setM M a v ↔ p = (a, v) ∨ (p ∈ M ∧ p.1 ≠ a) := by
  unfold setM
  split
  · rename_i h
    have hn := getM_none.1 (show getM M a = none by simpa using h)
    rw [List.mem_append, List.mem_singleton]
    exact ⟨fun h => h.elim (fun h => Or.inr ⟨h, hn p h⟩) Or.inl, fun h => h.elim Or.inr (fun h => Or.inl h.1)⟩
  · rename_i h
    rw [List.mem_map]
    constructor
    · rintro ⟨q, hq, rfl⟩
      split
      · exact Or.inl rfl
      · rename_i hne; exact Or.inr ⟨hq, hne⟩
    · rintro (rfl | ⟨hp, hne⟩)
      · cases hg : getM M a with
        | none => simp [hg] at h
        | some u => exact ⟨(a, u), getM_mem hg, by simp⟩
      · exact ⟨p, hp, by simp [hne]⟩
theorem get_set [DecidableEq α] {M : List (α × β)} (hn : (M.map Prod.fst).Nodup) (a : α) (v : β) (b : α) : getM (setM M a v) b = if b = a then some v else getM M b := by
  split
  · rename_i h; subst h
    exact getM_of_mem (nodup_set hn _ _) (mem_set.2 (Or.inl rfl))
  · rename_i h
    cases hg : getM M b with
    | some u => exact getM_of_mem (nodup_set hn _ _) (mem_set.2 (Or.inr ⟨getM_mem hg, h⟩))
    | none =>
      refine getM_none.2 (fun p hp => ?_)
      rcases mem_set.1 hp with rfl | ⟨hp, _⟩
      · exact fun e => h e.symm
      · exact getM_none.1 hg p hp
theorem length_set [DecidableEq α] (M : List (α × β)) (a : α) (v : β) : (setM M a v).length = if (getM M a).isNone then M.length + 1 else M.length := by
  unfold setM
  split <;> simp
/-! ### blocks -/
structure Ents (P : Program) (k : TypeId) (mk : α → Value) (mv : β → Value) (es : Array MapEntry) (clock : Nat) (M : List (α × β)) : Prop where
  stamped : Stamped es clock
  ents : es.toList.map (fun e => (e.key, e.val)) = M.map (fun p => (mk p.1, mv p.2))
  keys : ∀ p ∈ M, ∃ l, keyOf P k (mk p.1) = some l
/-- Block b is a map with just these entries. -/
def MapIs (w : World) (P : Program) (k : TypeId) (mk : α → Value) (mv : β → Value) (b : Nat) (M : List (α × β)) : Prop :=
  ∃ es clock, w.heap[b]? = some (.map es clock) ∧ Ents P k mk mv es clock M
variable {P : Program} {k : TypeId} {mk : α → Value} {mv : β → Value} {es : Array MapEntry} {clock : Nat} {M : List (α × β)} {w : World} {b : Nat}
theorem Ents.size (h : Ents P k mk mv es clock M) : es.size = M.length := by
  have := congrArg List.length h.ents
  simpa using this
theorem Ents.at (h : Ents P k mk mv es clock M) {j : Nat} {e : MapEntry} (he : es.toList[j]? = some e) : ∃ p, M[j]? = some p ∧ e.key = mk p.1 ∧ e.val = mv p.2 := by
  have h1 : (es.toList.map (fun e => (e.key, e.val)))[j]? = some (e.key, e.val) := by rw [List.getElem?_map, he]; rfl
  rw [h.ents, List.getElem?_map] at h1
  obtain ⟨p, hp, hq⟩ := Option.map_eq_some_iff.1 h1
  simp only [Prod.mk.injEq] at hq
  exact ⟨p, hp, hq.1.symm, hq.2.symm⟩
theorem Ents.mem (h : Ents P k mk mv es clock M) {e : MapEntry} (he : e ∈ es.toList) : ∃ p ∈ M, e.key = mk p.1 ∧ e.val = mv p.2 := by
  obtain ⟨j, hj⟩ := List.getElem?_of_mem he
  obtain ⟨p, hp, h1, h2⟩ := h.at hj
  exact ⟨p, List.mem_of_getElem? hp, h1, h2⟩
theorem Ents.mem' (h : Ents P k mk mv es clock M) {p : α × β} (hp : p ∈ M) : ∃ e ∈ es.toList, e.key = mk p.1 ∧ e.val = mv p.2 := by
  have : (mk p.1, mv p.2) ∈ es.toList.map (fun e => (e.key, e.val)) := by rw [h.ents]; exact List.mem_map.2 ⟨p, hp, rfl⟩
  obtain ⟨e, he, h1⟩ := List.mem_map.1 this
  simp only [Prod.mk.injEq] at h1
  exact ⟨e, he, h1.1, h1.2⟩
theorem Ents.keysOf (h : Ents P k mk mv es clock M) : ∀ e ∈ es.toList, ∃ l, keyOf P k e.key = some l := fun e he => by
  obtain ⟨p, hp, h1, _⟩ := h.mem he
  rw [h1]
  exact h.keys p hp
theorem Ents.nodup (h : Ents P k mk mv es clock M) : (M.map Prod.fst).Nodup := by
  have h1 : (es.toList.map (·.key)).Nodup := h.stamped.2.2
  have h2 : es.toList.map (·.key) = (M.map Prod.fst).map mk := by
    have := congrArg (List.map Prod.fst) h.ents
    simpa [List.map_map, Function.comp_def] using this
  rw [h2] at h1
  exact (List.pairwise_map.1 h1).imp (fun hne e => hne (by rw [e]))
theorem MapIs.nodup (h : MapIs w P k mk mv b M) : (M.map Prod.fst).Nodup := by obtain ⟨es, clock, _, h⟩ := h; exact h.nodup
theorem MapIs.lt (h : MapIs w P k mk mv b M) : b < w.heap.size := by
  obtain ⟨es, clock, hb, _⟩ := h
  exact (Array.getElem?_eq_some_iff.1 hb).1
theorem MapIs.of_block {w' : World} (h : MapIs w P k mk mv b M) (hb : w'.heap[b]? = w.heap[b]?) : MapIs w' P k mk mv b M := by
  obtain ⟨es, clock, h1, h2⟩ := h
  exact ⟨es, clock, hb.trans h1, h2⟩
theorem MapIs.kept {w' : World} {row : Option Nat} (h : MapIs w P k mk mv b M) (hg : w.grownBy w' row) (hne : some b ≠ row) : MapIs w' P k mk mv b M := h.of_block (hg.block b h.lt hne)
theorem MapIs.below {w' : World} (h : MapIs w P k mk mv b M) (hb : Below w.heap.size w w') : MapIs w' P k mk mv b M := h.of_block (hb.block b h.lt)
theorem MapIs.key (h : MapIs w P k mk mv b M) {p : α × β} (hp : p ∈ M) : ∃ l, keyOf P k (mk p.1) = some l := by obtain ⟨_, _, _, h⟩ := h; exact h.keys p hp
theorem MapIs.made (w : World) (P : Program) (k : TypeId) (mk : α → Value) (mv : β → Value) : MapIs (w.alloc (.map #[] 0)) P k mk mv w.heap.size [] :=
  ⟨#[], 0, (MapKept.heap_alloc w _).1, stamped_empty 0, rfl, by simp⟩
theorem MapIs.look (h : MapIs w P k mk mv b M) (K : Keyed P k) {t e : TypeId} (ht : P.underlying t = some (.map k e)) {z : Value} (hz : (zeroValue e).run P w = .ok z w) (c : Bool) {a : α} {kl : Lit} (hkey : keyOf P k (mk a) = some kl) :
    ((Instr.lookup t (.map (some b)) (mk a) c).run P w = .ok (if c then .tuple #[z, .bool false] else z) w ∧ ∀ p ∈ M, mk p.1 ≠ mk a) ∨
    ∃ p ∈ M, mk p.1 = mk a ∧ (Instr.lookup t (.map (some b)) (mk a) c).run P w = .ok (if c then .tuple #[mv p.2, .bool true] else mv p.2) w := by
  obtain ⟨es, clock, hb, F⟩ := h
  rcases K.find w hkey es.toList F.keysOf with ⟨h1, h2⟩ | ⟨j, e0, h1, h2, h3⟩
  · refine Or.inl ⟨by simp [Instr.lookup, run_underlying ht, MapKept.run_getObj_map hb, K.check w _ hkey, h1, hz, Result.andThen], fun p hp e1 => ?_⟩
    obtain ⟨x, hx, h4, _⟩ := F.mem' hp
    exact h2 x hx (h4.trans e1)
  · obtain ⟨p, hp, h4, h5⟩ := F.mem (List.mem_of_getElem? h2)
    exact Or.inr ⟨p, hp, h4.symm.trans h3, by simp [Instr.lookup, run_underlying ht, MapKept.run_getObj_map hb, K.check w _ hkey, h1, h5, Result.andThen]⟩
theorem MapIs.look_none [DecidableEq α] (h : MapIs w P k mk mv b M) (K : Keyed P k) {t e : TypeId} (ht : P.underlying t = some (.map k e)) {z : Value} (hz : (zeroValue e).run P w = .ok z w) (c : Bool) {a : α} {kl : Lit} (hkey : keyOf P k (mk a) = some kl)
    (inj : ∀ {x y : α}, mk x = mk y → x = y) (hn : getM M a = none) : (Instr.lookup t (.map (some b)) (mk a) c).run P w = .ok (if c then .tuple #[z, .bool false] else z) w := by
  rcases h.look K ht hz c hkey with h1 | ⟨p, hp, h1, _⟩
  · exact h1.1
  · exact absurd (inj h1) (getM_none.1 hn p hp)
theorem MapIs.look_some [DecidableEq α] (h : MapIs w P k mk mv b M) (K : Keyed P k) {t e : TypeId} (ht : P.underlying t = some (.map k e)) {z : Value} (hz : (zeroValue e).run P w = .ok z w) (c : Bool) {a : α} {kl : Lit} (hkey : keyOf P k (mk a) = some kl)
    (inj : ∀ {x y : α}, mk x = mk y → x = y) {v : β} (hs : getM M a = some v) : (Instr.lookup t (.map (some b)) (mk a) c).run P w = .ok (if c then .tuple #[mv v, .bool true] else mv v) w := by
  rcases h.look K ht hz c hkey with h1 | ⟨p, hp, h1, h2⟩
  · exact absurd rfl (h1.2 _ (getM_mem hs))
  · obtain ⟨x, y⟩ := p
    obtain rfl := inj h1
    rw [getM_of_mem h.nodup hp] at hs
    cases hs
    exact h2
theorem MapIs.store [DecidableEq α] (h : MapIs w P k mk mv b M) (K : Keyed P k) {t e : TypeId} (ht : P.underlying t = some (.map k e)) {a : α} {kl : Lit} (hkey : keyOf P k (mk a) = some kl) (inj : ∀ {x y : α}, mk x = mk y → x = y) (v : β) :
    ∃ w', (Instr.mapUpdate t (.map (some b)) (mk a) (mv v)).run P w = .ok () w' ∧ MapIs w' P k mk mv b (setM M a v) ∧ w.grownBy w' (some b) ∧ w'.heap.size = w.heap.size := by
  have hnd := h.nodup
  obtain ⟨es, clock, hb, F⟩ := h
  have hkeys : ∀ p ∈ setM M a v, ∃ l, keyOf P k (mk p.1) = some l := fun p hp => by
    rcases mem_set.1 hp with rfl | ⟨hp, _⟩
    · exact ⟨kl, hkey⟩
    · exact F.keys p hp
  rcases K.find w hkey es.toList F.keysOf with ⟨h1, h2⟩ | ⟨j, e0, h1, h2, h3⟩
  · have hn : getM M a = none := getM_none.2 (fun p hp e1 => by
      obtain ⟨x, hx, h4, _⟩ := F.mem' hp
      exact h2 x hx (h4.trans (by rw [e1])))
    refine ⟨setBlock w b (.map (es.push ⟨mk a, mv v, clock⟩) (clock + 1)), ?_, ⟨_, _, heap_setBlock_same hb _, ⟨stamped_push F.stamped h2, ?_, hkeys⟩⟩, ⟨rfl, rfl, rfl, by simp [setBlock], fun i _ hi => heap_setBlock_other hb _ (fun e => hi (by rw [e]))⟩, by simp [setBlock]⟩
    · simp [Instr.mapUpdate, run_underlying ht, MapKept.run_getObj_map hb, K.check w false hkey, h1, MapKept.run_setObj_map _ hb, Result.andThen, setBlock]
    · unfold setM
      rw [if_pos (by simp [hn]), Array.toList_push, List.map_append, List.map_append, F.ents]
      rfl
  · have hj : es[j]? = some e0 := by simpa using h2
    obtain ⟨p, hp, h4, h5⟩ := F.at h2
    have hpa : p.1 = a := inj (h4.symm.trans h3)
    have hgs : getM M a = some p.2 := getM_of_mem hnd (by rw [← hpa]; exact List.mem_of_getElem? hp)
    have hlist : (es.modify j (fun e' => { e' with key := mk a, val := mv v })).toList = es.toList.set j { e0 with key := mk a, val := mv v } := by rw [Array.toList_modify, modify_eq_set _ _ _ _ h2]
    have hkeyf : ∀ e', es[j]? = some e' → ({ e' with key := mk a, val := mv v } : MapEntry).key = e'.key := fun e' he' => by rw [hj] at he'; cases he'; exact h3.symm
    have hset : setM M a v = M.set j (a, v) := by
      unfold setM
      rw [if_neg (by simp [hgs])]
      refine List.ext_getElem? (fun i => ?_)
      rw [List.getElem?_map, List.getElem?_set]
      by_cases hi : j = i
      · subst hi
        rw [if_pos rfl, if_pos (List.getElem?_eq_some_iff.1 hp).1, hp]
        simp [hpa]
      · rw [if_neg hi]
        cases hm : M[i]? with
        | none => rfl
        | some q =>
          have hne : q.1 ≠ a := fun e1 => by
            have hl := (List.getElem?_eq_some_iff.1 hm).1
            have hl' := (List.getElem?_eq_some_iff.1 hp).1
            have h6 : (M.map Prod.fst)[i]'(by simpa using hl) = (M.map Prod.fst)[j]'(by simpa using hl') := by
              rw [List.getElem_map, List.getElem_map, (List.getElem?_eq_some_iff.1 hm).2, (List.getElem?_eq_some_iff.1 hp).2, e1, hpa]
            rcases Nat.lt_or_ge i j with h7 | h7
            · exact List.pairwise_iff_getElem.1 hnd i j (by simpa using hl) (by simpa using hl') h7 h6
            · exact List.pairwise_iff_getElem.1 hnd j i (by simpa using hl') (by simpa using hl) (by omega) h6.symm
          simp [hne]
    refine ⟨setBlock w b (.map (es.modify j (fun e' => { e' with key := mk a, val := mv v })) clock), ?_, ⟨_, _, heap_setBlock_same hb _, ⟨stamped_modify F.stamped _ _ (fun _ _ => rfl) (fun e' _ he' => hkeyf e' he'), ?_, hkeys⟩⟩, ⟨rfl, rfl, rfl, by simp [setBlock], fun i _ hi => heap_setBlock_other hb _ (fun e => hi (by rw [e]))⟩, by simp [setBlock]⟩
    · simp [Instr.mapUpdate, run_underlying ht, MapKept.run_getObj_map hb, K.check w false hkey, h1, hj, h3, K.stays w hkey, MapKept.run_setObj_map _ hb, Result.andThen, setBlock]
    · rw [hlist, hset, List.map_set, List.map_set, F.ents]
theorem MapIs.len (h : MapIs w P k mk mv b M) {t e : TypeId} (ht : P.underlying t = some (.map k e)) (ty : TypeId) : (Builtin.len_ #[t] ty #[.map (some b)]).run P w = .ok (.int .i64 M.length) w := by
  obtain ⟨es, clock, hb, F⟩ := h
  rw [← F.size]
  simp [Builtin.len_, run_underlying ht, MapKept.run_getObj_map hb, Result.andThen, goInt]
theorem run_entryStore {W : World} {t : TypeId} {st : Int} {v : Value} {i : Nat} (hb : W.heap[b]? = some (.map es clock)) (hf : es.findIdx? (fun x => (x.born : Int) == st) = some i) :
    (Instr.entryStore t (.map (some b)) (.int .i64 st) v).run P W = .ok () (setBlock W b (.map (es.modify i fun e => { e with val := v }) clock)) := by
  simp [Instr.entryStore, MapKept.run_getObj_map hb, asInt, asIntOf, hf, MapKept.run_setObj_map _ hb, Result.andThen, setBlock]
/-- 'm[k] op= v': the entry is there behind mapEntry; entryStore lays its value. -/
theorem MapIs.entry [DecidableEq α] (h : MapIs w P k mk mv b M) (K : Keyed P k) {t e : TypeId} (ht : P.underlying t = some (.map k e)) {zv : β} (hz : ∀ w, (zeroValue e).run P w = .ok (mv zv) w) {a : α} {kl : Lit} (hkey : keyOf P k (mk a) = some kl) (inj : ∀ {x y : α}, mk x = mk y → x = y) :
    ∃ (w1 : World) (st : Int), (Instr.mapEntry t (.map (some b)) (mk a)).run P w = .ok (.tuple #[mv ((getM M a).getD zv), .int .i64 st]) w1 ∧ MapIs w1 P k mk mv b (setM M a ((getM M a).getD zv)) ∧ w.grownBy w1 (some b) ∧ w1.heap.size = w.heap.size ∧
      ∀ v, ∃ w2, (Instr.entryStore t (.map (some b)) (.int .i64 st) (mv v)).run P w1 = .ok () w2 ∧ MapIs w2 P k mk mv b (setM M a v) ∧ w1.grownBy w2 (some b) ∧ w2.heap.size = w1.heap.size := by
  have hnd := h.nodup
  obtain ⟨es, clock, hb, F⟩ := h
  have hkeys : ∀ v, ∀ p ∈ setM M a v, ∃ l, keyOf P k (mk p.1) = some l := fun v p hp => by
    rcases mem_set.1 hp with rfl | ⟨hp, _⟩
    · exact ⟨kl, hkey⟩
    · exact F.keys p hp
  rcases K.find w hkey es.toList F.keysOf with ⟨h1, h2⟩ | ⟨j, e0, h1, h2, h3⟩
  · have hn : getM M a = none := getM_none.2 (fun p hp e1 => by
      obtain ⟨x, hx, h4, _⟩ := F.mem' hp
      exact h2 x hx (h4.trans (by rw [e1])))
    have hset : ∀ v, setM M a v = M ++ [(a, v)] := fun v => by unfold setM; rw [if_pos (by simp [hn])]
    have hb1 := heap_setBlock_same hb (.map (es.push ⟨mk a, mv zv, clock⟩) (clock + 1))
    refine ⟨setBlock w b (.map (es.push ⟨mk a, mv zv, clock⟩) (clock + 1)), clock, ?_, ⟨_, _, hb1, ⟨stamped_push F.stamped h2, ?_, hkeys _⟩⟩, ⟨rfl, rfl, rfl, by simp [setBlock], fun i _ hi => heap_setBlock_other hb _ (fun e => hi (by rw [e]))⟩, by simp [setBlock], fun v => ?_⟩
    · simp [Instr.mapEntry, run_underlying ht, MapKept.run_getObj_map hb, K.check w false hkey, h1, hz, hn, MapKept.run_setObj_map _ hb, Result.andThen, setBlock, goInt]
    · rw [hn, hset, Array.toList_push, List.map_append, List.map_append, F.ents]
      rfl
    · have hfi : (es.push ⟨mk a, mv zv, clock⟩).findIdx? (fun x => (x.born : Int) == (clock : Int)) = some es.size := by
        rw [Array.findIdx?_push]
        have h5 : es.findIdx? (fun x => (x.born : Int) == (clock : Int)) = none := by
          rw [Array.findIdx?_eq_none_iff]
          intro x hx
          have := F.stamped.1 x (by simpa using hx)
          simp
          omega
        rw [h5]
        simp
      refine ⟨setBlock (setBlock w b (.map (es.push ⟨mk a, mv zv, clock⟩) (clock + 1))) b (.map (es.push ⟨mk a, mv v, clock⟩) (clock + 1)), ?_, ⟨_, _, heap_setBlock_same hb1 _, ⟨stamped_push F.stamped h2, ?_, hkeys _⟩⟩, ⟨rfl, rfl, rfl, by simp [setBlock], fun i _ hi => heap_setBlock_other hb1 _ (fun e => hi (by rw [e]))⟩, by simp [setBlock]⟩
      · have hmod : (es.push ⟨mk a, mv zv, clock⟩).modify es.size (fun e => { e with val := mv v }) = es.push ⟨mk a, mv v, clock⟩ := by
          apply Array.ext'
          rw [Array.toList_modify, Array.toList_push, Array.toList_push]
          rw [modify_eq_set _ _ _ ⟨mk a, mv zv, clock⟩ (by simp)]
          simp
        rw [run_entryStore hb1 hfi, hmod]
      · rw [hset, Array.toList_push, List.map_append, List.map_append, F.ents]
        rfl
  · have hj : es[j]? = some e0 := by simpa using h2
    obtain ⟨p, hp, h4, h5⟩ := F.at h2
    have hpa : p.1 = a := inj (h4.symm.trans h3)
    have hgs : getM M a = some p.2 := getM_of_mem hnd (by rw [← hpa]; exact List.mem_of_getElem? hp)
    have hjl := (List.getElem?_eq_some_iff.1 hp).1
    have hset : ∀ v, setM M a v = M.set j (a, v) := fun v => by
      unfold setM
      rw [if_neg (by simp [hgs])]
      refine List.ext_getElem? (fun i => ?_)
      rw [List.getElem?_map, List.getElem?_set]
      by_cases hi : j = i
      · subst hi
        rw [if_pos rfl, if_pos hjl, hp]
        simp [hpa]
      · rw [if_neg hi]
        cases hm : M[i]? with
        | none => rfl
        | some q =>
          have hne : q.1 ≠ a := fun e1 => by
            have hl := (List.getElem?_eq_some_iff.1 hm).1
            have h6 : (M.map Prod.fst)[i]'(by simpa using hl) = (M.map Prod.fst)[j]'(by simpa using hjl) := by
              rw [List.getElem_map, List.getElem_map, (List.getElem?_eq_some_iff.1 hm).2, (List.getElem?_eq_some_iff.1 hp).2, e1, hpa]
            rcases Nat.lt_or_ge i j with h7 | h7
            · exact List.pairwise_iff_getElem.1 hnd i j (by simpa using hl) (by simpa using hjl) h7 h6
            · exact List.pairwise_iff_getElem.1 hnd j i (by simpa using hjl) (by simpa using hl) (by omega) h6.symm
          simp [hne]
    have hk0 : e0.key = mk a := h3
    have hmodk : es.modify j (fun e => { e with key := mk a }) = es := by
      apply Array.ext'
      rw [Array.toList_modify, modify_eq_set _ _ _ _ h2]
      refine List.ext_getElem? (fun i => ?_)
      rw [List.getElem?_set]
      by_cases hi : j = i
      · subst hi
        rw [if_pos rfl, if_pos (List.getElem?_eq_some_iff.1 h2).1, h2]
        simp [← hk0]
      · rw [if_neg hi]
    have hb1 := heap_setBlock_same hb (.map es clock)
    have hfi : es.findIdx? (fun x => (x.born : Int) == (e0.born : Int)) = some j := by
      rw [Array.findIdx?_eq_some_iff_getElem]
      obtain ⟨hjs, hje⟩ := Array.getElem?_eq_some_iff.1 hj
      refine ⟨hjs, by rw [hje]; simp, fun i hi => ?_⟩
      have hbn := F.stamped.2.1
      have h8 := List.pairwise_iff_getElem.1 hbn i j (by simp; omega) (by simpa using hjs) hi
      simp only [List.getElem_map, Array.getElem_toList] at h8
      rw [hje] at h8
      simp
      omega
    refine ⟨setBlock w b (.map es clock), e0.born, ?_, ⟨_, _, hb1, ⟨F.stamped, ?_, hkeys _⟩⟩, ⟨rfl, rfl, rfl, by simp [setBlock], fun i _ hi => heap_setBlock_other hb _ (fun e => hi (by rw [e]))⟩, by simp [setBlock], fun v => ?_⟩
    · have hst : (Instr.keyThatStays (mk a) (mk a)).run P w = .ok (mk a) w := K.stays w hkey
      simp [Instr.mapEntry, run_underlying ht, MapKept.run_getObj_map hb, K.check w false hkey, h1, hj, hk0, hst, hgs, hmodk, h5, MapKept.run_setObj_map _ hb, Result.andThen, setBlock, goInt]
    · rw [hgs, hset, F.ents]
      refine List.ext_getElem? (fun i => ?_)
      rw [List.getElem?_map, List.getElem?_map, List.getElem?_set]
      by_cases hi : j = i
      · subst hi
        rw [if_pos rfl, if_pos hjl, hp]
        simp [hpa]
      · rw [if_neg hi]
    · refine ⟨_, run_entryStore hb1 hfi, ⟨_, _, heap_setBlock_same hb1 _, ⟨stamped_modify F.stamped _ _ (fun _ _ => rfl) (fun e' _ he' => rfl), ?_, hkeys _⟩⟩, ⟨rfl, rfl, rfl, by simp [setBlock], fun i _ hi => heap_setBlock_other hb1 _ (fun e => hi (by rw [e]))⟩, by simp [setBlock]⟩
      rw [Array.toList_modify, modify_eq_set _ _ _ _ h2, List.map_set, F.ents, hset, List.map_set, hk0]
/-! ### ranging -/
/-- Block b is a map with these entries; block r goes over it; these are still to come. -/
def RangeIs (w : World) (P : Program) (k : TypeId) (mk : α → Value) (mv : β → Value) (b r : Nat) (M Lf : List (α × β)) : Prop :=
  ∃ es clock since seen c0, w.heap[b]? = some (.map es clock) ∧ Ents P k mk mv es clock M ∧ w.heap[r]? = some (.mapIter (some b) since seen c0) ∧ (∀ x ∈ es.toList, x.born < since) ∧
    (leftOf es seen).toList.map (fun e => (e.key, e.val)) = Lf.map (fun p => (mk p.1, mv p.2)) ∧ since ≤ c0 ∧ since ≤ clock ∧ ∀ p ∈ Lf, p ∈ M
variable {r : Nat} {Lf : List (α × β)}
theorem RangeIs.owns (h : RangeIs w P k mk mv b r M Lf) : MapIs w P k mk mv b M := by
  obtain ⟨es, clock, _, _, _, hb, F, _⟩ := h
  exact ⟨es, clock, hb, F⟩
theorem RangeIs.left_eq (h : RangeIs w P k mk mv b r M Lf) : w.rangeLeft b r = Lf.length := by
  obtain ⟨es, clock, since, seen, c0, hb, _, hr, _, hc, _⟩ := h
  simp only [World.rangeLeft, hb, hr]
  have := congrArg List.length hc
  simpa using this
theorem RangeIs.ne (h : RangeIs w P k mk mv b r M Lf) : r ≠ b := by
  obtain ⟨es, clock, since, seen, c0, hb, _, hr, _⟩ := h
  intro e
  rw [e, hb] at hr
  cases hr
theorem RangeIs.lt (h : RangeIs w P k mk mv b r M Lf) : r < w.heap.size := by
  obtain ⟨es, clock, since, seen, c0, _, _, hr, _⟩ := h
  exact (Array.getElem?_eq_some_iff.1 hr).1
theorem RangeIs.of_block {w' : World} (h : RangeIs w P k mk mv b r M Lf) (hb' : w'.heap[b]? = w.heap[b]?) (hr' : w'.heap[r]? = w.heap[r]?) : RangeIs w' P k mk mv b r M Lf := by
  obtain ⟨es, clock, since, seen, c0, hb, F, hr, rest⟩ := h
  exact ⟨es, clock, since, seen, c0, hb'.trans hb, F, hr'.trans hr, rest⟩
theorem RangeIs.kept {w' : World} {row : Option Nat} (h : RangeIs w P k mk mv b r M Lf) (hg : w.grownBy w' row) (hb' : some b ≠ row) (hr' : some r ≠ row) : RangeIs w' P k mk mv b r M Lf :=
  h.of_block (hg.block b h.owns.lt hb') (hg.block r h.lt hr')
theorem RangeIs.below {w' : World} (h : RangeIs w P k mk mv b r M Lf) (hb : Below w.heap.size w w') : RangeIs w' P k mk mv b r M Lf :=
  h.of_block (hb.block b h.owns.lt) (hb.block r h.lt)
theorem MapIs.range (h : MapIs w P k mk mv b M) {t e : TypeId} (ht : P.underlying t = some (.map k e)) :
    ∃ w', (Instr.range t (.map (some b))).run P w = .ok (.pointer (some ⟨w.heap.size, 0, none⟩)) w' ∧ RangeIs w' P k mk mv b w.heap.size M M ∧ w.grownBy w' none ∧ w'.heap.size = w.heap.size + 1 := by
  have hlt := h.lt
  obtain ⟨es, clock, hb, F⟩ := h
  refine ⟨_, run_range_map w t k e b es clock ht hb, ⟨es, clock, clock, #[], clock, ((MapKept.heap_alloc w _).2 b hlt).trans hb, F, (MapKept.heap_alloc w _).1, F.stamped.1, ?_, Nat.le_refl _, Nat.le_refl _, fun _ h => h⟩, World.grownBy_alloc w _ none, by simp⟩
  rw [← F.ents]
  unfold leftOf
  congr 2
  simp
theorem filter_one_out : ∀ (l : List MapEntry), (l.map (·.born)).Nodup → ∀ e ∈ l, ∃ s t, l = s ++ e :: t ∧ l.filter (fun x => x.born != e.born) = s ++ t := by
  intro l hn e he
  obtain ⟨s, t, rfl⟩ := List.append_of_mem he
  refine ⟨s, t, rfl, ?_⟩
  rw [List.map_append, List.map_cons, List.nodup_append] at hn
  obtain ⟨_, h2, h3⟩ := hn
  rw [List.nodup_cons] at h2
  rw [List.filter_append, List.filter_cons, if_neg (by simp)]
  congr 1
  · refine List.filter_eq_self.2 (fun x hx => ?_)
    have := h3 x.born (List.mem_map.2 ⟨x, hx, rfl⟩) e.born (by simp)
    simpa using this
  · refine List.filter_eq_self.2 (fun x hx => ?_)
    have : x.born ≠ e.born := fun e1 => h2.1 (List.mem_map.2 ⟨x, hx, e1⟩)
    simpa using this
theorem RangeIs.next (h : RangeIs w P k mk mv b r M Lf) (ty : TypeId) :
    (Lf = [] ∧ (Instr.next (.pointer (some ⟨r, 0, none⟩)) false ty).run P w = .ok (.tuple #[.bool false]) w) ∨
    ∃ s p t w', Lf = s ++ p :: t ∧ p ∈ M ∧ (Instr.next (.pointer (some ⟨r, 0, none⟩)) false ty).run P w = .ok (.tuple #[.bool true, mk p.1, mv p.2]) w' ∧ RangeIs w' P k mk mv b r M (s ++ t) ∧
      w.grownBy w' (some r) ∧ w'.heap.size = w.heap.size ∧ (Instr.entry (.pointer (some ⟨r, 0, none⟩))).run P w' = .ok (.tuple #[mk p.1, mv p.2]) w' := by
  have hne := h.ne
  obtain ⟨es, clock, since, seen, c0, hb, F, hr, hold, hLf, hsc, hsk, hsub⟩ := h
  rcases run_next_at (P := P) w ty r b since c0 seen es clock hr hb hold hsc with ⟨h0, hrun⟩ | ⟨e, he, w1, hal, hrun⟩
  · refine Or.inl ⟨?_, hrun⟩
    have := congrArg List.length hLf
    simp only [List.length_map, Array.length_toList, h0] at this
    exact List.eq_nil_of_length_eq_zero this.symm
  · obtain ⟨hem, hes⟩ := mem_left he
    have hst := (stamped_iff es clock).1 F.stamped
    obtain ⟨p0, hp0, hk0, hv0⟩ := F.mem hem
    have hnl : ((leftOf es seen).toList.map (·.born)).Nodup := by
      unfold leftOf
      rw [Array.toList_filter]
      exact List.Nodup.sublist (List.Sublist.map _ List.filter_sublist) hst.2.1
    obtain ⟨s0, t0, hl, hf⟩ := filter_one_out _ hnl e he
    rw [hl, List.map_append, List.map_cons] at hLf
    obtain ⟨s, r', hst', hs, hr'⟩ := List.map_eq_append_iff.1 hLf.symm
    obtain ⟨p, t, rfl, hpe, ht⟩ := List.map_eq_cons_iff.1 hr'
    simp only [Prod.mk.injEq] at hpe
    have hr1 : w1.heap[r]? = some (.mapIter (some b) since seen c0) := by rcases hal with rfl | rfl <;> exact hr
    have hb1 : w1.heap[b]? = some (.map es clock) := by rcases hal with rfl | rfl <;> exact hb
    have hset := heap_set (o' := .mapIter (some b) since (seen.push e.born) clock) hr1
    have hb' : (setBlock w1 r (.mapIter (some b) since (seen.push e.born) clock)).heap[b]? = some (.map es clock) := (hset.2 b (fun e1 => hne e1.symm)).trans hb1
    have hleft : (leftOf es (seen.push e.born)).toList = s0 ++ t0 := by
      rw [← hf]
      unfold leftOf
      rw [Array.toList_filter, Array.toList_filter, List.filter_filter]
      refine List.filter_congr (fun x _ => ?_)
      rw [contains_push]
      cases seen.contains x.born <;> cases hq : (x.born == e.born) <;> simp_all
    refine Or.inr ⟨s, p, t, _, hst', ?_, ?_, ⟨es, clock, since, seen.push e.born, clock, hb', F, hset.1, hold, ?_, hsk, hsk, fun q hq => hsub q (by rw [hst']; simp only [List.mem_append, List.mem_cons] at hq ⊢; rcases hq with h | h <;> simp [h])⟩, ?_, ?_, ?_⟩
    · exact hsub p (by rw [hst']; simp)
    · rw [hpe.1, hpe.2]; exact hrun
    · rw [hleft, List.map_append, List.map_append, hs, ht]
    · rcases hal with rfl | rfl <;> exact ⟨rfl, rfl, rfl, by simp [setBlock], fun i _ hi => hset.2 i (fun e1 => hi (by rw [e1]))⟩
    · rcases hal with rfl | rfl <;> simp [setBlock]
    · rw [hpe.1, hpe.2]
      exact run_entry_at _ r b since seen es clock e hset.1 hb' hem hst.2.1
end
end Go.Proofs.YthdkgilpnkabmaaGreatDoor.Rm
