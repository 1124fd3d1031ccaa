/- A store in memory: which spans it has. -/
import Derived.Test.YthdkgilpnkabmaaGreatDoorSa
import Derived.Test.YthdkgilpnkabmaaGreatDoorPs
namespace Go.Proofs.YthdkgilpnkabmaaGreatDoor.Pr
open Go Go.RowKit Go.Proofs.YthdkgilpnkabmaaGreatDoorW.PrintWords Go.Proofs.YthdkgilpnkabmaaGreatDoorW.PrintMore
open Go.Maps (Keyed)
open Rm Ps
set_option linter.unusedVariables false
set_option linter.unusedSimpArgs false
def tr (x : Sp) : Tr := (x.f0.f0, x.f0.f1)
def nmS (x : Sp) : Nm := (tr x, x.f1)
def mvT (b : Nat) : Value := .map (some b)
def mvS (c : Sp × List Value) : Value := .agg c.2.toArray
abbrev zSp : List Value := [.int .u64 0, .int .u64 0, .int .u64 0, .int .u64 0, .slice none 0 0, .string ⟨#[]⟩, .string ⟨#[]⟩, .int .i64 0, .int .i64 0, .int .i64 0, .int .i64 0, .slice none 0 0, .slice none 0 0]
theorem zero_tr (w : World) : (zeroValue 79).run Tryz.prog w = .ok (.map none) w := by kernel_rfl
theorem zero_sp (w : World) : (zeroValue 41).run Tryz.prog w = .ok (.agg zSp.toArray) w := by kernel_rfl
theorem zero_in (w : World) : (zeroValue 3).run Tryz.prog w = .ok (.int .i64 0) w := by kernel_rfl
abbrev IsT (w : World) (tb : Nat) (T : List (Tr × Nat)) : Prop := MapIs w Tryz.prog 33 mkTr mvT tb T
abbrev IsI (w : World) (b : Nat) (J : List (Int × (Sp × List Value))) : Prop := MapIs w Tryz.prog 34 mkId mvS b J
theorem nodup_inj {α β : Type} {f : α → β} : ∀ {l : List α}, (l.map f).Nodup → ∀ {a b : α}, a ∈ l → b ∈ l → f a = f b → a = b
  | [], _, _, _, h, _, _ => by simp at h
  | x :: r, hn, a, b, ha, hb, he => by
    simp only [List.map_cons, List.nodup_cons] at hn
    rcases List.mem_cons.1 ha with h1 | h1 <;> rcases List.mem_cons.1 hb with h2 | h2
    · rw [h1, h2]
    · exact absurd (List.mem_map.2 ⟨b, h2, by rw [← he, h1]⟩) hn.1
    · exact absurd (List.mem_map.2 ⟨a, h1, by rw [he, h2]⟩) hn.1
    · exact nodup_inj hn.2 h1 h2 he
/-- The blocks of a store: the struct and its maps. -/
def Ours (w : World) (k : Nat) : Prop := (∃ es c, w.heap[k]? = some (.map es c)) ∨ ∃ cs, w.heap[k]? = some (.cells cs 76 (0, 0))
structure Book (w : World) (base s : Nat) (F : Nat → Prop) (L : List Sp) (tb : Nat) (T : List (Tr × Nat)) (I : Nat → List (Int × (Sp × List Value))) : Prop where
  cell : w.heap[s]? = some (.cells #[.map (some tb), .int .i64 L.length] 76 (0, 0))
  traces : IsT w tb T
  inner : ∀ p ∈ T, IsI w p.2 (I p.2)
  spans : ∀ p ∈ T, ∀ q ∈ I p.2, nmS q.2.1 = (p.1, q.1) ∧ q.2.1 ∈ L ∧ kSq.M w base (fun _ => True) q.2.1 q.2.2 ∧ okSp q.2.1
  found : ∀ x ∈ L, ∃ b v, (tr x, b) ∈ T ∧ (x.f1, (x, v)) ∈ I b
  full : ∀ p ∈ T, I p.2 ≠ []
  nodup : (L.map nmS).Nodup
  apart : (T.map Prod.snd).Nodup
  tbne : ∀ p ∈ T, p.2 ≠ tb
  fF : ∀ k, F k ↔ k = s ∨ k = tb ∨ ∃ p ∈ T, p.2 = k
  fB : ∀ k, F k → base ≤ k
  small : L.length ≤ 100000
/-- At address s, in these blocks, a store that has these spans. -/
def StoreAt (w : World) (base s : Nat) (F : Nat → Prop) (L : List Sp) : Prop := ∃ tb T I, Book w base s F L tb T I
theorem Ours.nt {w : World} {G : Nat → Prop} (h : ∀ k, G k → Ours w k) : NT kSq.E w G := fun k hk q hq cells hc => by
  rcases h k hk with ⟨es, c, h1⟩ | ⟨cs, h1⟩
  · rw [h1] at hc; cases hc
  · rw [h1] at hc
    cases hc
    simp [kSq_E] at hq
section
variable {w w' : World} {base s : Nat} {F G : Nat → Prop} {L : List Sp} {tb : Nat} {T : List (Tr × Nat)} {I : Nat → List (Int × (Sp × List Value))}
theorem Book.fs (B : Book w base s F L tb T I) : F s ∧ F tb ∧ ∀ p ∈ T, F p.2 := ⟨(B.fF s).2 (.inl rfl), (B.fF tb).2 (.inr (.inl rfl)), fun p hp => (B.fF _).2 (.inr (.inr ⟨p, hp, rfl⟩))⟩
theorem Book.fb (B : Book w base s F L tb T I) (k : Nat) (hk : F k) : base ≤ k ∧ k < w.heap.size ∧ Ours w k := by
  refine ⟨B.fB k hk, ?_⟩
  rcases (B.fF k).1 hk with rfl | rfl | ⟨p, hp, rfl⟩
  · exact ⟨blk_lt B.cell, Or.inr ⟨_, B.cell⟩⟩
  · have h := B.traces.lt
    obtain ⟨es, c, h1, _⟩ := B.traces
    exact ⟨h, Or.inl ⟨es, c, h1⟩⟩
  · have h := (B.inner p hp).lt
    obtain ⟨es, c, h1, _⟩ := B.inner p hp
    exact ⟨h, Or.inl ⟨es, c, h1⟩⟩
/-- What is not of the store may change. -/
theorem Book.chg (B : Book w base s F L tb T I) (h : Chg G w w') (hd : ∀ k, F k → ¬ G k) (hG : NT kSq.E w G) : Book w' base s F L tb T I where
  cell := h.blk B.cell (hd _ B.fs.1)
  traces := B.traces.chg h (hd _ B.fs.2.1)
  inner := fun p hp => (B.inner p hp).chg h (hd _ (B.fs.2.2 p hp))
  spans := fun p hp q hq => by
    obtain ⟨h1, h2, h3, h4⟩ := B.spans p hp q hq
    exact ⟨h1, h2, M_chg h3 h hG, h4⟩
  found := B.found
  full := B.full
  nodup := B.nodup
  apart := B.apart
  tbne := B.tbne
  fF := B.fF
  fB := B.fB
  small := B.small
theorem Book.below (B : Book w base s F L tb T I) (h : Below w.heap.size w w') : Book w' base s F L tb T I :=
  B.chg (G := fun _ => False) (Chg.of_below h) (fun _ _ h => h) (fun _ h => False.elim h)
theorem StoreAt.chg (B : StoreAt w base s F L) (h : Chg G w w') (hd : ∀ k, F k → ¬ G k) (hG : NT kSq.E w G) : StoreAt w' base s F L := by
  obtain ⟨tb, T, I, B⟩ := B
  exact ⟨tb, T, I, B.chg h hd hG⟩
theorem StoreAt.below (B : StoreAt w base s F L) (h : Below w.heap.size w w') : StoreAt w' base s F L := by
  obtain ⟨tb, T, I, B⟩ := B
  exact ⟨tb, T, I, B.below h⟩
theorem StoreAt.ours (B : StoreAt w base s F L) (k : Nat) (hk : F k) : base ≤ k ∧ k < w.heap.size ∧ Ours w k := by
  obtain ⟨tb, T, I, B⟩ := B
  exact B.fb k hk
theorem StoreAt.nodup (B : StoreAt w base s F L) : (L.map nmS).Nodup := by obtain ⟨_, _, _, B⟩ := B; exact B.nodup
theorem StoreAt.small (B : StoreAt w base s F L) : L.length ≤ 100000 := by obtain ⟨_, _, _, B⟩ := B; exact B.small
/-- The blocks' list, found by the trace. -/
theorem Book.in_of_mem (B : Book w base s F L tb T I) {x : Sp} (hx : x ∈ L) : ∃ b v, getM T (tr x) = some b ∧ getM (I b) x.f1 = some (x, v) ∧ (tr x, b) ∈ T ∧ (x.f1, (x, v)) ∈ I b := by
  obtain ⟨b, v, h1, h2⟩ := B.found x hx
  exact ⟨b, v, getM_of_mem B.traces.nodup h1, getM_of_mem (B.inner _ h1).nodup h2, h1, h2⟩
theorem Book.get_some (B : Book w base s F L tb T I) {t : Tr} {i : Int} {x : Sp} (h : getL nmS L (t, i) = some x) : ∃ b v, getM T t = some b ∧ getM (I b) i = some (x, v) ∧ (t, b) ∈ T ∧ (i, (x, v)) ∈ I b := by
  have hn := getL_nm h
  unfold nmS at hn
  simp only [Prod.mk.injEq] at hn
  have := B.in_of_mem (getL_mem h)
  rw [hn.1, hn.2] at this
  exact this
theorem Book.mem_of_in (B : Book w base s F L tb T I) {t : Tr} {b : Nat} {i : Int} {c : Sp × List Value} (h1 : getM T t = some b) (h2 : getM (I b) i = some c) : getL nmS L (t, i) = some c.1 := by
  obtain ⟨h3, h4, _⟩ := B.spans _ (getM_mem h1) _ (getM_mem h2)
  exact (getL_iff B.nodup).2 ⟨h4, h3⟩
theorem Book.get_none (B : Book w base s F L tb T I) {t : Tr} {i : Int} (h : getL nmS L (t, i) = none) {b : Nat} (h1 : getM T t = some b) : getM (I b) i = none := by
  cases h2 : getM (I b) i with
  | none => rfl
  | some c => rw [B.mem_of_in h1 h2] at h; cases h
theorem Book.get_no_trace (B : Book w base s F L tb T I) {t : Tr} (h1 : getM T t = none) (i : Int) : getL nmS L (t, i) = none := by
  cases h : getL nmS L (t, i) with
  | none => rfl
  | some x =>
    obtain ⟨b, v, h2, _⟩ := B.get_some h
    rw [h1] at h2
    cases h2
/-- How many spans a trace has. -/
theorem Book.count (B : Book w base s F L tb T I) {t : Tr} {b : Nat} (h1 : getM T t = some b) : (I b).length = cntT (L.map nmS) t := by
  have hm := getM_mem h1
  have hnd := (B.inner _ hm).nodup
  have e : (I b).length = ((I b).map (fun q => (t, q.1))).length := by rw [List.length_map]
  rw [e]
  unfold cntT
  refine Nat.le_antisymm (len_sub ?_ ?_) (len_sub (B.nodup.filter _) ?_)
  · have h2 : (I b).map (fun q => (t, q.1)) = ((I b).map Prod.fst).map (fun i => (t, i)) := by rw [List.map_map]; rfl
    rw [h2]
    refine List.pairwise_map.2 (hnd.imp (fun hne e => hne ?_))
    simpa using e
  · intro n hn
    obtain ⟨q, hq, rfl⟩ := List.mem_map.1 hn
    obtain ⟨h3, h4, _⟩ := B.spans _ hm q hq
    exact List.mem_filter.2 ⟨List.mem_map.2 ⟨_, h4, h3⟩, by simp⟩
  · intro n hn
    obtain ⟨h3, h4⟩ := List.mem_filter.1 hn
    obtain ⟨x, hx, rfl⟩ := List.mem_map.1 h3
    obtain ⟨b', v, h5, h6, h7, h8⟩ := B.in_of_mem hx
    have ht : tr x = t := of_decide_eq_true h4
    rw [ht, h1] at h5
    cases h5
    exact List.mem_map.2 ⟨_, h8, by simp [nmS, ht]⟩
theorem Book.count_none (B : Book w base s F L tb T I) {t : Tr} (h1 : getM T t = none) : cntT (L.map nmS) t = 0 := by
  unfold cntT
  rw [List.length_eq_zero_iff, List.filter_eq_nil_iff]
  intro n hn
  obtain ⟨x, hx, rfl⟩ := List.mem_map.1 hn
  obtain ⟨b', v, h5, _⟩ := B.in_of_mem hx
  intro ht
  have ht : tr x = t := of_decide_eq_true ht
  rw [ht, h1] at h5
  cases h5
/-- A span that was laid into a trace that is there. -/
theorem Book.upd (B : Book w base s F L tb T I) {x : Sp} {cs : List Value} {b : Nat} {L' : List Sp} (hb : (tr x, b) ∈ T) (hc : Chg F w w')
    (hcell : w'.heap[s]? = some (.cells #[.map (some tb), .int .i64 L'.length] 76 (0, 0)))
    (htr : w'.heap[tb]? = w.heap[tb]?) (hin : IsI w' b (setM (I b) x.f1 (x, cs))) (hother : ∀ p ∈ T, p.2 ≠ b → w'.heap[p.2]? = w.heap[p.2]?)
    (hM : kSq.M w' base (fun _ => True) x cs) (hok : okSp x) (hmem : ∀ z, z ∈ L' ↔ (z ∈ L ∧ nmS z ≠ nmS x) ∨ z = x) (hnd : (L'.map nmS).Nodup) (hsm : L'.length ≤ 100000) :
    Book w' base s F L' tb T (fun k => if k = b then setM (I b) x.f1 (x, cs) else I k) := by
  have huniq : ∀ p ∈ T, p.2 = b → p = (tr x, b) := fun p hp he => nodup_inj B.apart hp hb he
  have hNT : NT kSq.E w F := Ours.nt (fun k hk => (B.fb k hk).2.2)
  refine ⟨hcell, B.traces.of_block htr, fun p hp => ?_, fun p hp q hq => ?_, fun z hz => ?_, fun p hp => ?_, hnd, B.apart, B.tbne, B.fF, B.fB, hsm⟩
  · by_cases he : p.2 = b
    · simp only [he, if_true]; exact hin
    · simp only [he, if_false]; exact (B.inner p hp).of_block (hother p hp he)
  · by_cases he : p.2 = b
    · have hp' := huniq p hp he
      simp only [he, if_true] at hq
      subst hp'
      rcases mem_set.1 hq with rfl | ⟨hq, hne⟩
      · exact ⟨rfl, (hmem x).2 (Or.inr rfl), hM, hok⟩
      · obtain ⟨h1, h2, h3, h4⟩ := B.spans _ hp q hq
        refine ⟨h1, (hmem _).2 (Or.inl ⟨h2, fun e => hne ?_⟩), M_chg h3 hc hNT, h4⟩
        rw [h1] at e
        simpa [nmS] using e
    · simp only [he, if_false] at hq
      obtain ⟨h1, h2, h3, h4⟩ := B.spans _ hp q hq
      refine ⟨h1, (hmem _).2 (Or.inl ⟨h2, fun e => he ?_⟩), M_chg h3 hc hNT, h4⟩
      rw [h1] at e
      simp only [nmS, Prod.mk.injEq] at e
      have h5 := getM_of_mem B.traces.nodup hp
      have h6 := getM_of_mem B.traces.nodup hb
      rw [e.1, h6] at h5
      exact (Option.some.inj h5).symm
  · rcases (hmem z).1 hz with ⟨h1, h2⟩ | rfl
    · obtain ⟨b', v, h3, h4⟩ := B.found z h1
      refine ⟨b', v, h3, ?_⟩
      by_cases he : b' = b
      · subst he
        simp only [if_true]
        refine mem_set.2 (Or.inr ⟨h4, fun e => h2 ?_⟩)
        have := huniq _ h3 rfl
        simp only [Prod.mk.injEq] at this
        simp only at e
        unfold nmS
        rw [this.1, e]
      · simp only [he, if_false]; exact h4
    · exact ⟨b, cs, hb, by simp only [if_true]; exact mem_set.2 (Or.inl rfl)⟩
  · by_cases he : p.2 = b
    · simp only [he, if_true]
      exact List.ne_nil_of_mem (mem_set.2 (Or.inl rfl))
    · simp only [he, if_false]; exact B.full p hp
/-- A span that was laid into a new trace. -/
theorem Book.new (B : Book w base s F L tb T I) {x : Sp} {cs : List Value} {b : Nat} {L' : List Sp} (hT : getM T (tr x) = none) (hbase : base ≤ w.heap.size) (hb : w.heap.size ≤ b) (hc : Chg F w w')
    (hcell : w'.heap[s]? = some (.cells #[.map (some tb), .int .i64 L'.length] 76 (0, 0)))
    (htr : IsT w' tb (T ++ [(tr x, b)])) (hin : IsI w' b [(x.f1, (x, cs))]) (hother : ∀ p ∈ T, w'.heap[p.2]? = w.heap[p.2]?)
    (hM : kSq.M w' base (fun _ => True) x cs) (hok : okSp x) (hmem : ∀ z, z ∈ L' ↔ (z ∈ L ∧ nmS z ≠ nmS x) ∨ z = x) (hnd : (L'.map nmS).Nodup) (hsm : L'.length ≤ 100000) :
    Book w' base s (fun k => F k ∨ k = b) L' tb (T ++ [(tr x, b)]) (fun k => if k = b then [(x.f1, (x, cs))] else I k) := by
  have hlt : ∀ p ∈ T, p.2 < w.heap.size := fun p hp => (B.inner p hp).lt
  have hne : ∀ p ∈ T, p.2 ≠ b := fun p hp e => by have := hlt p hp; omega
  have hNT : NT kSq.E w F := Ours.nt (fun k hk => (B.fb k hk).2.2)
  have htb := B.traces.lt
  refine ⟨hcell, htr, fun p hp => ?_, fun p hp q hq => ?_, fun z hz => ?_, fun p hp => ?_, hnd, ?_, fun p hp => ?_, fun k => ?_, fun k hk => ?_, hsm⟩
  · rcases List.mem_append.1 hp with hp | hp
    · simp only [hne p hp, if_false]; exact (B.inner p hp).of_block (hother p hp)
    · obtain rfl := List.mem_singleton.1 hp
      simp only [if_true]; exact hin
  · rcases List.mem_append.1 hp with hp | hp
    · simp only [hne p hp, if_false] at hq
      obtain ⟨h1, h2, h3, h4⟩ := B.spans _ hp q hq
      refine ⟨h1, (hmem _).2 (Or.inl ⟨h2, fun e => ?_⟩), M_chg h3 hc hNT, h4⟩
      rw [h1] at e
      simp only [nmS, Prod.mk.injEq] at e
      have h5 := getM_of_mem B.traces.nodup hp
      rw [e.1, hT] at h5
      cases h5
    · obtain rfl := List.mem_singleton.1 hp
      simp only [if_true] at hq
      obtain rfl := List.mem_singleton.1 hq
      exact ⟨rfl, (hmem x).2 (Or.inr rfl), hM, hok⟩
  · rcases (hmem z).1 hz with ⟨h1, h2⟩ | rfl
    · obtain ⟨b', v, h3, h4⟩ := B.found z h1
      exact ⟨b', v, List.mem_append_left _ h3, by simp only [hne _ h3, if_false]; exact h4⟩
    · exact ⟨b, cs, List.mem_append_right _ (List.mem_singleton.2 rfl), by simp⟩
  · rcases List.mem_append.1 hp with hp | hp
    · simp only [hne p hp, if_false]; exact B.full p hp
    · obtain rfl := List.mem_singleton.1 hp
      simp
  · rw [List.map_append, List.nodup_append]
    refine ⟨B.apart, by simp, fun a ha c hcm => ?_⟩
    obtain ⟨p, hp, rfl⟩ := List.mem_map.1 ha
    obtain rfl : c = b := by simpa using hcm
    exact hne p hp
  · rcases List.mem_append.1 hp with hp | hp
    · exact B.tbne p hp
    · obtain rfl := List.mem_singleton.1 hp
      show b ≠ tb
      omega
  · rw [B.fF k]
    constructor
    · rintro ((h | h | ⟨p, hp, h⟩) | h)
      · exact Or.inl h
      · exact Or.inr (Or.inl h)
      · exact Or.inr (Or.inr ⟨p, List.mem_append_left _ hp, h⟩)
      · exact Or.inr (Or.inr ⟨_, List.mem_append_right _ (List.mem_singleton.2 rfl), h.symm⟩)
    · rintro (h | h | ⟨p, hp, h⟩)
      · exact Or.inl (Or.inl h)
      · exact Or.inl (Or.inr (Or.inl h))
      · rcases List.mem_append.1 hp with hp | hp
        · exact Or.inl (Or.inr (Or.inr ⟨p, hp, h⟩))
        · obtain rfl := List.mem_singleton.1 hp
          exact Or.inr h.symm
  · rcases hk with hk | rfl
    · exact B.fB k hk
    · omega
end
end Go.Proofs.YthdkgilpnkabmaaGreatDoor.Pr
