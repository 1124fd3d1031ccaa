/- Plain: what is put in, in any order, makes the same set; sorted, the same list. -/
import Derived.Test.YthdkgilpnkabmaaGreatDoorOd
import Derived.Test.YthdkgilpnkabmaaGreatDoorMe
namespace Go.Proofs.YthdkgilpnkabmaaGreatDoor.Pr
open Go Go.RowKit
open Ps
set_option linter.unusedVariables false
set_option linter.unusedSimpArgs false
section
variable {S : Type} {nm : S → Nm} {cmp : S → S → Int}
theorem Cmp3.le_trans {α : Type} {f : α → α → Int} (h : Cmp3 f) {x y z : α} (h1 : f x y ≤ 0) (h2 : f y z ≤ 0) : f x z ≤ 0 := by
  by_cases e1 : f x y = 0
  · rw [h.eq _ _ e1]; exact h2
  · by_cases e2 : f y z = 0
    · rw [← h.eq _ _ e2]; exact h1
    · have := h.trans x y z (by omega) (by omega)
      omega
theorem put_dom (hc : Cmp3 cmp) {L : List S} (hn : (L.map nm).Nodup) (x : S) : (∀ z ∈ putL nm cmp L x, z ∈ L ∨ z = x) ∧ ∀ y, (y ∈ L ∨ y = x) → ∃ z ∈ putL nm cmp L x, nm z = nm y ∧ cmp y z ≤ 0 := by
  constructor
  · intro z hz
    rcases (mem_put hn).1 hz with ⟨h, _⟩ | ⟨_, h⟩
    · exact .inl h
    · cases e : getL nm L (nm x) with
      | none => rw [e] at h; exact .inr h
      | some y =>
        rw [e] at h
        simp only at h
        split at h
        · exact .inr h
        · subst h; exact .inl (getL_mem e)
  · intro y hy
    have hg := get_put (cmp := cmp) hn x (nm y)
    by_cases e : nm y = nm x
    · rw [if_pos e] at hg
      refine ⟨_, getL_mem hg, getL_nm hg, ?_⟩
      cases e1 : getL nm L (nm y) with
      | none =>
        simp only
        rcases hy with hy | rfl
        · exact absurd rfl (getL_none.1 e1 y hy)
        · rw [hc.refl]; decide
      | some u =>
        simp only
        have hu : y = x ∨ u = y := by
          rcases hy with hy | hy
          · right
            have := getL_of_mem hn hy
            rw [e1] at this
            exact Option.some.inj this
          · exact .inl hy
        by_cases h0 : 0 < cmp x u
        · rw [if_pos h0]
          rcases hu with rfl | rfl
          · rw [hc.refl]; decide
          · have := hc.anti u x
            omega
        · rw [if_neg h0]
          rcases hu with rfl | rfl
          · omega
          · rw [hc.refl]; decide
    · rw [if_neg e] at hg
      rcases hy with hy | hy
      · rw [getL_of_mem hn hy] at hg
        exact ⟨y, getL_mem hg, rfl, by rw [hc.refl]; decide⟩
      · exact absurd (by rw [hy]) e
/-- What many Puts leave: of what was there and came in, the greatest of each name. -/
theorem all_dom (hc : Cmp3 cmp) : ∀ (l : List S) {L : List S}, (L.map nm).Nodup → (∀ z ∈ putAll nm cmp L l, z ∈ L ∨ z ∈ l) ∧ ∀ y, (y ∈ L ∨ y ∈ l) → ∃ z ∈ putAll nm cmp L l, nm z = nm y ∧ cmp y z ≤ 0
  | [], L, hn => ⟨fun z hz => .inl hz, fun y hy => by
      rcases hy with hy | hy
      · exact ⟨y, hy, rfl, by rw [hc.refl]; decide⟩
      · cases hy⟩
  | x :: r, L, hn => by
    obtain ⟨h1, h2⟩ := put_dom hc hn x
    obtain ⟨h3, h4⟩ := all_dom hc r (nodup_put (cmp := cmp) hn x)
    refine ⟨fun z hz => ?_, fun y hy => ?_⟩
    · rcases h3 z hz with h | h
      · rcases h1 z h with h | h
        · exact .inl h
        · subst h; exact .inr List.mem_cons_self
      · exact .inr (List.mem_cons_of_mem _ h)
    · by_cases hyr : y ∈ r
      · exact h4 y (.inr hyr)
      · have hy' : y ∈ L ∨ y = x := by
          rcases hy with hy | hy
          · exact .inl hy
          · rcases List.mem_cons.1 hy with h | h
            · exact .inr h
            · exact absurd h hyr
        obtain ⟨z, hz, e, hle⟩ := h2 y hy'
        obtain ⟨u, hu, e', hle'⟩ := h4 z (.inl hz)
        exact ⟨u, hu, e'.trans e, hc.le_trans hle hle'⟩
theorem nm_inj {L : List S} (hn : (L.map nm).Nodup) {x y : S} (hx : x ∈ L) (hy : y ∈ L) (e : nm x = nm y) : x = y := by
  have h1 := getL_of_mem hn hx
  have h2 := getL_of_mem hn hy
  rw [e, h2] at h1
  exact (Option.some.inj h1).symm
/-- The set alone counts. -/
theorem sets_one (hc : Cmp3 cmp) {L L' l l' : List S} (hn : (L.map nm).Nodup) (hn' : (L'.map nm).Nodup) (h : ∀ x, (x ∈ L ∨ x ∈ l) ↔ (x ∈ L' ∨ x ∈ l')) : ∀ x, x ∈ putAll nm cmp L l → x ∈ putAll nm cmp L' l' := by
  intro z hz
  obtain ⟨a1, a2⟩ := all_dom hc l hn
  obtain ⟨b1, b2⟩ := all_dom hc l' hn'
  obtain ⟨u, hu, e, hle⟩ := b2 z ((h z).1 (a1 z hz))
  obtain ⟨v, hv, e', hle'⟩ := a2 u ((h u).2 (b1 u hu))
  have hvz : v = z := nm_inj (nodup_all hn l) hv hz (e'.trans e)
  subst hvz
  have := hc.anti u v
  have e0 : cmp v u = 0 := by omega
  rw [hc.eq _ _ e0]
  exact hu
theorem sets_perm (hc : Cmp3 cmp) {L L' l l' : List S} (hn : (L.map nm).Nodup) (hn' : (L'.map nm).Nodup) (h : ∀ x, (x ∈ L ∨ x ∈ l) ↔ (x ∈ L' ∨ x ∈ l')) : (putAll nm cmp L l).Perm (putAll nm cmp L' l') := by
  have nd : ∀ {M : List S}, (M.map nm).Nodup → M.Nodup := fun hm => (List.pairwise_map.1 hm).imp (fun hne e => hne (by rw [e]))
  exact (List.perm_ext_iff_of_nodup (nd (nodup_all hn l)) (nd (nodup_all hn' l'))).2 (fun x => ⟨sets_one hc hn hn' h x, sets_one hc hn' hn (fun y => (h y).symm) x⟩)
end
theorem ltSp_asymm {a b : Sp} (h : ltSp a b) : ¬ ltSp b a := by
  unfold ltSp ltTi at *
  rintro (h' | ⟨e, h'⟩)
  · rcases h with h | ⟨e, h⟩
    · omega
    · rw [e] at h'; omega
  · rcases h with h | ⟨e', h⟩
    · rw [e] at h; omega
    · omega
/-- Of a set of spans there is one list that rises. -/
theorem rising_one : ∀ {l m : List Sp}, l.Pairwise ltSp → m.Pairwise ltSp → l.Perm m → l = m
  | [], m, _, _, h => (List.nil_perm.1 h).symm ▸ rfl
  | x :: r, [], _, _, h => absurd h.symm (by simp)
  | x :: r, y :: s, h1, h2, h => by
    rw [List.pairwise_cons] at h1 h2
    have e : x = y := by
      have hx : x ∈ y :: s := h.mem_iff.1 List.mem_cons_self
      have hy : y ∈ x :: r := h.mem_iff.2 List.mem_cons_self
      rcases List.mem_cons.1 hx with e | hx
      · exact e
      · rcases List.mem_cons.1 hy with e | hy
        · exact e.symm
        · exact absurd (h2.1 x hx) (ltSp_asymm (h1.1 y hy))
    subst e
    rw [rising_one h1.2 h2.2 (List.Perm.cons_inv h)]
section
variable {S : Type} {nm : S → Nm} {cmp : S → S → Int}
theorem kept_all : ∀ (m : List S) {L : List S}, (∀ x ∈ m, ∃ y, getL nm L (nm x) = some y ∧ ¬ 0 < cmp x y) → putAll nm cmp L m = L ∧ changes nm cmp L m = m.map (fun _ => 2)
  | [], L, _ => ⟨rfl, rfl⟩
  | x :: r, L, h => by
    obtain ⟨y, h1, h2⟩ := h x List.mem_cons_self
    have e : putL nm cmp L x = L := by
      unfold putL
      rw [h1]
      simp only
      rw [if_neg h2]
    have e2 : became nm cmp L x = 2 := by
      unfold became
      rw [h1]
      simp only
      rw [if_neg h2]
    obtain ⟨a, b⟩ := kept_all r (fun z hz => h z (List.mem_cons_of_mem _ hz))
    constructor
    · show putAll nm cmp (putL nm cmp L x) r = L
      rw [e]
      exact a
    · rw [changes, e, e2, b]
      rfl
theorem count_all : ∀ (m L : List S), (putAll nm cmp L m).length = L.length + (changes nm cmp L m).countP (fun c => c == 0)
  | [], L => by simp [putAll, changes]
  | x :: r, L => by
    show (putAll nm cmp (putL nm cmp L x) r).length = _
    rw [count_all r, len_put, changes, List.countP_cons]
    unfold became
    cases h : getL nm L (nm x) with
    | none => simp; omega
    | some y =>
      simp only [Option.isSome_some, if_true]
      split
      · simp
      · simp
/-- What was put in is kept, when it comes once more. -/
theorem again_kept (hc : Cmp3 cmp) {L m : List S} (hn : (L.map nm).Nodup) : ∀ x ∈ m, ∃ y, getL nm (putAll nm cmp L m) (nm x) = some y ∧ ¬ 0 < cmp x y := fun x hx => by
  obtain ⟨z, hz, e, hle⟩ := (all_dom hc m hn).2 x (.inr hx)
  refine ⟨z, ?_, by omega⟩
  rw [← e]
  exact getL_of_mem (nodup_all hn m) hz
theorem again_fits (hc : Cmp3 cmp) {chk : S → Int} {L m : List S} (hn : (L.map nm).Nodup) (h : fitsF nm chk L m = 0) (hl : (putAll nm cmp L m).length ≤ 100000) : fitsF nm chk (putAll nm cmp L m) m = 0 := by
  obtain ⟨h1, _⟩ := fits_zero h
  have h2 : freshN nm (putAll nm cmp L m) m = [] := by
    rw [List.eq_nil_iff_forall_not_mem]
    intro n hn'
    rw [mem_fresh] at hn'
    obtain ⟨h3, h4⟩ := hn'
    obtain ⟨x, hx, rfl⟩ := List.mem_map.1 h3
    obtain ⟨y, h5, _⟩ := again_kept hc hn x hx
    rw [h5] at h4
    cases h4
  unfold fitsF
  have : m.find? (fun x => chk x != 0) = none := by
    rw [List.find?_eq_none]
    intro x hx
    simp [h1 x hx]
  rw [this]
  simp only
  unfold roomF
  rw [h2, if_neg (by simp), if_neg (by simp; omega)]
end
section
variable {S : Type} {nm : S → Nm} {cmp : S → S → Int}
/-- M has the greatest of each name of A, and no others. -/
def DomOf (nm : S → Nm) (cmp : S → S → Int) (M : List S) (A : S → Prop) : Prop := (∀ z ∈ M, A z) ∧ ∀ y, A y → ∃ z ∈ M, nm z = nm y ∧ cmp y z ≤ 0
theorem dom_all (hc : Cmp3 cmp) {L l : List S} {A B : S → Prop} (hn : (L.map nm).Nodup) (hL : DomOf nm cmp L A) (hl : DomOf nm cmp l B) : DomOf nm cmp (putAll nm cmp L l) (fun x => A x ∨ B x) := by
  obtain ⟨h1, h2⟩ := all_dom hc l hn
  refine ⟨fun z hz => (h1 z hz).elim (fun h => .inl (hL.1 z h)) (fun h => .inr (hl.1 z h)), fun y hy => ?_⟩
  have h3 : ∃ u, (u ∈ L ∨ u ∈ l) ∧ nm u = nm y ∧ cmp y u ≤ 0 := by
    rcases hy with hy | hy
    · obtain ⟨u, hu, e, hle⟩ := hL.2 y hy
      exact ⟨u, .inl hu, e, hle⟩
    · obtain ⟨u, hu, e, hle⟩ := hl.2 y hy
      exact ⟨u, .inr hu, e, hle⟩
  obtain ⟨u, hu, e, hle⟩ := h3
  obtain ⟨z, hz, e', hle'⟩ := h2 u hu
  exact ⟨z, hz, e'.trans e, hc.le_trans hle hle'⟩
theorem dom_self (hc : Cmp3 cmp) (l : List S) : DomOf nm cmp l (fun x => x ∈ l) := ⟨fun _ h => h, fun y hy => ⟨y, hy, rfl, by rw [hc.refl]; decide⟩⟩
theorem dom_perm {l m : List S} {A : S → Prop} (h : DomOf nm cmp l A) (hp : l.Perm m) : DomOf nm cmp m A := ⟨fun z hz => h.1 z (hp.mem_iff.2 hz), fun y hy => by
  obtain ⟨z, hz, r⟩ := h.2 y hy
  exact ⟨z, hp.mem_iff.1 hz, r⟩⟩
theorem dom_iff {l : List S} {A B : S → Prop} (h : DomOf nm cmp l A) (e : ∀ x, A x ↔ B x) : DomOf nm cmp l B := ⟨fun z hz => (e z).1 (h.1 z hz), fun y hy => h.2 y ((e y).2 hy)⟩
theorem dom_sub (hc : Cmp3 cmp) {M M' : List S} {A : S → Prop} (hn : (M.map nm).Nodup) (h : DomOf nm cmp M A) (h' : DomOf nm cmp M' A) : ∀ x ∈ M, x ∈ M' := fun z hz => by
  obtain ⟨u, hu, e, hle⟩ := h'.2 z (h.1 z hz)
  obtain ⟨v, hv, e', hle'⟩ := h.2 u (h'.1 u hu)
  have hvz : v = z := nm_inj hn hv hz (e'.trans e)
  subst hvz
  have := hc.anti u v
  have e0 : cmp v u = 0 := by omega
  rw [hc.eq _ _ e0]
  exact hu
/-- There is but one such set. -/
theorem dom_one (hc : Cmp3 cmp) {M M' : List S} {A : S → Prop} (hn : (M.map nm).Nodup) (hn' : (M'.map nm).Nodup) (h : DomOf nm cmp M A) (h' : DomOf nm cmp M' A) : M.Perm M' := by
  have nd : ∀ {N : List S}, (N.map nm).Nodup → N.Nodup := fun hm => (List.pairwise_map.1 hm).imp (fun hne e => hne (by rw [e]))
  exact (List.perm_ext_iff_of_nodup (nd hn) (nd hn')).2 (fun x => ⟨dom_sub hc hn h h' x, dom_sub hc hn' h' h x⟩)
theorem dom_nil : DomOf nm cmp ([] : List S) (fun _ => False) := ⟨fun _ h => (List.not_mem_nil h).elim, fun _ h => False.elim h⟩
end
end Go.Proofs.YthdkgilpnkabmaaGreatDoor.Pr
