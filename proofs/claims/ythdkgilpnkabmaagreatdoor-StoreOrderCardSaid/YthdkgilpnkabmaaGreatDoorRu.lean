/- Plain: room, told of the union alone. No program in sight. -/
import Derived.Test.YthdkgilpnkabmaaGreatDoorPs
namespace Go.Proofs.YthdkgilpnkabmaaGreatDoor.Ps
set_option linter.unusedVariables false
set_option linter.unusedSimpArgs false
/-- Room, by the names that there would be. -/
def roomU (U : List Nm) : Int := if U.any (fun n => decide (1000 < cntT U n.1)) = true then 91 else if 100000 < U.length then 92 else 0
theorem cnt_perm {U V : List Nm} (h : U.Perm V) (t : Tr) : cntT U t = cntT V t := (h.filter _).length_eq
theorem cnt_pos {U : List Nm} {t : Tr} (h : 0 < cntT U t) : ∃ n ∈ U, n.1 = t := by
  unfold cntT at h
  obtain ⟨n, hn⟩ := List.exists_mem_of_length_pos h
  rw [List.mem_filter] at hn
  exact ⟨n, hn.1, by simpa using hn.2⟩
theorem roomU_perm {U V : List Nm} (h : U.Perm V) : roomU U = roomU V := by
  have e : U.any (fun n => decide (1000 < cntT U n.1)) = V.any (fun n => decide (1000 < cntT V n.1)) := by
    rw [Bool.eq_iff_iff, List.any_eq_true, List.any_eq_true]
    constructor
    · rintro ⟨n, h1, h2⟩
      exact ⟨n, h.mem_iff.1 h1, by rw [← cnt_perm h]; exact h2⟩
    · rintro ⟨n, h1, h2⟩
      exact ⟨n, h.mem_iff.2 h1, by rw [cnt_perm h]; exact h2⟩
  unfold roomU
  rw [e, h.length_eq]
theorem roomU_zero {U : List Nm} : roomU U = 0 ↔ (∀ t, cntT U t ≤ 1000) ∧ U.length ≤ 100000 := by
  unfold roomU
  constructor
  · intro h
    split at h
    · omega
    · rename_i h1
      split at h
      · omega
      · refine ⟨fun t => ?_, by omega⟩
        rcases Nat.lt_or_ge 1000 (cntT U t) with h3 | h3
        · obtain ⟨n, hn, rfl⟩ := cnt_pos (U := U) (t := t) (by omega)
          exact absurd (List.any_eq_true.2 ⟨n, hn, decide_eq_true h3⟩) h1
        · exact h3
  · rintro ⟨h1, h2⟩
    rw [if_neg, if_neg (by omega)]
    rw [List.any_eq_true]
    rintro ⟨n, _, h3⟩
    have := h1 n.1
    have h3 := of_decide_eq_true h3
    omega
theorem roomU_sub {U V : List Nm} (hn : U.Nodup) (h : ∀ n ∈ U, n ∈ V) (hV : roomU V = 0) : roomU U = 0 := by
  obtain ⟨h1, h2⟩ := roomU_zero.1 hV
  refine roomU_zero.2 ⟨fun t => ?_, ?_⟩
  · have := cnt_sub hn h t
    have := h1 t
    omega
  · have := len_sub hn h
    omega
section
variable {S : Type} {nm : S → Nm} {cmp : S → S → Int}
theorem names_perm {L l L' l' : List S} (hn : (L.map nm).Nodup) (hn' : (L'.map nm).Nodup) (h : ∀ n, (n ∈ L.map nm ∨ n ∈ l.map nm) ↔ (n ∈ L'.map nm ∨ n ∈ l'.map nm)) : ((putAll nm cmp L l).map nm).Perm ((putAll nm cmp L' l').map nm) :=
  (List.perm_ext_iff_of_nodup (nodup_all hn l) (nodup_all hn' l')).2 (fun n => by rw [nm_all, nm_all]; exact h n)
theorem room_U {L l : List S} (hn : (L.map nm).Nodup) (hL : ∀ t, cntT (L.map nm) t ≤ 1000) : roomF nm L l = roomU ((putAll nm cmp L l).map nm) := by
  have hnd : (L.map nm ++ freshN nm L l).Nodup := by
    refine List.nodup_append.2 ⟨hn, nodup_fresh L l, ?_⟩
    intro a ha b hb e
    subst e
    have h1 := mem_nm.1 ha
    rw [(mem_fresh.1 hb).2] at h1
    simp at h1
  have hp : ((putAll nm cmp L l).map nm).Perm (L.map nm ++ freshN nm L l) := (List.perm_ext_iff_of_nodup (nodup_all hn l) hnd).2 (fun n => by
    rw [nm_all, List.mem_append, mem_fresh]
    constructor
    · rintro (h | h)
      · exact .inl h
      · cases h5 : getL nm L n with
        | none => exact .inr ⟨h, rfl⟩
        | some y => exact .inl (mem_nm.2 (by rw [h5]; rfl))
    · rintro (h | h)
      · exact .inl h
      · exact .inr h.1)
  rw [roomU_perm hp]
  have e : (freshN nm L l).any (fun n => decide (1000 < cntT (L.map nm) n.1 + cntT (freshN nm L l) n.1)) = (L.map nm ++ freshN nm L l).any (fun n => decide (1000 < cntT (L.map nm ++ freshN nm L l) n.1)) := by
    rw [Bool.eq_iff_iff, List.any_eq_true, List.any_eq_true]
    constructor
    · rintro ⟨n, h1, h2⟩
      exact ⟨n, List.mem_append_right _ h1, by rw [cnt_append]; exact h2⟩
    · rintro ⟨n, h1, h2⟩
      rw [cnt_append] at h2
      have h3 := of_decide_eq_true h2
      have h4 := hL n.1
      obtain ⟨n', h5, h6⟩ := cnt_pos (U := freshN nm L l) (t := n.1) (by omega)
      exact ⟨n', h5, by rw [h6]; exact h2⟩
  unfold roomF roomU
  rw [e, List.length_append, List.length_map]
theorem fits_of {chk : S → Int} {L l : List S} (h : ∀ x ∈ l, chk x = 0) : fitsF nm chk L l = roomF nm L l := by
  unfold fitsF
  have : l.find? (fun x => chk x != 0) = none := by
    rw [List.find?_eq_none]
    intro x hx
    simp [h x hx]
  rw [this]
theorem fits_U {chk : S → Int} {L l : List S} (hn : (L.map nm).Nodup) (hL : ∀ t, cntT (L.map nm) t ≤ 1000) (hc : ∀ x ∈ l, chk x = 0) : fitsF nm chk L l = roomU ((putAll nm cmp L l).map nm) := by
  rw [fits_of hc, room_U (cmp := cmp) hn hL]
theorem fits_0 {chk : S → Int} {l : List S} (hc : ∀ x ∈ l, chk x = 0) : fitsF nm chk [] l = roomU ((putAll nm cmp [] l).map nm) := fits_U (by simp) (fun t => by simp [cntT]) hc
theorem cnt_of_fits {chk : S → Int} {l : List S} (h : fitsF nm chk [] l = 0) : ∀ t, cntT ((putAll nm cmp [] l).map nm) t ≤ 1000 := by
  rw [fits_0 (cmp := cmp) (fits_zero h).1] at h
  exact (roomU_zero.1 h).1
/-- One of a list that fits, onto some of that list. -/
theorem one_fits {chk : S → Int} {l M : List S} {x : S} (h : fitsF nm chk [] l = 0) (hM : ∀ y ∈ M, y ∈ l) (hx : x ∈ l) : fitsF nm chk (putAll nm cmp [] M) [x] = 0 := by
  have hU := h
  rw [fits_0 (cmp := cmp) (fits_zero h).1] at hU
  have sub : ∀ {K : List S}, (∀ y ∈ K, y ∈ l) → ∀ n ∈ (putAll nm cmp [] K).map nm, n ∈ (putAll nm cmp [] l).map nm := fun {K} hK n hn => by
    rw [nm_all] at hn ⊢
    rcases hn with hn | hn
    · exact .inl hn
    · obtain ⟨y, hy, rfl⟩ := List.mem_map.1 hn
      exact .inr (List.mem_map.2 ⟨y, hK y hy, rfl⟩)
  have nd : ∀ K : List S, ((putAll nm cmp [] K).map nm).Nodup := fun K => nodup_all (by simp) K
  rw [fits_U (cmp := cmp) (nd M) ((roomU_zero.1 (roomU_sub (nd M) (sub hM) hU)).1) (fun y hy => by rw [List.mem_singleton] at hy; subst hy; exact (fits_zero h).1 _ hx)]
  have e : putAll nm cmp (putAll nm cmp [] M) [x] = putAll nm cmp [] (M ++ [x]) := by rw [putAll_snoc]; rfl
  rw [e]
  exact roomU_sub (nd _) (sub (fun y hy => by
    rcases List.mem_append.1 hy with hy | hy
    · exact hM y hy
    · rw [List.mem_singleton] at hy; subst hy; exact hx)) hU
end
end Go.Proofs.YthdkgilpnkabmaaGreatDoor.Ps
