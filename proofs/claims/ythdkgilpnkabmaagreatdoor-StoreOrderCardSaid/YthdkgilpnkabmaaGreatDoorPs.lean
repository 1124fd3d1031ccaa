/- Plain: things that have names, one of each name; what becomes of one that is put in; room. No program in sight. -/
namespace Go.Proofs.YthdkgilpnkabmaaGreatDoor.Ps
set_option linter.unusedVariables false
set_option linter.unusedSimpArgs false
abbrev Tr := Int × Int
abbrev Nm := Tr × Int
section
variable {S : Type} (nm : S → Nm) (cmp : S → S → Int)
def getL (L : List S) (n : Nm) : Option S := L.find? (fun x => decide (nm x = n))
def putL (L : List S) (x : S) : List S :=
  match getL nm L (nm x) with
  | none => L ++ [x]
  | some y => if 0 < cmp x y then L.map (fun z => if nm z = nm x then x else z) else L
def became (L : List S) (x : S) : Int :=
  match getL nm L (nm x) with
  | none => 0
  | some y => if 0 < cmp x y then 1 else 2
def putAll (L l : List S) : List S := l.foldl (putL nm cmp) L
def changes : List S → List S → List Int
  | _, [] => []
  | L, x :: r => became nm cmp L x :: changes (putL nm cmp L x) r
def freshStep (L : List S) (fr : List Nm) (x : S) : List Nm := if (getL nm L (nm x)).isSome || fr.contains (nm x) then fr else fr ++ [nm x]
def freshN (L l : List S) : List Nm := l.foldl (freshStep nm L) []
def cntT (ns : List Nm) (t : Tr) : Nat := (ns.filter (fun n => decide (n.1 = t))).length
def roomF (L l : List S) : Int :=
  if (freshN nm L l).any (fun n => decide (1000 < cntT (L.map nm) n.1 + cntT (freshN nm L l) n.1)) = true then 91
  else if 100000 < L.length + (freshN nm L l).length then 92 else 0
def fitsF (chk : S → Int) (L l : List S) : Int :=
  match l.find? (fun x => chk x != 0) with
  | some x => chk x
  | none => roomF nm L l
variable {nm cmp}
theorem getL_none {L : List S} {n : Nm} : getL nm L n = none ↔ ∀ x ∈ L, nm x ≠ n := by
  unfold getL
  rw [List.find?_eq_none]
  exact ⟨fun h x hx e => h x hx (by simpa using e), fun h x hx => by simpa using h x hx⟩
theorem getL_mem {L : List S} {n : Nm} {x : S} (h : getL nm L n = some x) : x ∈ L := List.mem_of_find?_eq_some h
theorem getL_nm {L : List S} {n : Nm} {x : S} (h : getL nm L n = some x) : nm x = n := by
  have := List.find?_some h
  simpa using this
theorem getL_of_mem {L : List S} (hn : (L.map nm).Nodup) {x : S} (h : x ∈ L) : getL nm L (nm x) = some x := by
  induction L with
  | nil => simp at h
  | cons y r ih =>
    simp only [List.map_cons, List.nodup_cons] at hn
    unfold getL
    rw [List.find?_cons]
    rcases List.mem_cons.1 h with rfl | h
    · simp
    · have hne : nm y ≠ nm x := fun e => hn.1 (List.mem_map.2 ⟨x, h, e.symm⟩)
      simp only [hne, decide_false]
      exact ih hn.2 h
theorem getL_iff {L : List S} (hn : (L.map nm).Nodup) {n : Nm} {x : S} : getL nm L n = some x ↔ x ∈ L ∧ nm x = n :=
  ⟨fun h => ⟨getL_mem h, getL_nm h⟩, fun ⟨h, e⟩ => e ▸ getL_of_mem hn h⟩
theorem mem_nm {L : List S} {n : Nm} : n ∈ L.map nm ↔ (getL nm L n).isSome = true := by
  cases h : getL nm L n with
  | none =>
    simp only [Option.isSome_none, Bool.false_eq_true, iff_false, List.mem_map, not_exists, not_and]
    exact fun x hx => getL_none.1 h x hx
  | some x => simp only [Option.isSome_some, iff_true]; exact List.mem_map.2 ⟨x, getL_mem h, getL_nm h⟩
theorem nm_put (L : List S) (x : S) : (putL nm cmp L x).map nm = if (getL nm L (nm x)).isSome = true then L.map nm else L.map nm ++ [nm x] := by
  unfold putL
  cases h : getL nm L (nm x) with
  | none => simp
  | some y =>
    simp only [Option.isSome_some, if_true]
    split
    · rw [List.map_map]
      refine List.map_congr_left (fun z _ => ?_)
      simp only [Function.comp_apply]
      split
      · rename_i e; exact e.symm
      · rfl
    · rfl
theorem nodup_put {L : List S} (hn : (L.map nm).Nodup) (x : S) : ((putL nm cmp L x).map nm).Nodup := by
  rw [nm_put]
  split
  · exact hn
  · rename_i h
    refine List.nodup_append.2 ⟨hn, by simp, ?_⟩
    intro a ha b hb
    simp only [List.mem_singleton] at hb
    subst hb
    intro e
    subst e
    exact h (mem_nm.1 ha)
theorem mem_put {L : List S} (hn : (L.map nm).Nodup) {x z : S} : z ∈ putL nm cmp L x ↔
    (z ∈ L ∧ nm z ≠ nm x) ∨ (nm z = nm x ∧ match getL nm L (nm x) with | none => z = x | some y => if 0 < cmp x y then z = x else z = y) := by
  unfold putL
  cases h : getL nm L (nm x) with
  | none =>
    have h1 := getL_none.1 h
    simp only [List.mem_append, List.mem_singleton]
    constructor
    · rintro (h2 | rfl)
      · exact Or.inl ⟨h2, h1 z h2⟩
      · exact Or.inr ⟨rfl, rfl⟩
    · rintro (h2 | h2)
      · exact Or.inl h2.1
      · exact Or.inr h2.2
  | some y =>
    by_cases hc : 0 < cmp x y
    · simp only [if_pos hc]
      rw [List.mem_map]
      constructor
      · rintro ⟨q, hq, rfl⟩
        split
        · exact Or.inr ⟨rfl, rfl⟩
        · rename_i e; exact Or.inl ⟨hq, e⟩
      · rintro (⟨h2, h3⟩ | ⟨_, rfl⟩)
        · exact ⟨z, h2, by rw [if_neg h3]⟩
        · exact ⟨y, getL_mem h, by rw [if_pos (getL_nm h)]⟩
    · simp only [if_neg hc]
      constructor
      · intro h2
        by_cases e : nm z = nm x
        · refine Or.inr ⟨e, ?_⟩
          have := getL_of_mem hn h2
          rw [e, h] at this
          exact (Option.some.inj this).symm
        · exact Or.inl ⟨h2, e⟩
      · rintro (h2 | ⟨_, rfl⟩)
        · exact h2.1
        · exact getL_mem h
theorem get_put {L : List S} (hn : (L.map nm).Nodup) (x : S) (n : Nm) : getL nm (putL nm cmp L x) n =
    if n = nm x then some (match getL nm L n with | none => x | some y => if 0 < cmp x y then x else y) else getL nm L n := by
  have hn' := nodup_put (cmp := cmp) hn x
  split
  · rename_i e
    subst e
    refine (getL_iff hn').2 ⟨(mem_put hn).2 (Or.inr ?_), ?_⟩
    · cases h : getL nm L (nm x) with
      | none => exact ⟨rfl, rfl⟩
      | some y =>
        by_cases hc : 0 < cmp x y
        · simp only [if_pos hc]; exact ⟨trivial, trivial⟩
        · simp only [if_neg hc]; exact ⟨getL_nm h, trivial⟩
    · cases h : getL nm L (nm x) with
      | none => rfl
      | some y =>
        by_cases hc : 0 < cmp x y
        · simp only [if_pos hc]
        · simp only [if_neg hc]; exact getL_nm h
  · rename_i e
    cases h : getL nm L n with
    | none =>
      refine getL_none.2 (fun z hz hzn => ?_)
      rcases (mem_put hn).1 hz with ⟨h1, _⟩ | ⟨h1, _⟩
      · exact getL_none.1 h z h1 hzn
      · exact e (hzn ▸ h1)
    | some y => exact (getL_iff hn').2 ⟨(mem_put hn).2 (Or.inl ⟨getL_mem h, by rw [getL_nm h]; exact e⟩), getL_nm h⟩
theorem len_put (L : List S) (x : S) : (putL nm cmp L x).length = if (getL nm L (nm x)).isSome = true then L.length else L.length + 1 := by
  have := congrArg List.length (nm_put (nm := nm) (cmp := cmp) L x)
  rw [List.length_map] at this
  rw [this]
  split <;> simp
theorem nodup_all {L : List S} (hn : (L.map nm).Nodup) : ∀ l, ((putAll nm cmp L l).map nm).Nodup
  | [] => hn
  | x :: r => nodup_all (L := putL nm cmp L x) (nodup_put hn x) r
theorem putAll_snoc (L l : List S) (x : S) : putAll nm cmp L (l ++ [x]) = putL nm cmp (putAll nm cmp L l) x := by simp [putAll]
theorem changes_len : ∀ (l L : List S), (changes nm cmp L l).length = l.length
  | [], L => rfl
  | x :: r, L => by simp [changes, changes_len r]
theorem changes_snoc : ∀ (l L : List S) (x : S), changes nm cmp L (l ++ [x]) = changes nm cmp L l ++ [became nm cmp (putAll nm cmp L l) x]
  | [], L, x => rfl
  | y :: r, L, x => by simp [changes, changes_snoc r, putAll]
theorem freshN_snoc (L l : List S) (x : S) : freshN nm L (l ++ [x]) = freshStep nm L (freshN nm L l) x := by simp [freshN]
theorem fresh_mem (L : List S) {n : Nm} : ∀ (l : List S) (fr : List Nm), n ∈ l.foldl (freshStep nm L) fr ↔ n ∈ fr ∨ (n ∈ l.map nm ∧ getL nm L n = none)
  | [], fr => by simp
  | x :: r, fr => by
    rw [List.foldl_cons, fresh_mem L r, List.map_cons, List.mem_cons]
    unfold freshStep
    by_cases h1 : ((getL nm L (nm x)).isSome || fr.contains (nm x)) = true
    · rw [if_pos h1]
      constructor
      · rintro (h | ⟨h, h'⟩)
        · exact Or.inl h
        · exact Or.inr ⟨Or.inr h, h'⟩
      · rintro (h | ⟨rfl | h, h'⟩)
        · exact Or.inl h
        · rw [h'] at h1
          left
          simpa using h1
        · exact Or.inr ⟨h, h'⟩
    · rw [if_neg h1]
      have h1' : getL nm L (nm x) = none := by
        cases h : getL nm L (nm x) with
        | none => rfl
        | some y => simp [h] at h1
      rw [List.mem_append, List.mem_singleton]
      constructor
      · rintro ((h | rfl) | ⟨h, h'⟩)
        · exact Or.inl h
        · exact Or.inr ⟨Or.inl rfl, h1'⟩
        · exact Or.inr ⟨Or.inr h, h'⟩
      · rintro (h | ⟨rfl | h, h'⟩)
        · exact Or.inl (Or.inl h)
        · exact Or.inl (Or.inr rfl)
        · exact Or.inr ⟨h, h'⟩
theorem fresh_nodup (L : List S) : ∀ (l : List S) (fr : List Nm), fr.Nodup → (l.foldl (freshStep nm L) fr).Nodup
  | [], fr, h => h
  | x :: r, fr, h => by
    rw [List.foldl_cons]
    refine fresh_nodup L r _ ?_
    unfold freshStep
    split
    · exact h
    · rename_i hc
      refine List.nodup_append.2 ⟨h, by simp, ?_⟩
      intro a ha b hb
      simp only [List.mem_singleton] at hb
      subst hb
      intro e
      subst e
      apply hc
      simp [ha]
theorem mem_fresh {L l : List S} {n : Nm} : n ∈ freshN nm L l ↔ n ∈ l.map nm ∧ getL nm L n = none := by
  unfold freshN
  rw [fresh_mem]
  simp
theorem nodup_fresh (L l : List S) : (freshN nm L l).Nodup := fresh_nodup L l [] List.nodup_nil
/-- What a list of names holds is no more than another one that has them all. -/
theorem len_sub {α : Type} [DecidableEq α] : ∀ {a b : List α}, a.Nodup → (∀ x ∈ a, x ∈ b) → a.length ≤ b.length
  | [], b, _, _ => Nat.zero_le _
  | x :: r, b, hn, h => by
    rw [List.nodup_cons] at hn
    have hx := h x (List.mem_cons_self)
    have h1 := List.length_erase_of_mem hx
    have hpos : 0 < b.length := List.length_pos_of_mem hx
    have h2 := len_sub (a := r) (b := b.erase x) hn.2 (fun y hy => by
      refine (List.mem_erase_of_ne ?_).2 (h y (List.mem_cons_of_mem _ hy))
      rintro rfl
      exact hn.1 hy)
    simp only [List.length_cons]
    omega
theorem cnt_sub {a b : List Nm} (ha : a.Nodup) (h : ∀ x ∈ a, x ∈ b) (t : Tr) : cntT a t ≤ cntT b t := by
  unfold cntT
  refine len_sub (ha.filter _) (fun x hx => ?_)
  rw [List.mem_filter] at hx ⊢
  exact ⟨h x hx.1, hx.2⟩
theorem cnt_append (a b : List Nm) (t : Tr) : cntT (a ++ b) t = cntT a t + cntT b t := by simp [cntT]
theorem nm_all (L : List S) {n : Nm} : ∀ (l : List S), n ∈ (putAll nm cmp L l).map nm ↔ n ∈ L.map nm ∨ n ∈ l.map nm := by
  intro l
  induction l generalizing L with
  | nil => simp [putAll]
  | cons x r ih =>
    show n ∈ (putAll nm cmp (putL nm cmp L x) r).map nm ↔ _
    rw [ih, nm_put, List.map_cons, List.mem_cons]
    split
    · rename_i h
      constructor
      · rintro (h1 | h1)
        · exact Or.inl h1
        · exact Or.inr (Or.inr h1)
      · rintro (h1 | rfl | h1)
        · exact Or.inl h1
        · exact Or.inl (mem_nm.2 h)
        · exact Or.inr h1
    · rw [List.mem_append, List.mem_singleton, or_assoc]
theorem room_zero {L l : List S} (h : roomF nm L l = 0) : (∀ n ∈ freshN nm L l, cntT (L.map nm) n.1 + cntT (freshN nm L l) n.1 ≤ 1000) ∧ L.length + (freshN nm L l).length ≤ 100000 := by
  unfold roomF at h
  split at h
  · omega
  · rename_i h1
    split at h
    · omega
    · rename_i h2
      refine ⟨fun n hn => ?_, by omega⟩
      rcases Nat.lt_or_ge 1000 (cntT (L.map nm) n.1 + cntT (freshN nm L l) n.1) with h3 | h3
      · exact absurd (List.any_eq_true.2 ⟨n, hn, decide_eq_true h3⟩) h1
      · exact h3
theorem fits_zero {chk : S → Int} {L l : List S} (h : fitsF nm chk L l = 0) : (∀ x ∈ l, chk x = 0) ∧ roomF nm L l = 0 := by
  unfold fitsF at h
  cases hf : l.find? (fun x => chk x != 0) with
  | some y =>
    rw [hf] at h
    have := List.find?_some hf
    simp [h] at this
  | none =>
    rw [hf] at h
    refine ⟨fun x hx => ?_, h⟩
    have := List.find?_eq_none.1 hf x hx
    simpa using this
theorem room_each {L l : List S} (hn : (L.map nm).Nodup) (h : roomF nm L l = 0) (k : Nat) (hk : k < l.length) (hno : getL nm (putAll nm cmp L (l.take k)) (nm l[k]) = none) : (putAll nm cmp L (l.take k)).length < 100000 := by
  have hr := (room_zero h).2
  have h1 : ((putAll nm cmp L (l.take k)).map nm ++ [nm l[k]]).Nodup := by
    refine List.nodup_append.2 ⟨nodup_all hn _, by simp, ?_⟩
    intro a ha b hb
    simp only [List.mem_singleton] at hb
    subst hb
    rintro rfl
    have := mem_nm.1 ha
    rw [hno] at this
    simp at this
  have h2 := len_sub (b := L.map nm ++ freshN nm L l) h1 (fun n hn2 => by
    have hcase : n ∈ L.map nm ∨ n ∈ l.map nm := by
      rcases List.mem_append.1 hn2 with h3 | h3
      · rcases (nm_all L _).1 h3 with h4 | h4
        · exact Or.inl h4
        · obtain ⟨x, hx, rfl⟩ := List.mem_map.1 h4
          exact Or.inr (List.mem_map.2 ⟨x, List.mem_of_mem_take hx, rfl⟩)
      · obtain rfl := List.mem_singleton.1 h3
        exact Or.inr (List.mem_map.2 ⟨_, List.getElem_mem _, rfl⟩)
    rcases hcase with h3 | h3
    · exact List.mem_append_left _ h3
    · by_cases h4 : n ∈ L.map nm
      · exact List.mem_append_left _ h4
      · refine List.mem_append_right _ (mem_fresh.2 ⟨h3, ?_⟩)
        cases h5 : getL nm L n with
        | none => rfl
        | some y => exact absurd (mem_nm.2 (by rw [h5]; rfl)) h4)
  simp only [List.length_append, List.length_map, List.length_singleton] at h2
  omega
end
end Go.Proofs.YthdkgilpnkabmaaGreatDoor.Ps
