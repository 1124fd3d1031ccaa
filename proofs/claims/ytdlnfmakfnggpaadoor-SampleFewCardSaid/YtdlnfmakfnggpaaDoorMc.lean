/- Plain laws of spoorlaw21.same and chosen at the few of a set. -/
import Derived.Test.YtdlnfmakfnggpaaDoorMn
import Derived.Test.YtdlnfmakfnggpaaDoorXTc
import Derived.Test.YtdlnfmakfnggpaaDoorXFa
namespace Go.Proofs.YtdlnfmakfnggpaaDoor.Pr
open Go.RowKit Go.Proofs.YtdlnfmakfnggpaaDoorW.PrintWords
set_option linter.unusedVariables false
set_option linter.unusedSimpArgs false
theorem refmix_eq (a b : Int) : spoorref21_Mix.f a b = sample_Mix.f a b := rfl
theorem less_eq (a b : C3) (ha : sample_Mix.f a.2.1 a.2.2 = some a.1) (hb : sample_Mix.f b.2.1 b.2.2 = some b.1) : spoorref21_Less.f a.2.1 a.2.2 b.2.1 b.2.2 = some (decide (lt3 a b)) := by
  unfold spoorref21_Less.f
  rw [refmix_eq, refmix_eq, ha, hb, Option.bind_some, Option.bind_some]
  split
  · split
    · rw [Option.some.injEq, decide_eq_decide]; unfold lt3; omega
    · rw [Option.some.injEq, decide_eq_decide]; unfold lt3; omega
  · rw [Option.some.injEq, decide_eq_decide]; unfold lt3; omega
section
variable {x0 x1 : List S26} {x2 : Int}
theorem ch_l4 (h0 : x0.length ≤ 1000) (h1 : x1.length ≤ 8796093022208) {x8 : Int} {n : Nat} (hn : n < x1.length) (h : ∃ k, spoorlaw21_chosen.l3 k x0 x1 x2 x8 ((n + 1 : Nat) : Int) = some true) :
    ∀ (d t : Nat) (b : Bool), t + d = x0.length → (b = true ∨ (∃ j, t ≤ j ∧ j < x0.length ∧ x0[j]! = x1[n]!) ∨ ((x0.length : Int) = x2 ∧ 0 < x0.length ∧ spoorref21_Less.f (x1[n]!).f0 (x1[n]!).f1 (x0[x0.length - 1]!).f0 (x0[x0.length - 1]!).f1 = some false)) →
      ∃ k, spoorlaw21_chosen.l4 k x0 x1 x2 x8 (n : Int) b (t : Int) = some true := by
  obtain ⟨k0, h⟩ := h
  have e1 : rd_T26 x1 (n : Int) = x1[n]! := by rw [rd26 x1 n hn, getElem!_pos x1 n hn]
  intro d
  induction d with
  | zero =>
    intro t b ht hc
    refine ⟨k0 + 1, ?_⟩
    simp only [spoorlaw21_chosen.l4]
    rw [if_neg (by omega), w64s (by omega)]
    by_cases hb : b = true
    · rw [if_pos hb]; exact h
    · rw [if_neg hb]
      rcases hc with hc | ⟨j, hj1, hj2, _⟩ | ⟨hc1, hc2, hc3⟩
      · exact absurd hc hb
      · omega
      · have e2 : wrap64 ((x0.length : Int) - 1) = ((x0.length - 1 : Nat) : Int) := by unfold wrap64; omega
        rw [if_neg (by omega), if_pos (by omega), if_pos (by omega), e2, if_pos (by omega), if_pos (by omega), e1, rd26 x0 _ (by omega), ← getElem!_pos x0 (x0.length - 1) (by omega), hc3, Option.bind_some, if_neg (by simp)]
        exact h
  | succ d ih =>
    intro t b ht hc
    by_cases hb : b = true
    · refine ⟨k0 + 1, ?_⟩
      simp only [spoorlaw21_chosen.l4]
      rw [if_pos (by omega), if_pos hb, w64s (by omega)]
      exact h
    · have e3 : rd_T26 x0 (t : Int) = x0[t]! := by rw [rd26 x0 t (by omega), getElem!_pos x0 t (by omega)]
      obtain ⟨k, hk⟩ := ih (t + 1) ((x0[t]!).f0 == (x1[n]!).f0 && ((x0[t]!).f1 == (x1[n]!).f1)) (by omega) (by
        rcases hc with hc | ⟨j, hj1, hj2, hj3⟩ | hc
        · exact absurd hc hb
        · by_cases e : j = t
          · subst e; left; rw [hj3]; simp
          · exact .inr (.inl ⟨j, by omega, hj2, hj3⟩)
        · exact .inr (.inr hc))
      refine ⟨k + 1, ?_⟩
      simp only [spoorlaw21_chosen.l4]
      rw [if_pos (by omega), if_neg hb, if_pos (by omega), if_pos (by omega), if_pos (by omega), w64s (by omega), e1, e3]
      exact hk
theorem ch_l3 (h0 : x0.length ≤ 1000) (h1 : x1.length ≤ 8796093022208)
    (hall : ∀ n, n < x1.length → (∃ j, j < x0.length ∧ x0[j]! = x1[n]!) ∨ ((x0.length : Int) = x2 ∧ 0 < x0.length ∧ spoorref21_Less.f (x1[n]!).f0 (x1[n]!).f1 (x0[x0.length - 1]!).f0 (x0[x0.length - 1]!).f1 = some false)) :
    ∀ d n : Nat, n + d = x1.length → ∃ k, spoorlaw21_chosen.l3 k x0 x1 x2 (x0.length : Int) (n : Int) = some true := by
  intro d
  induction d with
  | zero =>
    intro n hn
    refine ⟨1, ?_⟩
    simp only [spoorlaw21_chosen.l3]
    rw [if_neg (by omega)]; simp
  | succ d ih =>
    intro n hn
    obtain ⟨k, hk⟩ := ch_l4 h0 h1 (show n < x1.length by omega) (ih (n + 1) (by omega)) x0.length 0 false (by omega) (by
      rcases hall n (by omega) with ⟨j, hj, e⟩ | h
      · exact .inr (.inl ⟨j, by omega, hj, e⟩)
      · exact .inr (.inr h))
    refine ⟨k + 1, ?_⟩
    simp only [spoorlaw21_chosen.l3]
    rw [if_pos (by omega)]
    exact hk
theorem ch_l2 (h1 : x1.length ≤ 8796093022208) {x8 : Int} {i : Nat} (hi : i < x0.length) (h0 : x0.length ≤ 1000) (h : ∃ k, spoorlaw21_chosen.l1 k x0 x1 x2 (wrap64 (x8 + 1)) ((i + 1 : Nat) : Int) = some true) :
    ∀ (d t : Nat), t + d = x1.length → (∃ j, t ≤ j ∧ j < x1.length ∧ x1[j]! = x0[i]!) → ∃ k, spoorlaw21_chosen.l2 k x0 x1 x2 x8 (i : Int) (t : Int) = some true := by
  obtain ⟨k0, h⟩ := h
  have e0 : rd_T26 x0 (i : Int) = x0[i]! := by rw [rd26 x0 i hi, getElem!_pos x0 i hi]
  intro d
  induction d with
  | zero => rintro t ht ⟨j, hj1, hj2, _⟩; omega
  | succ d ih =>
    rintro t ht ⟨j, hj1, hj2, hj3⟩
    have e1 : rd_T26 x1 (t : Int) = x1[t]! := by rw [rd26 x1 t (by omega), getElem!_pos x1 t (by omega)]
    by_cases hc : ((x1[t]!).f0 == (x0[i]!).f0 && ((x1[t]!).f1 == (x0[i]!).f1)) = true
    · refine ⟨k0 + 1, ?_⟩
      simp only [spoorlaw21_chosen.l2]
      rw [if_pos (by omega), if_pos (by omega), if_pos (by omega), if_pos (by omega), e0, e1, if_pos hc, w64s (n := i) (by omega)]
      exact h
    · have hjt : j ≠ t := fun e => by subst e; rw [hj3] at hc; simp at hc
      obtain ⟨k, hk⟩ := ih (t + 1) (by omega) ⟨j, by omega, hj2, hj3⟩
      refine ⟨k + 1, ?_⟩
      simp only [spoorlaw21_chosen.l2]
      rw [if_pos (by omega), if_pos (by omega), if_pos (by omega), if_pos (by omega), e0, e1, if_neg hc, w64s (n := t) (by omega)]
      exact hk
theorem ch_l1 (h0 : x0.length ≤ 1000) (h1 : x1.length ≤ 8796093022208) (hin : ∀ i, i < x0.length → ∃ j, j < x1.length ∧ x1[j]! = x0[i]!) (h3 : ∃ k, spoorlaw21_chosen.l3 k x0 x1 x2 (x0.length : Int) ((0 : Nat) : Int) = some true) :
    ∀ d i : Nat, i + d = x0.length → ∃ k, spoorlaw21_chosen.l1 k x0 x1 x2 (i : Int) (i : Int) = some true := by
  intro d
  induction d with
  | zero =>
    intro i hi
    obtain ⟨k, hk⟩ := h3
    refine ⟨k + 1, ?_⟩
    simp only [spoorlaw21_chosen.l1]
    rw [if_neg (by omega)]
    have e : i = x0.length := by omega
    rw [e]
    exact hk
  | succ d ih =>
    intro i hi
    obtain ⟨j, hj, e⟩ := hin i (by omega)
    obtain ⟨k, hk⟩ := ch_l2 (x2 := x2) (x8 := (i : Int)) h1 (show i < x0.length by omega) h0 (by rw [w64s (by omega)]; exact ih (i + 1) (by omega)) x1.length 0 (by omega) ⟨j, by omega, hj, e⟩
    refine ⟨k + 1, ?_⟩
    simp only [spoorlaw21_chosen.l1]
    rw [if_pos (by omega)]
    exact hk
theorem ch_l0 (h0 : x0.length ≤ 1000) (hx2 : (x0.length : Int) ≤ x2) (h1 : ∃ k, spoorlaw21_chosen.l1 k x0 x1 x2 ((0 : Nat) : Int) ((0 : Nat) : Int) = some true)
    (hs : ∀ i, i + 1 < x0.length → spoorref21_Less.f (x0[i]!).f0 (x0[i]!).f1 (x0[i + 1]!).f0 (x0[i + 1]!).f1 = some true) :
    ∀ d i : Nat, i + d = x0.length ∨ (i = x0.length + 1 ∧ d = 0) → 1 ≤ i → ∃ k, spoorlaw21_chosen.l0 k x0 x1 x2 (i : Int) = some true := by
  intro d
  induction d with
  | zero =>
    intro i hi h1i
    obtain ⟨k, hk⟩ := h1
    refine ⟨k + 1, ?_⟩
    simp only [spoorlaw21_chosen.l0]
    rw [if_neg (by omega), if_neg (by omega)]
    exact hk
  | succ d ih =>
    intro i hi h1i
    obtain ⟨k, hk⟩ := ih (i + 1) (by omega) (by omega)
    have hs' := hs (i - 1) (by omega)
    rw [show i - 1 + 1 = i by omega] at hs'
    have e2 : wrap64 ((i : Int) - 1) = ((i - 1 : Nat) : Int) := by unfold wrap64; omega
    refine ⟨k + 1, ?_⟩
    simp only [spoorlaw21_chosen.l0]
    rw [if_pos (by omega), e2, if_pos (by omega), if_pos (by omega), if_pos (by omega), rd26 x0 (i - 1) (by omega), rd26 x0 i (by omega), ← getElem!_pos x0 (i - 1) (by omega), ← getElem!_pos x0 i (by omega), hs', Option.bind_some, if_pos rfl, w64s (by omega)]
    exact hk
end
theorem idOf_chn (x : S26) : idOf (chn x) = x := rfl
theorem ids_at (T : List C3) (i : Nat) (h : i < T.length) : (ids T)[i]! = idOf T[i]! := by
  rw [getElem!_pos (ids T) i (by unfold ids; simpa using h), getElem!_pos T i h]; simp [ids]
theorem chosen_top (l : List S26) (most : Nat) (h0 : 2 ≤ most) (h1 : most ≤ 1000) (hl : l.length ≤ 8796093022208) (hmx : ∀ x ∈ l, sample_Mix.f x.f0 x.f1 = some (chn x).1) :
    ∃ k, spoorlaw21_chosen.f k (ids (top most (chns l))) l most = some true := by
  obtain ⟨T, hT⟩ : ∃ T, T = top most (chns l) := ⟨_, rfl⟩
  rw [← hT]
  have hsT : Srt T := by rw [hT]; exact srt_top _ _
  have hlT : T.length ≤ most := by rw [hT]; exact top_length _ _
  have hin : ∀ c ∈ T, ∃ x ∈ l, chn x = c := fun c hc => by
    rw [hT] at hc
    have := mem_top hc
    unfold chns at this
    simpa using List.mem_map.1 this
  have hmix : ∀ c ∈ T, sample_Mix.f c.2.1 c.2.2 = some c.1 := fun c hc => by
    obtain ⟨x, hx, rfl⟩ := hin c hc
    exact hmx x hx
  have hil : (ids T).length = T.length := by unfold ids; rw [List.length_map]
  have hget : ∀ i, i < T.length → T[i]! ∈ T := fun i hi => by rw [getElem!_pos T i hi]; exact List.getElem_mem hi
  have less_at : ∀ a b : C3, sample_Mix.f a.2.1 a.2.2 = some a.1 → sample_Mix.f b.2.1 b.2.2 = some b.1 → spoorref21_Less.f (idOf a).f0 (idOf a).f1 (idOf b).f0 (idOf b).f1 = some (decide (lt3 a b)) := fun a b ha hb => less_eq a b ha hb
  unfold spoorlaw21_chosen.f
  have key := ch_l0 (x0 := ids T) (x1 := l) (x2 := (most : Int)) (by omega) (by omega) (ch_l1 (by omega) hl (fun i hi => ?_) (ch_l3 (by omega) hl (fun n hn => ?_) l.length 0 (by omega)) (ids T).length 0 (by omega)) (fun i hi => ?_) ((ids T).length - 1) 1 (by omega) (by omega)
  · exact key
  · rw [hil] at hi
    obtain ⟨x, hx, hxe⟩ := hin _ (hget i hi)
    obtain ⟨j, hj, rfl⟩ := List.mem_iff_getElem.1 hx
    exact ⟨j, hj, by rw [ids_at T i hi, ← hxe, idOf_chn, getElem!_pos l j hj]⟩
  · have hc : chn l[n]! ∈ chns l := by
      rw [getElem!_pos l n hn]; unfold chns; exact List.mem_map.2 ⟨_, List.getElem_mem hn, rfl⟩
    by_cases hcT : chn l[n]! ∈ T
    · obtain ⟨j, hj, e⟩ := List.mem_iff_getElem.1 hcT
      exact .inl ⟨j, by omega, by rw [ids_at T j hj, getElem!_pos T j hj, e, idOf_chn]⟩
    · right
      have hU := srt_insAll (chns l) [] srt_nil
      have hcU : chn l[n]! ∈ insAll [] (chns l) := (mem_insAll _ _ _).2 (.inr hc)
      obtain ⟨p, hp, e⟩ := List.mem_iff_getElem.1 hcU
      have hpm : most ≤ p := by
        refine Nat.le_of_not_lt fun hlt => hcT ?_
        rw [hT]
        unfold top
        rw [← e]
        exact List.mem_take_iff_getElem.2 ⟨p, by omega, rfl⟩
      have hlen : T.length = most := by rw [hT]; unfold top; rw [List.length_take]; omega
      refine ⟨by omega, by omega, ?_⟩
      rw [ids_at T ((ids T).length - 1) (by omega)]
      have hb := hmix _ (hget ((ids T).length - 1) (by omega))
      have ha : sample_Mix.f (chn l[n]!).2.1 (chn l[n]!).2.2 = some (chn l[n]!).1 := by rw [getElem!_pos l n hn]; exact hmx _ (List.getElem_mem hn)
      have hless := less_at (chn l[n]!) T[(ids T).length - 1]! ha hb
      rw [idOf_chn] at hless
      rw [hless]
      have hlt : lt3 T[(ids T).length - 1]! (chn l[n]!) := by
        rw [getElem!_pos T _ (by omega), ← e]
        have h2 : T[(ids T).length - 1]'(by omega) = (insAll [] (chns l))[(ids T).length - 1]'(by omega) := by
          subst hT
          unfold top
          exact List.getElem_take
        rw [h2]
        exact List.pairwise_iff_getElem.1 hU _ _ (by omega) hp (by omega)
      rw [decide_eq_false (fun h => lt3_asymm h hlt)]
  · rw [ids_at T i (by omega), ids_at T (i + 1) (by omega), less_at _ _ (hmix _ (hget i (by omega))) (hmix _ (hget (i + 1) (by omega)))]
    congr 1
    refine decide_eq_true ?_
    rw [getElem!_pos T i (by omega), getElem!_pos T (i + 1) (by omega)]
    exact List.pairwise_iff_getElem.1 hsT i (i + 1) (by omega) (by omega) (by omega)
theorem gok_top (most : Nat) (l : List C3) (h0 : 2 ≤ most) : GOk most l := by
  by_cases h : l.length < most
  · exact .inl h
  · right
    by_cases h1 : lastM l = 0
    · exact .inl (.inl h1)
    · by_cases h2 : lastM l ≤ (most : Int) - 1
      · exact .inl (.inr h2)
      · have := Mb.wlt ((l[l.length - 1]!).1 + 1)
        exact .inr (Mb.div64_ok ((most : Int) - 1) (lastM l) (by omega) (by omega) (by unfold lastM; omega))
end Go.Proofs.YtdlnfmakfnggpaaDoor.Pr
