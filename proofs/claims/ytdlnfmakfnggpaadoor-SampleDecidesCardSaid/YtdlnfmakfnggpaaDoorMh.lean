/- Plain laws: span.Check and sample.Decide at any spans: their values. -/
import Derived.Test.YtdlnfmakfnggpaaDoorMg
namespace Go.Proofs.YtdlnfmakfnggpaaDoor.Pr
open Go.RowKit Go.Lib Go.Proofs.YtdlnfmakfnggpaaDoorW.PrintWords
set_option linter.unusedVariables false
set_option linter.unusedSimpArgs false
namespace Mg
/-- What is known of a span that came in. -/
structure okS (x : S43) : Prop where
  links : x.f3.length < 17592186044416
  sv : x.f4.size ≤ 140737488351232
  op : x.f5.size ≤ 140737488351232
  attrs : okA x.f10
  events : okE x.f11
  id : 0 ≤ x.f1 ∧ x.f1 ≤ 18446744073709551615
def chkS (x : S43) : Int := checkF x.f0.f0 x.f0.f1 x.f1 (plainF x.f4 60 33) (plainF x.f5 100 32) x.f6 x.f7 x.f8 x.f9 (linkF x.f3 x.f1) (carF x.f10) (tolF x.f11)
theorem check_val (x : S43) (h : okS x) : ∃ k, chkO k x = some (chkS x) := by
  obtain ⟨k1, h1⟩ := plain_val x.f4 60 33 h.sv
  obtain ⟨k2, h2⟩ := plain_val x.f5 100 32 h.op
  obtain ⟨k3, h3⟩ := link_val x.f0.f0 x.f0.f1 x.f1 x.f2 x.f3 x.f4 x.f5 x.f6 x.f7 x.f8 x.f9 x.f10 x.f11 (by have := h.links; omega)
  obtain ⟨k4, h4⟩ := car_val x.f10 h.attrs
  obtain ⟨k5, h5⟩ := tol_val x.f11 h.events
  obtain ⟨K, hK⟩ : ∃ K, K = max (max (max (max k1 k2) k3) k4) k5 := ⟨_, rfl⟩
  have m1 : ∀ k, K ≤ k → _ := fun k hk => at_rounds (fun k => span_plain.mono x.f4 60 33 k) (show k1 ≤ k by omega) h1
  have m2 : ∀ k, K ≤ k → _ := fun k hk => at_rounds (fun k => span_plain.mono x.f5 100 32 k) (show k2 ≤ k by omega) h2
  have m3 : ∀ k, K ≤ k → _ := fun k hk => at_rounds (fun k => span_linked.mono x.f0.f0 x.f0.f1 x.f1 x.f2 x.f3 x.f4 x.f5 x.f6 x.f7 x.f8 x.f9 x.f10 x.f11 k) (show k3 ≤ k by omega) h3
  have m4 : ∀ k, K ≤ k → _ := fun k hk => at_rounds (fun k => span_carried.mono x.f10 k) (show k4 ≤ k by omega) h4
  have m5 : ∀ k, K ≤ k → _ := fun k hk => at_rounds (fun k => span_told.mono x.f11 k) (show k5 ≤ k by omega) h5
  refine ⟨K + 4, ?_⟩
  unfold chkO chkS checkF
  generalize x.f0.f0 = hi at *
  generalize x.f0.f1 = lo at *
  generalize x.f1 = id at *
  generalize x.f6 = kd at *
  generalize x.f7 = st at *
  generalize x.f8 = s0 at *
  generalize x.f9 = s1 at *
  generalize plainF x.f4 60 33 = ps at *
  generalize plainF x.f5 100 32 = po at *
  generalize linkF x.f3 id = bl at *
  generalize carF x.f10 = bc at *
  generalize tolF x.f11 = bt at *
  have J3 : ∀ b, span_Check.j3 (K + 1) b hi lo id x.f2 x.f3 x.f4 x.f5 kd st s0 s1 x.f10 x.f11 = if b = true then some 44 else if bl = false then some 45 else if bc = false then some 46 else if bt = false then some 47 else some 0 := fun b => by
    rw [span_Check.j3, m3 K (Nat.le_refl _), Option.bind_some, m4 K (Nat.le_refl _), Option.bind_some, m5 K (Nat.le_refl _), Option.bind_some]
    cases b <;> cases bl <;> cases bc <;> cases bt <;> rfl
  have J2 : ∀ b, span_Check.j2 (K + 2) b hi lo id x.f2 x.f3 x.f4 x.f5 kd st s0 s1 x.f10 x.f11 = if b = true then some 43 else if ((kd < 0 ∨ 4 < kd) ∨ st < 0) ∨ 2 < st then some 44 else if bl = false then some 45 else if bc = false then some 46 else if bt = false then some 47 else some 0 := fun b => by
    rw [span_Check.j2]
    simp only [J3]
    cases b with
    | true => rfl
    | false =>
      rw [if_neg (show ¬ (false = true) by decide)]
      by_cases c1 : kd < 0
      · simp [c1]
      · by_cases c2 : kd > 4
        · simp [c1, c2]
        · by_cases c3 : st < 0
          · simp [c1, c2, c3]
          · by_cases c4 : st > 2 <;> simp [c1, c2, c3, c4]
  have J1 : ∀ b, span_Check.j1 (K + 3) b hi lo id x.f2 x.f3 x.f4 x.f5 kd st s0 s1 x.f10 x.f11 = if b = true then some 42 else if ps = false ∨ po = false then some 43 else if ((kd < 0 ∨ 4 < kd) ∨ st < 0) ∨ 2 < st then some 44 else if bl = false then some 45 else if bc = false then some 46 else if bt = false then some 47 else some 0 := fun b => by
    rw [span_Check.j1, m1 (K + 2) (by omega), Option.bind_some, m2 (K + 2) (by omega), Option.bind_some]
    simp only [J2]
    cases b <;> cases ps <;> cases po <;> simp
  have J0 : ∀ b, span_Check.j0 (K + 4) b hi lo id x.f2 x.f3 x.f4 x.f5 kd st s0 s1 x.f10 x.f11 = if b = true then some 41 else if (s0 < 0 ∨ s1 < s0) ∨ 4611686018427387904 < s1 then some 42 else if ps = false ∨ po = false then some 43 else if ((kd < 0 ∨ 4 < kd) ∨ st < 0) ∨ 2 < st then some 44 else if bl = false then some 45 else if bc = false then some 46 else if bt = false then some 47 else some 0 := fun b => by
    rw [span_Check.j0]
    simp only [J1]
    cases b with
    | true => rfl
    | false =>
      rw [if_neg (show ¬ (false = true) by decide)]
      by_cases c1 : s0 < 0
      · simp [c1]
      · by_cases c2 : s0 > s1
        · simp [c1, c2]
        · by_cases c3 : s1 > 4611686018427387904 <;> simp [c1, c2, c3]
  unfold span_Check.f
  rw [J0, J0]
  have hm : ∀ (p : Prop) [Decidable p] (a b : Int), (if p then some a else some b) = some (if p then a else b) := fun p _ a b => by split <;> rfl
  simp only [hm]
  by_cases c1 : (hi == 0 && (lo == 0)) = true
  · rw [if_pos c1]
    simp only [Bool.and_eq_true, beq_iff_eq] at c1
    rw [if_pos (Or.inl c1), if_pos trivial]
  · rw [if_neg c1]
    simp only [Bool.and_eq_true, beq_iff_eq] at c1
    by_cases c2 : id = 0
    · rw [if_pos (Or.inr c2), if_pos (beq_iff_eq.2 c2)]
    · rw [if_neg (show ¬ ((hi = 0 ∧ lo = 0) ∨ id = 0) by rintro (h | h); exact c1 h; exact c2 h), if_neg (by simpa using c2)]
theorem chk_mono (x : S43) (k : Nat) : LeO (chkO k x) (chkO (k + 1) x) := span_Check.mono _ _ _ _ _ _ _ _ _ _ _ _ _ k
theorem checks_val : ∀ (l : List S43), (∀ x ∈ l, okS x) → ∃ k, ∀ x ∈ l, chkO k x = some (chkS x)
  | [], _ => ⟨0, fun x hx => by simp at hx⟩
  | a :: r, h => by
    obtain ⟨k1, h1⟩ := checks_val r (fun x hx => h x (by simp [hx]))
    obtain ⟨k2, h2⟩ := check_val a (h a (by simp))
    refine ⟨max k1 k2, fun x hx => ?_⟩
    rcases List.mem_cons.1 hx with rfl | hx
    · exact at_rounds (fun k => chk_mono x k) (Nat.le_max_right _ _) h2
    · exact at_rounds (fun k => chk_mono x k) (Nat.le_max_left _ _) (h1 x hx)
/-! #### took -/
def minS (l : List S43) : Nat → Int
  | 0 => (rd_T43 l 0).f8
  | k + 1 => mn (minS l k) (rd_T43 l (k : Int)).f8
def maxE (l : List S43) : Nat → Int
  | 0 => (rd_T43 l 0).f9
  | k + 1 => mx (maxE l k) (rd_T43 l (k : Int)).f9
def tookV (l : List S43) : Int := IntKind.u64.wrap (wrap64 (maxE l l.length - minS l l.length))
theorem took_val (l : List S43) (h0 : 0 < l.length) (hl : l.length ≤ 140737488351232) : ∃ k, sample_took.f k l = some (tookV l) := by
  have key : ∀ (d i : Nat), i + d = l.length → sample_took.l0 (d + 1) (minS l i) (maxE l i) l (l.length : Int) (i : Int) = some (tookV l) := by
    intro d
    induction d with
    | zero =>
      intro i hi
      obtain rfl : i = l.length := by omega
      rw [sample_took.l0, if_neg (by omega)]; rfl
    | succ d ih =>
      intro i hi
      rw [sample_took.l0, if_pos (by omega), if_pos (by omega), if_pos (by omega), w64s (by omega)]
      exact ih (i + 1) (by omega)
  refine ⟨l.length + 1, ?_⟩
  unfold sample_took.f
  rw [if_pos (by omega)]
  exact key l.length 0 (by omega)
/-! #### Decide -/
def decV (l0 : List S30) (l1 : List S43) : Option (Bool × Int × Int × Int × Int) :=
  if polF l0 = 0 then (if oneF chkS l1 = true then (if l1.length = 0 then some (false, -1, 0, 0, 0) else (sample_Mix.f (rd_T43 l1 0).f0.f0 (rd_T43 l1 0).f0.f1).bind fun mx => decTail l0 l1 (tookV l1) mx) else some (false, 0, 0, 0, 101)) else some (false, 0, 0, 0, polF l0)
theorem decide_val (l0 : List S30) (l1 : List S43) (h0 : ∀ x ∈ l0, x.f2.size ≤ 140737488351232) (h1 : ∀ x ∈ l1, okS x) (hl : l1.length ≤ 140737488351232) (r : Bool × Int × Int × Int × Int) (hv : decV l0 l1 = some r) : ∃ k, sample_Decide.f k l0 l1 = some r := by
  have hc : sample_Check.f l0 = some (polF l0) := by
    unfold sample_Check.f
    rw [if_pos (List.all_eq_true.2 (fun x hx => by have := h0 x hx; simp; omega))]
  unfold decV at hv
  by_cases hz : polF l0 = 0
  · rw [if_pos hz] at hv
    obtain ⟨k1, hk1⟩ := checks_val l1 h1
    have hall : ∀ k, k1 ≤ k → (l1.all fun x => (chkO k x).isSome && decide (0 ≤ x.f1) && decide (x.f1 ≤ 18446744073709551615)) = true := fun k hk => by
      rw [List.all_eq_true]
      intro x hx
      have hid := (h1 x hx).id
      rw [at_rounds (fun k => chk_mono x k) hk (hk1 x hx), decide_eq_true hid.1, decide_eq_true hid.2]; rfl
    have hone : ∀ k, k1 ≤ k → oneF (chkK k) l1 = oneF chkS l1 := fun k hk => oneF_congr (fun x hx => by
      unfold chkK; rw [at_rounds (fun k => chk_mono x k) hk (hk1 x hx)]; rfl)
    by_cases ho : oneF chkS l1 = true
    · rw [if_pos ho] at hv
      by_cases hl0 : l1.length = 0
      · refine ⟨k1, ?_⟩
        unfold sample_Decide.f
        rw [hc, Option.bind_some, if_pos hz, if_pos (hall _ (Nat.le_refl _)), hone _ (Nat.le_refl _), if_pos ho, if_pos hl0]
        rwa [if_pos hl0] at hv
      · rw [if_neg hl0] at hv
        obtain ⟨k2, hk2⟩ := took_val l1 (by omega) hl
        refine ⟨max k1 k2, ?_⟩
        unfold sample_Decide.f
        rw [hc, Option.bind_some, if_pos hz, if_pos (hall _ (Nat.le_max_left _ _)), hone _ (Nat.le_max_left _ _), if_pos ho, if_neg hl0, at_rounds (fun k => sample_took.mono l1 k) (Nat.le_max_right k1 k2) hk2, Option.bind_some]
        exact hv
    · rw [if_neg ho] at hv
      refine ⟨k1, ?_⟩
      unfold sample_Decide.f
      rw [hc, Option.bind_some, if_pos hz, if_pos (hall _ (Nat.le_refl _)), hone _ (Nat.le_refl _), if_neg ho]
      exact hv
  · rw [if_neg hz] at hv
    refine ⟨0, ?_⟩
    unfold sample_Decide.f
    rw [hc, Option.bind_some, if_neg hz]
    exact hv
/-! #### the fold over policies -/
def maxP (l : List S30) : Nat → Int
  | 0 => 0
  | k + 1 => max (maxP l k) (rd_T30 l (k : Int)).f3
theorem rd30_mem {l : List S30} {k : Nat} (h : k < l.length) : rd_T30 l (k : Int) ∈ l := by simp [rd_T30, List.getD, h]
theorem take_any (l : List S30) (p : S30 → Bool) (k : Nat) (h : k < l.length) : (l.take (k + 1)).any p = ((l.take k).any p || p (rd_T30 l (k : Int))) := by
  rw [List.take_succ_eq_append_getElem h, List.any_append]
  simp [rd_T30, List.getD, h]
theorem dst_val (hf : S30 → Bool) (l : List S30) : ∀ n, n ≤ l.length → (dst hf l n).1 = maxP l n ∧ (dst hf l n).2.1 = (l.take n).any (fun p => hf p && (p.f0 != 4)) ∧ (dst hf l n).2.2.1 = (l.take n).any hf ∧ ((l.take n).any hf = false → (dst hf l n).2.2.2 = -1)
  | 0, _ => by simp [dst, maxP]
  | n + 1, hn => by
    obtain ⟨a, b, c, d⟩ := dst_val hf l n (by omega)
    rw [dst_succ, take_any l _ n (by omega), take_any l _ n (by omega)]
    unfold dstep
    refine ⟨by rw [a]; rfl, ?_, ?_, ?_⟩
    · simp only [b]; cases hf (rd_T30 l (n : Int)) <;> simp
    · simp only [c]; cases hf (rd_T30 l (n : Int)) <;> simp
    · intro he
      simp only [Bool.or_eq_false_iff] at he
      simp only [he.2, Bool.false_eq_true, if_false]
      exact d he.1
end Mg
end Go.Proofs.YtdlnfmakfnggpaaDoor.Pr
