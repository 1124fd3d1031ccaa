/- sample.Check, in the print's form. sample.Decide, in the print's form. -/
import Derived.Test.YtdlnfmakfnggpaaDoorXCs
import Derived.Test.YtdlnfmakfnggpaaDoorXSt
import Derived.Test.YtdlnfmakfnggpaaDoorXDe
import Derived.Test.YtdlnfmakfnggpaaDoorPr2c
namespace Go.Proofs.YtdlnfmakfnggpaaDoor.Pr
open Go.RowKit Go.Lib Go.Proofs.YtdlnfmakfnggpaaDoorW.PrintWords
set_option linter.unusedVariables false
set_option linter.unusedSimpArgs false
def sample_Check.f (l0 : List S30) : Option Int := if (l0.all fun x => decide (x.f2.size ≤ 9223372036854775807)) = true then some (polF l0) else none
theorem sample_Check.calls (A0 : Option Addr) (c0 : Nat) (l0 : List S30) (r : Int) (w : World) (hr0 : Kd.C k30 w A0 l0.length l0) (hc0 : l0.length ≤ c0) (h : sample_Check.f l0 = some r) (hT : Tabs w) :
    Calls Tryd.prog 13 #[.slice A0 l0.length c0] w fun e w' => e = .returned (.int .i64 r) ∧ Below w.heap.size w w' := by
  unfold sample_Check.f at h
  by_cases hs : (l0.all fun x => decide (x.f2.size ≤ 9223372036854775807)) = true
  · rw [if_pos hs] at h
    obtain rfl := Option.some.inj h
    refine polcheck_run A0 c0 l0 w hr0 (fun x hx => ?_)
    have h2 : x.f2.size ≤ 9223372036854775807 := by simpa using List.all_eq_true.1 hs x hx
    exact ⟨h2, valid_tabs h2 hT⟩
  · rw [if_neg hs] at h; cases h
end Go.Proofs.YtdlnfmakfnggpaaDoor.Pr
namespace Go.Proofs.YtdlnfmakfnggpaaDoor.Pr
open Go.RowKit Go.Lib Go.Proofs.YtdlnfmakfnggpaaDoorW.PrintWords
set_option linter.unusedVariables false
set_option linter.unusedSimpArgs false
def chkO (k : Nat) (x : S43) : Option Int := span_Check.f k x.f0.f0 x.f0.f1 x.f1 x.f2 x.f3 x.f4 x.f5 x.f6 x.f7 x.f8 x.f9 x.f10 x.f11
def chkK (k : Nat) (x : S43) : Int := (chkO k x).getD 0
def decTail (l0 : List S30) (l1 : List S43) (tk mx : Int) : Option (Bool × Int × Int × Int × Int) :=
  if (dst (fun p => holdsF p l1 tk mx) l0 l0.length).2.1 = false ∧ (dst (fun p => holdsF p l1 tk mx) l0 l0.length).2.2.1 = true ∧ IntKind.u64.wrap (dst (fun p => holdsF p l1 tk mx) l0 l0.length).1 = 0 then none
  else some ((dst (fun p => holdsF p l1 tk mx) l0 l0.length).2.2.1, (dst (fun p => holdsF p l1 tk mx) l0 l0.length).2.2.2, 0, wtF (dst (fun p => holdsF p l1 tk mx) l0 l0.length), 0)
def sample_Decide.f (k : Nat) (l0 : List S30) (l1 : List S43) : Option (Bool × Int × Int × Int × Int) :=
  (sample_Check.f l0).bind fun c => if c = 0 then (if (l1.all fun x => (chkO k x).isSome && decide (0 ≤ x.f1) && decide (x.f1 ≤ 18446744073709551615)) = true then
    (if oneF (chkK k) l1 = true then (if l1.length = 0 then some (false, -1, 0, 0, 0) else (sample_took.f k l1).bind fun tk => (sample_Mix.f (rd_T43 l1 0).f0.f0 (rd_T43 l1 0).f0.f1).bind fun mx => decTail l0 l1 tk mx)
     else some (false, 0, 0, 0, 101)) else none) else some (false, 0, 0, 0, c)
theorem rd43_mem {l : List S43} {k : Nat} (h : k < l.length) : rd_T43 l k ∈ l := by
  simp [rd_T43, List.getD, h]
theorem okUpto_congr {chk chk' : S43 → Int} {l : List S43} (h : ∀ x ∈ l, chk x = chk' x) : ∀ n, n ≤ l.length → okUpto chk l n = okUpto chk' l n
  | 0, _ => rfl
  | n + 1, hn => by rw [okUpto_succ, okUpto_succ, okUpto_congr h n (by omega), h _ (rd43_mem (by omega))]
theorem oneF_congr {chk chk' : S43 → Int} {l : List S43} (h : ∀ x ∈ l, chk x = chk' x) : oneF chk l = oneF chk' l := by
  unfold oneF; rw [okUpto_congr h _ (Nat.le_refl _)]
theorem sample_Decide.mono : ∀ a0 a1 k, LeO (sample_Decide.f k a0 a1) (sample_Decide.f (k + 1) a0 a1) := by
  intro l0 l1 k
  unfold sample_Decide.f
  refine LeO.bind (LeO.refl _) (fun c => ?_)
  refine LeO.ite ?_ (LeO.refl _)
  by_cases ha : (l1.all fun x => (chkO k x).isSome && decide (0 ≤ x.f1) && decide (x.f1 ≤ 18446744073709551615)) = true
  · have hx : ∀ x ∈ l1, ∃ v, chkO k x = some v ∧ chkO (k + 1) x = some v := fun x hx => by
      have h := List.all_eq_true.1 ha x hx
      simp only [Bool.and_eq_true] at h
      obtain ⟨v, hv⟩ := Option.isSome_iff_exists.1 h.1.1
      exact ⟨v, hv, span_Check.mono _ _ _ _ _ _ _ _ _ _ _ _ _ k v hv⟩
    have ha' : (l1.all fun x => (chkO (k + 1) x).isSome && decide (0 ≤ x.f1) && decide (x.f1 ≤ 18446744073709551615)) = true := by
      rw [List.all_eq_true] at ha ⊢
      intro x hxm
      obtain ⟨v, h1, h2⟩ := hx x hxm
      have h := ha x hxm
      rw [h1] at h; rw [h2]; exact h
    rw [if_pos ha, if_pos ha', oneF_congr (chk := chkK k) (chk' := chkK (k + 1)) (fun x hxm => by
      obtain ⟨v, h1, h2⟩ := hx x hxm
      unfold chkK; rw [h1, h2])]
    refine LeO.ite (LeO.ite (LeO.refl _) (LeO.bind (sample_took.mono _ k) (fun _ => LeO.refl _))) (LeO.refl _)
  · rw [if_neg ha]; exact LeO.none _
theorem sample_Decide.calls (k : Nat) (A0 : Option Addr) (c0 : Nat) (l0 : List S30) (A1 : Option Addr) (c1 : Nat) (l1 : List S43) (r1 : Bool) (r2 r3 r4 r5 : Int) (w : World) (hr0 : Kd.C k30 w A0 l0.length l0) (hc0 : l0.length ≤ c0) (hr1 : Kd.C k43 w A1 l1.length l1) (hc1 : l1.length ≤ c1) (h : sample_Decide.f k l0 l1 = some (r1, r2, r3, r4, r5)) (hT : Tabs w) :
    Calls Tryd.prog 18 #[.slice A0 l0.length c0, .slice A1 l1.length c1] w fun e w' => e = .returned (.tuple #[.agg #[.bool r1, .int .i64 r2, .int .u64 r3, .int .u64 r4], .int .i64 r5]) ∧ Below w.heap.size w w' := by
  unfold sample_Decide.f at h
  obtain ⟨c, hc, h⟩ := Option.bind_eq_some_iff.1 h
  have hP : ∀ W, Below w.heap.size w W → Calls Tryd.prog 13 #[.slice A0 l0.length c0] W fun e w' => e = .returned (.int .i64 c) ∧ Below W.heap.size W w' := fun W hW => sample_Check.calls A0 c0 l0 c W (Kd.C_below hr0 hW) hc0 hc (hT.below hW)
  by_cases hz : c = 0
  · subst hz
    rw [if_pos rfl] at h
    by_cases ha : (l1.all fun x => (chkO k x).isSome && decide (0 ≤ x.f1) && decide (x.f1 ≤ 18446744073709551615)) = true
    · rw [if_pos ha] at h
      have hO : ∀ W, Below w.heap.size w W → Calls Tryd.prog 42 #[.slice A1 l1.length c1] W (BoolPost W (oneF (chkK k) l1)) := fun W hW => by
        refine one_run A1 c1 l1 W (Kd.C_below hr1 hW) (chkK k) (fun x hx cs hK V hV => ?_) (fun x hx => ?_)
        · have h1 := List.all_eq_true.1 ha x hx
          simp only [Bool.and_eq_true] at h1
          obtain ⟨v, hv⟩ := Option.isSome_iff_exists.1 h1.1.1
          obtain ⟨A4, c4, A11, c11, A12, c12, rfl, l4, g4, l11, g11, l12, g12⟩ := k43_open hK
          have := span_Check.calls k x.f0.f0 x.f0.f1 x.f1 x.f2 A4 c4 x.f3 x.f4 x.f5 x.f6 x.f7 x.f8 x.f9 A11 c11 x.f10 A12 c12 x.f11 v V (Kd.C_below g4 hV) l4 (Kd.C_below g11 hV) l11 (Kd.C_below g12 hV) l12 hv ((hT.below hW).below hV)
          unfold chkK
          rw [hv]
          exact this
        · have h1 := List.all_eq_true.1 ha x hx
          simp only [Bool.and_eq_true, decide_eq_true_eq] at h1
          simp [Lit.wf, IntKind.min, IntKind.max, IntKind.signed, IntKind.bits]
          omega
      cases ho : oneF (chkK k) l1 with
      | false =>
        rw [ho] at h hO
        rw [if_neg (by simp)] at h
        simp only [Option.some.injEq, Prod.mk.injEq] at h
        obtain ⟨rfl, rfl, rfl, rfl, rfl⟩ := h
        exact dec_b _ _ w hP hO
      | true =>
        rw [ho] at h hO
        rw [if_pos rfl] at h
        by_cases hl : l1.length = 0
        · rw [if_pos hl] at h
          simp only [Option.some.injEq, Prod.mk.injEq] at h
          obtain ⟨rfl, rfl, rfl, rfl, rfl⟩ := h
          rw [hl] at hO ⊢
          exact dec_c _ _ _ w hP hO
        · rw [if_neg hl] at h
          obtain ⟨tk, ht, h⟩ := Option.bind_eq_some_iff.1 h
          obtain ⟨mx, hm, h⟩ := Option.bind_eq_some_iff.1 h
          unfold decTail at h
          by_cases hd : (dst (fun p => holdsF p l1 tk mx) l0 l0.length).2.1 = false ∧ (dst (fun p => holdsF p l1 tk mx) l0 l0.length).2.2.1 = true ∧ IntKind.u64.wrap (dst (fun p => holdsF p l1 tk mx) l0 l0.length).1 = 0
          · rw [if_pos hd] at h; cases h
          · rw [if_neg hd] at h
            simp only [Option.some.injEq, Prod.mk.injEq] at h
            obtain ⟨rfl, rfl, rfl, rfl, rfl⟩ := h
            exact dec_d A0 c0 l0 A1 l1.length c1 w hr0 hP hO (by omega) (fun p => holdsF p l1 tk mx) (fun p _ W hW => holds_run p A1 c1 l1 W (Kd.C_below hr1 hW) hc1 (by omega) k tk mx ht hm) (fun h1 h2 h3 => hd ⟨h1, h2, h3⟩)
    · rw [if_neg ha] at h; cases h
  · rw [if_neg hz] at h
    simp only [Option.some.injEq, Prod.mk.injEq] at h
    obtain ⟨rfl, rfl, rfl, rfl, rfl⟩ := h
    exact dec_a _ _ w c hz hP
end Go.Proofs.YtdlnfmakfnggpaaDoor.Pr
