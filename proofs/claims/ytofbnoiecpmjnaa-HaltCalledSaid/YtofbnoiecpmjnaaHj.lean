/- Cancel of a chain of stops, each with the next one beneath it. -/
import Derived.Test.YtofbnoiecpmjnaaHi
namespace Go.Proofs.Ytofbnoiecpmjnaa.Pr
open Go.RowKit Go.Proofs.YtofbnoiecpmjnaaW.PrintWords Go.Proofs.YtofbnoiecpmjnaaW.PrintLast Go.Proofs.YtofbnoiecpmjnaaW.PrintMore Go.MuLone
open Go.Lib
set_option linter.unusedVariables false
set_option linter.unusedSimpArgs false
/-- The row of a stop's one child. -/
def RowOne (W : World) (und : Value) (g1 : Nat) : Prop := ∃ ad cap cs, und = .slice (some ⟨ad, 0, none⟩) 1 cap ∧ W.heap[ad]? = some (.cells cs 25 (0, 0)) ∧ cs[0]? = some (.pointer (some ⟨g1, 0, none⟩))
/-- The last one: none is beneath it, or one that is cancelled already. -/
def LastOk (W : World) (m : Nat) (und : Value) : Prop := und = .slice none 0 0 ∨ ∃ g1 s1, RowOne W und g1 ∧ IsStop W m g1 s1 ∧ s1.why ≠ 0
theorem why_of {W : World} {m g : Nat} {s s' : SR} (h : IsStop W m g s) (h' : IsStop W m g s') : s.why = s'.why := by
  have h1 := h.cell 5 (v := .int .i64 s.why) rfl
  have h2 := h'.cell 5 (v := .int .i64 s'.why) rfl
  rw [h1] at h2
  simpa using h2
/-- Stops, none of them cancelled, each the one child of the one ahead of it. -/
def Down (W : World) (m base : Nat) : List (Nat × SR) → Prop
  | [] => True
  | x :: t => IsStop W m x.1 x.2 ∧ x.2.why = 0 ∧ IsCh W x.2.chn false ∧ base ≤ x.1 ∧ base ≤ x.2.chn ∧ (match t with | [] => LastOk W m x.2.und | y :: _ => RowOne W x.2.und y.1) ∧
    (∀ y ∈ t, y.1 ≠ x.1 ∧ y.2.chn ≠ x.2.chn) ∧ Down W m base t
def DownPost (w0 : World) (m : Nat) (ds : List (Nat × SR)) (why : Int) (W w' : World) : Prop :=
  IsMuH w' m ∧ (∀ x ∈ ds, IsStop w' m x.1 (cutSR x.2 why) ∧ IsCh w' x.2.chn true) ∧ Below w0.heap.size w0 w' ∧ (∀ k, (∀ x ∈ ds, k ≠ x.1 ∧ k ≠ x.2.chn) → w'.heap[k]? = W.heap[k]?) ∧ w'.heap.size = W.heap.size
theorem stop_ne_ch {W : World} {m g c : Nat} {s : SR} {b : Bool} (h : IsStop W m g s) (hc : IsCh W c b) : g ≠ c := by
  rintro rfl
  unfold IsStop at h; unfold IsCh chObj at hc
  rw [h] at hc; cases hc
theorem Down.move {W W' : World} {m base g c : Nat} : ∀ {t : List (Nat × SR)}, Down W m base t → (∀ x ∈ t, x.1 ≠ g ∧ x.2.chn ≠ c) → (∀ k, k ≠ g → k ≠ c → W'.heap[k]? = W.heap[k]?) → (∃ s, IsStop W m g s ∧ s.why = 0) → (∃ b, IsCh W c b) → Down W' m base t
  | [], _, _, _, _, _ => trivial
  | x :: t, h, hne, hk, ⟨sg, hg, hg0⟩, ⟨bc, hc⟩ => by
    obtain ⟨h1, h2, h3, h4, h5, h6, h7, h8⟩ := h
    have hx := hne x List.mem_cons_self
    refine ⟨(hk x.1 hx.1 (stop_ne_ch h1 hc)).trans h1, h2, (hk x.2.chn (Ne.symm (stop_ne_ch hg h3)) hx.2).trans h3, h4, h5, ?_, h7, h8.move (fun y hy => hne y (List.mem_cons_of_mem _ hy)) hk ⟨sg, hg, hg0⟩ ⟨bc, hc⟩⟩
    have rowk : ∀ {und : Value} {g1 : Nat}, RowOne W und g1 → RowOne W' und g1 := by
      rintro und g1 ⟨ad, cap, cs, e1, e2, e3⟩
      refine ⟨ad, cap, cs, e1, (hk ad ?_ ?_).trans e2, e3⟩
      · rintro rfl; unfold IsStop at hg; rw [e2] at hg; cases hg
      · rintro rfl; unfold IsCh chObj at hc; rw [e2] at hc; cases hc
    cases t with
    | nil =>
      rcases h6 with h6 | ⟨g1, s1, r1, r2, r3⟩
      · exact .inl h6
      · refine .inr ⟨g1, s1, rowk r1, (hk g1 ?_ (stop_ne_ch r2 hc)).trans r2, r3⟩
        rintro rfl
        exact r3 ((why_of r2 hg).trans hg0)
    | cons y t =>
      exact rowk h6
theorem cancel_down (w0 : World) (m : Nat) (why : Int) : ∀ (ds : List (Nat × SR)) (x : Nat × SR) (W : World), IsMuH W m → Down W m w0.heap.size (x :: ds) → Below w0.heap.size w0 W →
    Calls Try.prog 24 #[.pointer (some ⟨x.1, 0, none⟩), .int .i64 why] W fun e w' => e = .returned (.slice none 0 0) ∧ DownPost w0 m (x :: ds) why W w' := by
  intro ds
  induction ds with
  | nil =>
    intro x W hm hd hB
    obtain ⟨h1, h2, h3, h4, h5, h6, h7, h8⟩ := hd
    have done : ∀ w', CancelPost w0 m x.1 x.2 why W (.returned (.slice none 0 0)) w' → DownPost w0 m [x] why W w' := by
      rintro w' ⟨_, p1, p2, p3, p4, p5, p6⟩
      exact ⟨p1, fun y hy => by simp at hy; subst hy; exact ⟨p2, p3⟩, p4, fun k hk => p5 k (hk x List.mem_cons_self).1 (hk x List.mem_cons_self).2, p6⟩
    rcases h6 with h6 | ⟨g1, s1, ⟨ad, cap, cs, e1, e2, e3⟩, r2, r3⟩
    · refine (cancel_leaf w0 m x.1 x.2 why W hm h1 h2 h6 h3 hB h4 h5).mono ?_
      rintro e w' hp
      exact ⟨hp.1, done w' ⟨rfl, hp.2⟩⟩
    · refine cancel_one w0 m x.1 g1 x.2 why W (fun w' => DownPost w0 m [x] why W w') ad cap hm h1 h2 e1 ⟨cs, e2, e3⟩ h3 hB h4 h5 ?_
      intro W8 hp
      have hne : g1 ≠ x.1 := by
        rintro rfl
        exact r3 ((why_of r2 h1).trans h2)
      refine (cancel_done m g1 s1 why W8 ((hp.2.2.2.2.2.1 g1 hne (stop_ne_ch r2 h3)).trans r2) r3).mono ?_
      rintro e w' ⟨he, rfl⟩
      exact ⟨he, done _ hp⟩
  | cons y t ih =>
    intro x W hm hd hB
    obtain ⟨h1, h2, h3, h4, h5, h6, h7, h8⟩ := hd
    obtain ⟨ad, cap, cs, e1, e2, e3⟩ := h6
    refine cancel_one w0 m x.1 y.1 x.2 why W (fun w' => DownPost w0 m (x :: y :: t) why W w') ad cap hm h1 h2 e1 ⟨cs, e2, e3⟩ h3 hB h4 h5 ?_
    rintro W8 ⟨_, p1, p2, p3, p4, p5, p6⟩
    refine (ih y W8 p1 (h8.move h7 p5 ⟨_, h1, h2⟩ ⟨_, h3⟩) p4).mono ?_
    rintro e w' ⟨he, q1, q2, q3, q4, q5⟩
    have hd8 := h8.move h7 p5 ⟨_, h1, h2⟩ ⟨_, h3⟩
    have far : ∀ z ∈ y :: t, x.1 ≠ z.1 ∧ x.1 ≠ z.2.chn ∧ x.2.chn ≠ z.1 ∧ x.2.chn ≠ z.2.chn := by
      have stops : ∀ (l : List (Nat × SR)) , Down W m w0.heap.size l → ∀ z ∈ l, IsStop W m z.1 z.2 ∧ IsCh W z.2.chn false := by
        intro l
        induction l with
        | nil => intro _ z hz; cases hz
        | cons a l ihl =>
          intro ha z hz
          rcases List.mem_cons.1 hz with rfl | hz
          · exact ⟨ha.1, ha.2.2.1⟩
          · exact ihl ha.2.2.2.2.2.2.2 z hz
      intro z hz
      obtain ⟨s1, s2⟩ := stops _ h8 z hz
      exact ⟨Ne.symm (h7 z hz).1, stop_ne_ch h1 s2, Ne.symm (stop_ne_ch s1 h3), Ne.symm (h7 z hz).2⟩
    refine ⟨he, q1, ?_, q3, ?_, q5.trans p6⟩
    · intro z hz
      rcases List.mem_cons.1 hz with rfl | hz
      · exact ⟨(q4 _ (fun z hz => ⟨(far z hz).1, (far z hz).2.1⟩)).trans p2, (q4 _ (fun z hz => ⟨(far z hz).2.2.1, (far z hz).2.2.2⟩)).trans p3⟩
      · exact q2 z hz
    · intro k hk
      exact (q4 k (fun z hz => hk z (List.mem_cons_of_mem _ hz))).trans (p5 k (hk x List.mem_cons_self).1 (hk x List.mem_cons_self).2)
end Go.Proofs.Ytofbnoiecpmjnaa.Pr
