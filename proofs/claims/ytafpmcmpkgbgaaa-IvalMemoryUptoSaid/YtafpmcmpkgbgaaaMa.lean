/- Plain law: lists in their form, and what the sweep over sorted ends answers. -/
import Derived.Test.YtafpmcmpkgbgaaaPr0
namespace Go.Proofs.Ytafpmcmpkgbgaaa.Pr
set_option linter.unusedVariables false
set_option linter.unusedSimpArgs false

theorem S23.ext' {x y : S23} (h0 : x.f0 = y.f0) (h1 : x.f1 = y.f1) : x = y := by cases x; cases y; simp_all
/-- Is the moment in one of these? -/
def Mem (l : List S23) (m : Int) : Prop := ∃ x ∈ l, x.f0 ≤ m ∧ m < x.f1
/-- Rising, apart, none empty. -/
def Form (l : List S23) : Prop := (∀ x ∈ l, x.f0 < x.f1) ∧ l.Pairwise fun x y => x.f1 < y.f0
theorem Mem_nil (m : Int) : ¬ Mem [] m := by rintro ⟨x, hx, _⟩; cases hx
theorem Mem_cons (x : S23) (l : List S23) (m : Int) : Mem (x :: l) m ↔ (x.f0 ≤ m ∧ m < x.f1) ∨ Mem l m := by
  unfold Mem; simp
theorem Mem_append (l l' : List S23) (m : Int) : Mem (l ++ l') m ↔ Mem l m ∨ Mem l' m := by
  unfold Mem; simp [List.mem_append, or_and_right, exists_or]
theorem Form.nil : Form [] := ⟨by simp, .nil⟩
theorem Form.cons {x : S23} {l : List S23} (h : Form l) (hx : x.f0 < x.f1) (hl : ∀ y ∈ l, x.f1 < y.f0) : Form (x :: l) :=
  ⟨by intro y hy; rcases List.mem_cons.1 hy with rfl | hy; exact hx; exact h.1 y hy, List.pairwise_cons.2 ⟨hl, h.2⟩⟩
theorem Form.tail {x : S23} {l : List S23} (h : Form (x :: l)) : Form l := ⟨fun y hy => h.1 y (List.mem_cons_of_mem _ hy), (List.pairwise_cons.1 h.2).2⟩
theorem Form.head {x : S23} {l : List S23} (h : Form (x :: l)) : x.f0 < x.f1 ∧ ∀ y ∈ l, x.f1 < y.f0 := ⟨h.1 x List.mem_cons_self, (List.pairwise_cons.1 h.2).1⟩
/-- A list in its form is fixed by its moments. -/
theorem form_unique : ∀ {l l' : List S23}, Form l → Form l' → (∀ m, Mem l m ↔ Mem l' m) → l = l' := by
  intro l
  induction l with
  | nil =>
    intro l' _ h' hm
    cases l' with
    | nil => rfl
    | cons y t => exact absurd ((hm y.f0).2 ((Mem_cons _ _ _).2 (.inl ⟨Int.le_refl _, h'.head.1⟩))) (Mem_nil _)
  | cons x t ih =>
    intro l' h h' hm
    cases l' with
    | nil => exact absurd ((hm x.f0).1 ((Mem_cons _ _ _).2 (.inl ⟨Int.le_refl _, h.head.1⟩))) (Mem_nil _)
    | cons y t' =>
      obtain ⟨hx, hxt⟩ := h.head
      obtain ⟨hy, hyt⟩ := h'.head
      have lowx : ∀ m, Mem t m → x.f1 < m := by rintro m ⟨z, hz, h1, _⟩; have := hxt z hz; omega
      have lowy : ∀ m, Mem t' m → y.f1 < m := by rintro m ⟨z, hz, h1, _⟩; have := hyt z hz; omega
      have a1 := (hm x.f0).1 ((Mem_cons _ _ _).2 (.inl ⟨Int.le_refl _, hx⟩))
      have a2 := (hm y.f0).2 ((Mem_cons _ _ _).2 (.inl ⟨Int.le_refl _, hy⟩))
      have e0 : x.f0 = y.f0 := by
        rcases (Mem_cons _ _ _).1 a1 with a1 | a1 <;> rcases (Mem_cons _ _ _).1 a2 with a2 | a2
        · omega
        · have := lowx _ a2; omega
        · have := lowy _ a1; omega
        · have := lowx _ a2; have := lowy _ a1; omega
      have e1 : x.f1 = y.f1 := by
        rcases Int.lt_trichotomy x.f1 y.f1 with c | c | c
        · have := (hm x.f1).2 ((Mem_cons _ _ _).2 (.inl ⟨by omega, c⟩))
          rcases (Mem_cons _ _ _).1 this with b | b
          · omega
          · have := lowx _ b; omega
        · exact c
        · have := (hm y.f1).1 ((Mem_cons _ _ _).2 (.inl ⟨by omega, c⟩))
          rcases (Mem_cons _ _ _).1 this with b | b
          · omega
          · have := lowy _ b; omega
      obtain rfl := S23.ext' e0 e1
      rw [ih h.tail h'.tail (fun m => ?_)]
      have := hm m
      rw [Mem_cons, Mem_cons] at this
      constructor
      · intro b
        rcases this.1 (.inr b) with c | c
        · have := lowx _ b; omega
        · exact c
      · intro b
        rcases this.2 (.inr b) with c | c
        · have := lowy _ b; omega
        · exact c

def dA (k : Int) : Int := if k = 0 then -1 else if k = 1 then 1 else 0
def dB (k : Int) : Int := if k = 2 then -1 else if k = 3 then 1 else 0
def same (x : S56) : List S56 → Bool
  | [] => false
  | y :: _ => y.f0 == x.f0
def sw (P : Int → Int → Bool) : List S56 → Int → Int → Int → Bool → List S23 → List S23
  | [], _, _, _, _, out => out
  | x :: t, a, b, fr, was, out =>
    if same x t then sw P t (a + dA x.f1) (b + dB x.f1) fr was out
    else sw P t (a + dA x.f1) (b + dB x.f1) (if P (a + dA x.f1) (b + dB x.f1) && !was then x.f0 else fr) (P (a + dA x.f1) (b + dB x.f1)) (if was && !P (a + dA x.f1) (b + dB x.f1) then out ++ [⟨fr, x.f0⟩] else out)
theorem sw_out (P : Int → Int → Bool) : ∀ (t : List S56) (a b fr : Int) (was : Bool) (out : List S23), sw P t a b fr was out = out ++ sw P t a b fr was [] := by
  intro t
  induction t with
  | nil => intro a b fr was out; simp [sw]
  | cons x t ih =>
    intro a b fr was out
    unfold sw
    split
    · exact ih _ _ _ _ _
    · generalize P (a + dA x.f1) (b + dB x.f1) = is
      generalize (if (is && !was) = true then x.f0 else fr) = fr'
      generalize (was && !is) = c
      cases c
      · simp only [Bool.false_eq_true, if_false]; exact ih _ _ _ _ _
      · simp only [if_true, List.nil_append]
        rw [ih _ _ fr' is (out ++ [(⟨fr, x.f0⟩ : S23)]), ih _ _ fr' is [(⟨fr, x.f0⟩ : S23)]]
        simp
def cA (t : List S56) (m : Int) : Int := (t.map fun y => if y.f0 ≤ m then dA y.f1 else 0).sum
def cB (t : List S56) (m : Int) : Int := (t.map fun y => if y.f0 ≤ m then dB y.f1 else 0).sum
def tA (t : List S56) : Int := (t.map fun y => dA y.f1).sum
def tB (t : List S56) : Int := (t.map fun y => dB y.f1).sum
theorem cA_cons (x : S56) (t : List S56) (m : Int) (h : x.f0 ≤ m) : cA (x :: t) m = dA x.f1 + cA t m := by simp [cA, h]
theorem cB_cons (x : S56) (t : List S56) (m : Int) (h : x.f0 ≤ m) : cB (x :: t) m = dB x.f1 + cB t m := by simp [cB, h]
theorem c_zero (t : List S56) (m : Int) (h : ∀ y ∈ t, m < y.f0) : cA t m = 0 ∧ cB t m = 0 := by
  induction t with
  | nil => exact ⟨rfl, rfl⟩
  | cons y t ih =>
    obtain ⟨h1, h2⟩ := ih (fun z hz => h z (List.mem_cons_of_mem _ hz))
    have := h y List.mem_cons_self
    unfold cA cB at *
    simp [show ¬ y.f0 ≤ m by omega, h1, h2]
def Rising (ys : List S56) : Prop := ys.Pairwise fun x y => x.f0 ≤ y.f0
/-- What the sweep answers of the ends that are still ahead. -/
theorem sw_spec (P : Int → Int → Bool) : ∀ (t : List S56) (a b fr : Int) (was : Bool), Rising t → (t = [] → was = false) → (was = true → ∀ y ∈ t, fr < y.f0) → P (a + tA t) (b + tB t) = false →
    Form (sw P t a b fr was []) ∧ (∀ z ∈ sw P t a b fr was [], (was = true ∧ z.f0 = fr) ∨ ∀ y ∈ t.head?, y.f0 ≤ z.f0) ∧
    ∀ m, Mem (sw P t a b fr was []) m ↔ (was = true ∧ fr ≤ m ∧ ∀ y ∈ t.head?, m < y.f0) ∨ ∃ y ∈ t.head?, y.f0 ≤ m ∧ P (a + cA t m) (b + cB t m) = true := by
  intro t
  induction t with
  | nil =>
    intro a b fr was _ hw _ _
    have := hw rfl
    subst this
    exact ⟨Form.nil, fun z hz => (by simp [sw] at hz), fun m => ⟨fun h => absurd h (Mem_nil m), by rintro (⟨h, _⟩ | ⟨y, hy, _⟩); cases h; cases hy⟩⟩
  | cons x t ih =>
    intro a b fr was hr _ hf hP
    obtain ⟨hxt, hrt⟩ := List.pairwise_cons.1 hr
    have hP' : P (a + dA x.f1 + tA t) (b + dB x.f1 + tB t) = false := by
      rw [← hP]; simp only [tA, tB, List.map_cons, List.sum_cons]; congr 1 <;> omega
    have hV : ∀ m, x.f0 ≤ m → P (a + cA (x :: t) m) (b + cB (x :: t) m) = P (a + dA x.f1 + cA t m) (b + dB x.f1 + cB t m) := by
      intro m h; rw [cA_cons _ _ _ h, cB_cons _ _ _ h]; congr 1 <;> omega
    simp only [List.head?_cons, Option.mem_some_iff, forall_eq', exists_eq_left']
    unfold sw
    cases hs : same x t with
    | true =>
      rw [if_pos rfl]
      cases t with
      | nil => cases hs
      | cons y t2 =>
        have hy : y.f0 = x.f0 := by simpa [same] using hs
        obtain ⟨i1, i2, i3⟩ := ih (a + dA x.f1) (b + dB x.f1) fr was hrt (by intro h; cases h) (fun h z hz => hf h z (List.mem_cons_of_mem _ hz)) hP'
        simp only [List.head?_cons, Option.mem_some_iff, forall_eq', exists_eq_left', hy] at i2 i3
        refine ⟨i1, i2, fun m => ?_⟩
        rw [i3 m]
        constructor
        · rintro (h | ⟨h, k⟩)
          · exact .inl h
          · exact .inr ⟨h, by rw [hV m h]; exact k⟩
        · rintro (h | ⟨h, k⟩)
          · exact .inl h
          · exact .inr ⟨h, by rw [hV m h] at k; exact k⟩
    | false =>
      rw [if_neg (by simp)]
      have hlt : ∀ y ∈ t, x.f0 < y.f0 := by
        cases t with
        | nil => intro y hy; cases hy
        | cons y t2 =>
          have hy : y.f0 ≠ x.f0 := by simpa [same] using hs
          have h0 := hxt y List.mem_cons_self
          obtain ⟨hyt, _⟩ := List.pairwise_cons.1 hrt
          intro z hz
          rcases List.mem_cons.1 hz with rfl | hz
          · omega
          · have := hyt z hz; omega
      have hVz : ∀ m, x.f0 ≤ m → (∀ y ∈ t, m < y.f0) → P (a + cA (x :: t) m) (b + cB (x :: t) m) = P (a + dA x.f1) (b + dB x.f1) := by
        intro m h1 h2
        obtain ⟨z1, z2⟩ := c_zero t m h2
        rw [hV m h1, z1, z2]; simp
      have hhead : ∀ m, (∀ y ∈ t.head?, m < y.f0) → ∀ y ∈ t, m < y.f0 := by
        intro m h
        cases t with
        | nil => intro y hy; cases hy
        | cons y t2 =>
          have h0 := h y (by simp)
          obtain ⟨hyt, _⟩ := List.pairwise_cons.1 hrt
          intro z hz
          rcases List.mem_cons.1 hz with rfl | hz
          · exact h0
          · have := hyt z hz; omega
      have hhead' : ∀ y ∈ t.head?, x.f0 < y.f0 := by
        cases t with
        | nil => intro y hy; cases hy
        | cons y t2 => intro z hz; simp at hz; subst hz; exact hlt _ List.mem_cons_self
      -- a moment from x on: ahead of the next end, or from it on
      have hcase : ∀ m, (∀ y ∈ t.head?, m < y.f0) ∨ ∃ y ∈ t.head?, y.f0 ≤ m := by
        intro m
        cases t with
        | nil => left; intro y hy; cases hy
        | cons y t2 =>
          by_cases h : m < y.f0
          · left; intro z hz; simp at hz; subst hz; exact h
          · right; exact ⟨y, by simp, by omega⟩
      cases hi : P (a + dA x.f1) (b + dB x.f1) with
      | true =>
        have hne : t ≠ [] := by
          rintro rfl
          simp only [tA, tB, List.map_nil, List.sum_nil, Int.add_zero] at hP'
          rw [hi] at hP'; cases hP'
        cases was with
        | false =>
          simp only [Bool.not_false, Bool.and_self, if_true, Bool.false_and, Bool.false_eq_true, if_false, false_and, false_or]
          obtain ⟨i1, i2, i3⟩ := ih (a + dA x.f1) (b + dB x.f1) x.f0 true hrt (fun h => absurd h hne) (fun _ => hlt) hP'
          refine ⟨i1, fun z hz => ?_, fun m => ?_⟩
          · rcases i2 z hz with ⟨_, h⟩ | h
            · omega
            · cases t with
              | nil => exact absurd rfl hne
              | cons y t2 => have h1 := h y (by simp); have h2 := hlt y List.mem_cons_self; omega
          · rw [i3 m]
            constructor
            · rintro (⟨_, h1, h2⟩ | ⟨y, hy, h1, h2⟩)
              · exact ⟨h1, by rw [hVz m h1 (hhead m h2)]; exact hi⟩
              · have := hhead' y hy
                exact ⟨by omega, by rw [hV m (by omega)]; exact h2⟩
            · rintro ⟨h1, h2⟩
              rcases hcase m with h | ⟨y, hy, h⟩
              · exact .inl ⟨rfl, h1, h⟩
              · exact .inr ⟨y, hy, h, by rw [← hV m h1]; exact h2⟩
        | true =>
          simp only [Bool.not_true, Bool.and_false, Bool.false_eq_true, if_false, true_and]
          have hfx := hf rfl x List.mem_cons_self
          obtain ⟨i1, i2, i3⟩ := ih (a + dA x.f1) (b + dB x.f1) fr true hrt (fun h => absurd h hne) (fun _ y hy => by have := hlt y hy; omega) hP'
          refine ⟨i1, fun z hz => ?_, fun m => ?_⟩
          · rcases i2 z hz with ⟨_, h⟩ | h
            · exact .inl h
            · cases t with
              | nil => exact absurd rfl hne
              | cons y t2 => have h1 := h y (by simp); have h2 := hlt y List.mem_cons_self; right; omega
          · rw [i3 m]
            constructor
            · rintro (⟨_, h1, h2⟩ | ⟨y, hy, h1, h2⟩)
              · by_cases c : m < x.f0
                · exact .inl ⟨h1, c⟩
                · exact .inr ⟨by omega, by rw [hVz m (by omega) (hhead m h2)]; exact hi⟩
              · have := hhead' y hy
                exact .inr ⟨by omega, by rw [hV m (by omega)]; exact h2⟩
            · rintro (⟨h1, h2⟩ | ⟨h1, h2⟩)
              · exact .inl ⟨rfl, h1, fun y hy => by have := hhead' y hy; omega⟩
              · rcases hcase m with h | ⟨y, hy, h⟩
                · exact .inl ⟨rfl, by omega, h⟩
                · exact .inr ⟨y, hy, h, by rw [← hV m h1]; exact h2⟩
      | false =>
        cases was with
        | false =>
          simp only [Bool.false_and, Bool.false_eq_true, if_false, false_and, false_or]
          obtain ⟨i1, i2, i3⟩ := ih (a + dA x.f1) (b + dB x.f1) fr false hrt (fun _ => rfl) (fun h => by cases h) hP'
          refine ⟨i1, fun z hz => ?_, fun m => ?_⟩
          · rcases i2 z hz with ⟨h, _⟩ | h
            · cases h
            · cases t with
              | nil => simp [sw] at hz
              | cons y t2 => have h1 := h y (by simp); have h2 := hlt y List.mem_cons_self; omega
          · rw [i3 m]
            constructor
            · rintro (⟨h, _⟩ | ⟨y, hy, h1, h2⟩)
              · cases h
              · have := hhead' y hy
                exact ⟨by omega, by rw [hV m (by omega)]; exact h2⟩
            · rintro ⟨h1, h2⟩
              rcases hcase m with h | ⟨y, hy, h⟩
              · rw [hVz m h1 (hhead m h), hi] at h2; cases h2
              · exact .inr ⟨y, hy, h, by rw [← hV m h1]; exact h2⟩
        | true =>
          have hfx := hf rfl x List.mem_cons_self
          simp only [Bool.not_false, Bool.and_self, Bool.not_true, Bool.and_false, Bool.false_eq_true, if_false, if_true, List.nil_append, true_and]
          rw [sw_out]
          obtain ⟨i1, i2, i3⟩ := ih (a + dA x.f1) (b + dB x.f1) fr false hrt (fun _ => rfl) (fun h => by cases h) hP'
          have hz' : ∀ z ∈ sw P t (a + dA x.f1) (b + dB x.f1) fr false [], x.f0 < z.f0 := by
            intro z hz
            rcases i2 z hz with ⟨h, _⟩ | h
            · cases h
            · cases t with
              | nil => simp [sw] at hz
              | cons y t2 => have h1 := h y (by simp); have h2 := hlt y List.mem_cons_self; omega
          refine ⟨i1.cons hfx hz', fun z hz => ?_, fun m => ?_⟩
          · rcases List.mem_cons.1 hz with rfl | hz
            · exact .inl rfl
            · exact .inr (by have := hz' z hz; omega)
          · rw [List.cons_append, List.nil_append, Mem_cons, i3 m]
            constructor
            · rintro (h | ⟨h, _⟩ | ⟨y, hy, h1, h2⟩)
              · exact .inl h
              · cases h
              · have := hhead' y hy
                exact .inr ⟨by omega, by rw [hV m (by omega)]; exact h2⟩
            · rintro (h | ⟨h1, h2⟩)
              · exact .inl h
              · rcases hcase m with h | ⟨y, hy, h⟩
                · rw [hVz m h1 (hhead m h), hi] at h2; cases h2
                · exact .inr (.inr ⟨y, hy, h, by rw [← hV m h1]; exact h2⟩)
end Go.Proofs.Ytafpmcmpkgbgaaa.Pr
