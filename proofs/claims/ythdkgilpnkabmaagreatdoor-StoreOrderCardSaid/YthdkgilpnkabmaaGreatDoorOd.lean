/- Plain: the order of spans is one: total, of equals alone 0. -/
import Derived.Test.YthdkgilpnkabmaaGreatDoorOr
namespace Go.Proofs.YthdkgilpnkabmaaGreatDoor.Pr
open Go Go.RowKit
set_option linter.unusedVariables false
set_option linter.unusedSimpArgs false
/-- A comparer that is an order. -/
structure Cmp3 {α : Type} (f : α → α → Int) : Prop where
  anti : ∀ x y, f y x = - f x y
  eq : ∀ x y, f x y = 0 → x = y
  trans : ∀ x y z, f x y < 0 → f y z < 0 → f x z < 0
theorem Cmp3.refl {α : Type} {f : α → α → Int} (h : Cmp3 f) (x : α) : f x x = 0 := by have := h.anti x x; omega
theorem cmp3_I : Cmp3 ordI where
  anti x y := by unfold ordI; split <;> split <;> (try split) <;> omega
  eq x y h := by unfold ordI at h; split at h <;> (try split at h) <;> omega
  trans x y z h1 h2 := by
    unfold ordI at *
    split at h1 <;> split at h2 <;> split <;> (try split at h1) <;> (try split at h2) <;> (try split) <;> omega
theorem Cmp3.flip {α : Type} {f : α → α → Int} (h : Cmp3 f) : Cmp3 (fun x y => f y x) where
  anti x y := h.anti y x
  eq x y e := (h.eq y x e).symm
  trans x y z h1 h2 := h.trans z y x h2 h1
theorem Cmp3.on {α β : Type} {f : β → β → Int} (h : Cmp3 f) (k : α → β) (hk : ∀ x y, k x = k y → x = y) : Cmp3 (fun x y => f (k x) (k y)) where
  anti x y := h.anti _ _
  eq x y e := hk _ _ (h.eq _ _ e)
  trans x y z h1 h2 := h.trans _ _ _ h1 h2
/-- First the one, then the other. -/
def pairC {α β : Type} (f : α → α → Int) (g : β → β → Int) (p q : α × β) : Int := if f p.1 q.1 = 0 then g p.2 q.2 else f p.1 q.1
theorem cmp3_pair {α β : Type} {f : α → α → Int} {g : β → β → Int} (hf : Cmp3 f) (hg : Cmp3 g) : Cmp3 (pairC f g) where
  anti p q := by
    unfold pairC
    have h1 := hf.anti p.1 q.1
    have h2 := hg.anti p.2 q.2
    by_cases h : f p.1 q.1 = 0
    · rw [if_pos h, if_pos (by omega), h2]
    · rw [if_neg h, if_neg (by omega), h1]
  eq p q h := by
    unfold pairC at h
    by_cases h0 : f p.1 q.1 = 0
    · rw [if_pos h0] at h
      exact Prod.ext (hf.eq _ _ h0) (hg.eq _ _ h)
    · rw [if_neg h0] at h
      exact absurd h h0
  trans p q r h1 h2 := by
    unfold pairC at *
    by_cases e1 : f p.1 q.1 = 0
    · have e := hf.eq _ _ e1
      rw [if_pos e1] at h1
      rw [e]
      by_cases e2 : f q.1 r.1 = 0
      · rw [if_pos e2] at h2 ⊢
        exact hg.trans _ _ _ h1 h2
      · rw [if_neg e2] at h2 ⊢
        exact h2
    · rw [if_neg e1] at h1
      by_cases e2 : f q.1 r.1 = 0
      · have e := hf.eq _ _ e2
        rw [← e, if_neg e1]
        exact h1
      · rw [if_neg e2] at h2
        have := hf.trans _ _ _ h1 h2
        rw [if_neg (by omega)]
        exact this
theorem bl_irrefl : ∀ a : List UInt8, Op.bytesLess a a = false
  | [] => rfl
  | a :: r => by simp [Op.bytesLess, bl_irrefl r]
theorem bl_asymm : ∀ a b : List UInt8, Op.bytesLess a b = true → Op.bytesLess b a = false
  | [], [], h => by simp [Op.bytesLess] at h
  | [], _ :: _, _ => by simp [Op.bytesLess]
  | _ :: _, [], h => by simp [Op.bytesLess] at h
  | a :: r, b :: s, h => by
    simp only [Op.bytesLess] at h ⊢
    by_cases h1 : a < b
    · have : ¬ b < a := fun h2 => by simp only [UInt8.lt_iff_toNat_lt] at h1 h2; omega
      have h3 : ¬ b = a := fun e => by subst e; exact this h1
      simp [this, h3]
    · by_cases h2 : a = b
      · subst h2
        simp at h ⊢
        exact bl_asymm r s h
      · simp [h1, h2] at h
theorem bl_total : ∀ a b : List UInt8, Op.bytesLess a b = false → Op.bytesLess b a = false → a = b
  | [], [], _, _ => rfl
  | [], _ :: _, h, _ => by simp [Op.bytesLess] at h
  | _ :: _, [], _, h => by simp [Op.bytesLess] at h
  | a :: r, b :: s, h, h' => by
    simp only [Op.bytesLess] at h h'
    by_cases h1 : a < b
    · simp [h1] at h
    · by_cases h2 : b < a
      · simp [h2] at h'
      · have e : a = b := by
          simp only [UInt8.lt_iff_toNat_lt] at h1 h2
          exact UInt8.toNat_inj.1 (by omega)
        subst e
        simp at h h'
        rw [bl_total r s h h']
theorem bl_trans : ∀ a b c : List UInt8, Op.bytesLess a b = true → Op.bytesLess b c = true → Op.bytesLess a c = true
  | [], [], _, h, _ => by simp [Op.bytesLess] at h
  | [], _ :: _, [], _, h => by simp [Op.bytesLess] at h
  | [], _ :: _, _ :: _, _, _ => by simp [Op.bytesLess]
  | _ :: _, [], _, h, _ => by simp [Op.bytesLess] at h
  | _ :: _, _ :: _, [], _, h => by simp [Op.bytesLess] at h
  | a :: r, b :: s, c :: t, h, h' => by
    simp only [Op.bytesLess] at h h' ⊢
    by_cases h1 : a < b
    · by_cases h2 : b < c
      · have : a < c := by simp only [UInt8.lt_iff_toNat_lt] at *; omega
        simp [this]
      · by_cases h3 : b = c
        · subst h3; simp [h1]
        · simp [h2, h3] at h'
    · by_cases h2 : a = b
      · subst h2
        by_cases h3 : a < c
        · simp [h3]
        · by_cases h4 : a = c
          · subst h4
            simp at h h' ⊢
            exact bl_trans r s t h h'
          · simp [h3, h4] at h'
      · simp [h1, h2] at h
theorem cmp3_T : Cmp3 ordT where
  anti x y := by
    by_cases h : Op.bytesLess x.toList y.toList = true
    · have h2 : ¬ Op.bytesLess y.toList x.toList = true := by rw [bl_asymm _ _ h]; decide
      rw [show ordT x y = -1 from if_pos h, show ordT y x = 1 from (if_neg h2).trans (if_pos h)]
      rfl
    · by_cases h' : Op.bytesLess y.toList x.toList = true
      · rw [show ordT y x = -1 from if_pos h', show ordT x y = 1 from (if_neg h).trans (if_pos h')]
      · rw [show ordT y x = 0 from (if_neg h').trans (if_neg h), show ordT x y = 0 from (if_neg h).trans (if_neg h')]
        rfl
  eq x y e := by
    unfold ordT at e
    by_cases h : Op.bytesLess x.toList y.toList = true
    · rw [if_pos h] at e; cases e
    · by_cases h' : Op.bytesLess y.toList x.toList = true
      · rw [if_neg h, if_pos h'] at e; cases e
      · have := bl_total _ _ (by simpa using h) (by simpa using h')
        rw [ByteArray.toList_eq, ByteArray.toList_eq] at this
        exact ByteArray.ext (Array.ext' this)
  trans x y z h1 h2 := by
    unfold ordT at *
    have k1 : Op.bytesLess x.toList y.toList = true := by
      by_cases h : Op.bytesLess x.toList y.toList = true
      · exact h
      · rw [if_neg h] at h1; split at h1 <;> omega
    have k2 : Op.bytesLess y.toList z.toList = true := by
      by_cases h : Op.bytesLess y.toList z.toList = true
      · exact h
      · rw [if_neg h] at h2; split at h2 <;> omega
    rw [if_pos (bl_trans _ _ _ k1 k2)]
    decide
theorem lexF_eq {α : Type} {f : α → α → Int} (hf : Cmp3 f) : ∀ a b : List α, lexF f a b = 0 → a = b
  | [], [], _ => rfl
  | [], b :: m, h => by simp only [lexF, ordI, List.length_nil, List.length_cons] at h; split at h <;> (try split at h) <;> omega
  | a :: l, [], h => by simp only [lexF, ordI, List.length_nil, List.length_cons] at h; split at h <;> (try split at h) <;> omega
  | a :: l, b :: m, h => by
    rw [lexF] at h
    by_cases e : f a b = 0
    · rw [if_pos e] at h
      rw [hf.eq _ _ e, lexF_eq hf l m h]
    · rw [if_neg e] at h
      exact absurd h e
theorem lexF_anti {α : Type} {f : α → α → Int} (hf : Cmp3 f) : ∀ a b : List α, lexF f b a = - lexF f a b
  | [], [] => rfl
  | [], b :: m => cmp3_I.anti _ _
  | a :: l, [] => cmp3_I.anti _ _
  | a :: l, b :: m => by
    rw [lexF, lexF]
    have h1 := hf.anti a b
    by_cases e : f a b = 0
    · rw [if_pos e, if_pos (by omega), lexF_anti hf l m]
    · rw [if_neg e, if_neg (by omega), h1]
theorem lexF_trans {α : Type} {f : α → α → Int} (hf : Cmp3 f) : ∀ a b c : List α, lexF f a b < 0 → lexF f b c < 0 → lexF f a c < 0
  | [], [], c, h, _ => by simp [lexF, ordI] at h
  | [], b :: m, [], _, h => by simp only [lexF, ordI, List.length_nil, List.length_cons] at h; split at h <;> (try split at h) <;> omega
  | [], b :: m, c :: n, _, _ => by simp only [lexF, ordI, List.length_nil, List.length_cons]; split <;> (try split) <;> omega
  | a :: l, [], c, h, _ => by simp only [lexF, ordI, List.length_nil, List.length_cons] at h; split at h <;> (try split at h) <;> omega
  | a :: l, b :: m, [], _, h => by simp only [lexF, ordI, List.length_nil, List.length_cons] at h; split at h <;> (try split at h) <;> omega
  | a :: l, b :: m, c :: n, h, h' => by
    rw [lexF] at h h' ⊢
    by_cases e1 : f a b = 0
    · have e := hf.eq _ _ e1
      rw [if_pos e1] at h
      rw [e]
      by_cases e2 : f b c = 0
      · rw [if_pos e2] at h' ⊢
        exact lexF_trans hf l m n h h'
      · rw [if_neg e2] at h' ⊢
        exact h'
    · rw [if_neg e1] at h
      by_cases e2 : f b c = 0
      · rw [← hf.eq _ _ e2, if_neg e1]
        exact h
      · rw [if_neg e2] at h'
        have := hf.trans _ _ _ h h'
        rw [if_neg (by omega)]
        exact this
theorem cmp3_lex {α : Type} {f : α → α → Int} (hf : Cmp3 f) : Cmp3 (lexF f) := ⟨lexF_anti hf, lexF_eq hf, lexF_trans hf⟩
theorem cmp3_A : Cmp3 ordA := by
  have h := (cmp3_pair cmp3_T (cmp3_pair cmp3_I (cmp3_pair cmp3_T cmp3_I))).on (fun x : S108 => (x.f0, x.f1.f0, x.f1.f1, x.f1.f2)) (fun x y e => by
    obtain ⟨a, ⟨b, c, d⟩⟩ := x
    obtain ⟨a', ⟨b', c', d'⟩⟩ := y
    simp only [Prod.mk.injEq] at e
    obtain ⟨rfl, rfl, rfl, rfl⟩ := e
    rfl)
  refine (show (fun x y : S108 => _) = ordA from ?_) ▸ h
  funext x y
  unfold ordA
  simp only [firstF, pairC]
  repeat' split
  all_goals first | rfl | omega
theorem cmp3_E : Cmp3 ordE := by
  have h := (cmp3_pair cmp3_I cmp3_T).on (fun x : S111 => (x.f0, x.f1)) (fun x y e => by
    obtain ⟨a, b⟩ := x
    obtain ⟨a', b'⟩ := y
    simp only [Prod.mk.injEq] at e
    obtain ⟨rfl, rfl⟩ := e
    rfl)
  refine (show (fun x y : S111 => _) = ordE from ?_) ▸ h
  funext x y
  unfold ordE
  simp only [firstF, pairC]
  repeat' split
  all_goals first | rfl | omega
theorem pairC_first {α β : Type} (f : α → α → Int) (g : β → β → Int) (p q : α × β) (l : List Int) (h : g p.2 q.2 = firstF l) : pairC f g p q = firstF (f p.1 q.1 :: l) := by
  unfold pairC firstF
  rw [h]
theorem firstF_one (a : Int) : a = firstF [a] := by
  simp only [firstF]
  split
  · assumption
  · rfl
theorem cmp3_S : Cmp3 ordS := by
  have h := (cmp3_pair cmp3_I (cmp3_pair cmp3_I (cmp3_pair cmp3_I (cmp3_pair cmp3_I (cmp3_pair cmp3_I.flip (cmp3_pair cmp3_I (cmp3_pair cmp3_I (cmp3_pair cmp3_T (cmp3_pair cmp3_T (cmp3_pair cmp3_I (cmp3_pair (cmp3_lex cmp3_I) (cmp3_pair (cmp3_lex cmp3_A) (cmp3_lex cmp3_E))))))))))))).on (fun x : S41 => (x.f0.f0, x.f0.f1, x.f1, x.f9, x.f8, x.f7, x.f2, x.f4, x.f5, x.f6, x.f3, x.f10, x.f11)) (fun x y e => by
    obtain ⟨⟨a0, a1⟩, a2, a3, a4, a5, a6, a7, a8, a9, a10, a11, a12⟩ := x
    obtain ⟨⟨b0, b1⟩, b2, b3, b4, b5, b6, b7, b8, b9, b10, b11, b12⟩ := y
    simp only [Prod.mk.injEq] at e
    obtain ⟨rfl, rfl, rfl, rfl, rfl, rfl, rfl, rfl, rfl, rfl, rfl, rfl, rfl⟩ := e
    rfl)
  refine (show (fun x y : S41 => _) = ordS from ?_) ▸ h
  funext x y
  unfold ordS
  refine pairC_first _ _ _ _ _ ?_
  refine pairC_first _ _ _ _ _ ?_
  refine pairC_first _ _ _ _ _ ?_
  refine pairC_first _ _ _ _ _ ?_
  refine pairC_first _ _ _ _ _ ?_
  refine pairC_first _ _ _ _ _ ?_
  refine pairC_first _ _ _ _ _ ?_
  refine pairC_first _ _ _ _ _ ?_
  refine pairC_first _ _ _ _ _ ?_
  refine pairC_first _ _ _ _ _ ?_
  refine pairC_first _ _ _ _ _ ?_
  refine pairC_first _ _ _ _ _ ?_
  exact firstF_one _
end Go.Proofs.YthdkgilpnkabmaaGreatDoor.Pr
