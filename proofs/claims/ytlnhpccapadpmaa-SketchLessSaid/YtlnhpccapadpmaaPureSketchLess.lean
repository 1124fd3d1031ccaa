/- The pure statement of SketchLess: what was put together is taken apart again; more than there is is not taken. -/
import Derived.Test.YtlnhpccapadpmaaPr2f
import Derived.Test.YtlnhpccapadpmaaMc
namespace Go.Proofs.Ytlnhpccapadpmaa.Pure
set_option linter.unusedVariables false
set_option linter.unusedSimpArgs false
open Go.RowKit Go.Proofs.Ytlnhpccapadpmaa.Pr Go.Proofs.YtlnhpccapadpmaaW.PrintWords Go.Proofs.YtlnhpccapadpmaaW.PrintLast

theorem sub_zip (s : List Int) : ∀ r : List Int, r.length = s.length → (∀ x ∈ List.zipWith satAdd r s, x ≠ M64) → List.zipWith (· - ·) (List.zipWith satAdd r s) s = r := by
  induction s with
  | nil => intro r h _; have : r = [] := List.eq_nil_of_length_eq_zero h; subst this; rfl
  | cons y s ih =>
    intro r h hne
    match r, h with
    | x :: r, h =>
      simp only [List.zipWith_cons_cons]
      have h1 := hne (satAdd x y) (by simp)
      have e : satAdd x y - y = x := by unfold satAdd at h1 ⊢; split at h1 <;> simp_all
      rw [e, ih r (by simpa using h) (fun z hz => hne z (by simp [hz]))]
theorem ge_zip (s : List Int) : ∀ r : List Int, (∀ x ∈ r, W x) → (∀ x ∈ s, W x) → (List.zipWith (fun a b => decide (b ≤ a)) (List.zipWith satAdd r s) s).all id = true := by
  induction s with
  | nil => intro r _ _; simp
  | cons y s ih =>
    intro r hr hs
    match r with
    | [] => simp
    | x :: r =>
      have hx := hr x List.mem_cons_self
      have hy := hs y List.mem_cons_self
      simp only [List.zipWith_cons_cons, List.all_cons, id, Bool.and_eq_true, decide_eq_true_eq]
      refine ⟨?_, ih r (fun z hz => hr z (List.mem_cons_of_mem _ hz)) (fun z hz => hs z (List.mem_cons_of_mem _ hz))⟩
      have := hx.1
      have := hy.2
      unfold satAdd; split <;> omega
theorem self_zip (r : List Int) : (List.zipWith (fun a b => decide (b ≤ a)) r r).all id = true ∧ ∀ x ∈ List.zipWith (· - ·) r r, x = 0 := by
  induction r with
  | nil => simp
  | cons x r ih =>
    simp only [List.zipWith_cons_cons, List.all_cons, id, Bool.and_eq_true, decide_eq_true_eq, List.mem_cons]
    exact ⟨⟨Int.le_refl _, ih.1⟩, fun y hy => by
      rcases hy with rfl | hy
      · omega
      · exact ih.2 y hy⟩
theorem from_zero (t : List Int) : ∀ n : Int, (∀ x ∈ t, x = 0) → barsFrom n t = [] := by
  induction t with
  | nil => intro n _; rfl
  | cons x t ih =>
    intro n h
    have hx := h x List.mem_cons_self
    subst hx
    simp only [barsFrom]
    rw [if_neg (by omega)]
    exact ih _ (fun y hy => h y (List.mem_cons_of_mem _ hy))
/-- The greater one is not taken: but where nothing is put to it. -/
theorem lt_zip (s : List Int) : ∀ (r : List Int) (n : Int), r.length = s.length → (∀ x ∈ r, W x) → (∀ x ∈ s, W x) → (∀ x ∈ List.zipWith satAdd r s, x ≠ M64) →
    ((List.zipWith (fun a b => decide (b ≤ a)) r (List.zipWith satAdd r s)).all id = true ↔ barsFrom n s = []) := by
  induction s with
  | nil => intro r n h _ _ _; have : r = [] := List.eq_nil_of_length_eq_zero h; subst this; simp [barsFrom]
  | cons y s ih =>
    intro r n h hr hs hne
    match r, h with
    | x :: r, h =>
      have hy := hs y List.mem_cons_self
      have h1 := hne (satAdd x y) (by simp)
      have e : satAdd x y = x + y := by unfold satAdd at h1 ⊢; split at h1 <;> simp_all
      have i := ih r (n + 1) (by simpa using h) (fun z hz => hr z (List.mem_cons_of_mem _ hz)) (fun z hz => hs z (List.mem_cons_of_mem _ hz)) (fun z hz => hne z (by simp [hz]))
      simp only [List.zipWith_cons_cons, List.all_cons, id, Bool.and_eq_true, decide_eq_true_eq, barsFrom, e]
      by_cases hy0 : y > 0
      · rw [if_pos hy0]
        constructor
        · intro hh; exfalso; omega
        · intro hh; simp at hh
      · rw [if_neg hy0]
        constructor
        · intro hh; exact i.1 hh.2
        · intro hh; exact ⟨by omega, i.2 hh⟩
theorem mem_from (t : List Int) : ∀ (n : Int) (x : Int), x ∈ t → x > 0 → ∃ b ∈ barsFrom n t, b.f1 = x := by
  induction t with
  | nil => intro n x hx; cases hx
  | cons y t ih =>
    intro n x hx h0
    simp only [barsFrom]
    rcases List.mem_cons.1 hx with rfl | hx
    · rw [if_pos h0]; exact ⟨_, List.mem_cons_self, rfl⟩
    · obtain ⟨b, hb, e⟩ := ih (n + 1) x hx h0
      split
      · exact ⟨b, List.mem_cons_of_mem _ hb, e⟩
      · exact ⟨b, hb, e⟩
theorem SketchLess : ∀ (l0 : List (S73)) (l1 : List (S73)), (((l0).length * Try.prog.bytesOf 73 ≤ reachBytes ∧ ∀ x ∈ l0, ok73 x)) → (((l1).length * Try.prog.bytesOf 73 ≤ reachBytes ∧ ∀ x ∈ l1, ok73 x)) → ∃ k, spoorlaw13_SketchLess.f k l0 l1 = some true := by
  intro l0 l1 ⟨b0, h0⟩ ⟨b1, h1⟩
  have eb : Try.prog.bytesOf 73 = 16 := by kernel_rfl
  have er : reachBytes = 140737488351232 := by decide
  rw [eb, er] at b0 b1
  have r0 : Row (rowOf l0) := Row.on h0 Row.zero
  have r1 : Row (rowOf l1) := Row.on h1 Row.zero
  refine ⟨l0.length + l1.length + 4000, ?_⟩
  have aw : spoorlaw13_awake.f (l0.length + l1.length + 4000) = some true := at_rounds spoorlaw13_awake.mono (show 20 ≤ _ by omega) (by kernel_rfl)
  unfold spoorlaw13_SketchLess.f
  rw [aw, put_eq l0 h0 (by omega) _ (by omega), put_eq l1 h1 (by omega) _ (by omega)]
  simp only [Option.bind_some, if_true, Bool.not_true]
  generalize rowOf l0 = r at *
  generalize rowOf l1 = s at *
  obtain ⟨k, hk⟩ : ∃ k, l0.length + l1.length + 4000 = k + 1 := ⟨_, rfl⟩
  rw [hk]
  have hk1 : 3998 < k := by omega
  clear hk aw
  simp only [spoorlaw13_SketchLess.j0]
  rw [if_neg (by simp), merge_bars r0 r1]
  simp only [Option.bind_some, if_true]
  have rz := r0.zip r1
  have key : ∀ (d : Nat) (k i : Nat), i ≤ (bars (List.zipWith satAdd r s)).length → (bars (List.zipWith satAdd r s)).length - i = d → 1990 + d < k →
      (∀ b ∈ (bars (List.zipWith satAdd r s)).take i, b.f1 ≠ 18446744073709551615) → spoorlaw13_SketchLess.l0 k (bars r) (bars s) (bars (List.zipWith satAdd r s)) i = some true := by
    intro d
    have hlen := bars_len _ rz
    induction d with
    | zero =>
      intro k i hi hd hk hall
      obtain ⟨k, rfl⟩ : ∃ m, k = m + 1 := ⟨k - 1, by omega⟩
      have hil : i = (bars (List.zipWith satAdd r s)).length := by omega
      subst hil
      rw [List.take_length] at hall
      have hne : ∀ x ∈ List.zipWith satAdd r s, x ≠ M64 := by
        intro x hx e
        obtain ⟨b, hb, e2⟩ := mem_from _ 0 x hx (by rw [e]; decide)
        exact hall b hb (by rw [e2, e]; rfl)
      simp only [spoorlaw13_SketchLess.l0]
      rw [if_neg (by omega), less_bars rz r1, if_pos (ge_zip s r r0.2 r1.2), sub_zip s r (by rw [r0.1, r1.1]) hne]
      simp only [Option.bind_some]
      rw [less_bars rz rz, if_pos (self_zip _).1]
      simp only [Option.bind_some]
      have ez : bars (List.zipWith (· - ·) (List.zipWith satAdd r s) (List.zipWith satAdd r s)) = [] := from_zero _ 0 (self_zip _).2
      rw [ez, less_bars r0 rz]
      have hl := lt_zip s r 0 (by rw [r0.1, r1.1]) r0.2 r1.2 hne
      by_cases hs : (List.zipWith (fun a b => decide (b ≤ a)) r (List.zipWith satAdd r s)).all id = true
      · rw [if_pos hs]
        have e := hl.1 hs
        simp only [Option.bind_some, if_true]
        rw [same_bars _ (by have := bars_len r r0; omega) _ (by have := bars_len r r0; omega)]
        simp only [Option.bind_some, if_true, List.length_nil]
        rw [show bars s = [] from e]
        rfl
      · rw [if_neg hs]
        have e : bars s ≠ [] := fun e => hs (hl.2 e)
        simp only [Option.bind_some, if_true]
        rw [same_bars _ (by have := bars_len r r0; omega) _ (by have := bars_len r r0; omega)]
        simp only [Option.bind_some, if_true, List.length_nil]
        have : 0 < (bars s).length := List.length_pos_iff.2 e
        have h2 : decide (((bars s).length : Int) > 0) = true := decide_eq_true (by omega)
        rw [h2]
        rfl
    | succ d ih =>
      intro k i hi hd hk hall
      obtain ⟨k, rfl⟩ : ∃ m, k = m + 1 := ⟨k - 1, by omega⟩
      have hlt : i < (bars (List.zipWith satAdd r s)).length := by omega
      simp only [spoorlaw13_SketchLess.l0]
      rw [if_pos (by omega), if_pos (by omega)]
      have hg : rd_T61 (bars (List.zipWith satAdd r s)) (i : Int) = (bars (List.zipWith satAdd r s))[i] := by simp [rd_T61, List.getD, hlt]
      rw [hg]
      by_cases hm : ((bars (List.zipWith satAdd r s))[i]).f1 = 18446744073709551615
      · rw [if_pos hm]
      · rw [if_neg hm, w64 (by omega) (by omega)]
        have e := ih k (i + 1) (by omega) (by omega) (by omega) (fun b hb => by
          rw [List.take_succ_eq_append_getElem hlt] at hb
          rcases List.mem_append.1 hb with hb | hb
          · exact hall b hb
          · rw [List.mem_singleton.1 hb]; exact hm)
        push_cast at e
        exact e
  have hlen := bars_len _ rz
  exact key _ k 0 (by omega) rfl (by omega) (by simp)
end Go.Proofs.Ytlnhpccapadpmaa.Pure
