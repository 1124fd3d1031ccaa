/- Plain laws of spoorref13: Merge, Add, Less: the same as of rows. -/
import Derived.Test.YtlnhpccapadpmaaMf
import Derived.Test.YtlnhpccapadpmaaPr0d
import Derived.Test.YtlnhpccapadpmaaPr0e
import Derived.Test.YtlnhpccapadpmaaPr0f
namespace Go.Proofs.Ytlnhpccapadpmaa.Pure
set_option linter.unusedVariables false
set_option linter.unusedSimpArgs false
open Go.RowKit Go.Proofs.Ytlnhpccapadpmaa.Pr Go.Proofs.YtlnhpccapadpmaaW.PrintWords Go.Proofs.YtlnhpccapadpmaaW.PrintLast Go.Proofs.YtlnhpccapadpmaaW.PrintMore

theorem rplus_eq {x y : Int} (hx : W x) (hy : W y) : spoorref13_plus.f x y = some (satAdd x y) := by
  obtain ⟨a1, a2⟩ := hx; obtain ⟨b1, b2⟩ := hy
  unfold M64 at a2 b2
  unfold spoorref13_plus.f satAdd M64
  rw [wu (n := 18446744073709551615 - y) (by omega) (by omega)]
  by_cases c : x > 18446744073709551615 - y
  · rw [if_pos c, if_neg (by omega)]
  · rw [if_neg c, if_pos (by omega), wu (by omega) (by omega)]
theorem drop_at {l t : List S61} {i : Nat} {b : S61} (h : l.drop i = b :: t) : i < l.length ∧ rd_T61 l (i : Int) = b ∧ l.drop (i + 1) = t := by
  have hi : i < l.length := by
    apply Nat.lt_of_not_le
    intro hc
    rw [List.drop_eq_nil_of_le hc] at h
    simp at h
  have h2 := h
  rw [List.drop_eq_getElem_cons hi] at h2
  injection h2 with h3 h4
  exact ⟨hi, by rw [rd_at l i hi]; exact h3, h4⟩
theorem drop_nil {l : List S61} {i : Nat} (h : l.drop i = []) (hi : i ≤ l.length) : i = l.length := by
  have := List.drop_eq_nil_iff.1 h; omega
theorem from_ge (r : List Int) : ∀ (n : Int), ∀ b ∈ barsFrom n r, n ≤ b.f0 := by
  induction r with
  | nil => intro n b h; simp [barsFrom] at h
  | cons x t ih =>
    intro n b h
    simp only [barsFrom] at h
    split at h
    · rcases List.mem_cons.1 h with rfl | h
      · exact Int.le_refl _
      · have := ih (n + 1) b h; omega
    · have := ih (n + 1) b h; omega
/-- What is next in a list is at n or higher, or there is nothing. -/
theorem next_ge {l : List S61} {j : Nat} {n : Int} {r : List Int} (h : l.drop j = barsFrom n r) (hj : j ≤ l.length) : j = l.length ∨ (j < l.length ∧ n ≤ (rd_T61 l (j : Int)).f0) := by
  rcases Nat.lt_or_ge j l.length with c | c
  · right
    refine ⟨c, ?_⟩
    rw [rd_at l j c]
    refine from_ge r n _ ?_
    rw [← h, List.drop_eq_getElem_cons c]
    exact List.mem_cons_self
  · left; omega

theorem mstepA (a b acc : List S61) (i j : Nat) (k : Nat) (hi : i < a.length) (hn : a.length ≤ 9223372036854775806) (hj : j = b.length ∨ (j < b.length ∧ (rd_T61 a (i : Int)).f0 < (rd_T61 b (j : Int)).f0)) (hacc : acc.length < 8796093022208) :
    spoorref13_Merge.l0 (k + 3) a b acc i j = spoorref13_Merge.l0 k a b (acc ++ [rd_T61 a (i : Int)]) ((i + 1 : Nat) : Int) j := by
  have hw : wrap64 ((i : Int) + 1) = ((i + 1 : Nat) : Int) := by rw [w64] <;> omega
  rw [spoorref13_Merge.l0, if_pos (by omega), spoorref13_Merge.j2, if_pos rfl]
  rcases hj with rfl | ⟨hj, hlt⟩
  · rw [if_pos rfl, spoorref13_Merge.j3, if_pos rfl, if_pos (by omega), if_pos (by omega), if_pos hacc, hw]
  · rw [if_neg (by omega), if_pos (by omega), if_pos (by omega), if_pos (by omega), if_pos (by omega), decide_eq_true hlt, spoorref13_Merge.j3, if_pos rfl, if_pos (by omega), if_pos (by omega), if_pos hacc, hw]
theorem mstepB (a b acc : List S61) (i j : Nat) (k : Nat) (hj : j < b.length) (hn : b.length ≤ 9223372036854775806) (hi : i = a.length ∨ (i < a.length ∧ (rd_T61 b (j : Int)).f0 < (rd_T61 a (i : Int)).f0)) (hacc : acc.length < 8796093022208) :
    spoorref13_Merge.l0 (k + 3) a b acc i j = spoorref13_Merge.l0 k a b (acc ++ [rd_T61 b (j : Int)]) i ((j + 1 : Nat) : Int) := by
  have hw : wrap64 ((j : Int) + 1) = ((j + 1 : Nat) : Int) := by rw [w64] <;> omega
  rw [spoorref13_Merge.l0]
  rcases hi with rfl | ⟨hi, hlt⟩
  · rw [if_neg (by omega), decide_eq_true (by omega), spoorref13_Merge.j2, if_pos rfl, if_neg (by omega), if_neg (by omega), spoorref13_Merge.j3, if_neg (by simp), if_pos rfl, if_pos (by omega), if_pos (by omega), if_pos hacc, hw]
  · rw [if_pos (by omega), spoorref13_Merge.j2, if_pos rfl, if_neg (by omega), if_pos (by omega), if_pos (by omega), if_pos (by omega), if_pos (by omega), decide_eq_false (by omega), spoorref13_Merge.j3, if_neg (by simp), if_neg (by omega), if_pos (by omega), if_pos (by omega), if_pos (by omega), if_pos (by omega), if_pos hlt, if_pos hacc, hw]
theorem mstepAB (a b acc : List S61) (i j : Nat) (k : Nat) (hi : i < a.length) (hj : j < b.length) (hn : a.length ≤ 9223372036854775806) (hn2 : b.length ≤ 9223372036854775806) (he : (rd_T61 a (i : Int)).f0 = (rd_T61 b (j : Int)).f0) (h1 : W (rd_T61 a (i : Int)).f1) (h2 : W (rd_T61 b (j : Int)).f1) (hacc : acc.length < 8796093022208) :
    spoorref13_Merge.l0 (k + 3) a b acc i j = spoorref13_Merge.l0 k a b (acc ++ [⟨(rd_T61 a (i : Int)).f0, satAdd (rd_T61 a (i : Int)).f1 (rd_T61 b (j : Int)).f1⟩]) ((i + 1 : Nat) : Int) ((j + 1 : Nat) : Int) := by
  have hw : wrap64 ((i : Int) + 1) = ((i + 1 : Nat) : Int) := by rw [w64] <;> omega
  have hw2 : wrap64 ((j : Int) + 1) = ((j + 1 : Nat) : Int) := by rw [w64] <;> omega
  rw [spoorref13_Merge.l0, if_pos (by omega), spoorref13_Merge.j2, if_pos rfl, if_neg (by omega), if_pos (by omega), if_pos (by omega), if_pos (by omega), if_pos (by omega), decide_eq_false (by omega), spoorref13_Merge.j3, if_neg (by simp), if_neg (by omega), if_pos (by omega), if_pos (by omega), if_pos (by omega), if_pos (by omega), if_neg (by omega), rplus_eq h1 h2, Option.bind_some, if_pos hacc, hw, hw2]
theorem rmerge_on (a b : List S61) (hn : a.length ≤ 9223372036854775806) (hn2 : b.length ≤ 9223372036854775806) : ∀ (r s : List Int) (n : Int) (i j : Nat) (acc : List S61) (k : Nat), r.length = s.length → (∀ x ∈ r, W x) → (∀ x ∈ s, W x) → a.drop i = barsFrom n r → b.drop j = barsFrom n s → i ≤ a.length → j ≤ b.length → acc.length + r.length ≤ 1920 → 3 * r.length + 2 ≤ k →
    spoorref13_Merge.l0 k a b acc i j = some (acc ++ barsFrom n (List.zipWith satAdd r s), 0) := by
  intro r
  induction r with
  | nil =>
    intro s n i j acc k hl _ _ ha hb hi hj _ hk
    have : s = [] := List.eq_nil_of_length_eq_zero (by simpa using hl.symm)
    subst this
    obtain ⟨k, rfl⟩ : ∃ m, k = m + 2 := ⟨k - 2, by simp at hk; omega⟩
    have e1 := drop_nil ha hi
    have e2 := drop_nil hb hj
    rw [spoorref13_Merge.l0, if_neg (by omega), decide_eq_false (by omega), spoorref13_Merge.j2, if_neg (by simp)]
    simp [barsFrom]
  | cons x r ih =>
    intro s n i j acc k hl hr hs ha hb hi hj hacc hk
    match s, hl with
    | y :: s, hl =>
      simp only [List.length_cons] at hacc hk hl
      have hx := hr x List.mem_cons_self
      have hy := hs y List.mem_cons_self
      have hr' : ∀ z ∈ r, W z := fun z hz => hr z (List.mem_cons_of_mem _ hz)
      have hs' : ∀ z ∈ s, W z := fun z hz => hs z (List.mem_cons_of_mem _ hz)
      simp only [barsFrom, List.zipWith_cons_cons] at ha hb ⊢
      by_cases cx : x > 0
      · rw [if_pos cx] at ha
        obtain ⟨p1, p2, p3⟩ := drop_at ha
        obtain ⟨k, rfl⟩ : ∃ m, k = m + 3 := ⟨k - 3, by omega⟩
        by_cases cy : y > 0
        · rw [if_pos cy] at hb
          obtain ⟨q1, q2, q3⟩ := drop_at hb
          rw [mstepAB a b acc i j k p1 q1 hn hn2 (by rw [p2, q2]) (by rw [p2]; exact hx) (by rw [q2]; exact hy) (by omega), p2, q2,
            ih s (n + 1) (i + 1) (j + 1) _ k (by omega) hr' hs' p3 q3 (by omega) (by omega) (by simp only [List.length_append, List.length_singleton]; omega) (by omega)]
          have : satAdd x y > 0 := by unfold satAdd M64; split <;> omega
          rw [if_pos this]
          simp
        · rw [if_neg cy] at hb
          have y0 : y = 0 := by have := hy.1; omega
          subst y0
          have nx := next_ge hb hj
          rw [mstepA a b acc i j k p1 hn (by rw [p2]; dsimp only; omega) (by omega), p2,
            ih s (n + 1) (i + 1) j _ k (by omega) hr' hs' p3 hb (by omega) (by omega) (by simp only [List.length_append, List.length_singleton]; omega) (by omega)]
          rw [satAdd_zero hx, if_pos cx]
          simp
      · rw [if_neg cx] at ha
        have x0 : x = 0 := by have := hx.1; omega
        subst x0
        by_cases cy : y > 0
        · rw [if_pos cy] at hb
          obtain ⟨q1, q2, q3⟩ := drop_at hb
          obtain ⟨k, rfl⟩ : ∃ m, k = m + 3 := ⟨k - 3, by omega⟩
          have nx := next_ge ha hi
          rw [mstepB a b acc i j k q1 hn2 (by rw [q2]; dsimp only; omega) (by omega), q2,
            ih s (n + 1) i (j + 1) _ k (by omega) hr' hs' ha q3 (by omega) (by omega) (by simp only [List.length_append, List.length_singleton]; omega) (by omega)]
          rw [satAdd_comm, satAdd_zero hy, if_pos cy]
          simp
        · rw [if_neg cy] at hb
          have y0 : y = 0 := by have := hy.1; omega
          subst y0
          rw [satAdd_zero W0, if_neg (by omega)]
          exact ih s (n + 1) i j acc k (by omega) hr' hs' ha hb hi hj (by omega) (by omega)
theorem rcheck_bars {r : List Int} (h : Row r) (k : Nat) (hk : 1920 < k) : spoorref13_Check.f k (bars r) = some 0 := by
  have := bars_len r h
  rw [rcheck_eq _ (by omega) k (by omega), if_pos (bars_ok h)]
theorem rmerge_bars {r s : List Int} (hr : Row r) (hs : Row s) : ∃ k, ∀ m, spoorref13_Merge.f (k + m) (bars r) (bars s) = some (bars (List.zipWith satAdd r s), 0) := by
  refine ⟨7000, fun m => ?_⟩
  have l1 := bars_len r hr
  have l2 := bars_len s hs
  unfold spoorref13_Merge.f
  rw [rcheck_bars hr _ (by omega), Option.bind_some, if_pos rfl, rcheck_bars hs _ (by omega), Option.bind_some, show 7000 + m = (6999 + m) + 1 by omega, spoorref13_Merge.j0, if_neg (by simp)]
  have := rmerge_on (bars r) (bars s) (by omega) (by omega) r s 0 0 0 [] (6999 + m) (by rw [hr.1, hs.1]) hr.2 hs.2 rfl rfl (by omega) (by omega) (by have := hr.1; simp; omega) (by have := hr.1; omega)
  exact this
theorem rmerge_bad (k : Nat) (a b : List S61) (ha : a.length < k + 1) (hb : b.length < k + 1) (hk : a.length ≤ 9223372036854775806 ∧ b.length ≤ 9223372036854775806) (h : barsOK (-1) a = false ∨ barsOK (-1) b = false) : spoorref13_Merge.f (k + 1) a b = some ([], 131) := by
  unfold spoorref13_Merge.f
  rw [rcheck_eq a (by omega) _ ha, Option.bind_some]
  cases e : barsOK (-1) a with
  | false => rw [if_neg (by simp), spoorref13_Merge.j0, if_pos rfl]
  | true =>
    rw [e] at h
    rw [if_pos (by simp), rcheck_eq b (by omega) _ hb, Option.bind_some, h.resolve_left (by simp), spoorref13_Merge.j0, if_pos (by simp)]

theorem lstepA (a b acc : List S61) (i j : Nat) (k : Nat) (hi : i < a.length) (hn : a.length ≤ 9223372036854775806) (hp : (rd_T61 a (i : Int)).f1 > 0) (hj : b.length ≤ j ∨ (j < b.length ∧ (rd_T61 b (j : Int)).f0 ≠ (rd_T61 a (i : Int)).f0)) (hacc : acc.length < 8796093022208) :
    spoorref13_Less.l0 (k + 2) a b acc j i = spoorref13_Less.l0 k a b (acc ++ [rd_T61 a (i : Int)]) j ((i + 1 : Nat) : Int) := by
  have hw : wrap64 ((i : Int) + 1) = ((i + 1 : Nat) : Int) := by rw [w64] <;> omega
  rw [spoorref13_Less.l0, if_pos (by omega), if_pos (by omega)]
  rcases hj with hj | ⟨hj, hne⟩
  · rw [if_neg (by omega), spoorref13_Less.j2, if_neg (by simp), if_pos hp, if_pos hacc, hw]
  · rw [if_pos (by omega), if_pos (by omega), beq_eq_false_iff_ne.2 hne, spoorref13_Less.j2, if_neg (by simp), if_pos hp, if_pos hacc, hw]
theorem lstepAB (a b acc : List S61) (i j : Nat) (k : Nat) (hi : i < a.length) (hj : j < b.length) (hn : a.length ≤ 9223372036854775806) (hn2 : b.length ≤ 9223372036854775806) (he : (rd_T61 b (j : Int)).f0 = (rd_T61 a (i : Int)).f0) (h1 : W (rd_T61 a (i : Int)).f1) (h2 : W (rd_T61 b (j : Int)).f1) (hacc : acc.length < 8796093022208) :
    spoorref13_Less.l0 (k + 2) a b acc j i = if (rd_T61 a (i : Int)).f1 < (rd_T61 b (j : Int)).f1 then some ([], 134) else spoorref13_Less.l0 k a b (if (rd_T61 a (i : Int)).f1 - (rd_T61 b (j : Int)).f1 > 0 then acc ++ [⟨(rd_T61 a (i : Int)).f0, (rd_T61 a (i : Int)).f1 - (rd_T61 b (j : Int)).f1⟩] else acc) ((j + 1 : Nat) : Int) ((i + 1 : Nat) : Int) := by
  have hw : wrap64 ((i : Int) + 1) = ((i + 1 : Nat) : Int) := by rw [w64] <;> omega
  have hw2 : wrap64 ((j : Int) + 1) = ((j + 1 : Nat) : Int) := by rw [w64] <;> omega
  rw [spoorref13_Less.l0, if_pos (by omega), if_pos (by omega), if_pos (by omega), if_pos (by omega), beq_iff_eq.2 he, spoorref13_Less.j2, if_pos rfl, if_pos (by omega), if_pos (by omega)]
  generalize rd_T61 a (i : Int) = x at *
  generalize rd_T61 b (j : Int) = y at *
  obtain ⟨a1, a2⟩ := h1; obtain ⟨b1, b2⟩ := h2
  unfold M64 at a2 b2
  by_cases c : x.f1 < y.f1
  · rw [if_pos (by omega), if_pos c]
  · rw [if_neg (by omega), if_neg c, wu (by omega) (by omega)]
    by_cases d : x.f1 - y.f1 > 0
    · rw [if_pos d, if_pos hacc, if_pos d, hw, hw2]
    · rw [if_neg d, if_neg d, hw, hw2]
theorem lstuck (a b : List S61) (j : Nat) (hj : j < b.length) (hn : a.length ≤ 9223372036854775806) : ∀ (d i : Nat) (acc : List S61) (k : Nat), a.length - i = d → i ≤ a.length → (∀ x ∈ a.drop i, x.f0 ≠ (rd_T61 b (j : Int)).f0 ∧ x.f1 > 0) → acc.length + d ≤ 8796093022207 → 2 * d + 1 ≤ k →
    spoorref13_Less.l0 k a b acc j i = some ([], 134) := by
  intro d
  induction d with
  | zero =>
    intro i acc k hd hi _ _ hk
    obtain ⟨k, rfl⟩ : ∃ m, k = m + 1 := ⟨k - 1, by omega⟩
    rw [spoorref13_Less.l0, if_neg (by omega), if_pos (by omega)]
  | succ d ih =>
    intro i acc k hd hi hall hacc hk
    obtain ⟨k, rfl⟩ : ∃ m, k = m + 2 := ⟨k - 2, by omega⟩
    have hlt : i < a.length := by omega
    have hm := hall (rd_T61 a (i : Int)) (by rw [rd_at a i hlt, List.drop_eq_getElem_cons hlt]; exact List.mem_cons_self)
    rw [lstepA a b acc i j k hlt hn hm.2 (.inr ⟨hj, hm.1.symm⟩) (by omega)]
    exact ih (i + 1) _ k (by omega) (by omega) (fun x hx => hall x (by rw [List.drop_eq_getElem_cons hlt]; exact List.mem_cons_of_mem _ hx)) (by simp only [List.length_append, List.length_singleton]; omega) (by omega)
theorem from_pos (r : List Int) : ∀ (n : Int), ∀ b ∈ barsFrom n r, b.f1 > 0 := by
  induction r with
  | nil => intro n b h; simp [barsFrom] at h
  | cons x t ih =>
    intro n b h
    simp only [barsFrom] at h
    split at h
    · rename_i hx
      rcases List.mem_cons.1 h with rfl | h
      · exact hx
      · exact ih (n + 1) b h
    · exact ih (n + 1) b h
theorem rless_on (a b : List S61) (hn : a.length ≤ 9223372036854775806) (hn2 : b.length ≤ 9223372036854775806) : ∀ (r s : List Int) (n : Int) (i j : Nat) (acc : List S61) (k : Nat), r.length = s.length → (∀ x ∈ r, W x) → (∀ x ∈ s, W x) → a.drop i = barsFrom n r → b.drop j = barsFrom n s → i ≤ a.length → j ≤ b.length → acc.length + r.length ≤ 1920 → 2 * r.length + 2 ≤ k →
    spoorref13_Less.l0 k a b acc j i = if (List.zipWith (fun a b => decide (b ≤ a)) r s).all id = true then some (acc ++ barsFrom n (List.zipWith (· - ·) r s), 0) else some ([], 134) := by
  intro r
  induction r with
  | nil =>
    intro s n i j acc k hl _ _ ha hb hi hj _ hk
    have : s = [] := List.eq_nil_of_length_eq_zero (by simpa using hl.symm)
    subst this
    obtain ⟨k, rfl⟩ : ∃ m, k = m + 1 := ⟨k - 1, by simp at hk; omega⟩
    have e1 := drop_nil ha hi
    have e2 := drop_nil hb hj
    rw [spoorref13_Less.l0, if_neg (by omega), if_neg (by omega)]
    simp [barsFrom]
  | cons x r ih =>
    intro s n i j acc k hl hr hs ha hb hi hj hacc hk
    match s, hl with
    | y :: s, hl =>
      simp only [List.length_cons] at hacc hk hl
      have hx := hr x List.mem_cons_self
      have hy := hs y List.mem_cons_self
      have hr' : ∀ z ∈ r, W z := fun z hz => hr z (List.mem_cons_of_mem _ hz)
      have hs' : ∀ z ∈ s, W z := fun z hz => hs z (List.mem_cons_of_mem _ hz)
      simp only [List.zipWith_cons_cons, List.all_cons, id, Bool.and_eq_true, decide_eq_true_eq]
      simp only [barsFrom] at ha hb ⊢
      by_cases cx : x > 0
      · rw [if_pos cx] at ha
        obtain ⟨p1, p2, p3⟩ := drop_at ha
        obtain ⟨k, rfl⟩ : ∃ m, k = m + 2 := ⟨k - 2, by omega⟩
        by_cases cy : y > 0
        · rw [if_pos cy] at hb
          obtain ⟨q1, q2, q3⟩ := drop_at hb
          rw [lstepAB a b acc i j k p1 q1 hn hn2 (by rw [p2, q2]) (by rw [p2]; exact hx) (by rw [q2]; exact hy) (by omega), p2, q2]
          dsimp only
          by_cases c : x < y
          · rw [if_pos c, if_neg (fun h => by omega)]
          · rw [if_neg c]
            by_cases d : x - y > 0
            · rw [if_pos d, if_pos d, ih s (n + 1) (i + 1) (j + 1) _ k (by omega) hr' hs' p3 q3 (by omega) (by omega) (by simp only [List.length_append, List.length_singleton]; omega) (by omega)]
              by_cases hall : (List.zipWith (fun a b => decide (b ≤ a)) r s).all id = true
              · rw [if_pos hall, if_pos ⟨by omega, hall⟩]; simp
              · rw [if_neg hall, if_neg (fun h => hall h.2)]
            · rw [if_neg d, if_neg d, ih s (n + 1) (i + 1) (j + 1) _ k (by omega) hr' hs' p3 q3 (by omega) (by omega) (by omega) (by omega)]
              by_cases hall : (List.zipWith (fun a b => decide (b ≤ a)) r s).all id = true
              · rw [if_pos hall, if_pos ⟨by omega, hall⟩]
              · rw [if_neg hall, if_neg (fun h => hall h.2)]
        · rw [if_neg cy] at hb
          have y0 : y = 0 := by have := hy.1; omega
          subst y0
          have nx := next_ge hb hj
          rw [lstepA a b acc i j k p1 hn (by rw [p2]; exact cx) (by rw [p2]; dsimp only; omega) (by omega), p2,
            ih s (n + 1) (i + 1) j _ k (by omega) hr' hs' p3 hb (by omega) (by omega) (by simp only [List.length_append, List.length_singleton]; omega) (by omega)]
          rw [Int.sub_zero, if_pos cx]
          by_cases hall : (List.zipWith (fun a b => decide (b ≤ a)) r s).all id = true
          · rw [if_pos hall, if_pos ⟨by omega, hall⟩]; simp
          · rw [if_neg hall, if_neg (fun h => hall h.2)]
      · rw [if_neg cx] at ha
        have x0 : x = 0 := by have := hx.1; omega
        subst x0
        by_cases cy : y > 0
        · rw [if_pos cy] at hb
          obtain ⟨q1, q2, q3⟩ := drop_at hb
          rw [if_neg (fun h => by omega)]
          have hla : a.length - i ≤ r.length := by
            have := len_from r (n + 1)
            rw [← ha, List.length_drop] at this
            exact this
          refine lstuck a b j q1 hn (a.length - i) i acc k rfl hi ?_ (by omega) (by omega)
          intro z hz
          rw [ha] at hz
          have z1 := from_ge r (n + 1) z hz
          exact ⟨by rw [q2]; dsimp only; omega, from_pos r (n + 1) z hz⟩
        · rw [if_neg cy] at hb
          have y0 : y = 0 := by have := hy.1; omega
          subst y0
          rw [Int.sub_zero, if_neg (show ¬ (0 : Int) > 0 by omega), ih s (n + 1) i j acc k (by omega) hr' hs' ha hb hi hj (by omega) (by omega)]
          by_cases hall : (List.zipWith (fun a b => decide (b ≤ a)) r s).all id = true
          · rw [if_pos hall, if_pos ⟨by omega, hall⟩]
          · rw [if_neg hall, if_neg (fun h => hall h.2)]
theorem rless_bars {r s : List Int} (hr : Row r) (hs : Row s) : ∃ k, spoorref13_Less.f k (bars r) (bars s) = if (List.zipWith (fun a b => decide (b ≤ a)) r s).all id = true then some (bars (List.zipWith (· - ·) r s), 0) else some ([], 134) := by
  refine ⟨7000, ?_⟩
  have l1 := bars_len r hr
  have l2 := bars_len s hs
  unfold spoorref13_Less.f
  rw [rcheck_bars hr _ (by omega), Option.bind_some, if_pos rfl, rcheck_bars hs _ (by omega), Option.bind_some, show 7000 = 6999 + 1 by omega, spoorref13_Less.j0, if_neg (by simp)]
  have := rless_on (bars r) (bars s) (by omega) (by omega) r s 0 0 0 [] 6999 (by rw [hr.1, hs.1]) hr.2 hs.2 rfl rfl (by omega) (by omega) (by have := hr.1; simp; omega) (by have := hr.1; omega)
  exact this
theorem rless_bad (k : Nat) (a b : List S61) (ha : a.length < k + 1) (hb : b.length < k + 1) (hk : a.length ≤ 9223372036854775806 ∧ b.length ≤ 9223372036854775806) (h : barsOK (-1) a = false ∨ barsOK (-1) b = false) : spoorref13_Less.f (k + 1) a b = some ([], 131) := by
  unfold spoorref13_Less.f
  rw [rcheck_eq a (by omega) _ ha, Option.bind_some]
  cases e : barsOK (-1) a with
  | false => rw [if_neg (by simp), spoorref13_Less.j0, if_pos rfl]
  | true =>
    rw [e] at h
    rw [if_pos (by simp), rcheck_eq b (by omega) _ hb, Option.bind_some, h.resolve_left (by simp), spoorref13_Less.j0, if_pos (by simp)]
/-- One bar in a row. -/
theorem one_row {i n : Int} (hi : 0 ≤ i ∧ i < 1920) (hn : W n) (h0 : n ≠ 0) : Row (zrow.set i.toNat n) ∧ bars (zrow.set i.toNat n) = [⟨i, n⟩] := by
  obtain ⟨s, h1, h2⟩ := bars_onto [⟨i, n⟩] (by
    simp only [barsOK, Bool.and_eq_true, Bool.not_eq_true', decide_eq_false_iff_not, beq_eq_false_iff_ne]
    exact ⟨⟨⟨by omega, by omega⟩, h0⟩, trivial⟩) (by
    simp only [List.all_cons, List.all_nil, Bool.and_true, okB, Bool.and_eq_true, decide_eq_true_eq]
    exact hn)
  have h3 := laid_bars h1
  rw [h2] at h3
  have e : zrow.set i.toNat n = s := h3
  rw [e]
  exact ⟨h1, h2⟩
theorem zrow_len : zrow.length = 1920 := List.length_replicate
theorem zrow_at (j : Nat) (h : j < zrow.length) : zrow[j] = 0 := List.getElem_replicate _
theorem zip_one {r : List Int} (hr : Row r) (i : Nat) (n : Int) (hi : i < 1920) : List.zipWith satAdd r (zrow.set i n) = r.set i (satAdd (r.getD i 0) n) := by
  have hl := hr.1
  apply List.ext_getElem
  · rw [List.length_zipWith, List.length_set, List.length_set, zrow_len, hl]; rfl
  · intro j h1 h2
    have hj : j < r.length := by rw [List.length_set] at h2; exact h2
    rw [List.getElem_zipWith, List.getElem_set, List.getElem_set]
    by_cases c : i = j
    · subst c
      rw [if_pos rfl, if_pos rfl]
      simp [List.getD, hj]
    · rw [if_neg c, if_neg c]
      rw [zrow_at, satAdd_zero (hr.2 _ (List.getElem_mem _))]
theorem zip_none {r : List Int} (hr : Row r) : List.zipWith satAdd r zrow = r := by
  have hl := hr.1
  apply List.ext_getElem
  · rw [List.length_zipWith, zrow_len, hl]; rfl
  · intro j h1 h2
    rw [List.getElem_zipWith]
    rw [zrow_at, satAdd_zero (hr.2 _ (List.getElem_mem _))]
theorem bars_zrow : bars zrow = [] := by kernel_rfl
end Go.Proofs.Ytlnhpccapadpmaa.Pure
