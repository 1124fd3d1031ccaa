/- Plain law: what Measure answers. -/
import Derived.Test.YtafpmcmpkgbgaaaPr1e
import Derived.Test.YtafpmcmpkgbgaaaMe
namespace Go.Proofs.Ytafpmcmpkgbgaaa.Pr
open Go.RowKit Go.Proofs.YtafpmcmpkgbgaaaW.PrintWords
set_option linter.unusedVariables false
set_option linter.unusedSimpArgs false
theorem lens_take {n : List S23} {i : Nat} (h : i < n.length) : lens (n.take (i + 1)) = lens (n.take i) + ((n[i]).f1 - (n[i]).f0) := by
  unfold lens
  rw [List.take_succ_eq_append_getElem h, List.map_append, List.sum_append]
  simp
theorem Form.take {n : List S23} (h : Form n) (i : Nat) : Form (n.take i) := ⟨fun x hx => h.1 x (List.mem_of_mem_take hx), h.2.sublist (List.take_sublist i n)⟩
theorem In64.take {n : List S23} (h : In64 n) (i : Nat) : In64 (n.take i) := fun x hx => h x (List.mem_of_mem_take hx)
theorem sum_step {n : List S23} (hF : Form n) (hI : In64 n) {i : Nat} (h : i < n.length) : IntKind.u64.wrap (lens (n.take i) + ((n[i]).f1 - (n[i]).f0)) = lens (n.take (i + 1)) := by
  have := lens_in64 (hF.take (i + 1)) (hI.take (i + 1))
  rw [lens_take h] at this ⊢
  exact u64' this.1 this.2
theorem measure_eq (l : List S23) (hl : l.length ≤ 4194304) (hI : In64 l) (k : Nat) (hk : 2 * l.length < k) : ival_Measure.f k l = some (lens (normalL l)) := by
  unfold ival_Measure.f
  rw [normal_eq hl, Option.bind_some]
  have hF := (normal_spec l).1
  have hN : In64 (normalL l) := in64_of hF (fun m h => ((normal_spec l).2 m).1 h) hI
  have hln := normal_len l
  generalize normalL l = n at *
  have key : ∀ (d k i : Nat), i ≤ n.length → n.length - i = d → d < k → ival_Measure.l0 k (lens (n.take i)) n (n.length : Int) (i : Int) = some (lens n) := by
    intro d
    induction d with
    | zero =>
      intro k i hi hd hk
      obtain ⟨k, rfl⟩ : ∃ m, k = m + 1 := ⟨k - 1, by omega⟩
      unfold ival_Measure.l0
      rw [if_neg (by omega), List.take_of_length_le (by omega)]
    | succ d ih =>
      intro k i hi hd hk
      obtain ⟨k, rfl⟩ : ∃ m, k = m + 1 := ⟨k - 1, by omega⟩
      have hil : i < n.length := by omega
      have := ih k (i + 1) (by omega) (by omega) (by omega)
      have e1 : wrap64 ((i : Int) + 1) = ((i + 1 : Nat) : Int) := by rw [w64' (by omega) (by omega)]; rfl
      unfold ival_Measure.l0
      rw [if_pos (by omega), if_pos (by omega), if_pos (by omega), rd_get hil, length_eq (hF.1 _ (List.getElem_mem hil)) (hN _ (List.getElem_mem hil)), Option.bind_some, sum_step hF hN hil, e1, this]
  have := key n.length k 0 (by omega) (by omega) (by omega)
  simpa [lens] using this
/-- Two that part the moments of a third. -/
theorem lens_parts {a b c : List S23} (ha : Form a) (hb : Form b) (hc : Form c) (ia : In64 a) (ib : In64 b) (ic : In64 c) (h : ∀ m, Mem a m ↔ (Mem b m ∨ Mem c m)) (h' : ∀ m, ¬ (Mem b m ∧ Mem c m)) : lens a = lens b + lens c := by
  rw [lens_card64 ha ia, lens_card64 hb ib, lens_card64 hc ic]
  unfold card64
  rw [cardF_add (q := memB b) (r := memB c) _ (fun m => ?_)]
  · simp
  · have h1 := h m; have h2 := h' m
    rw [← memB_iff, ← memB_iff, ← memB_iff] at h1
    rw [← memB_iff, ← memB_iff] at h2
    cases ea : memB a m <;> cases eb : memB b m <;> cases ec : memB c m <;> simp_all
end Go.Proofs.Ytafpmcmpkgbgaaa.Pr
