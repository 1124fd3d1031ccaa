/- The pure statement of IvalSums: no moment is lost or counted twice. -/
import Derived.Test.YtafpmcmpkgbgaaaPr1e
import Derived.Test.YtafpmcmpkgbgaaaMd
namespace Go.Proofs.Ytafpmcmpkgbgaaa.Pure
set_option linter.unusedVariables false
set_option linter.unusedSimpArgs false
open Go.RowKit Go.Proofs.Ytafpmcmpkgbgaaa.Pr Go.Proofs.YtafpmcmpkgbgaaaW.PrintWords Go.Proofs.YtafpmcmpkgbgaaaW.PrintLast
set_option maxHeartbeats 1000000 in
theorem IvalSums : ∀ (l0 : List (S23)) (l1 : List (S23)), (((l0).length * Try.prog.bytesOf 23 ≤ reachBytes ∧ ∀ x ∈ l0, ok23 x)) → (((l1).length * Try.prog.bytesOf 23 ≤ reachBytes ∧ ∀ x ∈ l1, ok23 x)) → l0.length ≤ 1048576 → l1.length ≤ 1048576 → ∃ k, spoorlaw06_IvalSums.f k l0 l1 = some true := by
  intro l0 l1 ⟨_, o0⟩ ⟨_, o1⟩ hl0 hl1
  have i0 := in64_of_ok o0
  have i1 := in64_of_ok o1
  have ib : In64 (l0 ++ l1) := fun x hx => by rcases List.mem_append.1 hx with h | h; exact i0 x h; exact i1 x h
  have n0 := normal_spec l0
  have nb := normal_spec (l0 ++ l1)
  have m1 := meet_spec l0 l1
  have m2 := meet_spec l1 l0
  have s1 := minus_spec l0 l1
  have s2 := minus_spec l1 l0
  have in0 : In64 (normalL l0) := in64_of n0.1 (fun m h => (n0.2 m).1 h) i0
  have inb : In64 (normalL (l0 ++ l1)) := in64_of nb.1 (fun m h => (nb.2 m).1 h) ib
  have im1 : In64 (meetL l0 l1) := in64_of m1.1 (fun m h => ((m1.2 m).1 h).1) i0
  have is1 : In64 (minusL l0 l1) := in64_of s1.1 (fun m h => ((s1.2 m).1 h).1) i0
  have is2 : In64 (minusL l1 l0) := in64_of s2.1 (fun m h => ((s2.2 m).1 h).1) i1
  have hm : meetL l0 l1 = meetL l1 l0 := form_unique m1.1 m2.1 (fun m => by rw [m1.2, m2.2]; exact And.comm)
  have p1 : lens (normalL l0) = lens (meetL l0 l1) + lens (minusL l0 l1) := lens_parts n0.1 m1.1 s1.1 in0 im1 is1 (fun m => by rw [n0.2, m1.2, s1.2]; by_cases h : Mem l0 m <;> by_cases h' : Mem l1 m <;> simp [h, h']) (fun m => by rw [m1.2, s1.2]; rintro ⟨⟨_, h⟩, _, h'⟩; exact h' h)
  have p2 : lens (normalL (l0 ++ l1)) = lens (normalL l0) + lens (minusL l1 l0) := lens_parts nb.1 n0.1 s2.1 inb in0 is2 (fun m => by rw [nb.2, n0.2, s2.2, Mem_append]; by_cases h : Mem l0 m <;> by_cases h' : Mem l1 m <;> simp [h, h']) (fun m => by rw [n0.2, s2.2]; rintro ⟨h, _, h'⟩; exact h' h)
  have b0 := lens_in64 n0.1 in0
  have bb := lens_in64 nb.1 inb
  have e0 := normal_len l0
  have e1 := meet_len l0 l1
  have e2 := minus_len l0 l1
  have e3 := minus_len l1 l0
  have q1 := normal_of_form m1.1
  have q2 := normal_of_form s1.1
  have q3 := normal_of_form s2.1
  obtain ⟨B, hB⟩ : ∃ B, 12000000 ≤ B := ⟨_, Nat.le_refl _⟩
  obtain ⟨L, hL⟩ : ∃ L, (normalL l0).length ≤ L := ⟨_, Nat.le_refl _⟩
  obtain ⟨K, hK⟩ : ∃ K, B + L < K := ⟨_, Nat.lt_succ_self _⟩
  refine ⟨K, ?_⟩
  unfold spoorlaw06_IvalSums.f
  rw [alive_ok (by omega), Option.bind_some, if_pos (by simp; omega), Option.bind_some, if_pos (by simp; omega), normal_eq (by omega), Option.bind_some, List.nil_append]
  generalize hnn : normalL l0 = n at *
  have key : ∀ (d k i : Nat), i ≤ n.length → n.length - i = d → d + B < k → spoorlaw06_IvalSums.l0 k l0 l1 true (l0 ++ l1) n (lens (n.take i)) (i : Int) = some true := by
    intro d
    induction d with
    | zero =>
      intro k i hi hd hk
      obtain ⟨k, rfl⟩ : ∃ m, k = m + 1 := ⟨k - 1, by omega⟩
      unfold spoorlaw06_IvalSums.l0
      have M0 := measure_eq l0 (by omega) i0 k (by omega)
      have M1 := measure_eq _ (by omega) im1 k (by omega)
      have M2 := measure_eq _ (by omega) is1 k (by omega)
      have M3 := measure_eq (l0 ++ l1) (by rw [List.length_append]; omega) ib k (by rw [List.length_append]; omega)
      have M4 := measure_eq _ (by omega) is2 k (by omega)
      have E1 := meet_eq hl0 hl1
      have E2 := minus_eq hl0 hl1
      have E3 := minus_eq hl1 hl0
      have E4 := meet_eq hl1 hl0
      rw [← hm] at E4
      have w1 : IntKind.u64.wrap (lens (meetL l0 l1) + lens (minusL l0 l1)) = lens n := by rw [← p1]; exact u64' b0.1 b0.2
      have w2 : IntKind.u64.wrap (lens n + lens (minusL l1 l0)) = lens (normalL (l0 ++ l1)) := by rw [← p2]; exact u64' bb.1 bb.2
      rw [hnn] at M0
      rw [q1] at M1
      rw [q2] at M2
      rw [q3] at M4
      rw [if_neg (by omega), List.take_of_length_le (by omega), M0, E1, E2, E3, E4]
      simp only [Option.bind_some]
      rw [M1, M2, M3, M4]
      simp only [Option.bind_some]
      rw [if_pos trivial, if_pos trivial, w1, if_pos rfl, w2, if_pos rfl, beq_self_eq_true]
    | succ d ih =>
      intro k i hi hd hk
      obtain ⟨k, rfl⟩ : ∃ m, k = m + 1 := ⟨k - 1, by omega⟩
      have hil : i < n.length := by omega
      have := ih k (i + 1) (by omega) (by omega) (by omega)
      have e1 : wrap64 ((i : Int) + 1) = ((i + 1 : Nat) : Int) := by rw [w64' (by omega) (by omega)]; rfl
      unfold spoorlaw06_IvalSums.l0
      rw [if_pos (show (i : Int) < (n.length : Int) from Int.ofNat_lt.2 hil), if_pos (Int.natCast_nonneg i), rd_get hil, length_eq (n0.1.1 _ (List.getElem_mem hil)) (in0 _ (List.getElem_mem hil)), Option.bind_some, sum_step n0.1 in0 hil, e1, this]
  have := key n.length K 0 (by omega) (by omega) (by omega)
  simpa [lens] using this
end Go.Proofs.Ytafpmcmpkgbgaaa.Pure
