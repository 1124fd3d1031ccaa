/- What the calls of IvalSets answer, by their contracts. -/
import Derived.Test.YtafpmcmpkgbgaaaPr1i
import Derived.Test.YtafpmcmpkgbgaaaMd
import Derived.Test.YtafpmcmpkgbgaaaPr0d
import Derived.Test.YtafpmcmpkgbgaaaXHa
import Derived.Test.YtafpmcmpkgbgaaaXSp
namespace Go.Proofs.Ytafpmcmpkgbgaaa.Pr
open Go.RowKit Go.Proofs.YtafpmcmpkgbgaaaW.PrintWords Go.Proofs.YtafpmcmpkgbgaaaW.PrintLast Go.Proofs.YtafpmcmpkgbgaaaW.PrintMore
open Go.Lib
set_option linter.unusedVariables false
set_option linter.unusedSimpArgs false
/-- A row that is answered. -/
def RowPost (xs : List S23) (W : World) (e : Ending) (W' : World) : Prop := ∃ (A : Option Addr) (c : Nat), e = .returned (.slice A xs.length c) ∧ xs.length ≤ c ∧ Hid (Kd.C k23 W' A xs.length xs) ∧ Hid (Below W.heap.size W W')
theorem rowPost_of {xs : List S23} {W W' : World} {e : Ending} (h : ∃ v0_ : Value, e = .returned (v0_) ∧ Kd.R k23 23 W' W.heap.size (fun _ => True) v0_ xs ∧ Below W.heap.size W W') : RowPost xs W e W' := by
  obtain ⟨v, rfl, hR, hB⟩ := h
  obtain ⟨A, c, rfl, hc, hC⟩ := Kd.R_reads hR
  exact ⟨A, c, rfl, hc, Lib.hid hC, Lib.hid hB⟩
theorem normal_run {A : Option Addr} {c : Nat} {l : List S23} {W : World} (hC : Kd.C k23 W A l.length l) (hc : l.length ≤ c) (hl : l.length ≤ 4194304) : Calls Try.prog 15 #[.slice A l.length c] W fun e W' => RowPost (normalL l) W e W' :=
  (ival_Normal.calls A c l (normalL l) W hC hc (normal_eq hl)).mono fun e W' h => rowPost_of h
theorem meet_run {A B : Option Addr} {c d : Nat} {a b : List S23} {W : World} (hA : Kd.C k23 W A a.length a) (hc : a.length ≤ c) (hB : Kd.C k23 W B b.length b) (hd : b.length ≤ d) (h : a.length ≤ 1048576) (h' : b.length ≤ 1048576) :
    Calls Try.prog 16 #[.slice A a.length c, .slice B b.length d] W fun e W' => RowPost (meetL a b) W e W' :=
  (ival_Meet.calls A c a B d b (meetL a b) W hA hc hB hd (meet_eq h h')).mono fun e W' h => rowPost_of h
theorem minus_run {A B : Option Addr} {c d : Nat} {a b : List S23} {W : World} (hA : Kd.C k23 W A a.length a) (hc : a.length ≤ c) (hB : Kd.C k23 W B b.length b) (hd : b.length ≤ d) (h : a.length ≤ 1048576) (h' : b.length ≤ 1048576) :
    Calls Try.prog 17 #[.slice A a.length c, .slice B b.length d] W fun e W' => RowPost (minusL a b) W e W' :=
  (ival_Minus.calls A c a B d b (minusL a b) W hA hc hB hd (minus_eq h h')).mono fun e W' h => rowPost_of h
theorem refNormal_eq {l : List S23} (hl : l.length ≤ 4194304) : spoorref06_Normal.f l = some (normalL l) := by
  unfold spoorref06_Normal.f spoorref06_pieces.f
  rw [if_pos (by simp; omega), pieces_normal]
  rfl
theorem refMeet_eq {a b : List S23} (h : a.length ≤ 1048576) (h' : b.length ≤ 1048576) : spoorref06_Meet.f a b = some (meetL a b) := by
  unfold spoorref06_Meet.f spoorref06_pieces.f
  rw [if_pos (by omega)]
  rfl
theorem refMinus_eq {a b : List S23} (h : a.length ≤ 1048576) (h' : b.length ≤ 1048576) : spoorref06_Minus.f a b = some (minusL a b) := by
  unfold spoorref06_Minus.f spoorref06_pieces.f
  rw [if_pos (by omega)]
  rfl
theorem refNormal_run {A : Option Addr} {c : Nat} {l : List S23} {W : World} (hC : Kd.C k23 W A l.length l) (hc : l.length ≤ c) (hl : l.length ≤ 4194304) : Calls Try.prog 21 #[.slice A l.length c] W fun e W' => RowPost (normalL l) W e W' :=
  (spoorref06_Normal.calls A c l (normalL l) W hC hc (refNormal_eq hl)).mono fun e W' h => rowPost_of h
theorem refMeet_run {A B : Option Addr} {c d : Nat} {a b : List S23} {W : World} (hA : Kd.C k23 W A a.length a) (hc : a.length ≤ c) (hB : Kd.C k23 W B b.length b) (hd : b.length ≤ d) (h : a.length ≤ 1048576) (h' : b.length ≤ 1048576) :
    Calls Try.prog 22 #[.slice A a.length c, .slice B b.length d] W fun e W' => RowPost (meetL a b) W e W' :=
  (spoorref06_Meet.calls A c a B d b (meetL a b) W hA hc hB hd (refMeet_eq h h')).mono fun e W' h => rowPost_of h
theorem refMinus_run {A B : Option Addr} {c d : Nat} {a b : List S23} {W : World} (hA : Kd.C k23 W A a.length a) (hc : a.length ≤ c) (hB : Kd.C k23 W B b.length b) (hd : b.length ≤ d) (h : a.length ≤ 1048576) (h' : b.length ≤ 1048576) :
    Calls Try.prog 23 #[.slice A a.length c, .slice B b.length d] W fun e W' => RowPost (minusL a b) W e W' :=
  (spoorref06_Minus.calls A c a B d b (minusL a b) W hA hc hB hd (refMinus_eq h h')).mono fun e W' h => rowPost_of h
theorem same_run {A B : Option Addr} {c d : Nat} {l : List S23} {W : World} (hA : Kd.C k23 W A l.length l) (hc : l.length ≤ c) (hB : Kd.C k23 W B l.length l) (hd : l.length ≤ d) (hl : l.length ≤ 16777216) :
    Calls Try.prog 20 #[.slice A l.length c, .slice B l.length d] W fun e W' => e = .returned (.bool true) ∧ Hid (Below W.heap.size W W') :=
  (spoorref06_Same.calls (l.length + 1) A c l B d l true W hA hc hB hd (same_refl l (by omega) _ (by omega))).mono fun e W' h => ⟨h.1, Lib.hid (by obtain ⟨_, n, rfl⟩ := h; exact pw_below_drewN (Below.refl _ _) n)⟩
theorem refLength_eq {x : S23} (h0 : x.f0 < x.f1) (h : (-9223372036854775808 ≤ x.f0 ∧ x.f0 ≤ 9223372036854775807) ∧ (-9223372036854775808 ≤ x.f1 ∧ x.f1 ≤ 9223372036854775807)) : spoorref06_Length.f x.f0 x.f1 = some (x.f1 - x.f0) := length_eq h0 h
theorem refMeasure_eq (l : List S23) (hl : l.length ≤ 4194304) (hI : In64 l) (k : Nat) (hk : 2 * l.length < k) : spoorref06_Measure.f k l = some (lens (normalL l)) := by
  unfold spoorref06_Measure.f
  rw [refNormal_eq hl, Option.bind_some]
  have hF := (normal_spec l).1
  have hN : In64 (normalL l) := in64_of hF (fun m h => ((normal_spec l).2 m).1 h) hI
  have hln := normal_len l
  generalize normalL l = n at *
  have key : ∀ (d k i : Nat), i ≤ n.length → n.length - i = d → d < k → spoorref06_Measure.l0 k n (lens (n.take i)) (i : Int) = some (lens n) := by
    intro d
    induction d with
    | zero =>
      intro k i hi hd hk
      obtain ⟨k, rfl⟩ : ∃ m, k = m + 1 := ⟨k - 1, by omega⟩
      unfold spoorref06_Measure.l0
      rw [if_neg (by omega), List.take_of_length_le (by omega)]
    | succ d ih =>
      intro k i hi hd hk
      obtain ⟨k, rfl⟩ : ∃ m, k = m + 1 := ⟨k - 1, by omega⟩
      have hil : i < n.length := by omega
      have := ih k (i + 1) (by omega) (by omega) (by omega)
      have hil1 : (i : Int) < (n.length : Int) := by omega
      have hil0 : 0 ≤ (i : Int) := by omega
      have e1 : wrap64 ((i : Int) + 1) = ((i + 1 : Nat) : Int) := by rw [w64' (by omega) (by omega)]; rfl
      unfold spoorref06_Measure.l0
      rw [if_pos hil1, if_pos hil0, rd_get hil, refLength_eq (hF.1 _ (List.getElem_mem hil)) (hN _ (List.getElem_mem hil)), Option.bind_some, sum_step hF hN hil, e1, this]
  have := key n.length k 0 (by omega) (by omega) (by omega)
  simpa [lens] using this
theorem measure_run {A : Option Addr} {c : Nat} {l : List S23} {W : World} (hC : Kd.C k23 W A l.length l) (hc : l.length ≤ c) (hl : l.length ≤ 4194304) (hI : In64 l) : Calls Try.prog 27 #[.slice A l.length c] W fun e W' => e = .returned (.int .u64 (lens (normalL l))) ∧ Hid (Below W.heap.size W W') :=
  (ival_Measure.calls (2 * l.length + 1) A c l _ W hC hc (measure_eq l hl hI _ (by omega))).mono fun e W' h => ⟨h.1, Lib.hid h.2⟩
theorem refMeasure_run {A : Option Addr} {c : Nat} {l : List S23} {W : World} (hC : Kd.C k23 W A l.length l) (hc : l.length ≤ c) (hl : l.length ≤ 4194304) (hI : In64 l) : Calls Try.prog 30 #[.slice A l.length c] W fun e W' => e = .returned (.int .u64 (lens (normalL l))) ∧ Hid (Below W.heap.size W W') :=
  (spoorref06_Measure.calls (2 * l.length + 1) A c l _ W hC hc (refMeasure_eq l hl hI _ (by omega))).mono fun e W' h => ⟨h.1, Lib.hid h.2⟩
theorem has_eq (l : List S23) (m : Int) (hl : l.length < 4611686018427387904) (k : Nat) (hk : l.length < k) : spoorref06_Has.f k l m = some (memB l m) := by
  unfold spoorref06_Has.f
  have key : ∀ (d k i : Nat), i ≤ l.length → l.length - i = d → d < k → spoorref06_Has.l0 k l m (i : Int) = some (memB (l.drop i) m) := by
    intro d
    induction d with
    | zero =>
      intro k i hi hd hk
      obtain ⟨k, rfl⟩ : ∃ m, k = m + 1 := ⟨k - 1, by omega⟩
      unfold spoorref06_Has.l0
      rw [if_neg (by omega), List.drop_eq_nil_of_le (by omega)]
      rfl
    | succ d ih =>
      intro k i hi hd hk
      obtain ⟨k, rfl⟩ : ∃ m, k = m + 1 := ⟨k - 1, by omega⟩
      have hil : i < l.length := by omega
      have := ih k (i + 1) (by omega) (by omega) (by omega)
      have hil1 : (i : Int) < (l.length : Int) := by omega
      have hil0 : 0 ≤ (i : Int) := by omega
      have e1 : wrap64 ((i : Int) + 1) = ((i + 1 : Nat) : Int) := by rw [w64' (by omega) (by omega)]; rfl
      unfold spoorref06_Has.l0
      rw [if_pos hil1, if_pos hil0, rd_get hil, e1, this, List.drop_eq_getElem_cons hil]
      unfold memB
      rw [List.any_cons]
      by_cases h1 : (l[i]).f0 ≤ m
      · rw [if_pos h1]
        by_cases h2 : m < (l[i]).f1
        · rw [if_pos h2]; simp [h1, h2]
        · rw [if_neg h2]; simp [h1, h2]
      · rw [if_neg h1]; simp [h1]
  have := key l.length k 0 (by omega) (by omega) (by omega)
  simpa using this
theorem has_run {A : Option Addr} {c : Nat} {l : List S23} {m : Int} {W : World} (hC : Kd.C k23 W A l.length l) (hc : l.length ≤ c) : Calls Try.prog 31 #[.slice A l.length c, .int .i64 m] W fun e W' => e = .returned (.bool (memB l m)) ∧ Hid (Below W.heap.size W W') :=
  (ival_Has.calls A c l m (memB l m) W hC hc rfl).mono fun e W' h => ⟨h.1, Lib.hid h.2⟩
theorem refHas_run {A : Option Addr} {c : Nat} {l : List S23} {m : Int} {W : World} (hC : Kd.C k23 W A l.length l) (hc : l.length ≤ c) (hl : l.length ≤ 4194304) : Calls Try.prog 32 #[.slice A l.length c, .int .i64 m] W fun e W' => e = .returned (.bool (memB l m)) ∧ Hid (Below W.heap.size W W') :=
  (spoorref06_Has.calls (l.length + 1) A c l m (memB l m) W hC hc (has_eq l m (by omega) _ (by omega))).mono fun e W' h => ⟨h.1, Lib.hid (by obtain ⟨_, n, rfl⟩ := h; exact pw_below_drewN (Below.refl _ _) n)⟩
theorem alive_run {W : World} : Calls Try.prog 10 #[] W fun e W' => e = .returned (.bool true) ∧ Hid (Below W.heap.size W W') :=
  (spoorlaw06_alive.calls 20 true W (alive_ok (Nat.le_refl _))).mono fun e W' h => ⟨h.1, Lib.hid h.2⟩
/-! kept -/
def markS : S23 := ⟨-79, 80⟩
theorem kept_l0 (xs l : List S23) (hx : xs.length = l.length + 4) (hl : l.length ≤ 4194304) (hp : ∀ i, l.length ≤ i → i < xs.length → xs[i]? = some ⟨-77, -78⟩) :
    ∀ (d k i : Nat) (ys : List S23), i ≤ xs.length → xs.length - i = d → d < k → ys.length = xs.length → ys.drop i = xs.drop i → ys.take i = List.replicate i markS → spoorlaw06_kept.l0 k ys l true (i : Int) = some (true, List.replicate xs.length markS) := by
  intro d
  induction d with
  | zero =>
    intro k i ys hi hd hk hy _ ht
    obtain ⟨k, rfl⟩ : ∃ m, k = m + 1 := ⟨k - 1, by omega⟩
    simp only [spoorlaw06_kept.l0]
    rw [if_neg (by omega)]
    have : i = xs.length := by omega
    subst this
    rw [List.take_of_length_le (by omega)] at ht
    rw [ht]
  | succ d ih =>
    intro k i ys hi hd hk hy hdr ht
    obtain ⟨k, rfl⟩ : ∃ m, k = m + 1 := ⟨k - 1, by omega⟩
    have hil : i < ys.length := by omega
    have h1 : (i : Int) < (ys.length : Int) := by omega
    have h0 : 0 ≤ (i : Int) := by omega
    have step := ih k (i + 1) (ys.set i markS) (by omega) (by omega) (by omega) (by rw [List.length_set]; exact hy)
      (by rw [List.drop_set_of_lt (Nat.lt_succ_self i)]; have h2 := congrArg (List.drop 1) hdr; rw [List.drop_drop, List.drop_drop] at h2; exact h2)
      (by rw [List.take_succ_eq_append_getElem (by simpa using hil), List.getElem_set_self, List.take_set_of_le (Nat.le_refl _), ht, List.replicate_succ'])
    have e1 : wrap64 ((i : Int) + 1) = ((i + 1 : Nat) : Int) := by rw [w64' (by omega) (by omega)]; rfl
    simp only [spoorlaw06_kept.l0]
    rw [if_pos h1, if_pos trivial]
    unfold spoorlaw06_of.f
    simp only [Option.bind_some]
    by_cases hc : (i : Int) < (l.length : Int)
    · rw [if_pos hc, if_pos h0, e1]
      exact step
    · have hy2 : ys[i]? = some ⟨-77, -78⟩ := by
        have a1 : (ys.drop i)[0]? = (xs.drop i)[0]? := by rw [hdr]
        rw [List.getElem?_drop, List.getElem?_drop, Nat.add_zero] at a1
        rw [a1]; exact hp i (by omega) (by omega)
      have hrd : rd_T23 ys (i : Int) = ⟨-77, -78⟩ := by unfold rd_T23; simp [List.getD, hy2]
      rw [if_neg hc, if_pos h0, hrd, e1]
      exact step
theorem kept_eq (l : List S23) (hl : l.length ≤ 4194304) : spoorlaw06_kept.f (l.length + 10) (l ++ pad4) l = some (true, List.replicate (l.length + 4) markS) := by
  have hx : (l ++ pad4).length = l.length + 4 := by simp [pad4]
  have hw : wrap64 ((l.length : Int) + 4) = (l.length : Int) + 4 := w64' (by omega) (by omega)
  have h1 : ((l ++ pad4).length : Int) = (l.length : Int) + 4 := by omega
  have key := kept_l0 (l ++ pad4) l hx hl (fun i h h' => pad_at h (by omega)) (l.length + 4) (l.length + 9) 0 (l ++ pad4) (by omega) (by omega) (by omega) rfl rfl rfl
  rw [hx] at key
  have h2 : (0 : Int) ≤ (l.length : Int) := by omega
  have h3 : (l.length : Int) ≤ ((l ++ pad4).length : Int) := by omega
  have hs := same_refl l (by omega) (l.length + 10) (by omega)
  unfold spoorlaw06_kept.f
  rw [hw, if_pos h1, if_pos h2, if_pos h3, Int.toNat_natCast, List.take_left, hs, Option.bind_some]
  simp only [spoorlaw06_kept.j0]
  exact key
end Go.Proofs.Ytafpmcmpkgbgaaa.Pr
