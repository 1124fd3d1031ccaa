-- by xprint.py, a program of the session's own, over the kit's print. Not trusted: Lean checks it.
import Derived.Test.YtafpmcmpkgbgaaaPr0
import Derived.Test.YtafpmcmpkgbgaaaPrea
import Derived.Test.YtafpmcmpkgbgaaaPr0a
import Derived.Test.YtafpmcmpkgbgaaaPr0b
import Derived.Test.YtafpmcmpkgbgaaaXNo
import Derived.Test.YtafpmcmpkgbgaaaSh
namespace Go.Proofs.Ytafpmcmpkgbgaaa.Pr
open Go.RowKit Go.Proofs.YtafpmcmpkgbgaaaW.PrintWords Go.Proofs.YtafpmcmpkgbgaaaW.PrintLast Go.Proofs.YtafpmcmpkgbgaaaW.PrintMore
attribute [local go_sem] max2_int min2_int max_two min_two max_three min_three max_four min_four   -- for this text's walks alone
set_option linter.unusedVariables false
set_option linter.unusedSimpArgs false
def bz1b_0 : Array Bool := #[false, false, false, false, false, false, false, false, false, false, false, false, false, false, false, false, false, false, false, false, false, false, false, false]
def bz1b_1 : Array Bool := #[true, false, false, false, false, false, false, false, false, false, false, false, false, false, false, false, false, false, false, false, false, false, false, false]
def bz1b_2 : Array Bool := #[true, true, false, false, false, false, false, false, false, false, false, false, false, false, false, false, false, false, false, false, false, false, false, false]
def bz1b_3 : Array Bool := #[true, true, true, false, false, false, false, false, false, false, false, false, false, false, false, false, false, false, false, false, false, false, false, false]
def bz1b_4 : Array Bool := #[true, true, true, true, false, false, false, false, false, false, false, false, false, false, false, false, false, false, false, false, false, false, false, false]
def bz1b_5 : Array Bool := #[true, true, true, true, true, false, false, false, false, false, false, false, false, false, false, false, false, false, false, false, false, false, false, false]
def bz1b_6 : Array Bool := #[true, true, true, true, true, true, false, false, false, false, false, false, false, false, false, false, false, false, false, false, false, false, false, false]
def bz1b_7 : Array Bool := #[true, true, true, true, true, true, true, false, false, false, false, false, false, false, false, false, false, false, false, false, false, false, false, false]
def bz1b_8 : Array Bool := #[true, true, true, true, true, true, true, true, false, false, false, false, false, false, false, false, false, false, false, false, false, false, false, false]
def bz1b_9 : Array Bool := #[true, true, true, true, true, true, true, true, true, false, false, false, false, false, false, false, false, false, false, false, false, false, false, false]
def bz1b_10 : Array Bool := #[true, true, true, true, true, true, true, true, true, true, false, false, false, false, false, false, false, false, false, false, false, false, false, false]
def bz1b_11 : Array Bool := #[true, true, true, true, true, true, true, true, true, true, true, false, false, false, false, false, false, false, false, false, false, false, false, false]
def bz1b_12 : Array Bool := #[true, true, true, true, true, true, true, true, true, true, true, true, false, false, false, false, false, false, false, false, false, false, false, false]
def bz1b_13 : Array Bool := #[true, true, true, true, true, true, true, true, true, true, true, true, true, false, false, false, false, false, false, false, false, false, false, false]
def bz1b_14 : Array Bool := #[true, true, true, true, true, true, true, true, true, true, true, true, true, true, false, false, false, false, false, false, false, false, false, false]
def bz1b_15 : Array Bool := #[true, true, true, true, true, true, true, true, true, true, true, true, true, true, true, false, false, false, false, false, false, false, false, false]
def bz1b_16 : Array Bool := #[true, true, true, true, true, true, true, true, true, true, true, true, true, true, true, true, false, false, false, false, false, false, false, false]
def bz1b_17 : Array Bool := #[true, true, true, true, true, true, true, true, true, true, true, true, true, true, true, true, true, false, false, false, false, false, false, false]
def bz1b_18 : Array Bool := #[true, true, true, true, true, true, true, true, true, true, true, true, true, true, true, true, true, true, false, false, false, false, false, false]
def bz1b_19 : Array Bool := #[true, true, true, true, true, true, true, true, true, true, true, true, true, true, true, true, true, true, true, false, false, false, false, false]
def bz1b_20 : Array Bool := #[true, true, true, true, true, true, true, true, true, true, true, true, true, true, true, true, true, true, true, true, false, false, false, false]
def bz1b_21 : Array Bool := #[true, true, true, true, true, true, true, true, true, true, true, true, true, true, true, true, true, true, true, true, true, false, false, false]
def bz1b_22 : Array Bool := #[true, true, true, true, true, true, true, true, true, true, true, true, true, true, true, true, true, true, true, true, true, true, false, false]
def bz1b_23 : Array Bool := #[true, true, true, true, true, true, true, true, true, true, true, true, true, true, true, true, true, true, true, true, true, true, true, false]
def bz1b_24 : Array Bool := #[true, true, true, true, true, true, true, true, true, true, true, true, true, true, true, true, true, true, true, true, true, true, true, true]

attribute [local go_sem high] eqA23
/-! ### spoorlaw06_alive: function 10 -/
def spoorlaw06_alive.f (k : Nat)  : Option (Bool) := (spoorlaw06_of.f 5 7).bind fun bt125 => ((spoorlaw06_of.f 1 3).bind fun bt127 => ((spoorlaw06_of.f 7 9).bind fun bt129 => ((spoorlaw06_of.f 4 4).bind fun bt131 => ((spoorlaw06_of.f 2 2).bind fun bt133 => ((ival_Normal.f (([(⟨bt125.1, bt125.2⟩ : S23), (⟨bt127.1, bt127.2⟩ : S23), (⟨bt129.1, bt129.2⟩ : S23), (⟨bt131.1, bt131.2⟩ : S23), (⟨bt133.1, bt133.2⟩ : S23)] : List (S23)))).bind fun t138 => ((spoorlaw06_of.f 1 12).bind fun bt141 => ((spoorlaw06_of.f 3 4).bind fun bt146 => ((spoorlaw06_of.f 6 8).bind fun bt148 => ((spoorlaw06_of.f 8 9).bind fun bt150 => ((ival_Minus.f (([(⟨bt141.1, bt141.2⟩ : S23)] : List (S23))) (([(⟨bt146.1, bt146.2⟩ : S23), (⟨bt148.1, bt148.2⟩ : S23), (⟨bt150.1, bt150.2⟩ : S23)] : List (S23)))).bind fun t155 => ((spoorlaw06_of.f 9 12).bind fun bt158 => ((spoorlaw06_of.f 5 9).bind fun bt160 => ((ival_Clip.f bt158.1 bt158.2 bt160.1 bt160.2).bind fun bt162 => ((spoorlaw06_of.f 1 3).bind fun bt165 => ((spoorlaw06_of.f 5 9).bind fun bt167 => ((spoorref06_Same.f k t138 (([(⟨bt165.1, bt165.2⟩ : S23), (⟨bt167.1, bt167.2⟩ : S23)] : List (S23)))).bind fun t172 => (if t172 = true then ((spoorlaw06_of.f 1 3).bind fun bt173 => ((spoorlaw06_of.f 4 6).bind fun bt175 => ((spoorlaw06_of.f 9 12).bind fun bt177 => ((spoorref06_Same.f k t155 (([(⟨bt173.1, bt173.2⟩ : S23), (⟨bt175.1, bt175.2⟩ : S23), (⟨bt177.1, bt177.2⟩ : S23)] : List (S23)))).bind fun t182 => (if t182 = true then ((spoorlaw06_of.f 9 9).bind fun bt183 => (if (bt162.1 == bt183.1 && (bt162.2 == bt183.2)) = true then ((spoorlaw06_of.f 3 9).bind fun bt185 => ((ival_Length.f bt185.1 bt185.2).bind fun t187 => (some (t187 == 6)))) else (some false))) else (some false)))))) else (some false))))))))))))))))))
theorem spoorlaw06_alive.mono : ∀ k, LeO (spoorlaw06_alive.f k ) (spoorlaw06_alive.f (k + 1) ) := by
  intro  k
  unfold spoorlaw06_alive.f
  repeat' first
      | (with_reducible exact spoorref06_Same.mono _ _ _)
      | (with_reducible exact LeO.refl _)
      | (with_reducible exact LeO.none _)
      | (with_reducible refine LeO.ite ?_ ?_)
      | (with_reducible refine LeO.bind ?_ (fun _ => ?_))
      | exact spoorref06_Same.mono _ _ _
      | exact LeO.none _
      | refine LeO.ite ?_ ?_
      | refine LeO.bind ?_ (fun _ => ?_)
def spoorlaw06_alive.T4 : Bool × List (List Nat × List Nat) := (true, [([], []), ([], []), ([1], []), ([1, 2], [1, 2]), ([0, 3, 2], [0, 3]), ([4, 4], [4]), ([5], [5]), ([5, 5], [5]), ([7, 5], [5]), ([8, 5], [5]), ([7, 8, 9, 5], [5, 7, 8, 9]), ([6, 10, 9, 5], [5, 6, 10]), ([5, 11], [5, 11]), ([12, 11], [12]), ([13], [13]), ([13, 13], [13]), ([14, 15, 13], [13, 14, 15]), ([13, 16], [13, 16]), ([17, 15], [17]), ([18, 18], [18]), ([19, 19, 18], [18, 19]), ([20, 18], [18, 20]), ([18, 21], [18, 21]), ([22, 20, 0, 1, 2, 3, 4, 5, 6, 7, 8, 9, 10, 11, 12, 13, 14, 15, 16, 17, 18, 19, 20, 21, 22], [22])])
def spoorlaw06_alive.B4 : List Nat := [0, 0, 2, 6, 15, 31, 63, 63, 191, 447, 959, 2047, 4095, 8191, 16383, 16383, 65535, 131071, 262143, 524287, 1048575, 2097151, 4194303, 8388607]
theorem spoorlaw06_alive.tab4 : rtab .any (opsOf Try.f10 4) = spoorlaw06_alive.T4 := by kernel_rfl
theorem spoorlaw06_alive.bits4 : waitsOk spoorlaw06_alive.T4.2 spoorlaw06_alive.B4 = true := by kernel_rfl
set_option maxHeartbeats 8000000 in
set_option maxRecDepth 100000 in
theorem spoorlaw06_alive.calls (k : Nat)  (r : Bool) (w : World) (h : spoorlaw06_alive.f k  = some r) :
    Calls Try.prog 10 #[] w fun e w' => e = .returned (.bool r) ∧ Below w.heap.size w w' := by
  have hu23 := Try.underlying23
  have HB := Aside0.mk (Below.refl w.heap.size w)
  have H : ((spoorlaw06_of.f 5 7).bind fun bt125 => ((spoorlaw06_of.f 1 3).bind fun bt127 => ((spoorlaw06_of.f 7 9).bind fun bt129 => ((spoorlaw06_of.f 4 4).bind fun bt131 => ((spoorlaw06_of.f 2 2).bind fun bt133 => ((ival_Normal.f (([(⟨bt125.1, bt125.2⟩ : S23), (⟨bt127.1, bt127.2⟩ : S23), (⟨bt129.1, bt129.2⟩ : S23), (⟨bt131.1, bt131.2⟩ : S23), (⟨bt133.1, bt133.2⟩ : S23)] : List (S23)))).bind fun t138 => ((spoorlaw06_of.f 1 12).bind fun bt141 => ((spoorlaw06_of.f 3 4).bind fun bt146 => ((spoorlaw06_of.f 6 8).bind fun bt148 => ((spoorlaw06_of.f 8 9).bind fun bt150 => ((ival_Minus.f (([(⟨bt141.1, bt141.2⟩ : S23)] : List (S23))) (([(⟨bt146.1, bt146.2⟩ : S23), (⟨bt148.1, bt148.2⟩ : S23), (⟨bt150.1, bt150.2⟩ : S23)] : List (S23)))).bind fun t155 => ((spoorlaw06_of.f 9 12).bind fun bt158 => ((spoorlaw06_of.f 5 9).bind fun bt160 => ((ival_Clip.f bt158.1 bt158.2 bt160.1 bt160.2).bind fun bt162 => ((spoorlaw06_of.f 1 3).bind fun bt165 => ((spoorlaw06_of.f 5 9).bind fun bt167 => ((spoorref06_Same.f k t138 (([(⟨bt165.1, bt165.2⟩ : S23), (⟨bt167.1, bt167.2⟩ : S23)] : List (S23)))).bind fun t172 => (if t172 = true then ((spoorlaw06_of.f 1 3).bind fun bt173 => ((spoorlaw06_of.f 4 6).bind fun bt175 => ((spoorlaw06_of.f 9 12).bind fun bt177 => ((spoorref06_Same.f k t155 (([(⟨bt173.1, bt173.2⟩ : S23), (⟨bt175.1, bt175.2⟩ : S23), (⟨bt177.1, bt177.2⟩ : S23)] : List (S23)))).bind fun t182 => (if t182 = true then ((spoorlaw06_of.f 9 9).bind fun bt183 => (if (bt162.1 == bt183.1 && (bt162.2 == bt183.2)) = true then ((spoorlaw06_of.f 3 9).bind fun bt185 => ((ival_Length.f bt185.1 bt185.2).bind fun t187 => (some (t187 == 6)))) else (some false))) else (some false)))))) else (some false))))))))))))))))))) = some r := h
  clear h
  replace H := Option.bind_eq_some_iff.mp H
  obtain ⟨⟨t125, t126⟩, A10, H⟩ := H
  replace H : ((spoorlaw06_of.f 1 3).bind fun bt127 => ((spoorlaw06_of.f 7 9).bind fun bt129 => ((spoorlaw06_of.f 4 4).bind fun bt131 => ((spoorlaw06_of.f 2 2).bind fun bt133 => ((ival_Normal.f (([(⟨t125, t126⟩ : S23), (⟨bt127.1, bt127.2⟩ : S23), (⟨bt129.1, bt129.2⟩ : S23), (⟨bt131.1, bt131.2⟩ : S23), (⟨bt133.1, bt133.2⟩ : S23)] : List (S23)))).bind fun t138 => ((spoorlaw06_of.f 1 12).bind fun bt141 => ((spoorlaw06_of.f 3 4).bind fun bt146 => ((spoorlaw06_of.f 6 8).bind fun bt148 => ((spoorlaw06_of.f 8 9).bind fun bt150 => ((ival_Minus.f (([(⟨bt141.1, bt141.2⟩ : S23)] : List (S23))) (([(⟨bt146.1, bt146.2⟩ : S23), (⟨bt148.1, bt148.2⟩ : S23), (⟨bt150.1, bt150.2⟩ : S23)] : List (S23)))).bind fun t155 => ((spoorlaw06_of.f 9 12).bind fun bt158 => ((spoorlaw06_of.f 5 9).bind fun bt160 => ((ival_Clip.f bt158.1 bt158.2 bt160.1 bt160.2).bind fun bt162 => ((spoorlaw06_of.f 1 3).bind fun bt165 => ((spoorlaw06_of.f 5 9).bind fun bt167 => ((spoorref06_Same.f k t138 (([(⟨bt165.1, bt165.2⟩ : S23), (⟨bt167.1, bt167.2⟩ : S23)] : List (S23)))).bind fun t172 => (if t172 = true then ((spoorlaw06_of.f 1 3).bind fun bt173 => ((spoorlaw06_of.f 4 6).bind fun bt175 => ((spoorlaw06_of.f 9 12).bind fun bt177 => ((spoorref06_Same.f k t155 (([(⟨bt173.1, bt173.2⟩ : S23), (⟨bt175.1, bt175.2⟩ : S23), (⟨bt177.1, bt177.2⟩ : S23)] : List (S23)))).bind fun t182 => (if t182 = true then ((spoorlaw06_of.f 9 9).bind fun bt183 => (if (bt162.1 == bt183.1 && (bt162.2 == bt183.2)) = true then ((spoorlaw06_of.f 3 9).bind fun bt185 => ((ival_Length.f bt185.1 bt185.2).bind fun t187 => (some (t187 == 6)))) else (some false))) else (some false)))))) else (some false)))))))))))))))))) = some r := H
  have A1 := Aside0.mk A10
  clear A10
  replace H := Option.bind_eq_some_iff.mp H
  obtain ⟨⟨t127, t128⟩, A20, H⟩ := H
  replace H : ((spoorlaw06_of.f 7 9).bind fun bt129 => ((spoorlaw06_of.f 4 4).bind fun bt131 => ((spoorlaw06_of.f 2 2).bind fun bt133 => ((ival_Normal.f (([(⟨t125, t126⟩ : S23), (⟨t127, t128⟩ : S23), (⟨bt129.1, bt129.2⟩ : S23), (⟨bt131.1, bt131.2⟩ : S23), (⟨bt133.1, bt133.2⟩ : S23)] : List (S23)))).bind fun t138 => ((spoorlaw06_of.f 1 12).bind fun bt141 => ((spoorlaw06_of.f 3 4).bind fun bt146 => ((spoorlaw06_of.f 6 8).bind fun bt148 => ((spoorlaw06_of.f 8 9).bind fun bt150 => ((ival_Minus.f (([(⟨bt141.1, bt141.2⟩ : S23)] : List (S23))) (([(⟨bt146.1, bt146.2⟩ : S23), (⟨bt148.1, bt148.2⟩ : S23), (⟨bt150.1, bt150.2⟩ : S23)] : List (S23)))).bind fun t155 => ((spoorlaw06_of.f 9 12).bind fun bt158 => ((spoorlaw06_of.f 5 9).bind fun bt160 => ((ival_Clip.f bt158.1 bt158.2 bt160.1 bt160.2).bind fun bt162 => ((spoorlaw06_of.f 1 3).bind fun bt165 => ((spoorlaw06_of.f 5 9).bind fun bt167 => ((spoorref06_Same.f k t138 (([(⟨bt165.1, bt165.2⟩ : S23), (⟨bt167.1, bt167.2⟩ : S23)] : List (S23)))).bind fun t172 => (if t172 = true then ((spoorlaw06_of.f 1 3).bind fun bt173 => ((spoorlaw06_of.f 4 6).bind fun bt175 => ((spoorlaw06_of.f 9 12).bind fun bt177 => ((spoorref06_Same.f k t155 (([(⟨bt173.1, bt173.2⟩ : S23), (⟨bt175.1, bt175.2⟩ : S23), (⟨bt177.1, bt177.2⟩ : S23)] : List (S23)))).bind fun t182 => (if t182 = true then ((spoorlaw06_of.f 9 9).bind fun bt183 => (if (bt162.1 == bt183.1 && (bt162.2 == bt183.2)) = true then ((spoorlaw06_of.f 3 9).bind fun bt185 => ((ival_Length.f bt185.1 bt185.2).bind fun t187 => (some (t187 == 6)))) else (some false))) else (some false)))))) else (some false))))))))))))))))) = some r := H
  have A2 := Aside0.mk A20
  clear A20
  replace H := Option.bind_eq_some_iff.mp H
  obtain ⟨⟨t129, t130⟩, A30, H⟩ := H
  replace H : ((spoorlaw06_of.f 4 4).bind fun bt131 => ((spoorlaw06_of.f 2 2).bind fun bt133 => ((ival_Normal.f (([(⟨t125, t126⟩ : S23), (⟨t127, t128⟩ : S23), (⟨t129, t130⟩ : S23), (⟨bt131.1, bt131.2⟩ : S23), (⟨bt133.1, bt133.2⟩ : S23)] : List (S23)))).bind fun t138 => ((spoorlaw06_of.f 1 12).bind fun bt141 => ((spoorlaw06_of.f 3 4).bind fun bt146 => ((spoorlaw06_of.f 6 8).bind fun bt148 => ((spoorlaw06_of.f 8 9).bind fun bt150 => ((ival_Minus.f (([(⟨bt141.1, bt141.2⟩ : S23)] : List (S23))) (([(⟨bt146.1, bt146.2⟩ : S23), (⟨bt148.1, bt148.2⟩ : S23), (⟨bt150.1, bt150.2⟩ : S23)] : List (S23)))).bind fun t155 => ((spoorlaw06_of.f 9 12).bind fun bt158 => ((spoorlaw06_of.f 5 9).bind fun bt160 => ((ival_Clip.f bt158.1 bt158.2 bt160.1 bt160.2).bind fun bt162 => ((spoorlaw06_of.f 1 3).bind fun bt165 => ((spoorlaw06_of.f 5 9).bind fun bt167 => ((spoorref06_Same.f k t138 (([(⟨bt165.1, bt165.2⟩ : S23), (⟨bt167.1, bt167.2⟩ : S23)] : List (S23)))).bind fun t172 => (if t172 = true then ((spoorlaw06_of.f 1 3).bind fun bt173 => ((spoorlaw06_of.f 4 6).bind fun bt175 => ((spoorlaw06_of.f 9 12).bind fun bt177 => ((spoorref06_Same.f k t155 (([(⟨bt173.1, bt173.2⟩ : S23), (⟨bt175.1, bt175.2⟩ : S23), (⟨bt177.1, bt177.2⟩ : S23)] : List (S23)))).bind fun t182 => (if t182 = true then ((spoorlaw06_of.f 9 9).bind fun bt183 => (if (bt162.1 == bt183.1 && (bt162.2 == bt183.2)) = true then ((spoorlaw06_of.f 3 9).bind fun bt185 => ((ival_Length.f bt185.1 bt185.2).bind fun t187 => (some (t187 == 6)))) else (some false))) else (some false)))))) else (some false)))))))))))))))) = some r := H
  have A3 := Aside0.mk A30
  clear A30
  replace H := Option.bind_eq_some_iff.mp H
  obtain ⟨⟨t131, t132⟩, A40, H⟩ := H
  replace H : ((spoorlaw06_of.f 2 2).bind fun bt133 => ((ival_Normal.f (([(⟨t125, t126⟩ : S23), (⟨t127, t128⟩ : S23), (⟨t129, t130⟩ : S23), (⟨t131, t132⟩ : S23), (⟨bt133.1, bt133.2⟩ : S23)] : List (S23)))).bind fun t138 => ((spoorlaw06_of.f 1 12).bind fun bt141 => ((spoorlaw06_of.f 3 4).bind fun bt146 => ((spoorlaw06_of.f 6 8).bind fun bt148 => ((spoorlaw06_of.f 8 9).bind fun bt150 => ((ival_Minus.f (([(⟨bt141.1, bt141.2⟩ : S23)] : List (S23))) (([(⟨bt146.1, bt146.2⟩ : S23), (⟨bt148.1, bt148.2⟩ : S23), (⟨bt150.1, bt150.2⟩ : S23)] : List (S23)))).bind fun t155 => ((spoorlaw06_of.f 9 12).bind fun bt158 => ((spoorlaw06_of.f 5 9).bind fun bt160 => ((ival_Clip.f bt158.1 bt158.2 bt160.1 bt160.2).bind fun bt162 => ((spoorlaw06_of.f 1 3).bind fun bt165 => ((spoorlaw06_of.f 5 9).bind fun bt167 => ((spoorref06_Same.f k t138 (([(⟨bt165.1, bt165.2⟩ : S23), (⟨bt167.1, bt167.2⟩ : S23)] : List (S23)))).bind fun t172 => (if t172 = true then ((spoorlaw06_of.f 1 3).bind fun bt173 => ((spoorlaw06_of.f 4 6).bind fun bt175 => ((spoorlaw06_of.f 9 12).bind fun bt177 => ((spoorref06_Same.f k t155 (([(⟨bt173.1, bt173.2⟩ : S23), (⟨bt175.1, bt175.2⟩ : S23), (⟨bt177.1, bt177.2⟩ : S23)] : List (S23)))).bind fun t182 => (if t182 = true then ((spoorlaw06_of.f 9 9).bind fun bt183 => (if (bt162.1 == bt183.1 && (bt162.2 == bt183.2)) = true then ((spoorlaw06_of.f 3 9).bind fun bt185 => ((ival_Length.f bt185.1 bt185.2).bind fun t187 => (some (t187 == 6)))) else (some false))) else (some false)))))) else (some false))))))))))))))) = some r := H
  have A4 := Aside0.mk A40
  clear A40
  replace H := Option.bind_eq_some_iff.mp H
  obtain ⟨⟨t133, t134⟩, A50, H⟩ := H
  replace H : ((ival_Normal.f (([(⟨t125, t126⟩ : S23), (⟨t127, t128⟩ : S23), (⟨t129, t130⟩ : S23), (⟨t131, t132⟩ : S23), (⟨t133, t134⟩ : S23)] : List (S23)))).bind fun t138 => ((spoorlaw06_of.f 1 12).bind fun bt141 => ((spoorlaw06_of.f 3 4).bind fun bt146 => ((spoorlaw06_of.f 6 8).bind fun bt148 => ((spoorlaw06_of.f 8 9).bind fun bt150 => ((ival_Minus.f (([(⟨bt141.1, bt141.2⟩ : S23)] : List (S23))) (([(⟨bt146.1, bt146.2⟩ : S23), (⟨bt148.1, bt148.2⟩ : S23), (⟨bt150.1, bt150.2⟩ : S23)] : List (S23)))).bind fun t155 => ((spoorlaw06_of.f 9 12).bind fun bt158 => ((spoorlaw06_of.f 5 9).bind fun bt160 => ((ival_Clip.f bt158.1 bt158.2 bt160.1 bt160.2).bind fun bt162 => ((spoorlaw06_of.f 1 3).bind fun bt165 => ((spoorlaw06_of.f 5 9).bind fun bt167 => ((spoorref06_Same.f k t138 (([(⟨bt165.1, bt165.2⟩ : S23), (⟨bt167.1, bt167.2⟩ : S23)] : List (S23)))).bind fun t172 => (if t172 = true then ((spoorlaw06_of.f 1 3).bind fun bt173 => ((spoorlaw06_of.f 4 6).bind fun bt175 => ((spoorlaw06_of.f 9 12).bind fun bt177 => ((spoorref06_Same.f k t155 (([(⟨bt173.1, bt173.2⟩ : S23), (⟨bt175.1, bt175.2⟩ : S23), (⟨bt177.1, bt177.2⟩ : S23)] : List (S23)))).bind fun t182 => (if t182 = true then ((spoorlaw06_of.f 9 9).bind fun bt183 => (if (bt162.1 == bt183.1 && (bt162.2 == bt183.2)) = true then ((spoorlaw06_of.f 3 9).bind fun bt185 => ((ival_Length.f bt185.1 bt185.2).bind fun t187 => (some (t187 == 6)))) else (some false))) else (some false)))))) else (some false)))))))))))))) = some r := H
  have A5 := Aside0.mk A50
  clear A50
  obtain ⟨y135, hy135⟩ : ∃ y_ : List (S23), y_ = (([(⟨t125, t126⟩ : S23), (⟨t127, t128⟩ : S23), (⟨t129, t130⟩ : S23), (⟨t131, t132⟩ : S23), (⟨t133, t134⟩ : S23)] : List (S23))) := ⟨_, rfl⟩
  replace H : ((ival_Normal.f y135).bind fun t138 => ((spoorlaw06_of.f 1 12).bind fun bt141 => ((spoorlaw06_of.f 3 4).bind fun bt146 => ((spoorlaw06_of.f 6 8).bind fun bt148 => ((spoorlaw06_of.f 8 9).bind fun bt150 => ((ival_Minus.f (([(⟨bt141.1, bt141.2⟩ : S23)] : List (S23))) (([(⟨bt146.1, bt146.2⟩ : S23), (⟨bt148.1, bt148.2⟩ : S23), (⟨bt150.1, bt150.2⟩ : S23)] : List (S23)))).bind fun t155 => ((spoorlaw06_of.f 9 12).bind fun bt158 => ((spoorlaw06_of.f 5 9).bind fun bt160 => ((ival_Clip.f bt158.1 bt158.2 bt160.1 bt160.2).bind fun bt162 => ((spoorlaw06_of.f 1 3).bind fun bt165 => ((spoorlaw06_of.f 5 9).bind fun bt167 => ((spoorref06_Same.f k t138 (([(⟨bt165.1, bt165.2⟩ : S23), (⟨bt167.1, bt167.2⟩ : S23)] : List (S23)))).bind fun t172 => (if t172 = true then ((spoorlaw06_of.f 1 3).bind fun bt173 => ((spoorlaw06_of.f 4 6).bind fun bt175 => ((spoorlaw06_of.f 9 12).bind fun bt177 => ((spoorref06_Same.f k t155 (([(⟨bt173.1, bt173.2⟩ : S23), (⟨bt175.1, bt175.2⟩ : S23), (⟨bt177.1, bt177.2⟩ : S23)] : List (S23)))).bind fun t182 => (if t182 = true then ((spoorlaw06_of.f 9 9).bind fun bt183 => (if (bt162.1 == bt183.1 && (bt162.2 == bt183.2)) = true then ((spoorlaw06_of.f 3 9).bind fun bt185 => ((ival_Length.f bt185.1 bt185.2).bind fun t187 => (some (t187 == 6)))) else (some false))) else (some false)))))) else (some false)))))))))))))) = some r := by first | (rw [hy135]; with_reducible exact H) | (have H2_ := (Option.bind_some _ _).symm.trans H; rw [hy135]; with_reducible exact H2_) | (have H2_ := (Option.bind_some _ _).symm.trans H; with_reducible exact H2_) | with_reducible exact H | (rw [hy135]; exact H) | exact H
  have Ny135 := Aside0.mk hy135
  clear hy135
  replace H := Option.bind_eq_some_iff.mp H
  obtain ⟨t138, A60, H⟩ := H
  replace H : ((spoorlaw06_of.f 1 12).bind fun bt141 => ((spoorlaw06_of.f 3 4).bind fun bt146 => ((spoorlaw06_of.f 6 8).bind fun bt148 => ((spoorlaw06_of.f 8 9).bind fun bt150 => ((ival_Minus.f (([(⟨bt141.1, bt141.2⟩ : S23)] : List (S23))) (([(⟨bt146.1, bt146.2⟩ : S23), (⟨bt148.1, bt148.2⟩ : S23), (⟨bt150.1, bt150.2⟩ : S23)] : List (S23)))).bind fun t155 => ((spoorlaw06_of.f 9 12).bind fun bt158 => ((spoorlaw06_of.f 5 9).bind fun bt160 => ((ival_Clip.f bt158.1 bt158.2 bt160.1 bt160.2).bind fun bt162 => ((spoorlaw06_of.f 1 3).bind fun bt165 => ((spoorlaw06_of.f 5 9).bind fun bt167 => ((spoorref06_Same.f k t138 (([(⟨bt165.1, bt165.2⟩ : S23), (⟨bt167.1, bt167.2⟩ : S23)] : List (S23)))).bind fun t172 => (if t172 = true then ((spoorlaw06_of.f 1 3).bind fun bt173 => ((spoorlaw06_of.f 4 6).bind fun bt175 => ((spoorlaw06_of.f 9 12).bind fun bt177 => ((spoorref06_Same.f k t155 (([(⟨bt173.1, bt173.2⟩ : S23), (⟨bt175.1, bt175.2⟩ : S23), (⟨bt177.1, bt177.2⟩ : S23)] : List (S23)))).bind fun t182 => (if t182 = true then ((spoorlaw06_of.f 9 9).bind fun bt183 => (if (bt162.1 == bt183.1 && (bt162.2 == bt183.2)) = true then ((spoorlaw06_of.f 3 9).bind fun bt185 => ((ival_Length.f bt185.1 bt185.2).bind fun t187 => (some (t187 == 6)))) else (some false))) else (some false)))))) else (some false))))))))))))) = some r := H
  have A6 := Aside0.mk A60
  clear A60
  replace H := Option.bind_eq_some_iff.mp H
  obtain ⟨⟨t141, t142⟩, A70, H⟩ := H
  replace H : ((spoorlaw06_of.f 3 4).bind fun bt146 => ((spoorlaw06_of.f 6 8).bind fun bt148 => ((spoorlaw06_of.f 8 9).bind fun bt150 => ((ival_Minus.f (([(⟨t141, t142⟩ : S23)] : List (S23))) (([(⟨bt146.1, bt146.2⟩ : S23), (⟨bt148.1, bt148.2⟩ : S23), (⟨bt150.1, bt150.2⟩ : S23)] : List (S23)))).bind fun t155 => ((spoorlaw06_of.f 9 12).bind fun bt158 => ((spoorlaw06_of.f 5 9).bind fun bt160 => ((ival_Clip.f bt158.1 bt158.2 bt160.1 bt160.2).bind fun bt162 => ((spoorlaw06_of.f 1 3).bind fun bt165 => ((spoorlaw06_of.f 5 9).bind fun bt167 => ((spoorref06_Same.f k t138 (([(⟨bt165.1, bt165.2⟩ : S23), (⟨bt167.1, bt167.2⟩ : S23)] : List (S23)))).bind fun t172 => (if t172 = true then ((spoorlaw06_of.f 1 3).bind fun bt173 => ((spoorlaw06_of.f 4 6).bind fun bt175 => ((spoorlaw06_of.f 9 12).bind fun bt177 => ((spoorref06_Same.f k t155 (([(⟨bt173.1, bt173.2⟩ : S23), (⟨bt175.1, bt175.2⟩ : S23), (⟨bt177.1, bt177.2⟩ : S23)] : List (S23)))).bind fun t182 => (if t182 = true then ((spoorlaw06_of.f 9 9).bind fun bt183 => (if (bt162.1 == bt183.1 && (bt162.2 == bt183.2)) = true then ((spoorlaw06_of.f 3 9).bind fun bt185 => ((ival_Length.f bt185.1 bt185.2).bind fun t187 => (some (t187 == 6)))) else (some false))) else (some false)))))) else (some false)))))))))))) = some r := H
  have A7 := Aside0.mk A70
  clear A70
  obtain ⟨y143, hy143⟩ : ∃ y_ : List (S23), y_ = (([(⟨t141, t142⟩ : S23)] : List (S23))) := ⟨_, rfl⟩
  replace H : ((spoorlaw06_of.f 3 4).bind fun bt146 => ((spoorlaw06_of.f 6 8).bind fun bt148 => ((spoorlaw06_of.f 8 9).bind fun bt150 => ((ival_Minus.f y143 (([(⟨bt146.1, bt146.2⟩ : S23), (⟨bt148.1, bt148.2⟩ : S23), (⟨bt150.1, bt150.2⟩ : S23)] : List (S23)))).bind fun t155 => ((spoorlaw06_of.f 9 12).bind fun bt158 => ((spoorlaw06_of.f 5 9).bind fun bt160 => ((ival_Clip.f bt158.1 bt158.2 bt160.1 bt160.2).bind fun bt162 => ((spoorlaw06_of.f 1 3).bind fun bt165 => ((spoorlaw06_of.f 5 9).bind fun bt167 => ((spoorref06_Same.f k t138 (([(⟨bt165.1, bt165.2⟩ : S23), (⟨bt167.1, bt167.2⟩ : S23)] : List (S23)))).bind fun t172 => (if t172 = true then ((spoorlaw06_of.f 1 3).bind fun bt173 => ((spoorlaw06_of.f 4 6).bind fun bt175 => ((spoorlaw06_of.f 9 12).bind fun bt177 => ((spoorref06_Same.f k t155 (([(⟨bt173.1, bt173.2⟩ : S23), (⟨bt175.1, bt175.2⟩ : S23), (⟨bt177.1, bt177.2⟩ : S23)] : List (S23)))).bind fun t182 => (if t182 = true then ((spoorlaw06_of.f 9 9).bind fun bt183 => (if (bt162.1 == bt183.1 && (bt162.2 == bt183.2)) = true then ((spoorlaw06_of.f 3 9).bind fun bt185 => ((ival_Length.f bt185.1 bt185.2).bind fun t187 => (some (t187 == 6)))) else (some false))) else (some false)))))) else (some false)))))))))))) = some r := by first | (rw [hy143]; with_reducible exact H) | (have H2_ := (Option.bind_some _ _).symm.trans H; rw [hy143]; with_reducible exact H2_) | (have H2_ := (Option.bind_some _ _).symm.trans H; with_reducible exact H2_) | with_reducible exact H | (rw [hy143]; exact H) | exact H
  have Ny143 := Aside0.mk hy143
  clear hy143
  replace H := Option.bind_eq_some_iff.mp H
  obtain ⟨⟨t146, t147⟩, A80, H⟩ := H
  replace H : ((spoorlaw06_of.f 6 8).bind fun bt148 => ((spoorlaw06_of.f 8 9).bind fun bt150 => ((ival_Minus.f y143 (([(⟨t146, t147⟩ : S23), (⟨bt148.1, bt148.2⟩ : S23), (⟨bt150.1, bt150.2⟩ : S23)] : List (S23)))).bind fun t155 => ((spoorlaw06_of.f 9 12).bind fun bt158 => ((spoorlaw06_of.f 5 9).bind fun bt160 => ((ival_Clip.f bt158.1 bt158.2 bt160.1 bt160.2).bind fun bt162 => ((spoorlaw06_of.f 1 3).bind fun bt165 => ((spoorlaw06_of.f 5 9).bind fun bt167 => ((spoorref06_Same.f k t138 (([(⟨bt165.1, bt165.2⟩ : S23), (⟨bt167.1, bt167.2⟩ : S23)] : List (S23)))).bind fun t172 => (if t172 = true then ((spoorlaw06_of.f 1 3).bind fun bt173 => ((spoorlaw06_of.f 4 6).bind fun bt175 => ((spoorlaw06_of.f 9 12).bind fun bt177 => ((spoorref06_Same.f k t155 (([(⟨bt173.1, bt173.2⟩ : S23), (⟨bt175.1, bt175.2⟩ : S23), (⟨bt177.1, bt177.2⟩ : S23)] : List (S23)))).bind fun t182 => (if t182 = true then ((spoorlaw06_of.f 9 9).bind fun bt183 => (if (bt162.1 == bt183.1 && (bt162.2 == bt183.2)) = true then ((spoorlaw06_of.f 3 9).bind fun bt185 => ((ival_Length.f bt185.1 bt185.2).bind fun t187 => (some (t187 == 6)))) else (some false))) else (some false)))))) else (some false))))))))))) = some r := H
  have A8 := Aside0.mk A80
  clear A80
  replace H := Option.bind_eq_some_iff.mp H
  obtain ⟨⟨t148, t149⟩, A90, H⟩ := H
  replace H : ((spoorlaw06_of.f 8 9).bind fun bt150 => ((ival_Minus.f y143 (([(⟨t146, t147⟩ : S23), (⟨t148, t149⟩ : S23), (⟨bt150.1, bt150.2⟩ : S23)] : List (S23)))).bind fun t155 => ((spoorlaw06_of.f 9 12).bind fun bt158 => ((spoorlaw06_of.f 5 9).bind fun bt160 => ((ival_Clip.f bt158.1 bt158.2 bt160.1 bt160.2).bind fun bt162 => ((spoorlaw06_of.f 1 3).bind fun bt165 => ((spoorlaw06_of.f 5 9).bind fun bt167 => ((spoorref06_Same.f k t138 (([(⟨bt165.1, bt165.2⟩ : S23), (⟨bt167.1, bt167.2⟩ : S23)] : List (S23)))).bind fun t172 => (if t172 = true then ((spoorlaw06_of.f 1 3).bind fun bt173 => ((spoorlaw06_of.f 4 6).bind fun bt175 => ((spoorlaw06_of.f 9 12).bind fun bt177 => ((spoorref06_Same.f k t155 (([(⟨bt173.1, bt173.2⟩ : S23), (⟨bt175.1, bt175.2⟩ : S23), (⟨bt177.1, bt177.2⟩ : S23)] : List (S23)))).bind fun t182 => (if t182 = true then ((spoorlaw06_of.f 9 9).bind fun bt183 => (if (bt162.1 == bt183.1 && (bt162.2 == bt183.2)) = true then ((spoorlaw06_of.f 3 9).bind fun bt185 => ((ival_Length.f bt185.1 bt185.2).bind fun t187 => (some (t187 == 6)))) else (some false))) else (some false)))))) else (some false)))))))))) = some r := H
  have A9 := Aside0.mk A90
  clear A90
  replace H := Option.bind_eq_some_iff.mp H
  obtain ⟨⟨t150, t151⟩, A100, H⟩ := H
  replace H : ((ival_Minus.f y143 (([(⟨t146, t147⟩ : S23), (⟨t148, t149⟩ : S23), (⟨t150, t151⟩ : S23)] : List (S23)))).bind fun t155 => ((spoorlaw06_of.f 9 12).bind fun bt158 => ((spoorlaw06_of.f 5 9).bind fun bt160 => ((ival_Clip.f bt158.1 bt158.2 bt160.1 bt160.2).bind fun bt162 => ((spoorlaw06_of.f 1 3).bind fun bt165 => ((spoorlaw06_of.f 5 9).bind fun bt167 => ((spoorref06_Same.f k t138 (([(⟨bt165.1, bt165.2⟩ : S23), (⟨bt167.1, bt167.2⟩ : S23)] : List (S23)))).bind fun t172 => (if t172 = true then ((spoorlaw06_of.f 1 3).bind fun bt173 => ((spoorlaw06_of.f 4 6).bind fun bt175 => ((spoorlaw06_of.f 9 12).bind fun bt177 => ((spoorref06_Same.f k t155 (([(⟨bt173.1, bt173.2⟩ : S23), (⟨bt175.1, bt175.2⟩ : S23), (⟨bt177.1, bt177.2⟩ : S23)] : List (S23)))).bind fun t182 => (if t182 = true then ((spoorlaw06_of.f 9 9).bind fun bt183 => (if (bt162.1 == bt183.1 && (bt162.2 == bt183.2)) = true then ((spoorlaw06_of.f 3 9).bind fun bt185 => ((ival_Length.f bt185.1 bt185.2).bind fun t187 => (some (t187 == 6)))) else (some false))) else (some false)))))) else (some false))))))))) = some r := H
  have A10 := Aside0.mk A100
  clear A100
  obtain ⟨y152, hy152⟩ : ∃ y_ : List (S23), y_ = (([(⟨t146, t147⟩ : S23), (⟨t148, t149⟩ : S23), (⟨t150, t151⟩ : S23)] : List (S23))) := ⟨_, rfl⟩
  replace H : ((ival_Minus.f y143 y152).bind fun t155 => ((spoorlaw06_of.f 9 12).bind fun bt158 => ((spoorlaw06_of.f 5 9).bind fun bt160 => ((ival_Clip.f bt158.1 bt158.2 bt160.1 bt160.2).bind fun bt162 => ((spoorlaw06_of.f 1 3).bind fun bt165 => ((spoorlaw06_of.f 5 9).bind fun bt167 => ((spoorref06_Same.f k t138 (([(⟨bt165.1, bt165.2⟩ : S23), (⟨bt167.1, bt167.2⟩ : S23)] : List (S23)))).bind fun t172 => (if t172 = true then ((spoorlaw06_of.f 1 3).bind fun bt173 => ((spoorlaw06_of.f 4 6).bind fun bt175 => ((spoorlaw06_of.f 9 12).bind fun bt177 => ((spoorref06_Same.f k t155 (([(⟨bt173.1, bt173.2⟩ : S23), (⟨bt175.1, bt175.2⟩ : S23), (⟨bt177.1, bt177.2⟩ : S23)] : List (S23)))).bind fun t182 => (if t182 = true then ((spoorlaw06_of.f 9 9).bind fun bt183 => (if (bt162.1 == bt183.1 && (bt162.2 == bt183.2)) = true then ((spoorlaw06_of.f 3 9).bind fun bt185 => ((ival_Length.f bt185.1 bt185.2).bind fun t187 => (some (t187 == 6)))) else (some false))) else (some false)))))) else (some false))))))))) = some r := by first | (rw [hy152]; with_reducible exact H) | (have H2_ := (Option.bind_some _ _).symm.trans H; rw [hy152]; with_reducible exact H2_) | (have H2_ := (Option.bind_some _ _).symm.trans H; with_reducible exact H2_) | with_reducible exact H | (rw [hy152]; exact H) | exact H
  have Ny152 := Aside0.mk hy152
  clear hy152
  replace H := Option.bind_eq_some_iff.mp H
  obtain ⟨t155, A110, H⟩ := H
  replace H : ((spoorlaw06_of.f 9 12).bind fun bt158 => ((spoorlaw06_of.f 5 9).bind fun bt160 => ((ival_Clip.f bt158.1 bt158.2 bt160.1 bt160.2).bind fun bt162 => ((spoorlaw06_of.f 1 3).bind fun bt165 => ((spoorlaw06_of.f 5 9).bind fun bt167 => ((spoorref06_Same.f k t138 (([(⟨bt165.1, bt165.2⟩ : S23), (⟨bt167.1, bt167.2⟩ : S23)] : List (S23)))).bind fun t172 => (if t172 = true then ((spoorlaw06_of.f 1 3).bind fun bt173 => ((spoorlaw06_of.f 4 6).bind fun bt175 => ((spoorlaw06_of.f 9 12).bind fun bt177 => ((spoorref06_Same.f k t155 (([(⟨bt173.1, bt173.2⟩ : S23), (⟨bt175.1, bt175.2⟩ : S23), (⟨bt177.1, bt177.2⟩ : S23)] : List (S23)))).bind fun t182 => (if t182 = true then ((spoorlaw06_of.f 9 9).bind fun bt183 => (if (bt162.1 == bt183.1 && (bt162.2 == bt183.2)) = true then ((spoorlaw06_of.f 3 9).bind fun bt185 => ((ival_Length.f bt185.1 bt185.2).bind fun t187 => (some (t187 == 6)))) else (some false))) else (some false)))))) else (some false)))))))) = some r := H
  have A11 := Aside0.mk A110
  clear A110
  replace H := Option.bind_eq_some_iff.mp H
  obtain ⟨⟨t158, t159⟩, A120, H⟩ := H
  replace H : ((spoorlaw06_of.f 5 9).bind fun bt160 => ((ival_Clip.f t158 t159 bt160.1 bt160.2).bind fun bt162 => ((spoorlaw06_of.f 1 3).bind fun bt165 => ((spoorlaw06_of.f 5 9).bind fun bt167 => ((spoorref06_Same.f k t138 (([(⟨bt165.1, bt165.2⟩ : S23), (⟨bt167.1, bt167.2⟩ : S23)] : List (S23)))).bind fun t172 => (if t172 = true then ((spoorlaw06_of.f 1 3).bind fun bt173 => ((spoorlaw06_of.f 4 6).bind fun bt175 => ((spoorlaw06_of.f 9 12).bind fun bt177 => ((spoorref06_Same.f k t155 (([(⟨bt173.1, bt173.2⟩ : S23), (⟨bt175.1, bt175.2⟩ : S23), (⟨bt177.1, bt177.2⟩ : S23)] : List (S23)))).bind fun t182 => (if t182 = true then ((spoorlaw06_of.f 9 9).bind fun bt183 => (if (bt162.1 == bt183.1 && (bt162.2 == bt183.2)) = true then ((spoorlaw06_of.f 3 9).bind fun bt185 => ((ival_Length.f bt185.1 bt185.2).bind fun t187 => (some (t187 == 6)))) else (some false))) else (some false)))))) else (some false))))))) = some r := H
  have A12 := Aside0.mk A120
  clear A120
  replace H := Option.bind_eq_some_iff.mp H
  obtain ⟨⟨t160, t161⟩, A130, H⟩ := H
  replace H : ((ival_Clip.f t158 t159 t160 t161).bind fun bt162 => ((spoorlaw06_of.f 1 3).bind fun bt165 => ((spoorlaw06_of.f 5 9).bind fun bt167 => ((spoorref06_Same.f k t138 (([(⟨bt165.1, bt165.2⟩ : S23), (⟨bt167.1, bt167.2⟩ : S23)] : List (S23)))).bind fun t172 => (if t172 = true then ((spoorlaw06_of.f 1 3).bind fun bt173 => ((spoorlaw06_of.f 4 6).bind fun bt175 => ((spoorlaw06_of.f 9 12).bind fun bt177 => ((spoorref06_Same.f k t155 (([(⟨bt173.1, bt173.2⟩ : S23), (⟨bt175.1, bt175.2⟩ : S23), (⟨bt177.1, bt177.2⟩ : S23)] : List (S23)))).bind fun t182 => (if t182 = true then ((spoorlaw06_of.f 9 9).bind fun bt183 => (if (bt162.1 == bt183.1 && (bt162.2 == bt183.2)) = true then ((spoorlaw06_of.f 3 9).bind fun bt185 => ((ival_Length.f bt185.1 bt185.2).bind fun t187 => (some (t187 == 6)))) else (some false))) else (some false)))))) else (some false)))))) = some r := H
  have A13 := Aside0.mk A130
  clear A130
  replace H := Option.bind_eq_some_iff.mp H
  obtain ⟨⟨t162, t163⟩, A140, H⟩ := H
  replace H : ((spoorlaw06_of.f 1 3).bind fun bt165 => ((spoorlaw06_of.f 5 9).bind fun bt167 => ((spoorref06_Same.f k t138 (([(⟨bt165.1, bt165.2⟩ : S23), (⟨bt167.1, bt167.2⟩ : S23)] : List (S23)))).bind fun t172 => (if t172 = true then ((spoorlaw06_of.f 1 3).bind fun bt173 => ((spoorlaw06_of.f 4 6).bind fun bt175 => ((spoorlaw06_of.f 9 12).bind fun bt177 => ((spoorref06_Same.f k t155 (([(⟨bt173.1, bt173.2⟩ : S23), (⟨bt175.1, bt175.2⟩ : S23), (⟨bt177.1, bt177.2⟩ : S23)] : List (S23)))).bind fun t182 => (if t182 = true then ((spoorlaw06_of.f 9 9).bind fun bt183 => (if (t162 == bt183.1 && (t163 == bt183.2)) = true then ((spoorlaw06_of.f 3 9).bind fun bt185 => ((ival_Length.f bt185.1 bt185.2).bind fun t187 => (some (t187 == 6)))) else (some false))) else (some false)))))) else (some false))))) = some r := H
  have A14 := Aside0.mk A140
  clear A140
  replace H := Option.bind_eq_some_iff.mp H
  obtain ⟨⟨t165, t166⟩, A150, H⟩ := H
  replace H : ((spoorlaw06_of.f 5 9).bind fun bt167 => ((spoorref06_Same.f k t138 (([(⟨t165, t166⟩ : S23), (⟨bt167.1, bt167.2⟩ : S23)] : List (S23)))).bind fun t172 => (if t172 = true then ((spoorlaw06_of.f 1 3).bind fun bt173 => ((spoorlaw06_of.f 4 6).bind fun bt175 => ((spoorlaw06_of.f 9 12).bind fun bt177 => ((spoorref06_Same.f k t155 (([(⟨bt173.1, bt173.2⟩ : S23), (⟨bt175.1, bt175.2⟩ : S23), (⟨bt177.1, bt177.2⟩ : S23)] : List (S23)))).bind fun t182 => (if t182 = true then ((spoorlaw06_of.f 9 9).bind fun bt183 => (if (t162 == bt183.1 && (t163 == bt183.2)) = true then ((spoorlaw06_of.f 3 9).bind fun bt185 => ((ival_Length.f bt185.1 bt185.2).bind fun t187 => (some (t187 == 6)))) else (some false))) else (some false)))))) else (some false)))) = some r := H
  have A15 := Aside0.mk A150
  clear A150
  replace H := Option.bind_eq_some_iff.mp H
  obtain ⟨⟨t167, t168⟩, A160, H⟩ := H
  replace H : ((spoorref06_Same.f k t138 (([(⟨t165, t166⟩ : S23), (⟨t167, t168⟩ : S23)] : List (S23)))).bind fun t172 => (if t172 = true then ((spoorlaw06_of.f 1 3).bind fun bt173 => ((spoorlaw06_of.f 4 6).bind fun bt175 => ((spoorlaw06_of.f 9 12).bind fun bt177 => ((spoorref06_Same.f k t155 (([(⟨bt173.1, bt173.2⟩ : S23), (⟨bt175.1, bt175.2⟩ : S23), (⟨bt177.1, bt177.2⟩ : S23)] : List (S23)))).bind fun t182 => (if t182 = true then ((spoorlaw06_of.f 9 9).bind fun bt183 => (if (t162 == bt183.1 && (t163 == bt183.2)) = true then ((spoorlaw06_of.f 3 9).bind fun bt185 => ((ival_Length.f bt185.1 bt185.2).bind fun t187 => (some (t187 == 6)))) else (some false))) else (some false)))))) else (some false))) = some r := H
  have A16 := Aside0.mk A160
  clear A160
  obtain ⟨y169, hy169⟩ : ∃ y_ : List (S23), y_ = (([(⟨t165, t166⟩ : S23), (⟨t167, t168⟩ : S23)] : List (S23))) := ⟨_, rfl⟩
  replace H : ((spoorref06_Same.f k t138 y169).bind fun t172 => (if t172 = true then ((spoorlaw06_of.f 1 3).bind fun bt173 => ((spoorlaw06_of.f 4 6).bind fun bt175 => ((spoorlaw06_of.f 9 12).bind fun bt177 => ((spoorref06_Same.f k t155 (([(⟨bt173.1, bt173.2⟩ : S23), (⟨bt175.1, bt175.2⟩ : S23), (⟨bt177.1, bt177.2⟩ : S23)] : List (S23)))).bind fun t182 => (if t182 = true then ((spoorlaw06_of.f 9 9).bind fun bt183 => (if (t162 == bt183.1 && (t163 == bt183.2)) = true then ((spoorlaw06_of.f 3 9).bind fun bt185 => ((ival_Length.f bt185.1 bt185.2).bind fun t187 => (some (t187 == 6)))) else (some false))) else (some false)))))) else (some false))) = some r := by first | (rw [hy169]; with_reducible exact H) | (have H2_ := (Option.bind_some _ _).symm.trans H; rw [hy169]; with_reducible exact H2_) | (have H2_ := (Option.bind_some _ _).symm.trans H; with_reducible exact H2_) | with_reducible exact H | (rw [hy169]; exact H) | exact H
  have Ny169 := Aside0.mk hy169
  clear hy169
  replace H := Option.bind_eq_some_iff.mp H
  obtain ⟨t172, A170, H⟩ := H
  replace H : (if t172 = true then ((spoorlaw06_of.f 1 3).bind fun bt173 => ((spoorlaw06_of.f 4 6).bind fun bt175 => ((spoorlaw06_of.f 9 12).bind fun bt177 => ((spoorref06_Same.f k t155 (([(⟨bt173.1, bt173.2⟩ : S23), (⟨bt175.1, bt175.2⟩ : S23), (⟨bt177.1, bt177.2⟩ : S23)] : List (S23)))).bind fun t182 => (if t182 = true then ((spoorlaw06_of.f 9 9).bind fun bt183 => (if (t162 == bt183.1 && (t163 == bt183.2)) = true then ((spoorlaw06_of.f 3 9).bind fun bt185 => ((ival_Length.f bt185.1 bt185.2).bind fun t187 => (some (t187 == 6)))) else (some false))) else (some false)))))) else (some false)) = some r := H
  have A17 := Aside0.mk A170
  clear A170
  by_cases c18 : t172 = true
  · subst c18
    have H1 : ((spoorlaw06_of.f 1 3).bind fun bt173 => ((spoorlaw06_of.f 4 6).bind fun bt175 => ((spoorlaw06_of.f 9 12).bind fun bt177 => ((spoorref06_Same.f k t155 (([(⟨bt173.1, bt173.2⟩ : S23), (⟨bt175.1, bt175.2⟩ : S23), (⟨bt177.1, bt177.2⟩ : S23)] : List (S23)))).bind fun t182 => (if t182 = true then ((spoorlaw06_of.f 9 9).bind fun bt183 => (if (t162 == bt183.1 && (t163 == bt183.2)) = true then ((spoorlaw06_of.f 3 9).bind fun bt185 => ((ival_Length.f bt185.1 bt185.2).bind fun t187 => (some (t187 == 6)))) else (some false))) else (some false)))))) = some r := by rw [if_pos rfl] at H; exact H
    clear H
    have H := H1
    clear H1
    replace H := Option.bind_eq_some_iff.mp H
    obtain ⟨⟨t173, t174⟩, A190, H⟩ := H
    replace H : ((spoorlaw06_of.f 4 6).bind fun bt175 => ((spoorlaw06_of.f 9 12).bind fun bt177 => ((spoorref06_Same.f k t155 (([(⟨t173, t174⟩ : S23), (⟨bt175.1, bt175.2⟩ : S23), (⟨bt177.1, bt177.2⟩ : S23)] : List (S23)))).bind fun t182 => (if t182 = true then ((spoorlaw06_of.f 9 9).bind fun bt183 => (if (t162 == bt183.1 && (t163 == bt183.2)) = true then ((spoorlaw06_of.f 3 9).bind fun bt185 => ((ival_Length.f bt185.1 bt185.2).bind fun t187 => (some (t187 == 6)))) else (some false))) else (some false))))) = some r := H
    have A19 := Aside0.mk A190
    clear A190
    replace H := Option.bind_eq_some_iff.mp H
    obtain ⟨⟨t175, t176⟩, A200, H⟩ := H
    replace H : ((spoorlaw06_of.f 9 12).bind fun bt177 => ((spoorref06_Same.f k t155 (([(⟨t173, t174⟩ : S23), (⟨t175, t176⟩ : S23), (⟨bt177.1, bt177.2⟩ : S23)] : List (S23)))).bind fun t182 => (if t182 = true then ((spoorlaw06_of.f 9 9).bind fun bt183 => (if (t162 == bt183.1 && (t163 == bt183.2)) = true then ((spoorlaw06_of.f 3 9).bind fun bt185 => ((ival_Length.f bt185.1 bt185.2).bind fun t187 => (some (t187 == 6)))) else (some false))) else (some false)))) = some r := H
    have A20 := Aside0.mk A200
    clear A200
    replace H := Option.bind_eq_some_iff.mp H
    obtain ⟨⟨t177, t178⟩, A210, H⟩ := H
    replace H : ((spoorref06_Same.f k t155 (([(⟨t173, t174⟩ : S23), (⟨t175, t176⟩ : S23), (⟨t177, t178⟩ : S23)] : List (S23)))).bind fun t182 => (if t182 = true then ((spoorlaw06_of.f 9 9).bind fun bt183 => (if (t162 == bt183.1 && (t163 == bt183.2)) = true then ((spoorlaw06_of.f 3 9).bind fun bt185 => ((ival_Length.f bt185.1 bt185.2).bind fun t187 => (some (t187 == 6)))) else (some false))) else (some false))) = some r := H
    have A21 := Aside0.mk A210
    clear A210
    obtain ⟨y179, hy179⟩ : ∃ y_ : List (S23), y_ = (([(⟨t173, t174⟩ : S23), (⟨t175, t176⟩ : S23), (⟨t177, t178⟩ : S23)] : List (S23))) := ⟨_, rfl⟩
    replace H : ((spoorref06_Same.f k t155 y179).bind fun t182 => (if t182 = true then ((spoorlaw06_of.f 9 9).bind fun bt183 => (if (t162 == bt183.1 && (t163 == bt183.2)) = true then ((spoorlaw06_of.f 3 9).bind fun bt185 => ((ival_Length.f bt185.1 bt185.2).bind fun t187 => (some (t187 == 6)))) else (some false))) else (some false))) = some r := by first | (rw [hy179]; with_reducible exact H) | (have H2_ := (Option.bind_some _ _).symm.trans H; rw [hy179]; with_reducible exact H2_) | (have H2_ := (Option.bind_some _ _).symm.trans H; with_reducible exact H2_) | with_reducible exact H | (rw [hy179]; exact H) | exact H
    have Ny179 := Aside0.mk hy179
    clear hy179
    replace H := Option.bind_eq_some_iff.mp H
    obtain ⟨t182, A220, H⟩ := H
    replace H : (if t182 = true then ((spoorlaw06_of.f 9 9).bind fun bt183 => (if (t162 == bt183.1 && (t163 == bt183.2)) = true then ((spoorlaw06_of.f 3 9).bind fun bt185 => ((ival_Length.f bt185.1 bt185.2).bind fun t187 => (some (t187 == 6)))) else (some false))) else (some false)) = some r := H
    have A22 := Aside0.mk A220
    clear A220
    by_cases c23 : t182 = true
    · subst c23
      have H1 : ((spoorlaw06_of.f 9 9).bind fun bt183 => (if (t162 == bt183.1 && (t163 == bt183.2)) = true then ((spoorlaw06_of.f 3 9).bind fun bt185 => ((ival_Length.f bt185.1 bt185.2).bind fun t187 => (some (t187 == 6)))) else (some false))) = some r := by rw [if_pos rfl] at H; exact H
      clear H
      have H := H1
      clear H1
      replace H := Option.bind_eq_some_iff.mp H
      obtain ⟨⟨t183, t184⟩, A240, H⟩ := H
      replace H : (if (t162 == t183 && (t163 == t184)) = true then ((spoorlaw06_of.f 3 9).bind fun bt185 => ((ival_Length.f bt185.1 bt185.2).bind fun t187 => (some (t187 == 6)))) else (some false)) = some r := H
      have A24 := Aside0.mk A240
      clear A240
      by_cases c25 : (t162 == t183 && (t163 == t184)) = true
      · rw [if_pos c25] at H
        have c25b0 : (t162 == t183 && (t163 == t184)) = true := c25
        (try (have c25b1 : decide (t162 = t183 && (t163 == t184)) = true := by simpa using c25))
        (try (have c25b2 : (t162 == t183 && (t163 == t184)) = true := by simpa using c25))
        clear c25
        replace H := Option.bind_eq_some_iff.mp H
        obtain ⟨⟨t185, t186⟩, A260, H⟩ := H
        replace H : ((ival_Length.f t185 t186).bind fun t187 => (some (t187 == 6))) = some r := H
        have A26 := Aside0.mk A260
        clear A260
        replace H := Option.bind_eq_some_iff.mp H
        obtain ⟨t187, A270, H⟩ := H
        replace H : (some (t187 == 6)) = some r := H
        have A27 := Aside0.mk A270
        clear A270
        obtain rfl := Option.some.inj H
        go_enter Try.func10, Try.ntmps10
        try go_wp2_with (first | ((with_reducible refine gate_callee (f := 18) rfl ?_); refine goesL_ (some 4) rfl rfl Try.func18 (by kernel_rfl) rfl #[.int .i64 5, .int .i64 7] rfl xa ?_; (with_reducible refine (spoorlaw06_of.calls 5 7 t125 t126 _ A1.out).mono ?_); rintro e w28 ⟨rfl, hb⟩; refine ⟨_, rfl, ?_⟩; have n0_ := Aside0.mk (below_step xq0 hb); clear HB; have HB := n0_; clear n0_; (try clear hb); (try clear hb2); (try clear hk); (try clear hi)) | ((with_reducible refine gate_callee (f := 18) rfl ?_); refine goesL_ (some 5) rfl rfl Try.func18 (by kernel_rfl) rfl #[.int .i64 1, .int .i64 3] rfl xa ?_; (with_reducible refine (spoorlaw06_of.calls 1 3 t127 t128 _ A2.out).mono ?_); rintro e w29 ⟨rfl, hb⟩; refine ⟨_, rfl, ?_⟩; have n0_ := Aside0.mk (below_step xq0 hb); clear HB; have HB := n0_; clear n0_; (try clear hb); (try clear hb2); (try clear hk); (try clear hi)) | ((with_reducible refine gate_callee (f := 18) rfl ?_); refine goesL_ (some 6) rfl rfl Try.func18 (by kernel_rfl) rfl #[.int .i64 7, .int .i64 9] rfl xa ?_; (with_reducible refine (spoorlaw06_of.calls 7 9 t129 t130 _ A3.out).mono ?_); rintro e w30 ⟨rfl, hb⟩; refine ⟨_, rfl, ?_⟩; have n0_ := Aside0.mk (below_step xq0 hb); clear HB; have HB := n0_; clear n0_; (try clear hb); (try clear hb2); (try clear hk); (try clear hi)) | ((with_reducible refine gate_callee (f := 18) rfl ?_); refine goesL_ (some 7) rfl rfl Try.func18 (by kernel_rfl) rfl #[.int .i64 4, .int .i64 4] rfl xa ?_; (with_reducible refine (spoorlaw06_of.calls 4 4 t131 t132 _ A4.out).mono ?_); rintro e w31 ⟨rfl, hb⟩; refine ⟨_, rfl, ?_⟩; have n0_ := Aside0.mk (below_step xq0 hb); clear HB; have HB := n0_; clear n0_; (try clear hb); (try clear hb2); (try clear hk); (try clear hi)) | ((with_reducible refine gate_callee (f := 18) rfl ?_); refine goesL_ (some 8) rfl rfl Try.func18 (by kernel_rfl) rfl #[.int .i64 2, .int .i64 2] rfl xa ?_; (with_reducible refine (spoorlaw06_of.calls 2 2 t133 t134 _ A5.out).mono ?_); rintro e w32 ⟨rfl, hb⟩; refine ⟨_, rfl, ?_⟩; have n0_ := Aside0.mk (below_step xq0 hb); clear HB; have HB := n0_; clear n0_; (try clear hb); (try clear hb2); (try clear hk); (try clear hi)) | ((with_reducible refine gate_dst (N := 9) rfl ?_); (try (refine gate_guard (by rfl) ?_; dsimp only)); refine Kd.R_lit k23 _ 23 ?hg (N := 9) ?hd (xs := ([(⟨t125, t126⟩ : S23), (⟨t127, t128⟩ : S23), (⟨t129, t130⟩ : S23), (⟨t131, t132⟩ : S23), (⟨t133, t134⟩ : S23)] : List (S23))) (inner := [.int .i64 t125, .int .i64 t126, .int .i64 t127, .int .i64 t128, .int .i64 t129, .int .i64 t130, .int .i64 t131, .int .i64 t132, .int .i64 t133, .int .i64 t134]) (ok := fun _ => True) (okp := fun _ => True) ?hr ?hp (fun _ hk => hk) trivial (Below.refl _ _) (Nat.le_refl _) (by simp) ?_; (case hd => rfl); (case hg => rfl); (case hr => first | (go_simp; done) | (go_simp; rfl)); (case hp => exact (Reps.c2 (show Kd.M k23 _ _ _ (⟨t125, t126⟩ : S23) [.int .i64 t125, .int .i64 t126] from (k23_mkM _ _ _ (⟨t125, t126⟩ : S23) )) (Reps.c2 (show Kd.M k23 _ _ _ (⟨t127, t128⟩ : S23) [.int .i64 t127, .int .i64 t128] from (k23_mkM _ _ _ (⟨t127, t128⟩ : S23) )) (Reps.c2 (show Kd.M k23 _ _ _ (⟨t129, t130⟩ : S23) [.int .i64 t129, .int .i64 t130] from (k23_mkM _ _ _ (⟨t129, t130⟩ : S23) )) (Reps.c2 (show Kd.M k23 _ _ _ (⟨t131, t132⟩ : S23) [.int .i64 t131, .int .i64 t132] from (k23_mkM _ _ _ (⟨t131, t132⟩ : S23) )) (Reps.c2 (show Kd.M k23 _ _ _ (⟨t133, t134⟩ : S23) [.int .i64 t133, .int .i64 t134] from (k23_mkM _ _ _ (⟨t133, t134⟩ : S23) )) (Reps.none _ _))))))); intro v136 w33 ho34 hb hg_ hnew_; clear hg_ hnew_; (first | rw [← Ny135.out] at ho34 | (simp only [Int.reduceToNat] at ho34; rw [← Ny135.out] at ho34)); have n0_ := Aside0.mk (Kd.R_lower ho34 (below_size xq0)); have n1_ := Aside0.mk (below_step xq0 hb); clear HB; have HO137 := n0_; have HB := n1_; clear n0_ n1_; clear hb ho34; obtain ⟨Ao35, co35, eo35⟩ := Kd.R_slice HO137.out; subst eo35) | ((with_reducible refine gate_callee (f := 15) rfl ?_); refine goesL_ (some 10) rfl rfl Try.func15 (by kernel_rfl) rfl #[.slice Ao35 y135.length co35] rfl xa ?_; (with_reducible refine (ival_Normal.calls _ _ y135 t138 _ ?side1 ?side2 A6.out).mono ?_); (case side1 => repeat (first | exact (Kd.R_reads' HO137.out).2.2 | (with_reducible refine Kd.C_alloc ?_ _) | (with_reducible refine Kd.C_drewN ?_ _) | (with_reducible refine Kd.C_drew ?_))); (case side2 => exact (Kd.R_reads' HO137.out).2.1); rintro e w36 ⟨v139, rfl, ho0, hb⟩; refine ⟨_, rfl, ?_⟩; have n0_ := Aside0.mk (Kd.R_elder' (xr HO137) (Kd.R_base ho0) hb); have n1_ := Aside0.mk (Kd.R_lower (Kd.R_new' ho0 (Kd.R_lt (xr HO137))) (below_size xq0)); have n2_ := Aside0.mk (below_step xq0 hb); clear HO137; clear HB; have HO137 := n0_; have HO140 := n1_; have HB := n2_; clear n0_ n1_ n2_; (try clear hb); (try clear hb2); (try clear hk); (try clear hi); (try clear ho0)) | ((with_reducible refine gate_callee (f := 18) rfl ?_); refine goesL_ (some 11) rfl rfl Try.func18 (by kernel_rfl) rfl #[.int .i64 1, .int .i64 12] rfl xa ?_; (with_reducible refine (spoorlaw06_of.calls 1 12 t141 t142 _ A7.out).mono ?_); rintro e w37 ⟨rfl, hb⟩; refine ⟨_, rfl, ?_⟩; have n0_ := Aside0.mk (Kd.R_below (xr HO137) hb); have n1_ := Aside0.mk (Kd.R_below (xr HO140) hb); have n2_ := Aside0.mk (below_step xq0 hb); clear HO137; clear HO140; clear HB; have HO137 := n0_; have HO140 := n1_; have HB := n2_; clear n0_ n1_ n2_; (try clear hb); (try clear hb2); (try clear hk); (try clear hi)) | ((with_reducible refine gate_dst (N := 12) rfl ?_); (try (refine gate_guard (by rfl) ?_; dsimp only)); refine Kd.R_lit k23 _ 23 ?hg (N := 12) ?hd (xs := ([(⟨t141, t142⟩ : S23)] : List (S23))) (inner := [.int .i64 t141, .int .i64 t142]) (ok := fun _ => True) (okp := fun _ => True) ?hr ?hp (fun _ hk => hk) trivial (Below.refl _ _) (Nat.le_refl _) (by simp) ?_; (case hd => rfl); (case hg => rfl); (case hr => first | (go_simp; done) | (go_simp; rfl)); (case hp => exact (Reps.c2 (show Kd.M k23 _ _ _ (⟨t141, t142⟩ : S23) [.int .i64 t141, .int .i64 t142] from (k23_mkM _ _ _ (⟨t141, t142⟩ : S23) )) (Reps.none _ _))); intro v144 w38 ho39 hb hg_ hnew_; clear hg_ hnew_; (first | rw [← Ny143.out] at ho39 | (simp only [Int.reduceToNat] at ho39; rw [← Ny143.out] at ho39)); have n0_ := Aside0.mk (Kd.R_elder' (xr HO137) (Kd.R_base ho39) hb); have n1_ := Aside0.mk (Kd.R_elder' (xr HO140) (Kd.R_base ho39) hb); have n2_ := Aside0.mk (Kd.R_lower (Kd.R_new' (Kd.R_new' ho39 (Kd.R_lt (xr HO137))) (Kd.R_lt (xr HO140))) (below_size xq0)); have n3_ := Aside0.mk (below_step xq0 hb); clear HO137; clear HO140; clear HB; have HO137 := n0_; have HO140 := n1_; have HO145 := n2_; have HB := n3_; clear n0_ n1_ n2_ n3_; clear hb ho39) | ((with_reducible refine gate_callee (f := 18) rfl ?_); refine goesL_ (some 13) rfl rfl Try.func18 (by kernel_rfl) rfl #[.int .i64 3, .int .i64 4] rfl xa ?_; (with_reducible refine (spoorlaw06_of.calls 3 4 t146 t147 _ A8.out).mono ?_); rintro e w40 ⟨rfl, hb⟩; refine ⟨_, rfl, ?_⟩; have n0_ := Aside0.mk (Kd.R_below (xr HO137) hb); have n1_ := Aside0.mk (Kd.R_below (xr HO140) hb); have n2_ := Aside0.mk (Kd.R_below (xr HO145) hb); have n3_ := Aside0.mk (below_step xq0 hb); clear HO137; clear HO140; clear HO145; clear HB; have HO137 := n0_; have HO140 := n1_; have HO145 := n2_; have HB := n3_; clear n0_ n1_ n2_ n3_; (try clear hb); (try clear hb2); (try clear hk); (try clear hi)) | ((with_reducible refine gate_callee (f := 18) rfl ?_); refine goesL_ (some 14) rfl rfl Try.func18 (by kernel_rfl) rfl #[.int .i64 6, .int .i64 8] rfl xa ?_; (with_reducible refine (spoorlaw06_of.calls 6 8 t148 t149 _ A9.out).mono ?_); rintro e w41 ⟨rfl, hb⟩; refine ⟨_, rfl, ?_⟩; have n0_ := Aside0.mk (Kd.R_below (xr HO137) hb); have n1_ := Aside0.mk (Kd.R_below (xr HO140) hb); have n2_ := Aside0.mk (Kd.R_below (xr HO145) hb); have n3_ := Aside0.mk (below_step xq0 hb); clear HO137; clear HO140; clear HO145; clear HB; have HO137 := n0_; have HO140 := n1_; have HO145 := n2_; have HB := n3_; clear n0_ n1_ n2_ n3_; (try clear hb); (try clear hb2); (try clear hk); (try clear hi)) | ((with_reducible refine gate_callee (f := 18) rfl ?_); refine goesL_ (some 15) rfl rfl Try.func18 (by kernel_rfl) rfl #[.int .i64 8, .int .i64 9] rfl xa ?_; (with_reducible refine (spoorlaw06_of.calls 8 9 t150 t151 _ A10.out).mono ?_); rintro e w42 ⟨rfl, hb⟩; refine ⟨_, rfl, ?_⟩; have n0_ := Aside0.mk (Kd.R_below (xr HO137) hb); have n1_ := Aside0.mk (Kd.R_below (xr HO140) hb); have n2_ := Aside0.mk (Kd.R_below (xr HO145) hb); have n3_ := Aside0.mk (below_step xq0 hb); clear HO137; clear HO140; clear HO145; clear HB; have HO137 := n0_; have HO140 := n1_; have HO145 := n2_; have HB := n3_; clear n0_ n1_ n2_ n3_; (try clear hb); (try clear hb2); (try clear hk); (try clear hi)) | ((with_reducible refine gate_dst (N := 16) rfl ?_); (try (refine gate_guard (by rfl) ?_; dsimp only)); refine Kd.R_lit k23 _ 23 ?hg (N := 16) ?hd (xs := ([(⟨t146, t147⟩ : S23), (⟨t148, t149⟩ : S23), (⟨t150, t151⟩ : S23)] : List (S23))) (inner := [.int .i64 t146, .int .i64 t147, .int .i64 t148, .int .i64 t149, .int .i64 t150, .int .i64 t151]) (ok := fun _ => True) (okp := fun _ => True) ?hr ?hp (fun _ hk => hk) trivial (Below.refl _ _) (Nat.le_refl _) (by simp) ?_; (case hd => rfl); (case hg => rfl); (case hr => first | (go_simp; done) | (go_simp; rfl)); (case hp => exact (Reps.c2 (show Kd.M k23 _ _ _ (⟨t146, t147⟩ : S23) [.int .i64 t146, .int .i64 t147] from (k23_mkM _ _ _ (⟨t146, t147⟩ : S23) )) (Reps.c2 (show Kd.M k23 _ _ _ (⟨t148, t149⟩ : S23) [.int .i64 t148, .int .i64 t149] from (k23_mkM _ _ _ (⟨t148, t149⟩ : S23) )) (Reps.c2 (show Kd.M k23 _ _ _ (⟨t150, t151⟩ : S23) [.int .i64 t150, .int .i64 t151] from (k23_mkM _ _ _ (⟨t150, t151⟩ : S23) )) (Reps.none _ _))))); intro v153 w43 ho44 hb hg_ hnew_; clear hg_ hnew_; (first | rw [← Ny152.out] at ho44 | (simp only [Int.reduceToNat] at ho44; rw [← Ny152.out] at ho44)); have n0_ := Aside0.mk (Kd.R_elder' (xr HO137) (Kd.R_base ho44) hb); have n1_ := Aside0.mk (Kd.R_elder' (xr HO140) (Kd.R_base ho44) hb); have n2_ := Aside0.mk (Kd.R_elder' (xr HO145) (Kd.R_base ho44) hb); have n3_ := Aside0.mk (Kd.R_lower (Kd.R_new' (Kd.R_new' (Kd.R_new' ho44 (Kd.R_lt (xr HO137))) (Kd.R_lt (xr HO140))) (Kd.R_lt (xr HO145))) (below_size xq0)); have n4_ := Aside0.mk (below_step xq0 hb); clear HO137; clear HO140; clear HO145; clear HB; have HO137 := n0_; have HO140 := n1_; have HO145 := n2_; have HO154 := n3_; have HB := n4_; clear n0_ n1_ n2_ n3_ n4_; clear hb ho44; obtain ⟨Ao45, co45, eo45⟩ := Kd.R_slice HO145.out; subst eo45; obtain ⟨Ao46, co46, eo46⟩ := Kd.R_slice HO154.out; subst eo46) | ((with_reducible refine gate_callee (f := 17) rfl ?_); refine goesL_ (some 17) rfl rfl Try.func17 (by kernel_rfl) rfl #[.slice Ao45 y143.length co45, .slice Ao46 y152.length co46] rfl xa ?_; (with_reducible refine (ival_Minus.calls _ _ y143 _ _ y152 t155 _ ?side1 ?side2 ?side3 ?side4 A11.out).mono ?_); (case side1 => repeat (first | exact (Kd.R_reads' HO145.out).2.2 | (with_reducible refine Kd.C_alloc ?_ _) | (with_reducible refine Kd.C_drewN ?_ _) | (with_reducible refine Kd.C_drew ?_))); (case side2 => exact (Kd.R_reads' HO145.out).2.1); (case side3 => repeat (first | exact (Kd.R_reads' HO154.out).2.2 | (with_reducible refine Kd.C_alloc ?_ _) | (with_reducible refine Kd.C_drewN ?_ _) | (with_reducible refine Kd.C_drew ?_))); (case side4 => exact (Kd.R_reads' HO154.out).2.1); rintro e w47 ⟨v156, rfl, ho0, hb⟩; refine ⟨_, rfl, ?_⟩; have n0_ := Aside0.mk (Kd.R_elder' (xr HO137) (Kd.R_base ho0) hb); have n1_ := Aside0.mk (Kd.R_elder' (xr HO140) (Kd.R_base ho0) hb); have n2_ := Aside0.mk (Kd.R_elder' (xr HO145) (Kd.R_base ho0) hb); have n3_ := Aside0.mk (Kd.R_elder' (xr HO154) (Kd.R_base ho0) hb); have n4_ := Aside0.mk (Kd.R_lower (Kd.R_new' (Kd.R_new' (Kd.R_new' (Kd.R_new' ho0 (Kd.R_lt (xr HO137))) (Kd.R_lt (xr HO140))) (Kd.R_lt (xr HO145))) (Kd.R_lt (xr HO154))) (below_size xq0)); have n5_ := Aside0.mk (below_step xq0 hb); clear HO137; clear HO140; clear HO145; clear HO154; clear HB; have HO137 := n0_; have HO140 := n1_; have HO145 := n2_; have HO154 := n3_; have HO157 := n4_; have HB := n5_; clear n0_ n1_ n2_ n3_ n4_ n5_; (try clear hb); (try clear hb2); (try clear hk); (try clear hi); (try clear ho0)) | ((with_reducible refine gate_callee (f := 18) rfl ?_); refine goesL_ (some 18) rfl rfl Try.func18 (by kernel_rfl) rfl #[.int .i64 9, .int .i64 12] rfl xa ?_; (with_reducible refine (spoorlaw06_of.calls 9 12 t158 t159 _ A12.out).mono ?_); rintro e w48 ⟨rfl, hb⟩; refine ⟨_, rfl, ?_⟩; have n0_ := Aside0.mk (Kd.R_below (xr HO137) hb); have n1_ := Aside0.mk (Kd.R_below (xr HO140) hb); have n2_ := Aside0.mk (Kd.R_below (xr HO145) hb); have n3_ := Aside0.mk (Kd.R_below (xr HO154) hb); have n4_ := Aside0.mk (Kd.R_below (xr HO157) hb); have n5_ := Aside0.mk (below_step xq0 hb); clear HO137; clear HO140; clear HO145; clear HO154; clear HO157; clear HB; have HO137 := n0_; have HO140 := n1_; have HO145 := n2_; have HO154 := n3_; have HO157 := n4_; have HB := n5_; clear n0_ n1_ n2_ n3_ n4_ n5_; (try clear hb); (try clear hb2); (try clear hk); (try clear hi)) | ((with_reducible refine gate_callee (f := 18) rfl ?_); refine goesL_ (some 19) rfl rfl Try.func18 (by kernel_rfl) rfl #[.int .i64 5, .int .i64 9] rfl xa ?_; (with_reducible refine (spoorlaw06_of.calls 5 9 t160 t161 _ A13.out).mono ?_); rintro e w49 ⟨rfl, hb⟩; refine ⟨_, rfl, ?_⟩; have n0_ := Aside0.mk (Kd.R_below (xr HO137) hb); have n1_ := Aside0.mk (Kd.R_below (xr HO140) hb); have n2_ := Aside0.mk (Kd.R_below (xr HO145) hb); have n3_ := Aside0.mk (Kd.R_below (xr HO154) hb); have n4_ := Aside0.mk (Kd.R_below (xr HO157) hb); have n5_ := Aside0.mk (below_step xq0 hb); clear HO137; clear HO140; clear HO145; clear HO154; clear HO157; clear HB; have HO137 := n0_; have HO140 := n1_; have HO145 := n2_; have HO154 := n3_; have HO157 := n4_; have HB := n5_; clear n0_ n1_ n2_ n3_ n4_ n5_; (try clear hb); (try clear hb2); (try clear hk); (try clear hi)) | ((with_reducible refine gate_callee (f := 11) rfl ?_); refine goesL_ (some 20) rfl rfl Try.func11 (by kernel_rfl) rfl #[.agg #[.int .i64 t158, .int .i64 t159], .agg #[.int .i64 t160, .int .i64 t161]] rfl xa ?_; (with_reducible refine (ival_Clip.calls t158 t159 t160 t161 t162 t163 _ A14.out).mono ?_); rintro e w50 ⟨rfl, hb⟩; refine ⟨_, rfl, ?_⟩; have n0_ := Aside0.mk (Kd.R_below (xr HO137) hb); have n1_ := Aside0.mk (Kd.R_below (xr HO140) hb); have n2_ := Aside0.mk (Kd.R_below (xr HO145) hb); have n3_ := Aside0.mk (Kd.R_below (xr HO154) hb); have n4_ := Aside0.mk (Kd.R_below (xr HO157) hb); have n5_ := Aside0.mk (below_step xq0 hb); clear HO137; clear HO140; clear HO145; clear HO154; clear HO157; clear HB; have HO137 := n0_; have HO140 := n1_; have HO145 := n2_; have HO154 := n3_; have HO157 := n4_; have HB := n5_; clear n0_ n1_ n2_ n3_ n4_ n5_; (try clear hb); (try clear hb2); (try clear hk); (try clear hi)) | ((with_reducible refine gate_dst (N := 3) rfl ?_); (try (refine gate_guard (by rfl) ?_; dsimp only)); refine box_event ?hg (N := 3) ?hd (cs := #[.int .i64 0, .int .i64 0]) (t := 23) ?hr ?_; (case hd => rfl); (case hg => rfl); (case hr => first | (go_simp; done) | (go_simp; rfl)); intro gb164 hg w51 hbox hb; have n0_ := Aside0.mk (Kd.R_below (Kd.R_elderB (xr HO137) gb164 (Nat.le_of_eq hg.symm)) hb); have n1_ := Aside0.mk (Kd.R_below (Kd.R_elderB (xr HO140) gb164 (Nat.le_of_eq hg.symm)) hb); have n2_ := Aside0.mk (Kd.R_below (Kd.R_elderB (xr HO145) gb164 (Nat.le_of_eq hg.symm)) hb); have n3_ := Aside0.mk (Kd.R_below (Kd.R_elderB (xr HO154) gb164 (Nat.le_of_eq hg.symm)) hb); have n4_ := Aside0.mk (Kd.R_below (Kd.R_elderB (xr HO157) gb164 (Nat.le_of_eq hg.symm)) hb); have n5_ := Aside0.mk (below_step xq0 hb); have n6_ := Aside0.mk (hbox); have n7_ := Aside0.mk ((by rw [hg]; exact (below_size xq0) : w.heap.size ≤ gb164)); have n8_ := Aside0.mk ((by rw [hg]; exact (below_size xq0) : w.heap.size ≤ gb164)); clear HO137; clear HO140; clear HO145; clear HO154; clear HO157; clear HB; have HO137 := n0_; have HO140 := n1_; have HO145 := n2_; have HO154 := n3_; have HO157 := n4_; have HB := n5_; have BK164 := n6_; have GW164 := n7_; have GE164 := n8_; clear n0_ n1_ n2_ n3_ n4_ n5_ n6_ n7_ n8_; clear hb hbox hg; have hcz52_0 : w51.cell? ⟨gb164, 0, none⟩ = some (.int .i64 0) := (blk_cell BK164.out 0).trans rfl; have hcz52_1 : w51.cell? ⟨gb164, 1, none⟩ = some (.int .i64 0) := (blk_cell BK164.out 1).trans rfl; have hfz52_0 := blk_frozen BK164.out 0; have hfz52_1 := blk_frozen BK164.out 1))
        have n0_ : Aside0 (Kd.R k23 23 ((w51.setCell ⟨gb164, 0, none⟩ (.int .i64 t162)).setCell ⟨gb164, 1, none⟩ (.int .i64 t163)) w.heap.size (fun k_ => some k_ ≠ (v139 : Value).ownBlock ∧ some k_ ≠ (.slice Ao45 y143.length co45 : Value).ownBlock ∧ some k_ ≠ (.slice Ao46 y152.length co46 : Value).ownBlock ∧ some k_ ≠ (v156 : Value).ownBlock ∧ k_ ≠ gb164) (.slice Ao35 y135.length co35) y135) := ⟨by (with_reducible repeat (first | apply Kd.R_alloc | apply Kd.R_drewN | apply Kd.R_drew)); exact Kd.R_mono (Kd.R_far (p := ⟨gb164, 1, none⟩) (Kd.R_far (p := ⟨gb164, 0, none⟩) (Kd.R_mono HO137.out (fun k_ hk => (⟨hk, hk.2⟩ : _ ∧ k_ ≠ gb164))) (fun _ hk => hk.2) (.int .i64 t162)) (fun _ hk => hk.2) (.int .i64 t163)) (fun _ hk => ⟨hk.1.1.1.1.1.2, ⟨hk.1.1.1.1.2, ⟨hk.1.1.1.2, ⟨hk.1.1.2, hk.1.2⟩⟩⟩⟩)⟩
        have n1_ : Aside0 (Kd.R k23 23 ((w51.setCell ⟨gb164, 0, none⟩ (.int .i64 t162)).setCell ⟨gb164, 1, none⟩ (.int .i64 t163)) w.heap.size (fun k_ => some k_ ≠ (.slice Ao35 y135.length co35 : Value).ownBlock ∧ some k_ ≠ (.slice Ao45 y143.length co45 : Value).ownBlock ∧ some k_ ≠ (.slice Ao46 y152.length co46 : Value).ownBlock ∧ some k_ ≠ (v156 : Value).ownBlock ∧ k_ ≠ gb164) v139 t138) := ⟨by (with_reducible repeat (first | apply Kd.R_alloc | apply Kd.R_drewN | apply Kd.R_drew)); exact Kd.R_mono (Kd.R_far (p := ⟨gb164, 1, none⟩) (Kd.R_far (p := ⟨gb164, 0, none⟩) (Kd.R_mono HO140.out (fun k_ hk => (⟨hk, hk.2⟩ : _ ∧ k_ ≠ gb164))) (fun _ hk => hk.2) (.int .i64 t162)) (fun _ hk => hk.2) (.int .i64 t163)) (fun _ hk => ⟨hk.1.1.1.1.1.2, ⟨hk.1.1.1.1.2, ⟨hk.1.1.1.2, ⟨hk.1.1.2, hk.1.2⟩⟩⟩⟩)⟩
        have n2_ : Aside0 (Kd.R k23 23 ((w51.setCell ⟨gb164, 0, none⟩ (.int .i64 t162)).setCell ⟨gb164, 1, none⟩ (.int .i64 t163)) w.heap.size (fun k_ => some k_ ≠ (.slice Ao35 y135.length co35 : Value).ownBlock ∧ some k_ ≠ (v139 : Value).ownBlock ∧ some k_ ≠ (.slice Ao46 y152.length co46 : Value).ownBlock ∧ some k_ ≠ (v156 : Value).ownBlock ∧ k_ ≠ gb164) (.slice Ao45 y143.length co45) y143) := ⟨by (with_reducible repeat (first | apply Kd.R_alloc | apply Kd.R_drewN | apply Kd.R_drew)); exact Kd.R_mono (Kd.R_far (p := ⟨gb164, 1, none⟩) (Kd.R_far (p := ⟨gb164, 0, none⟩) (Kd.R_mono HO145.out (fun k_ hk => (⟨hk, hk.2⟩ : _ ∧ k_ ≠ gb164))) (fun _ hk => hk.2) (.int .i64 t162)) (fun _ hk => hk.2) (.int .i64 t163)) (fun _ hk => ⟨hk.1.1.1.1.1.2, ⟨hk.1.1.1.1.2, ⟨hk.1.1.1.2, ⟨hk.1.1.2, hk.1.2⟩⟩⟩⟩)⟩
        have n3_ : Aside0 (Kd.R k23 23 ((w51.setCell ⟨gb164, 0, none⟩ (.int .i64 t162)).setCell ⟨gb164, 1, none⟩ (.int .i64 t163)) w.heap.size (fun k_ => some k_ ≠ (.slice Ao35 y135.length co35 : Value).ownBlock ∧ some k_ ≠ (v139 : Value).ownBlock ∧ some k_ ≠ (.slice Ao45 y143.length co45 : Value).ownBlock ∧ some k_ ≠ (v156 : Value).ownBlock ∧ k_ ≠ gb164) (.slice Ao46 y152.length co46) y152) := ⟨by (with_reducible repeat (first | apply Kd.R_alloc | apply Kd.R_drewN | apply Kd.R_drew)); exact Kd.R_mono (Kd.R_far (p := ⟨gb164, 1, none⟩) (Kd.R_far (p := ⟨gb164, 0, none⟩) (Kd.R_mono HO154.out (fun k_ hk => (⟨hk, hk.2⟩ : _ ∧ k_ ≠ gb164))) (fun _ hk => hk.2) (.int .i64 t162)) (fun _ hk => hk.2) (.int .i64 t163)) (fun _ hk => ⟨hk.1.1.1.1.1.2, ⟨hk.1.1.1.1.2, ⟨hk.1.1.1.2, ⟨hk.1.1.2, hk.1.2⟩⟩⟩⟩)⟩
        have n4_ : Aside0 (Kd.R k23 23 ((w51.setCell ⟨gb164, 0, none⟩ (.int .i64 t162)).setCell ⟨gb164, 1, none⟩ (.int .i64 t163)) w.heap.size (fun k_ => some k_ ≠ (.slice Ao35 y135.length co35 : Value).ownBlock ∧ some k_ ≠ (v139 : Value).ownBlock ∧ some k_ ≠ (.slice Ao45 y143.length co45 : Value).ownBlock ∧ some k_ ≠ (.slice Ao46 y152.length co46 : Value).ownBlock ∧ k_ ≠ gb164) v156 t155) := ⟨by (with_reducible repeat (first | apply Kd.R_alloc | apply Kd.R_drewN | apply Kd.R_drew)); exact Kd.R_mono (Kd.R_far (p := ⟨gb164, 1, none⟩) (Kd.R_far (p := ⟨gb164, 0, none⟩) (Kd.R_mono HO157.out (fun k_ hk => (⟨hk, hk.2⟩ : _ ∧ k_ ≠ gb164))) (fun _ hk => hk.2) (.int .i64 t162)) (fun _ hk => hk.2) (.int .i64 t163)) (fun _ hk => ⟨hk.1.1.1.1.1.2, ⟨hk.1.1.1.1.2, ⟨hk.1.1.1.2, ⟨hk.1.1.2, hk.1.2⟩⟩⟩⟩)⟩
        have n5_ : Aside0 (((w51.setCell ⟨gb164, 0, none⟩ (.int .i64 t162)).setCell ⟨gb164, 1, none⟩ (.int .i64 t163)).heap[gb164]? = some (.cells #[.int .i64 t162, .int .i64 t163] 23 (0, 0))) := ⟨by (with_reducible repeat (first | refine blk_drewN ?_ _ | refine blk_drew ?_ | refine blk_alloc ?_ _)); refine blk_put (cs := #[.int .i64 t162, .int .i64 0]) ?_ 1 _ rfl; (with_reducible repeat (first | refine blk_drewN ?_ _ | refine blk_drew ?_ | refine blk_alloc ?_ _)); refine blk_put (cs := #[.int .i64 0, .int .i64 0]) ?_ 0 _ rfl; (with_reducible repeat (first | refine blk_drewN ?_ _ | refine blk_drew ?_ | refine blk_alloc ?_ _)); exact BK164.out⟩
        have n6_ : Aside0 (Below w.heap.size w ((w51.setCell ⟨gb164, 0, none⟩ (.int .i64 t162)).setCell ⟨gb164, 1, none⟩ (.int .i64 t163))) := ⟨by repeat (first | (with_reducible first | exact HB.out | apply below_alloc | apply pw_below_drewN | apply below_drew1 | refine below_set ?_ GE164.out) | exact HB.out)⟩
        (try clear HO137)
        (try clear HO140)
        (try clear HO145)
        (try clear HO154)
        (try clear HO157)
        (try clear BK164)
        (try clear HB)
        generalize ((w51.setCell ⟨gb164, 0, none⟩ (.int .i64 t162)).setCell ⟨gb164, 1, none⟩ (.int .i64 t163)) = w53 at n0_ n1_ n2_ n3_ n4_ n5_ n6_ ⊢
        have HO137 := n0_
        have HO140 := n1_
        have HO145 := n2_
        have HO154 := n3_
        have HO157 := n4_
        have BK164 := n5_
        have HB := n6_
        clear n0_ n1_ n2_ n3_ n4_ n5_ n6_
        have n0_ := Aside0.mk (Kd.R_drew HO137.out)
        have n1_ := Aside0.mk (Kd.R_drew HO140.out)
        have n2_ := Aside0.mk (Kd.R_drew HO145.out)
        have n3_ := Aside0.mk (Kd.R_drew HO154.out)
        have n4_ := Aside0.mk (Kd.R_drew HO157.out)
        have n5_ := Aside0.mk (blk_drew BK164.out)
        have n6_ := Aside0.mk (below_drew1 HB.out)
        clear HO137
        clear HO140
        clear HO145
        clear HO154
        clear HO157
        clear BK164
        clear HB
        have HO137 := n0_
        have HO140 := n1_
        have HO145 := n2_
        have HO154 := n3_
        have HO157 := n4_
        have BK164 := n5_
        have HB := n6_
        clear n0_ n1_ n2_ n3_ n4_ n5_ n6_
        refine start_ (n := 24) (S := fun w' => w'.cell? ⟨gb164, 0, none⟩ = some (.int .i64 t162) ∧ w'.cell? ⟨gb164, 1, none⟩ = some (.int .i64 t163)) (ds := []) bz1b_0 (by kernel_rfl) rfl rfl ⟨(blk_cell BK164.out 0).trans rfl, (blk_cell BK164.out 1).trans rfl⟩ (fun hHeld => ?_); refine with_tabW spoorlaw06_alive.tab4 spoorlaw06_alive.bits4 (fun HT_ HW_ => ?_)
        generalize w53.drew = w54 at HO137 HO140 HO145 HO154 HO157 BK164 HB hHeld ⊢
        refine pz_ (i := 0) (N := some 21) bz1b_1 (any_of HT_.out (by kernel_rfl)) ?_
        refine one_ (i := 1) (N := some 22) bz1b_2 rfl rfl (one_of HT_.out (by kernel_rfl)) (by decide) (fun K hK => ?_)
        refine goes_ Try.func18 (by kernel_rfl) rfl #[.int .i64 1, .int .i64 3] (by rfl) rfl rfl xa ?_
        with_reducible refine (spoorlaw06_of.calls 1 3 t165 t166 _ A15.out).mono ?_
        rintro e w55 ⟨rfl, hb⟩
        refine ⟨_, rfl, ?_⟩
        have n0_ := Aside0.mk (Kd.R_below (xr HO137) hb)
        have n1_ := Aside0.mk (Kd.R_below (xr HO140) hb)
        have n2_ := Aside0.mk (Kd.R_below (xr HO145) hb)
        have n3_ := Aside0.mk (Kd.R_below (xr HO154) hb)
        have n4_ := Aside0.mk (Kd.R_below (xr HO157) hb)
        have n5_ := Aside0.mk (blk_below (g := gb164) (o := .cells #[.int .i64 t162, .int .i64 t163] 23 (0, 0)) (xb BK164) hb)
        have n6_ := Aside0.mk (below_step xq1 hb)
        clear HO137
        clear HO140
        clear HO145
        clear HO154
        clear HO157
        clear BK164
        clear HB
        have HO137 := n0_
        have HO140 := n1_
        have HO145 := n2_
        have HO154 := n3_
        have HO157 := n4_
        have BK164 := n5_
        have HB := n6_
        clear n0_ n1_ n2_ n3_ n4_ n5_ n6_
        (try clear hb)
        (try clear hb2)
        (try clear hk)
        (try clear hi)
        refine hK.out _ _ ⟨(blk_cell BK164.out 0).trans rfl, (blk_cell BK164.out 1).trans rfl⟩ (fun hHeld => ?_)
        clear hK K
        refine norm_ (a' := ?_) ?_ ?_
        rotate_left
        · show Act.put _ (some 22) _ = _
          simp only [Act.put, List.setIfInBounds_toArray, List.set_cons_zero, List.set_cons_succ, i64_w, i32_w]
          rfl
        refine one_ (i := 2) (N := some 23) bz1b_3 rfl rfl (one_of HT_.out (by kernel_rfl)) (by decide) (fun K hK => ?_)
        refine goes_ Try.func18 (by kernel_rfl) rfl #[.int .i64 5, .int .i64 9] (by rfl) rfl rfl xa ?_
        with_reducible refine (spoorlaw06_of.calls 5 9 t167 t168 _ A16.out).mono ?_
        rintro e w56 ⟨rfl, hb⟩
        refine ⟨_, rfl, ?_⟩
        have n0_ := Aside0.mk (Kd.R_below (xr HO137) hb)
        have n1_ := Aside0.mk (Kd.R_below (xr HO140) hb)
        have n2_ := Aside0.mk (Kd.R_below (xr HO145) hb)
        have n3_ := Aside0.mk (Kd.R_below (xr HO154) hb)
        have n4_ := Aside0.mk (Kd.R_below (xr HO157) hb)
        have n5_ := Aside0.mk (blk_below (g := gb164) (o := .cells #[.int .i64 t162, .int .i64 t163] 23 (0, 0)) (xb BK164) hb)
        have n6_ := Aside0.mk (below_step xq1 hb)
        clear HO137
        clear HO140
        clear HO145
        clear HO154
        clear HO157
        clear BK164
        clear HB
        have HO137 := n0_
        have HO140 := n1_
        have HO145 := n2_
        have HO154 := n3_
        have HO157 := n4_
        have BK164 := n5_
        have HB := n6_
        clear n0_ n1_ n2_ n3_ n4_ n5_ n6_
        (try clear hb)
        (try clear hb2)
        (try clear hk)
        (try clear hi)
        refine hK.out _ _ ⟨(blk_cell BK164.out 0).trans rfl, (blk_cell BK164.out 1).trans rfl⟩ (fun hHeld => ?_)
        clear hK K
        refine norm_ (a' := ?_) ?_ ?_
        rotate_left
        · show Act.put _ (some 23) _ = _
          simp only [Act.put, List.setIfInBounds_toArray, List.set_cons_zero, List.set_cons_succ, i64_w, i32_w]
          rfl
        refine one_ (i := 3) (N := some 24) bz1b_4 rfl rfl (one_of HT_.out (by kernel_rfl)) (by decide) (fun K hK => ?_)
        refine Kd.R_lit_step k23 _ 23 ?hg (N := 24) ?hd (xs := ([(⟨t165, t166⟩ : S23), (⟨t167, t168⟩ : S23)] : List (S23))) (inner := [.int .i64 t165, .int .i64 t166, .int .i64 t167, .int .i64 t168]) (ok := fun _ => True) (okp := fun _ => True) ?hr ?hp (fun _ hk => hk) trivial (Below.refl _ _) (Nat.le_refl _) (by simp) ?_; (case hd => rfl); (case hg => rfl); (case hr => first | (go_simp; done) | (go_simp; rfl)); (case hp => exact (Reps.c2 (show Kd.M k23 _ _ _ (⟨t165, t166⟩ : S23) [.int .i64 t165, .int .i64 t166] from (k23_mkM _ _ _ (⟨t165, t166⟩ : S23) )) (Reps.c2 (show Kd.M k23 _ _ _ (⟨t167, t168⟩ : S23) [.int .i64 t167, .int .i64 t168] from (k23_mkM _ _ _ (⟨t167, t168⟩ : S23) )) (Reps.none _ _))))
        intro v170 w57 ho58 hb hg_ hnew_
        clear hg_ hnew_
        (first | rw [← Ny169.out] at ho58 | (simp only [Int.reduceToNat] at ho58; rw [← Ny169.out] at ho58))
        have n0_ := Aside0.mk (Kd.R_elder' (xr HO137) (Kd.R_base ho58) hb)
        have n1_ := Aside0.mk (Kd.R_elder' (xr HO140) (Kd.R_base ho58) hb)
        have n2_ := Aside0.mk (Kd.R_elder' (xr HO145) (Kd.R_base ho58) hb)
        have n3_ := Aside0.mk (Kd.R_elder' (xr HO154) (Kd.R_base ho58) hb)
        have n4_ := Aside0.mk (Kd.R_elder' (xr HO157) (Kd.R_base ho58) hb)
        have n5_ := Aside0.mk (Kd.R_lower (Kd.R_newB (Kd.R_new' (Kd.R_new' (Kd.R_new' (Kd.R_new' (Kd.R_new' ho58 (Kd.R_lt (xr HO137))) (Kd.R_lt (xr HO140))) (Kd.R_lt (xr HO145))) (Kd.R_lt (xr HO154))) (Kd.R_lt (xr HO157))) (g := gb164) (o := .cells #[.int .i64 t162, .int .i64 t163] 23 (0, 0)) (xb BK164)) (below_size xq1))
        have n6_ := Aside0.mk (blk_below (g := gb164) (o := .cells #[.int .i64 t162, .int .i64 t163] 23 (0, 0)) (xb BK164) hb)
        have n7_ := Aside0.mk (below_step xq1 hb)
        clear HO137
        clear HO140
        clear HO145
        clear HO154
        clear HO157
        clear BK164
        clear HB
        have HO137 := n0_
        have HO140 := n1_
        have HO145 := n2_
        have HO154 := n3_
        have HO157 := n4_
        have HO171 := n5_
        have BK164 := n6_
        have HB := n7_
        clear n0_ n1_ n2_ n3_ n4_ n5_ n6_ n7_
        clear hb ho58
        obtain ⟨Ao59, co59, eo59⟩ := Kd.R_slice HO140.out
        (first | subst eo59 | (injection eo59 with f1_ f2_ f3_; have f4_ := f1_.symm; have f5_ := f3_.symm; clear f1_ f2_ f3_; subst f4_; subst f5_))
        obtain ⟨Ao60, co60, eo60⟩ := Kd.R_slice HO171.out
        (first | subst eo60 | (injection eo60 with f1_ f2_ f3_; have f4_ := f1_.symm; have f5_ := f3_.symm; clear f1_ f2_ f3_; subst f4_; subst f5_))
        refine hK.out _ _ ⟨(blk_cell BK164.out 0).trans rfl, (blk_cell BK164.out 1).trans rfl⟩ (fun hHeld => ?_)
        clear hK K
        refine norm_ (a' := ?_) ?_ ?_
        rotate_left
        · show Act.put _ (some 24) _ = _
          simp only [Act.put, List.setIfInBounds_toArray, List.set_cons_zero, List.set_cons_succ, i64_w, i32_w]
          rfl
        refine one_ (i := 4) (N := some 25) bz1b_5 rfl rfl (one_of HT_.out (by kernel_rfl)) (by decide) (fun K hK => ?_)
        refine goes_ Try.func20 (by kernel_rfl) rfl #[.slice Ao59 t138.length co59, .slice Ao60 y169.length co60] (by rfl) rfl rfl xa ?_
        with_reducible refine (spoorref06_Same.calls k _ _ t138 _ _ y169 true _ ?side1 ?side2 ?side3 ?side4 A17.out).mono ?_
        (case side1 => repeat (first | exact (Kd.R_reads' HO140.out).2.2 | (with_reducible refine Kd.C_alloc ?_ _) | (with_reducible refine Kd.C_drewN ?_ _) | (with_reducible refine Kd.C_drew ?_)))
        (case side2 => exact (Kd.R_reads' HO140.out).2.1)
        (case side3 => repeat (first | exact (Kd.R_reads' HO171.out).2.2 | (with_reducible refine Kd.C_alloc ?_ _) | (with_reducible refine Kd.C_drewN ?_ _) | (with_reducible refine Kd.C_drew ?_)))
        (case side4 => exact (Kd.R_reads' HO171.out).2.1)
        rintro e w' ⟨rfl, ⟨nd, rfl⟩⟩
        refine ⟨_, rfl, ?_⟩
        refine hK.out _ _ ⟨(blk_cell BK164.out 0).trans rfl, (blk_cell BK164.out 1).trans rfl⟩ (fun hHeld => ?_)
        clear hK K
        refine norm_ (a' := ?_) ?_ ?_
        rotate_left
        · show Act.put _ (some 25) _ = _
          simp only [Act.put, List.setIfInBounds_toArray, List.set_cons_zero, List.set_cons_succ, i64_w, i32_w]
          rfl
        refine pz_ (i := 5) (N := some 26) bz1b_6 (any_of HT_.out (by kernel_rfl)) ?_
        refine pz_ (i := 6) (N := some 27) bz1b_7 (any_of HT_.out (by kernel_rfl)) ?_
        refine one_ (i := 7) (N := some 28) bz1b_8 rfl rfl (one_of HT_.out (by kernel_rfl)) (by decide) (fun K hK => ?_)
        refine goes_ Try.func18 (by kernel_rfl) rfl #[.int .i64 1, .int .i64 3] (by rfl) rfl rfl xa ?_
        with_reducible refine (spoorlaw06_of.calls 1 3 t173 t174 _ A19.out).mono ?_
        rintro e w61 ⟨rfl, hb⟩
        refine ⟨_, rfl, ?_⟩
        have n0_ := Aside0.mk (Kd.R_below (xr HO137) hb)
        have n1_ := Aside0.mk (Kd.R_below (xr HO140) hb)
        have n2_ := Aside0.mk (Kd.R_below (xr HO145) hb)
        have n3_ := Aside0.mk (Kd.R_below (xr HO154) hb)
        have n4_ := Aside0.mk (Kd.R_below (xr HO157) hb)
        have n5_ := Aside0.mk (Kd.R_below (xr HO171) hb)
        have n6_ := Aside0.mk (blk_below (g := gb164) (o := .cells #[.int .i64 t162, .int .i64 t163] 23 (0, 0)) (xb BK164) hb)
        have n7_ := Aside0.mk (below_step xq1 hb)
        clear HO137
        clear HO140
        clear HO145
        clear HO154
        clear HO157
        clear HO171
        clear BK164
        clear HB
        have HO137 := n0_
        have HO140 := n1_
        have HO145 := n2_
        have HO154 := n3_
        have HO157 := n4_
        have HO171 := n5_
        have BK164 := n6_
        have HB := n7_
        clear n0_ n1_ n2_ n3_ n4_ n5_ n6_ n7_
        (try clear hb)
        (try clear hb2)
        (try clear hk)
        (try clear hi)
        refine hK.out _ _ ⟨(blk_cell BK164.out 0).trans rfl, (blk_cell BK164.out 1).trans rfl⟩ (fun hHeld => ?_)
        clear hK K
        refine norm_ (a' := ?_) ?_ ?_
        rotate_left
        · show Act.put _ (some 28) _ = _
          simp only [Act.put, List.setIfInBounds_toArray, List.set_cons_zero, List.set_cons_succ, i64_w, i32_w]
          rfl
        refine one_ (i := 8) (N := some 29) bz1b_9 rfl rfl (one_of HT_.out (by kernel_rfl)) (by decide) (fun K hK => ?_)
        refine goes_ Try.func18 (by kernel_rfl) rfl #[.int .i64 4, .int .i64 6] (by rfl) rfl rfl xa ?_
        with_reducible refine (spoorlaw06_of.calls 4 6 t175 t176 _ A20.out).mono ?_
        rintro e w62 ⟨rfl, hb⟩
        refine ⟨_, rfl, ?_⟩
        have n0_ := Aside0.mk (Kd.R_below (xr HO137) hb)
        have n1_ := Aside0.mk (Kd.R_below (xr HO140) hb)
        have n2_ := Aside0.mk (Kd.R_below (xr HO145) hb)
        have n3_ := Aside0.mk (Kd.R_below (xr HO154) hb)
        have n4_ := Aside0.mk (Kd.R_below (xr HO157) hb)
        have n5_ := Aside0.mk (Kd.R_below (xr HO171) hb)
        have n6_ := Aside0.mk (blk_below (g := gb164) (o := .cells #[.int .i64 t162, .int .i64 t163] 23 (0, 0)) (xb BK164) hb)
        have n7_ := Aside0.mk (below_step xq1 hb)
        clear HO137
        clear HO140
        clear HO145
        clear HO154
        clear HO157
        clear HO171
        clear BK164
        clear HB
        have HO137 := n0_
        have HO140 := n1_
        have HO145 := n2_
        have HO154 := n3_
        have HO157 := n4_
        have HO171 := n5_
        have BK164 := n6_
        have HB := n7_
        clear n0_ n1_ n2_ n3_ n4_ n5_ n6_ n7_
        (try clear hb)
        (try clear hb2)
        (try clear hk)
        (try clear hi)
        refine hK.out _ _ ⟨(blk_cell BK164.out 0).trans rfl, (blk_cell BK164.out 1).trans rfl⟩ (fun hHeld => ?_)
        clear hK K
        refine norm_ (a' := ?_) ?_ ?_
        rotate_left
        · show Act.put _ (some 29) _ = _
          simp only [Act.put, List.setIfInBounds_toArray, List.set_cons_zero, List.set_cons_succ, i64_w, i32_w]
          rfl
        refine one_ (i := 9) (N := some 30) bz1b_10 rfl rfl (one_of HT_.out (by kernel_rfl)) (by decide) (fun K hK => ?_)
        refine goes_ Try.func18 (by kernel_rfl) rfl #[.int .i64 9, .int .i64 12] (by rfl) rfl rfl xa ?_
        with_reducible refine (spoorlaw06_of.calls 9 12 t177 t178 _ A21.out).mono ?_
        rintro e w63 ⟨rfl, hb⟩
        refine ⟨_, rfl, ?_⟩
        have n0_ := Aside0.mk (Kd.R_below (xr HO137) hb)
        have n1_ := Aside0.mk (Kd.R_below (xr HO140) hb)
        have n2_ := Aside0.mk (Kd.R_below (xr HO145) hb)
        have n3_ := Aside0.mk (Kd.R_below (xr HO154) hb)
        have n4_ := Aside0.mk (Kd.R_below (xr HO157) hb)
        have n5_ := Aside0.mk (Kd.R_below (xr HO171) hb)
        have n6_ := Aside0.mk (blk_below (g := gb164) (o := .cells #[.int .i64 t162, .int .i64 t163] 23 (0, 0)) (xb BK164) hb)
        have n7_ := Aside0.mk (below_step xq1 hb)
        clear HO137
        clear HO140
        clear HO145
        clear HO154
        clear HO157
        clear HO171
        clear BK164
        clear HB
        have HO137 := n0_
        have HO140 := n1_
        have HO145 := n2_
        have HO154 := n3_
        have HO157 := n4_
        have HO171 := n5_
        have BK164 := n6_
        have HB := n7_
        clear n0_ n1_ n2_ n3_ n4_ n5_ n6_ n7_
        (try clear hb)
        (try clear hb2)
        (try clear hk)
        (try clear hi)
        refine hK.out _ _ ⟨(blk_cell BK164.out 0).trans rfl, (blk_cell BK164.out 1).trans rfl⟩ (fun hHeld => ?_)
        clear hK K
        refine norm_ (a' := ?_) ?_ ?_
        rotate_left
        · show Act.put _ (some 30) _ = _
          simp only [Act.put, List.setIfInBounds_toArray, List.set_cons_zero, List.set_cons_succ, i64_w, i32_w]
          rfl
        refine one_ (i := 10) (N := some 31) bz1b_11 rfl rfl (one_of HT_.out (by kernel_rfl)) (by decide) (fun K hK => ?_)
        refine Kd.R_lit_step k23 _ 23 ?hg (N := 31) ?hd (xs := ([(⟨t173, t174⟩ : S23), (⟨t175, t176⟩ : S23), (⟨t177, t178⟩ : S23)] : List (S23))) (inner := [.int .i64 t173, .int .i64 t174, .int .i64 t175, .int .i64 t176, .int .i64 t177, .int .i64 t178]) (ok := fun _ => True) (okp := fun _ => True) ?hr ?hp (fun _ hk => hk) trivial (Below.refl _ _) (Nat.le_refl _) (by simp) ?_; (case hd => rfl); (case hg => rfl); (case hr => first | (go_simp; done) | (go_simp; rfl)); (case hp => exact (Reps.c2 (show Kd.M k23 _ _ _ (⟨t173, t174⟩ : S23) [.int .i64 t173, .int .i64 t174] from (k23_mkM _ _ _ (⟨t173, t174⟩ : S23) )) (Reps.c2 (show Kd.M k23 _ _ _ (⟨t175, t176⟩ : S23) [.int .i64 t175, .int .i64 t176] from (k23_mkM _ _ _ (⟨t175, t176⟩ : S23) )) (Reps.c2 (show Kd.M k23 _ _ _ (⟨t177, t178⟩ : S23) [.int .i64 t177, .int .i64 t178] from (k23_mkM _ _ _ (⟨t177, t178⟩ : S23) )) (Reps.none _ _)))))
        intro v180 w64 ho65 hb hg_ hnew_
        clear hg_ hnew_
        (first | rw [← Ny179.out] at ho65 | (simp only [Int.reduceToNat] at ho65; rw [← Ny179.out] at ho65))
        have n0_ := Aside0.mk (Kd.R_elder' (xr HO137) (Kd.R_base ho65) hb)
        have n1_ := Aside0.mk (Kd.R_elder' (xr HO140) (Kd.R_base ho65) hb)
        have n2_ := Aside0.mk (Kd.R_elder' (xr HO145) (Kd.R_base ho65) hb)
        have n3_ := Aside0.mk (Kd.R_elder' (xr HO154) (Kd.R_base ho65) hb)
        have n4_ := Aside0.mk (Kd.R_elder' (xr HO157) (Kd.R_base ho65) hb)
        have n5_ := Aside0.mk (Kd.R_elder' (xr HO171) (Kd.R_base ho65) hb)
        have n6_ := Aside0.mk (Kd.R_lower (Kd.R_newB (Kd.R_new' (Kd.R_new' (Kd.R_new' (Kd.R_new' (Kd.R_new' (Kd.R_new' ho65 (Kd.R_lt (xr HO137))) (Kd.R_lt (xr HO140))) (Kd.R_lt (xr HO145))) (Kd.R_lt (xr HO154))) (Kd.R_lt (xr HO157))) (Kd.R_lt (xr HO171))) (g := gb164) (o := .cells #[.int .i64 t162, .int .i64 t163] 23 (0, 0)) (xb BK164)) (below_size xq1))
        have n7_ := Aside0.mk (blk_below (g := gb164) (o := .cells #[.int .i64 t162, .int .i64 t163] 23 (0, 0)) (xb BK164) hb)
        have n8_ := Aside0.mk (below_step xq1 hb)
        clear HO137
        clear HO140
        clear HO145
        clear HO154
        clear HO157
        clear HO171
        clear BK164
        clear HB
        have HO137 := n0_
        have HO140 := n1_
        have HO145 := n2_
        have HO154 := n3_
        have HO157 := n4_
        have HO171 := n5_
        have HO181 := n6_
        have BK164 := n7_
        have HB := n8_
        clear n0_ n1_ n2_ n3_ n4_ n5_ n6_ n7_ n8_
        clear hb ho65
        obtain ⟨Ao66, co66, eo66⟩ := Kd.R_slice HO157.out
        (first | subst eo66 | (injection eo66 with f1_ f2_ f3_; have f4_ := f1_.symm; have f5_ := f3_.symm; clear f1_ f2_ f3_; subst f4_; subst f5_))
        obtain ⟨Ao67, co67, eo67⟩ := Kd.R_slice HO181.out
        (first | subst eo67 | (injection eo67 with f1_ f2_ f3_; have f4_ := f1_.symm; have f5_ := f3_.symm; clear f1_ f2_ f3_; subst f4_; subst f5_))
        refine hK.out _ _ ⟨(blk_cell BK164.out 0).trans rfl, (blk_cell BK164.out 1).trans rfl⟩ (fun hHeld => ?_)
        clear hK K
        refine norm_ (a' := ?_) ?_ ?_
        rotate_left
        · show Act.put _ (some 31) _ = _
          simp only [Act.put, List.setIfInBounds_toArray, List.set_cons_zero, List.set_cons_succ, i64_w, i32_w]
          rfl
        refine one_ (i := 11) (N := some 32) bz1b_12 rfl rfl (one_of HT_.out (by kernel_rfl)) (by decide) (fun K hK => ?_)
        refine goes_ Try.func20 (by kernel_rfl) rfl #[.slice Ao66 t155.length co66, .slice Ao67 y179.length co67] (by rfl) rfl rfl xa ?_
        with_reducible refine (spoorref06_Same.calls k _ _ t155 _ _ y179 true _ ?side1 ?side2 ?side3 ?side4 A22.out).mono ?_
        (case side1 => repeat (first | exact (Kd.R_reads' HO157.out).2.2 | (with_reducible refine Kd.C_alloc ?_ _) | (with_reducible refine Kd.C_drewN ?_ _) | (with_reducible refine Kd.C_drew ?_)))
        (case side2 => exact (Kd.R_reads' HO157.out).2.1)
        (case side3 => repeat (first | exact (Kd.R_reads' HO181.out).2.2 | (with_reducible refine Kd.C_alloc ?_ _) | (with_reducible refine Kd.C_drewN ?_ _) | (with_reducible refine Kd.C_drew ?_)))
        (case side4 => exact (Kd.R_reads' HO181.out).2.1)
        rintro e w' ⟨rfl, ⟨nd, rfl⟩⟩
        refine ⟨_, rfl, ?_⟩
        refine hK.out _ _ ⟨(blk_cell BK164.out 0).trans rfl, (blk_cell BK164.out 1).trans rfl⟩ (fun hHeld => ?_)
        clear hK K
        refine norm_ (a' := ?_) ?_ ?_
        rotate_left
        · show Act.put _ (some 32) _ = _
          simp only [Act.put, List.setIfInBounds_toArray, List.set_cons_zero, List.set_cons_succ, i64_w, i32_w]
          rfl
        refine pz_ (i := 12) (N := some 33) bz1b_13 (any_of HT_.out (by kernel_rfl)) ?_
        refine pz_ (i := 13) (N := some 34) bz1b_14 (any_of HT_.out (by kernel_rfl)) ?_
        refine take_ (i := 14) (N := some 35) (v := ?_) (a' := ?_) bz1b_15 rfl rfl (take_ofW HT_.out HW_.out (by kernel_rfl)) (fun _ _ _ h => h) (Or.inl ⟨by rfl, ?_⟩) hHeld ?_ ?_
        rotate_left
        · rintro w' ⟨s0, s1⟩
          go_simp
          with_reducible rfl
        rotate_left
        · simp only [Act.put, List.setIfInBounds_toArray, List.set_cons_zero, List.set_cons_succ, i64_w, i32_w]
          rfl
        refine one_ (i := 15) (N := some 36) bz1b_16 rfl rfl (one_of HT_.out (by kernel_rfl)) (by decide) (fun K hK => ?_)
        refine goes_ Try.func18 (by kernel_rfl) rfl #[.int .i64 9, .int .i64 9] (by rfl) rfl rfl xa ?_
        with_reducible refine (spoorlaw06_of.calls 9 9 t183 t184 _ A24.out).mono ?_
        rintro e w68 ⟨rfl, hb⟩
        refine ⟨_, rfl, ?_⟩
        have n0_ := Aside0.mk (Kd.R_below (xr HO137) hb)
        have n1_ := Aside0.mk (Kd.R_below (xr HO140) hb)
        have n2_ := Aside0.mk (Kd.R_below (xr HO145) hb)
        have n3_ := Aside0.mk (Kd.R_below (xr HO154) hb)
        have n4_ := Aside0.mk (Kd.R_below (xr HO157) hb)
        have n5_ := Aside0.mk (Kd.R_below (xr HO171) hb)
        have n6_ := Aside0.mk (Kd.R_below (xr HO181) hb)
        have n7_ := Aside0.mk (blk_below (g := gb164) (o := .cells #[.int .i64 t162, .int .i64 t163] 23 (0, 0)) (xb BK164) hb)
        have n8_ := Aside0.mk (below_step xq1 hb)
        clear HO137
        clear HO140
        clear HO145
        clear HO154
        clear HO157
        clear HO171
        clear HO181
        clear BK164
        clear HB
        have HO137 := n0_
        have HO140 := n1_
        have HO145 := n2_
        have HO154 := n3_
        have HO157 := n4_
        have HO171 := n5_
        have HO181 := n6_
        have BK164 := n7_
        have HB := n8_
        clear n0_ n1_ n2_ n3_ n4_ n5_ n6_ n7_ n8_
        (try clear hb)
        (try clear hb2)
        (try clear hk)
        (try clear hi)
        refine hK.out _ _ ⟨(blk_cell BK164.out 0).trans rfl, (blk_cell BK164.out 1).trans rfl⟩ (fun hHeld => ?_)
        clear hK K
        refine norm_ (a' := ?_) ?_ ?_
        rotate_left
        · show Act.put _ (some 36) _ = _
          simp only [Act.put, List.setIfInBounds_toArray, List.set_cons_zero, List.set_cons_succ, i64_w, i32_w]
          rfl
        refine pz_ (i := 16) (N := some 37) bz1b_17 (any_of HT_.out (by kernel_rfl)) ?_
        refine pz_ (i := 17) (N := some 38) bz1b_18 (any_of HT_.out (by kernel_rfl)) ?_
        refine pz_ (i := 18) (N := some 39) bz1b_19 (any_of HT_.out (by kernel_rfl)) ?_
        refine one_ (i := 19) (N := some 40) bz1b_20 rfl rfl (one_of HT_.out (by kernel_rfl)) (by decide) (fun K hK => ?_)
        refine goes_ Try.func18 (by kernel_rfl) rfl #[.int .i64 3, .int .i64 9] (by rfl) rfl rfl xa ?_
        with_reducible refine (spoorlaw06_of.calls 3 9 t185 t186 _ A26.out).mono ?_
        rintro e w69 ⟨rfl, hb⟩
        refine ⟨_, rfl, ?_⟩
        have n0_ := Aside0.mk (Kd.R_below (xr HO137) hb)
        have n1_ := Aside0.mk (Kd.R_below (xr HO140) hb)
        have n2_ := Aside0.mk (Kd.R_below (xr HO145) hb)
        have n3_ := Aside0.mk (Kd.R_below (xr HO154) hb)
        have n4_ := Aside0.mk (Kd.R_below (xr HO157) hb)
        have n5_ := Aside0.mk (Kd.R_below (xr HO171) hb)
        have n6_ := Aside0.mk (Kd.R_below (xr HO181) hb)
        have n7_ := Aside0.mk (blk_below (g := gb164) (o := .cells #[.int .i64 t162, .int .i64 t163] 23 (0, 0)) (xb BK164) hb)
        have n8_ := Aside0.mk (below_step xq1 hb)
        clear HO137
        clear HO140
        clear HO145
        clear HO154
        clear HO157
        clear HO171
        clear HO181
        clear BK164
        clear HB
        have HO137 := n0_
        have HO140 := n1_
        have HO145 := n2_
        have HO154 := n3_
        have HO157 := n4_
        have HO171 := n5_
        have HO181 := n6_
        have BK164 := n7_
        have HB := n8_
        clear n0_ n1_ n2_ n3_ n4_ n5_ n6_ n7_ n8_
        (try clear hb)
        (try clear hb2)
        (try clear hk)
        (try clear hi)
        refine hK.out _ _ ⟨(blk_cell BK164.out 0).trans rfl, (blk_cell BK164.out 1).trans rfl⟩ (fun hHeld => ?_)
        clear hK K
        refine norm_ (a' := ?_) ?_ ?_
        rotate_left
        · show Act.put _ (some 40) _ = _
          simp only [Act.put, List.setIfInBounds_toArray, List.set_cons_zero, List.set_cons_succ, i64_w, i32_w]
          rfl
        refine one_ (i := 20) (N := some 41) bz1b_21 rfl rfl (one_of HT_.out (by kernel_rfl)) (by decide) (fun K hK => ?_)
        refine goes_ Try.func13 (by kernel_rfl) rfl #[.agg #[.int .i64 t185, .int .i64 t186]] (by rfl) rfl rfl xa ?_
        with_reducible refine (ival_Length.calls t185 t186 t187 _ A27.out).mono ?_
        rintro e w70 ⟨rfl, hb⟩
        refine ⟨_, rfl, ?_⟩
        have n0_ := Aside0.mk (Kd.R_below (xr HO137) hb)
        have n1_ := Aside0.mk (Kd.R_below (xr HO140) hb)
        have n2_ := Aside0.mk (Kd.R_below (xr HO145) hb)
        have n3_ := Aside0.mk (Kd.R_below (xr HO154) hb)
        have n4_ := Aside0.mk (Kd.R_below (xr HO157) hb)
        have n5_ := Aside0.mk (Kd.R_below (xr HO171) hb)
        have n6_ := Aside0.mk (Kd.R_below (xr HO181) hb)
        have n7_ := Aside0.mk (blk_below (g := gb164) (o := .cells #[.int .i64 t162, .int .i64 t163] 23 (0, 0)) (xb BK164) hb)
        have n8_ := Aside0.mk (below_step xq1 hb)
        clear HO137
        clear HO140
        clear HO145
        clear HO154
        clear HO157
        clear HO171
        clear HO181
        clear BK164
        clear HB
        have HO137 := n0_
        have HO140 := n1_
        have HO145 := n2_
        have HO154 := n3_
        have HO157 := n4_
        have HO171 := n5_
        have HO181 := n6_
        have BK164 := n7_
        have HB := n8_
        clear n0_ n1_ n2_ n3_ n4_ n5_ n6_ n7_ n8_
        (try clear hb)
        (try clear hb2)
        (try clear hk)
        (try clear hi)
        refine hK.out _ _ ⟨(blk_cell BK164.out 0).trans rfl, (blk_cell BK164.out 1).trans rfl⟩ (fun hHeld => ?_)
        clear hK K
        refine norm_ (a' := ?_) ?_ ?_
        rotate_left
        · show Act.put _ (some 41) _ = _
          simp only [Act.put, List.setIfInBounds_toArray, List.set_cons_zero, List.set_cons_succ, i64_w, i32_w]
          rfl
        refine pz_ (i := 21) (N := some 42) bz1b_22 (any_of HT_.out (by kernel_rfl)) ?_
        refine pz_ (i := 22) (N := some 43) bz1b_23 (any_of HT_.out (by kernel_rfl)) ?_
        refine pz_ (i := 23) (N := some 0) bz1b_24 (any_of HT_.out (by kernel_rfl)) ?_
        refine done_ (done_of HT_.out (by kernel_rfl)) ?_
        try go_wp2
        go_ret
        exact ⟨by first | rfl | (simp [errW_none, errW_some] <;> rfl) | (simp [*, errW_none, errW_some] <;> rfl), by repeat (first | (with_reducible first | exact HB.out | apply below_alloc | apply pw_below_drewN | apply below_drew1 | refine below_set ?_ GE164.out) | exact HB.out)⟩
      · rw [if_neg c25] at H
        have c25b0 : (t162 == t183 && (t163 == t184)) = false := by simpa using c25
        (try (have c25b1 : decide (t162 = t183 && (t163 == t184)) = false := by simpa using c25))
        (try (have c25b2 : (t162 == t183 && (t163 == t184)) = false := by simpa using c25))
        (try (have c25b3 : ¬ (t162 = t183 && (t163 == t184)) := by simpa using c25))
        clear c25
        obtain rfl := Option.some.inj H
        go_enter Try.func10, Try.ntmps10
        try go_wp2_with (first | ((with_reducible refine gate_callee (f := 18) rfl ?_); refine goesL_ (some 4) rfl rfl Try.func18 (by kernel_rfl) rfl #[.int .i64 5, .int .i64 7] rfl xa ?_; (with_reducible refine (spoorlaw06_of.calls 5 7 t125 t126 _ A1.out).mono ?_); rintro e w71 ⟨rfl, hb⟩; refine ⟨_, rfl, ?_⟩; have n0_ := Aside0.mk (below_step xq0 hb); clear HB; have HB := n0_; clear n0_; (try clear hb); (try clear hb2); (try clear hk); (try clear hi)) | ((with_reducible refine gate_callee (f := 18) rfl ?_); refine goesL_ (some 5) rfl rfl Try.func18 (by kernel_rfl) rfl #[.int .i64 1, .int .i64 3] rfl xa ?_; (with_reducible refine (spoorlaw06_of.calls 1 3 t127 t128 _ A2.out).mono ?_); rintro e w72 ⟨rfl, hb⟩; refine ⟨_, rfl, ?_⟩; have n0_ := Aside0.mk (below_step xq0 hb); clear HB; have HB := n0_; clear n0_; (try clear hb); (try clear hb2); (try clear hk); (try clear hi)) | ((with_reducible refine gate_callee (f := 18) rfl ?_); refine goesL_ (some 6) rfl rfl Try.func18 (by kernel_rfl) rfl #[.int .i64 7, .int .i64 9] rfl xa ?_; (with_reducible refine (spoorlaw06_of.calls 7 9 t129 t130 _ A3.out).mono ?_); rintro e w73 ⟨rfl, hb⟩; refine ⟨_, rfl, ?_⟩; have n0_ := Aside0.mk (below_step xq0 hb); clear HB; have HB := n0_; clear n0_; (try clear hb); (try clear hb2); (try clear hk); (try clear hi)) | ((with_reducible refine gate_callee (f := 18) rfl ?_); refine goesL_ (some 7) rfl rfl Try.func18 (by kernel_rfl) rfl #[.int .i64 4, .int .i64 4] rfl xa ?_; (with_reducible refine (spoorlaw06_of.calls 4 4 t131 t132 _ A4.out).mono ?_); rintro e w74 ⟨rfl, hb⟩; refine ⟨_, rfl, ?_⟩; have n0_ := Aside0.mk (below_step xq0 hb); clear HB; have HB := n0_; clear n0_; (try clear hb); (try clear hb2); (try clear hk); (try clear hi)) | ((with_reducible refine gate_callee (f := 18) rfl ?_); refine goesL_ (some 8) rfl rfl Try.func18 (by kernel_rfl) rfl #[.int .i64 2, .int .i64 2] rfl xa ?_; (with_reducible refine (spoorlaw06_of.calls 2 2 t133 t134 _ A5.out).mono ?_); rintro e w75 ⟨rfl, hb⟩; refine ⟨_, rfl, ?_⟩; have n0_ := Aside0.mk (below_step xq0 hb); clear HB; have HB := n0_; clear n0_; (try clear hb); (try clear hb2); (try clear hk); (try clear hi)) | ((with_reducible refine gate_dst (N := 9) rfl ?_); (try (refine gate_guard (by rfl) ?_; dsimp only)); refine Kd.R_lit k23 _ 23 ?hg (N := 9) ?hd (xs := ([(⟨t125, t126⟩ : S23), (⟨t127, t128⟩ : S23), (⟨t129, t130⟩ : S23), (⟨t131, t132⟩ : S23), (⟨t133, t134⟩ : S23)] : List (S23))) (inner := [.int .i64 t125, .int .i64 t126, .int .i64 t127, .int .i64 t128, .int .i64 t129, .int .i64 t130, .int .i64 t131, .int .i64 t132, .int .i64 t133, .int .i64 t134]) (ok := fun _ => True) (okp := fun _ => True) ?hr ?hp (fun _ hk => hk) trivial (Below.refl _ _) (Nat.le_refl _) (by simp) ?_; (case hd => rfl); (case hg => rfl); (case hr => first | (go_simp; done) | (go_simp; rfl)); (case hp => exact (Reps.c2 (show Kd.M k23 _ _ _ (⟨t125, t126⟩ : S23) [.int .i64 t125, .int .i64 t126] from (k23_mkM _ _ _ (⟨t125, t126⟩ : S23) )) (Reps.c2 (show Kd.M k23 _ _ _ (⟨t127, t128⟩ : S23) [.int .i64 t127, .int .i64 t128] from (k23_mkM _ _ _ (⟨t127, t128⟩ : S23) )) (Reps.c2 (show Kd.M k23 _ _ _ (⟨t129, t130⟩ : S23) [.int .i64 t129, .int .i64 t130] from (k23_mkM _ _ _ (⟨t129, t130⟩ : S23) )) (Reps.c2 (show Kd.M k23 _ _ _ (⟨t131, t132⟩ : S23) [.int .i64 t131, .int .i64 t132] from (k23_mkM _ _ _ (⟨t131, t132⟩ : S23) )) (Reps.c2 (show Kd.M k23 _ _ _ (⟨t133, t134⟩ : S23) [.int .i64 t133, .int .i64 t134] from (k23_mkM _ _ _ (⟨t133, t134⟩ : S23) )) (Reps.none _ _))))))); intro v136 w76 ho77 hb hg_ hnew_; clear hg_ hnew_; (first | rw [← Ny135.out] at ho77 | (simp only [Int.reduceToNat] at ho77; rw [← Ny135.out] at ho77)); have n0_ := Aside0.mk (Kd.R_lower ho77 (below_size xq0)); have n1_ := Aside0.mk (below_step xq0 hb); clear HB; have HO137 := n0_; have HB := n1_; clear n0_ n1_; clear hb ho77; obtain ⟨Ao78, co78, eo78⟩ := Kd.R_slice HO137.out; subst eo78) | ((with_reducible refine gate_callee (f := 15) rfl ?_); refine goesL_ (some 10) rfl rfl Try.func15 (by kernel_rfl) rfl #[.slice Ao78 y135.length co78] rfl xa ?_; (with_reducible refine (ival_Normal.calls _ _ y135 t138 _ ?side1 ?side2 A6.out).mono ?_); (case side1 => repeat (first | exact (Kd.R_reads' HO137.out).2.2 | (with_reducible refine Kd.C_alloc ?_ _) | (with_reducible refine Kd.C_drewN ?_ _) | (with_reducible refine Kd.C_drew ?_))); (case side2 => exact (Kd.R_reads' HO137.out).2.1); rintro e w79 ⟨v139, rfl, ho0, hb⟩; refine ⟨_, rfl, ?_⟩; have n0_ := Aside0.mk (Kd.R_elder' (xr HO137) (Kd.R_base ho0) hb); have n1_ := Aside0.mk (Kd.R_lower (Kd.R_new' ho0 (Kd.R_lt (xr HO137))) (below_size xq0)); have n2_ := Aside0.mk (below_step xq0 hb); clear HO137; clear HB; have HO137 := n0_; have HO140 := n1_; have HB := n2_; clear n0_ n1_ n2_; (try clear hb); (try clear hb2); (try clear hk); (try clear hi); (try clear ho0)) | ((with_reducible refine gate_callee (f := 18) rfl ?_); refine goesL_ (some 11) rfl rfl Try.func18 (by kernel_rfl) rfl #[.int .i64 1, .int .i64 12] rfl xa ?_; (with_reducible refine (spoorlaw06_of.calls 1 12 t141 t142 _ A7.out).mono ?_); rintro e w80 ⟨rfl, hb⟩; refine ⟨_, rfl, ?_⟩; have n0_ := Aside0.mk (Kd.R_below (xr HO137) hb); have n1_ := Aside0.mk (Kd.R_below (xr HO140) hb); have n2_ := Aside0.mk (below_step xq0 hb); clear HO137; clear HO140; clear HB; have HO137 := n0_; have HO140 := n1_; have HB := n2_; clear n0_ n1_ n2_; (try clear hb); (try clear hb2); (try clear hk); (try clear hi)) | ((with_reducible refine gate_dst (N := 12) rfl ?_); (try (refine gate_guard (by rfl) ?_; dsimp only)); refine Kd.R_lit k23 _ 23 ?hg (N := 12) ?hd (xs := ([(⟨t141, t142⟩ : S23)] : List (S23))) (inner := [.int .i64 t141, .int .i64 t142]) (ok := fun _ => True) (okp := fun _ => True) ?hr ?hp (fun _ hk => hk) trivial (Below.refl _ _) (Nat.le_refl _) (by simp) ?_; (case hd => rfl); (case hg => rfl); (case hr => first | (go_simp; done) | (go_simp; rfl)); (case hp => exact (Reps.c2 (show Kd.M k23 _ _ _ (⟨t141, t142⟩ : S23) [.int .i64 t141, .int .i64 t142] from (k23_mkM _ _ _ (⟨t141, t142⟩ : S23) )) (Reps.none _ _))); intro v144 w81 ho82 hb hg_ hnew_; clear hg_ hnew_; (first | rw [← Ny143.out] at ho82 | (simp only [Int.reduceToNat] at ho82; rw [← Ny143.out] at ho82)); have n0_ := Aside0.mk (Kd.R_elder' (xr HO137) (Kd.R_base ho82) hb); have n1_ := Aside0.mk (Kd.R_elder' (xr HO140) (Kd.R_base ho82) hb); have n2_ := Aside0.mk (Kd.R_lower (Kd.R_new' (Kd.R_new' ho82 (Kd.R_lt (xr HO137))) (Kd.R_lt (xr HO140))) (below_size xq0)); have n3_ := Aside0.mk (below_step xq0 hb); clear HO137; clear HO140; clear HB; have HO137 := n0_; have HO140 := n1_; have HO145 := n2_; have HB := n3_; clear n0_ n1_ n2_ n3_; clear hb ho82) | ((with_reducible refine gate_callee (f := 18) rfl ?_); refine goesL_ (some 13) rfl rfl Try.func18 (by kernel_rfl) rfl #[.int .i64 3, .int .i64 4] rfl xa ?_; (with_reducible refine (spoorlaw06_of.calls 3 4 t146 t147 _ A8.out).mono ?_); rintro e w83 ⟨rfl, hb⟩; refine ⟨_, rfl, ?_⟩; have n0_ := Aside0.mk (Kd.R_below (xr HO137) hb); have n1_ := Aside0.mk (Kd.R_below (xr HO140) hb); have n2_ := Aside0.mk (Kd.R_below (xr HO145) hb); have n3_ := Aside0.mk (below_step xq0 hb); clear HO137; clear HO140; clear HO145; clear HB; have HO137 := n0_; have HO140 := n1_; have HO145 := n2_; have HB := n3_; clear n0_ n1_ n2_ n3_; (try clear hb); (try clear hb2); (try clear hk); (try clear hi)) | ((with_reducible refine gate_callee (f := 18) rfl ?_); refine goesL_ (some 14) rfl rfl Try.func18 (by kernel_rfl) rfl #[.int .i64 6, .int .i64 8] rfl xa ?_; (with_reducible refine (spoorlaw06_of.calls 6 8 t148 t149 _ A9.out).mono ?_); rintro e w84 ⟨rfl, hb⟩; refine ⟨_, rfl, ?_⟩; have n0_ := Aside0.mk (Kd.R_below (xr HO137) hb); have n1_ := Aside0.mk (Kd.R_below (xr HO140) hb); have n2_ := Aside0.mk (Kd.R_below (xr HO145) hb); have n3_ := Aside0.mk (below_step xq0 hb); clear HO137; clear HO140; clear HO145; clear HB; have HO137 := n0_; have HO140 := n1_; have HO145 := n2_; have HB := n3_; clear n0_ n1_ n2_ n3_; (try clear hb); (try clear hb2); (try clear hk); (try clear hi)) | ((with_reducible refine gate_callee (f := 18) rfl ?_); refine goesL_ (some 15) rfl rfl Try.func18 (by kernel_rfl) rfl #[.int .i64 8, .int .i64 9] rfl xa ?_; (with_reducible refine (spoorlaw06_of.calls 8 9 t150 t151 _ A10.out).mono ?_); rintro e w85 ⟨rfl, hb⟩; refine ⟨_, rfl, ?_⟩; have n0_ := Aside0.mk (Kd.R_below (xr HO137) hb); have n1_ := Aside0.mk (Kd.R_below (xr HO140) hb); have n2_ := Aside0.mk (Kd.R_below (xr HO145) hb); have n3_ := Aside0.mk (below_step xq0 hb); clear HO137; clear HO140; clear HO145; clear HB; have HO137 := n0_; have HO140 := n1_; have HO145 := n2_; have HB := n3_; clear n0_ n1_ n2_ n3_; (try clear hb); (try clear hb2); (try clear hk); (try clear hi)) | ((with_reducible refine gate_dst (N := 16) rfl ?_); (try (refine gate_guard (by rfl) ?_; dsimp only)); refine Kd.R_lit k23 _ 23 ?hg (N := 16) ?hd (xs := ([(⟨t146, t147⟩ : S23), (⟨t148, t149⟩ : S23), (⟨t150, t151⟩ : S23)] : List (S23))) (inner := [.int .i64 t146, .int .i64 t147, .int .i64 t148, .int .i64 t149, .int .i64 t150, .int .i64 t151]) (ok := fun _ => True) (okp := fun _ => True) ?hr ?hp (fun _ hk => hk) trivial (Below.refl _ _) (Nat.le_refl _) (by simp) ?_; (case hd => rfl); (case hg => rfl); (case hr => first | (go_simp; done) | (go_simp; rfl)); (case hp => exact (Reps.c2 (show Kd.M k23 _ _ _ (⟨t146, t147⟩ : S23) [.int .i64 t146, .int .i64 t147] from (k23_mkM _ _ _ (⟨t146, t147⟩ : S23) )) (Reps.c2 (show Kd.M k23 _ _ _ (⟨t148, t149⟩ : S23) [.int .i64 t148, .int .i64 t149] from (k23_mkM _ _ _ (⟨t148, t149⟩ : S23) )) (Reps.c2 (show Kd.M k23 _ _ _ (⟨t150, t151⟩ : S23) [.int .i64 t150, .int .i64 t151] from (k23_mkM _ _ _ (⟨t150, t151⟩ : S23) )) (Reps.none _ _))))); intro v153 w86 ho87 hb hg_ hnew_; clear hg_ hnew_; (first | rw [← Ny152.out] at ho87 | (simp only [Int.reduceToNat] at ho87; rw [← Ny152.out] at ho87)); have n0_ := Aside0.mk (Kd.R_elder' (xr HO137) (Kd.R_base ho87) hb); have n1_ := Aside0.mk (Kd.R_elder' (xr HO140) (Kd.R_base ho87) hb); have n2_ := Aside0.mk (Kd.R_elder' (xr HO145) (Kd.R_base ho87) hb); have n3_ := Aside0.mk (Kd.R_lower (Kd.R_new' (Kd.R_new' (Kd.R_new' ho87 (Kd.R_lt (xr HO137))) (Kd.R_lt (xr HO140))) (Kd.R_lt (xr HO145))) (below_size xq0)); have n4_ := Aside0.mk (below_step xq0 hb); clear HO137; clear HO140; clear HO145; clear HB; have HO137 := n0_; have HO140 := n1_; have HO145 := n2_; have HO154 := n3_; have HB := n4_; clear n0_ n1_ n2_ n3_ n4_; clear hb ho87; obtain ⟨Ao88, co88, eo88⟩ := Kd.R_slice HO145.out; subst eo88; obtain ⟨Ao89, co89, eo89⟩ := Kd.R_slice HO154.out; subst eo89) | ((with_reducible refine gate_callee (f := 17) rfl ?_); refine goesL_ (some 17) rfl rfl Try.func17 (by kernel_rfl) rfl #[.slice Ao88 y143.length co88, .slice Ao89 y152.length co89] rfl xa ?_; (with_reducible refine (ival_Minus.calls _ _ y143 _ _ y152 t155 _ ?side1 ?side2 ?side3 ?side4 A11.out).mono ?_); (case side1 => repeat (first | exact (Kd.R_reads' HO145.out).2.2 | (with_reducible refine Kd.C_alloc ?_ _) | (with_reducible refine Kd.C_drewN ?_ _) | (with_reducible refine Kd.C_drew ?_))); (case side2 => exact (Kd.R_reads' HO145.out).2.1); (case side3 => repeat (first | exact (Kd.R_reads' HO154.out).2.2 | (with_reducible refine Kd.C_alloc ?_ _) | (with_reducible refine Kd.C_drewN ?_ _) | (with_reducible refine Kd.C_drew ?_))); (case side4 => exact (Kd.R_reads' HO154.out).2.1); rintro e w90 ⟨v156, rfl, ho0, hb⟩; refine ⟨_, rfl, ?_⟩; have n0_ := Aside0.mk (Kd.R_elder' (xr HO137) (Kd.R_base ho0) hb); have n1_ := Aside0.mk (Kd.R_elder' (xr HO140) (Kd.R_base ho0) hb); have n2_ := Aside0.mk (Kd.R_elder' (xr HO145) (Kd.R_base ho0) hb); have n3_ := Aside0.mk (Kd.R_elder' (xr HO154) (Kd.R_base ho0) hb); have n4_ := Aside0.mk (Kd.R_lower (Kd.R_new' (Kd.R_new' (Kd.R_new' (Kd.R_new' ho0 (Kd.R_lt (xr HO137))) (Kd.R_lt (xr HO140))) (Kd.R_lt (xr HO145))) (Kd.R_lt (xr HO154))) (below_size xq0)); have n5_ := Aside0.mk (below_step xq0 hb); clear HO137; clear HO140; clear HO145; clear HO154; clear HB; have HO137 := n0_; have HO140 := n1_; have HO145 := n2_; have HO154 := n3_; have HO157 := n4_; have HB := n5_; clear n0_ n1_ n2_ n3_ n4_ n5_; (try clear hb); (try clear hb2); (try clear hk); (try clear hi); (try clear ho0)) | ((with_reducible refine gate_callee (f := 18) rfl ?_); refine goesL_ (some 18) rfl rfl Try.func18 (by kernel_rfl) rfl #[.int .i64 9, .int .i64 12] rfl xa ?_; (with_reducible refine (spoorlaw06_of.calls 9 12 t158 t159 _ A12.out).mono ?_); rintro e w91 ⟨rfl, hb⟩; refine ⟨_, rfl, ?_⟩; have n0_ := Aside0.mk (Kd.R_below (xr HO137) hb); have n1_ := Aside0.mk (Kd.R_below (xr HO140) hb); have n2_ := Aside0.mk (Kd.R_below (xr HO145) hb); have n3_ := Aside0.mk (Kd.R_below (xr HO154) hb); have n4_ := Aside0.mk (Kd.R_below (xr HO157) hb); have n5_ := Aside0.mk (below_step xq0 hb); clear HO137; clear HO140; clear HO145; clear HO154; clear HO157; clear HB; have HO137 := n0_; have HO140 := n1_; have HO145 := n2_; have HO154 := n3_; have HO157 := n4_; have HB := n5_; clear n0_ n1_ n2_ n3_ n4_ n5_; (try clear hb); (try clear hb2); (try clear hk); (try clear hi)) | ((with_reducible refine gate_callee (f := 18) rfl ?_); refine goesL_ (some 19) rfl rfl Try.func18 (by kernel_rfl) rfl #[.int .i64 5, .int .i64 9] rfl xa ?_; (with_reducible refine (spoorlaw06_of.calls 5 9 t160 t161 _ A13.out).mono ?_); rintro e w92 ⟨rfl, hb⟩; refine ⟨_, rfl, ?_⟩; have n0_ := Aside0.mk (Kd.R_below (xr HO137) hb); have n1_ := Aside0.mk (Kd.R_below (xr HO140) hb); have n2_ := Aside0.mk (Kd.R_below (xr HO145) hb); have n3_ := Aside0.mk (Kd.R_below (xr HO154) hb); have n4_ := Aside0.mk (Kd.R_below (xr HO157) hb); have n5_ := Aside0.mk (below_step xq0 hb); clear HO137; clear HO140; clear HO145; clear HO154; clear HO157; clear HB; have HO137 := n0_; have HO140 := n1_; have HO145 := n2_; have HO154 := n3_; have HO157 := n4_; have HB := n5_; clear n0_ n1_ n2_ n3_ n4_ n5_; (try clear hb); (try clear hb2); (try clear hk); (try clear hi)) | ((with_reducible refine gate_callee (f := 11) rfl ?_); refine goesL_ (some 20) rfl rfl Try.func11 (by kernel_rfl) rfl #[.agg #[.int .i64 t158, .int .i64 t159], .agg #[.int .i64 t160, .int .i64 t161]] rfl xa ?_; (with_reducible refine (ival_Clip.calls t158 t159 t160 t161 t162 t163 _ A14.out).mono ?_); rintro e w93 ⟨rfl, hb⟩; refine ⟨_, rfl, ?_⟩; have n0_ := Aside0.mk (Kd.R_below (xr HO137) hb); have n1_ := Aside0.mk (Kd.R_below (xr HO140) hb); have n2_ := Aside0.mk (Kd.R_below (xr HO145) hb); have n3_ := Aside0.mk (Kd.R_below (xr HO154) hb); have n4_ := Aside0.mk (Kd.R_below (xr HO157) hb); have n5_ := Aside0.mk (below_step xq0 hb); clear HO137; clear HO140; clear HO145; clear HO154; clear HO157; clear HB; have HO137 := n0_; have HO140 := n1_; have HO145 := n2_; have HO154 := n3_; have HO157 := n4_; have HB := n5_; clear n0_ n1_ n2_ n3_ n4_ n5_; (try clear hb); (try clear hb2); (try clear hk); (try clear hi)) | ((with_reducible refine gate_dst (N := 3) rfl ?_); (try (refine gate_guard (by rfl) ?_; dsimp only)); refine box_event ?hg (N := 3) ?hd (cs := #[.int .i64 0, .int .i64 0]) (t := 23) ?hr ?_; (case hd => rfl); (case hg => rfl); (case hr => first | (go_simp; done) | (go_simp; rfl)); intro gb164 hg w94 hbox hb; have n0_ := Aside0.mk (Kd.R_below (Kd.R_elderB (xr HO137) gb164 (Nat.le_of_eq hg.symm)) hb); have n1_ := Aside0.mk (Kd.R_below (Kd.R_elderB (xr HO140) gb164 (Nat.le_of_eq hg.symm)) hb); have n2_ := Aside0.mk (Kd.R_below (Kd.R_elderB (xr HO145) gb164 (Nat.le_of_eq hg.symm)) hb); have n3_ := Aside0.mk (Kd.R_below (Kd.R_elderB (xr HO154) gb164 (Nat.le_of_eq hg.symm)) hb); have n4_ := Aside0.mk (Kd.R_below (Kd.R_elderB (xr HO157) gb164 (Nat.le_of_eq hg.symm)) hb); have n5_ := Aside0.mk (below_step xq0 hb); have n6_ := Aside0.mk (hbox); have n7_ := Aside0.mk ((by rw [hg]; exact (below_size xq0) : w.heap.size ≤ gb164)); have n8_ := Aside0.mk ((by rw [hg]; exact (below_size xq0) : w.heap.size ≤ gb164)); clear HO137; clear HO140; clear HO145; clear HO154; clear HO157; clear HB; have HO137 := n0_; have HO140 := n1_; have HO145 := n2_; have HO154 := n3_; have HO157 := n4_; have HB := n5_; have BK164 := n6_; have GW164 := n7_; have GE164 := n8_; clear n0_ n1_ n2_ n3_ n4_ n5_ n6_ n7_ n8_; clear hb hbox hg; have hcz95_0 : w94.cell? ⟨gb164, 0, none⟩ = some (.int .i64 0) := (blk_cell BK164.out 0).trans rfl; have hcz95_1 : w94.cell? ⟨gb164, 1, none⟩ = some (.int .i64 0) := (blk_cell BK164.out 1).trans rfl; have hfz95_0 := blk_frozen BK164.out 0; have hfz95_1 := blk_frozen BK164.out 1))
        have n0_ : Aside0 (Kd.R k23 23 ((w94.setCell ⟨gb164, 0, none⟩ (.int .i64 t162)).setCell ⟨gb164, 1, none⟩ (.int .i64 t163)) w.heap.size (fun k_ => some k_ ≠ (v139 : Value).ownBlock ∧ some k_ ≠ (.slice Ao88 y143.length co88 : Value).ownBlock ∧ some k_ ≠ (.slice Ao89 y152.length co89 : Value).ownBlock ∧ some k_ ≠ (v156 : Value).ownBlock ∧ k_ ≠ gb164) (.slice Ao78 y135.length co78) y135) := ⟨by (with_reducible repeat (first | apply Kd.R_alloc | apply Kd.R_drewN | apply Kd.R_drew)); exact Kd.R_mono (Kd.R_far (p := ⟨gb164, 1, none⟩) (Kd.R_far (p := ⟨gb164, 0, none⟩) (Kd.R_mono HO137.out (fun k_ hk => (⟨hk, hk.2⟩ : _ ∧ k_ ≠ gb164))) (fun _ hk => hk.2) (.int .i64 t162)) (fun _ hk => hk.2) (.int .i64 t163)) (fun _ hk => ⟨hk.1.1.1.1.1.2, ⟨hk.1.1.1.1.2, ⟨hk.1.1.1.2, ⟨hk.1.1.2, hk.1.2⟩⟩⟩⟩)⟩
        have n1_ : Aside0 (Kd.R k23 23 ((w94.setCell ⟨gb164, 0, none⟩ (.int .i64 t162)).setCell ⟨gb164, 1, none⟩ (.int .i64 t163)) w.heap.size (fun k_ => some k_ ≠ (.slice Ao78 y135.length co78 : Value).ownBlock ∧ some k_ ≠ (.slice Ao88 y143.length co88 : Value).ownBlock ∧ some k_ ≠ (.slice Ao89 y152.length co89 : Value).ownBlock ∧ some k_ ≠ (v156 : Value).ownBlock ∧ k_ ≠ gb164) v139 t138) := ⟨by (with_reducible repeat (first | apply Kd.R_alloc | apply Kd.R_drewN | apply Kd.R_drew)); exact Kd.R_mono (Kd.R_far (p := ⟨gb164, 1, none⟩) (Kd.R_far (p := ⟨gb164, 0, none⟩) (Kd.R_mono HO140.out (fun k_ hk => (⟨hk, hk.2⟩ : _ ∧ k_ ≠ gb164))) (fun _ hk => hk.2) (.int .i64 t162)) (fun _ hk => hk.2) (.int .i64 t163)) (fun _ hk => ⟨hk.1.1.1.1.1.2, ⟨hk.1.1.1.1.2, ⟨hk.1.1.1.2, ⟨hk.1.1.2, hk.1.2⟩⟩⟩⟩)⟩
        have n2_ : Aside0 (Kd.R k23 23 ((w94.setCell ⟨gb164, 0, none⟩ (.int .i64 t162)).setCell ⟨gb164, 1, none⟩ (.int .i64 t163)) w.heap.size (fun k_ => some k_ ≠ (.slice Ao78 y135.length co78 : Value).ownBlock ∧ some k_ ≠ (v139 : Value).ownBlock ∧ some k_ ≠ (.slice Ao89 y152.length co89 : Value).ownBlock ∧ some k_ ≠ (v156 : Value).ownBlock ∧ k_ ≠ gb164) (.slice Ao88 y143.length co88) y143) := ⟨by (with_reducible repeat (first | apply Kd.R_alloc | apply Kd.R_drewN | apply Kd.R_drew)); exact Kd.R_mono (Kd.R_far (p := ⟨gb164, 1, none⟩) (Kd.R_far (p := ⟨gb164, 0, none⟩) (Kd.R_mono HO145.out (fun k_ hk => (⟨hk, hk.2⟩ : _ ∧ k_ ≠ gb164))) (fun _ hk => hk.2) (.int .i64 t162)) (fun _ hk => hk.2) (.int .i64 t163)) (fun _ hk => ⟨hk.1.1.1.1.1.2, ⟨hk.1.1.1.1.2, ⟨hk.1.1.1.2, ⟨hk.1.1.2, hk.1.2⟩⟩⟩⟩)⟩
        have n3_ : Aside0 (Kd.R k23 23 ((w94.setCell ⟨gb164, 0, none⟩ (.int .i64 t162)).setCell ⟨gb164, 1, none⟩ (.int .i64 t163)) w.heap.size (fun k_ => some k_ ≠ (.slice Ao78 y135.length co78 : Value).ownBlock ∧ some k_ ≠ (v139 : Value).ownBlock ∧ some k_ ≠ (.slice Ao88 y143.length co88 : Value).ownBlock ∧ some k_ ≠ (v156 : Value).ownBlock ∧ k_ ≠ gb164) (.slice Ao89 y152.length co89) y152) := ⟨by (with_reducible repeat (first | apply Kd.R_alloc | apply Kd.R_drewN | apply Kd.R_drew)); exact Kd.R_mono (Kd.R_far (p := ⟨gb164, 1, none⟩) (Kd.R_far (p := ⟨gb164, 0, none⟩) (Kd.R_mono HO154.out (fun k_ hk => (⟨hk, hk.2⟩ : _ ∧ k_ ≠ gb164))) (fun _ hk => hk.2) (.int .i64 t162)) (fun _ hk => hk.2) (.int .i64 t163)) (fun _ hk => ⟨hk.1.1.1.1.1.2, ⟨hk.1.1.1.1.2, ⟨hk.1.1.1.2, ⟨hk.1.1.2, hk.1.2⟩⟩⟩⟩)⟩
        have n4_ : Aside0 (Kd.R k23 23 ((w94.setCell ⟨gb164, 0, none⟩ (.int .i64 t162)).setCell ⟨gb164, 1, none⟩ (.int .i64 t163)) w.heap.size (fun k_ => some k_ ≠ (.slice Ao78 y135.length co78 : Value).ownBlock ∧ some k_ ≠ (v139 : Value).ownBlock ∧ some k_ ≠ (.slice Ao88 y143.length co88 : Value).ownBlock ∧ some k_ ≠ (.slice Ao89 y152.length co89 : Value).ownBlock ∧ k_ ≠ gb164) v156 t155) := ⟨by (with_reducible repeat (first | apply Kd.R_alloc | apply Kd.R_drewN | apply Kd.R_drew)); exact Kd.R_mono (Kd.R_far (p := ⟨gb164, 1, none⟩) (Kd.R_far (p := ⟨gb164, 0, none⟩) (Kd.R_mono HO157.out (fun k_ hk => (⟨hk, hk.2⟩ : _ ∧ k_ ≠ gb164))) (fun _ hk => hk.2) (.int .i64 t162)) (fun _ hk => hk.2) (.int .i64 t163)) (fun _ hk => ⟨hk.1.1.1.1.1.2, ⟨hk.1.1.1.1.2, ⟨hk.1.1.1.2, ⟨hk.1.1.2, hk.1.2⟩⟩⟩⟩)⟩
        have n5_ : Aside0 (((w94.setCell ⟨gb164, 0, none⟩ (.int .i64 t162)).setCell ⟨gb164, 1, none⟩ (.int .i64 t163)).heap[gb164]? = some (.cells #[.int .i64 t162, .int .i64 t163] 23 (0, 0))) := ⟨by (with_reducible repeat (first | refine blk_drewN ?_ _ | refine blk_drew ?_ | refine blk_alloc ?_ _)); refine blk_put (cs := #[.int .i64 t162, .int .i64 0]) ?_ 1 _ rfl; (with_reducible repeat (first | refine blk_drewN ?_ _ | refine blk_drew ?_ | refine blk_alloc ?_ _)); refine blk_put (cs := #[.int .i64 0, .int .i64 0]) ?_ 0 _ rfl; (with_reducible repeat (first | refine blk_drewN ?_ _ | refine blk_drew ?_ | refine blk_alloc ?_ _)); exact BK164.out⟩
        have n6_ : Aside0 (Below w.heap.size w ((w94.setCell ⟨gb164, 0, none⟩ (.int .i64 t162)).setCell ⟨gb164, 1, none⟩ (.int .i64 t163))) := ⟨by repeat (first | (with_reducible first | exact HB.out | apply below_alloc | apply pw_below_drewN | apply below_drew1 | refine below_set ?_ GE164.out) | exact HB.out)⟩
        (try clear HO137)
        (try clear HO140)
        (try clear HO145)
        (try clear HO154)
        (try clear HO157)
        (try clear BK164)
        (try clear HB)
        generalize ((w94.setCell ⟨gb164, 0, none⟩ (.int .i64 t162)).setCell ⟨gb164, 1, none⟩ (.int .i64 t163)) = w96 at n0_ n1_ n2_ n3_ n4_ n5_ n6_ ⊢
        have HO137 := n0_
        have HO140 := n1_
        have HO145 := n2_
        have HO154 := n3_
        have HO157 := n4_
        have BK164 := n5_
        have HB := n6_
        clear n0_ n1_ n2_ n3_ n4_ n5_ n6_
        have n0_ := Aside0.mk (Kd.R_drew HO137.out)
        have n1_ := Aside0.mk (Kd.R_drew HO140.out)
        have n2_ := Aside0.mk (Kd.R_drew HO145.out)
        have n3_ := Aside0.mk (Kd.R_drew HO154.out)
        have n4_ := Aside0.mk (Kd.R_drew HO157.out)
        have n5_ := Aside0.mk (blk_drew BK164.out)
        have n6_ := Aside0.mk (below_drew1 HB.out)
        clear HO137
        clear HO140
        clear HO145
        clear HO154
        clear HO157
        clear BK164
        clear HB
        have HO137 := n0_
        have HO140 := n1_
        have HO145 := n2_
        have HO154 := n3_
        have HO157 := n4_
        have BK164 := n5_
        have HB := n6_
        clear n0_ n1_ n2_ n3_ n4_ n5_ n6_
        refine start_ (n := 24) (S := fun w' => w'.cell? ⟨gb164, 0, none⟩ = some (.int .i64 t162) ∧ w'.cell? ⟨gb164, 1, none⟩ = some (.int .i64 t163)) (ds := []) bz1b_0 (by kernel_rfl) rfl rfl ⟨(blk_cell BK164.out 0).trans rfl, (blk_cell BK164.out 1).trans rfl⟩ (fun hHeld => ?_); refine with_tabW spoorlaw06_alive.tab4 spoorlaw06_alive.bits4 (fun HT_ HW_ => ?_)
        generalize w96.drew = w97 at HO137 HO140 HO145 HO154 HO157 BK164 HB hHeld ⊢
        refine pz_ (i := 0) (N := some 21) bz1b_1 (any_of HT_.out (by kernel_rfl)) ?_
        refine one_ (i := 1) (N := some 22) bz1b_2 rfl rfl (one_of HT_.out (by kernel_rfl)) (by decide) (fun K hK => ?_)
        refine goes_ Try.func18 (by kernel_rfl) rfl #[.int .i64 1, .int .i64 3] (by rfl) rfl rfl xa ?_
        with_reducible refine (spoorlaw06_of.calls 1 3 t165 t166 _ A15.out).mono ?_
        rintro e w98 ⟨rfl, hb⟩
        refine ⟨_, rfl, ?_⟩
        have n0_ := Aside0.mk (Kd.R_below (xr HO137) hb)
        have n1_ := Aside0.mk (Kd.R_below (xr HO140) hb)
        have n2_ := Aside0.mk (Kd.R_below (xr HO145) hb)
        have n3_ := Aside0.mk (Kd.R_below (xr HO154) hb)
        have n4_ := Aside0.mk (Kd.R_below (xr HO157) hb)
        have n5_ := Aside0.mk (blk_below (g := gb164) (o := .cells #[.int .i64 t162, .int .i64 t163] 23 (0, 0)) (xb BK164) hb)
        have n6_ := Aside0.mk (below_step xq1 hb)
        clear HO137
        clear HO140
        clear HO145
        clear HO154
        clear HO157
        clear BK164
        clear HB
        have HO137 := n0_
        have HO140 := n1_
        have HO145 := n2_
        have HO154 := n3_
        have HO157 := n4_
        have BK164 := n5_
        have HB := n6_
        clear n0_ n1_ n2_ n3_ n4_ n5_ n6_
        (try clear hb)
        (try clear hb2)
        (try clear hk)
        (try clear hi)
        refine hK.out _ _ ⟨(blk_cell BK164.out 0).trans rfl, (blk_cell BK164.out 1).trans rfl⟩ (fun hHeld => ?_)
        clear hK K
        refine norm_ (a' := ?_) ?_ ?_
        rotate_left
        · show Act.put _ (some 22) _ = _
          simp only [Act.put, List.setIfInBounds_toArray, List.set_cons_zero, List.set_cons_succ, i64_w, i32_w]
          rfl
        refine one_ (i := 2) (N := some 23) bz1b_3 rfl rfl (one_of HT_.out (by kernel_rfl)) (by decide) (fun K hK => ?_)
        refine goes_ Try.func18 (by kernel_rfl) rfl #[.int .i64 5, .int .i64 9] (by rfl) rfl rfl xa ?_
        with_reducible refine (spoorlaw06_of.calls 5 9 t167 t168 _ A16.out).mono ?_
        rintro e w99 ⟨rfl, hb⟩
        refine ⟨_, rfl, ?_⟩
        have n0_ := Aside0.mk (Kd.R_below (xr HO137) hb)
        have n1_ := Aside0.mk (Kd.R_below (xr HO140) hb)
        have n2_ := Aside0.mk (Kd.R_below (xr HO145) hb)
        have n3_ := Aside0.mk (Kd.R_below (xr HO154) hb)
        have n4_ := Aside0.mk (Kd.R_below (xr HO157) hb)
        have n5_ := Aside0.mk (blk_below (g := gb164) (o := .cells #[.int .i64 t162, .int .i64 t163] 23 (0, 0)) (xb BK164) hb)
        have n6_ := Aside0.mk (below_step xq1 hb)
        clear HO137
        clear HO140
        clear HO145
        clear HO154
        clear HO157
        clear BK164
        clear HB
        have HO137 := n0_
        have HO140 := n1_
        have HO145 := n2_
        have HO154 := n3_
        have HO157 := n4_
        have BK164 := n5_
        have HB := n6_
        clear n0_ n1_ n2_ n3_ n4_ n5_ n6_
        (try clear hb)
        (try clear hb2)
        (try clear hk)
        (try clear hi)
        refine hK.out _ _ ⟨(blk_cell BK164.out 0).trans rfl, (blk_cell BK164.out 1).trans rfl⟩ (fun hHeld => ?_)
        clear hK K
        refine norm_ (a' := ?_) ?_ ?_
        rotate_left
        · show Act.put _ (some 23) _ = _
          simp only [Act.put, List.setIfInBounds_toArray, List.set_cons_zero, List.set_cons_succ, i64_w, i32_w]
          rfl
        refine one_ (i := 3) (N := some 24) bz1b_4 rfl rfl (one_of HT_.out (by kernel_rfl)) (by decide) (fun K hK => ?_)
        refine Kd.R_lit_step k23 _ 23 ?hg (N := 24) ?hd (xs := ([(⟨t165, t166⟩ : S23), (⟨t167, t168⟩ : S23)] : List (S23))) (inner := [.int .i64 t165, .int .i64 t166, .int .i64 t167, .int .i64 t168]) (ok := fun _ => True) (okp := fun _ => True) ?hr ?hp (fun _ hk => hk) trivial (Below.refl _ _) (Nat.le_refl _) (by simp) ?_; (case hd => rfl); (case hg => rfl); (case hr => first | (go_simp; done) | (go_simp; rfl)); (case hp => exact (Reps.c2 (show Kd.M k23 _ _ _ (⟨t165, t166⟩ : S23) [.int .i64 t165, .int .i64 t166] from (k23_mkM _ _ _ (⟨t165, t166⟩ : S23) )) (Reps.c2 (show Kd.M k23 _ _ _ (⟨t167, t168⟩ : S23) [.int .i64 t167, .int .i64 t168] from (k23_mkM _ _ _ (⟨t167, t168⟩ : S23) )) (Reps.none _ _))))
        intro v170 w100 ho101 hb hg_ hnew_
        clear hg_ hnew_
        (first | rw [← Ny169.out] at ho101 | (simp only [Int.reduceToNat] at ho101; rw [← Ny169.out] at ho101))
        have n0_ := Aside0.mk (Kd.R_elder' (xr HO137) (Kd.R_base ho101) hb)
        have n1_ := Aside0.mk (Kd.R_elder' (xr HO140) (Kd.R_base ho101) hb)
        have n2_ := Aside0.mk (Kd.R_elder' (xr HO145) (Kd.R_base ho101) hb)
        have n3_ := Aside0.mk (Kd.R_elder' (xr HO154) (Kd.R_base ho101) hb)
        have n4_ := Aside0.mk (Kd.R_elder' (xr HO157) (Kd.R_base ho101) hb)
        have n5_ := Aside0.mk (Kd.R_lower (Kd.R_newB (Kd.R_new' (Kd.R_new' (Kd.R_new' (Kd.R_new' (Kd.R_new' ho101 (Kd.R_lt (xr HO137))) (Kd.R_lt (xr HO140))) (Kd.R_lt (xr HO145))) (Kd.R_lt (xr HO154))) (Kd.R_lt (xr HO157))) (g := gb164) (o := .cells #[.int .i64 t162, .int .i64 t163] 23 (0, 0)) (xb BK164)) (below_size xq1))
        have n6_ := Aside0.mk (blk_below (g := gb164) (o := .cells #[.int .i64 t162, .int .i64 t163] 23 (0, 0)) (xb BK164) hb)
        have n7_ := Aside0.mk (below_step xq1 hb)
        clear HO137
        clear HO140
        clear HO145
        clear HO154
        clear HO157
        clear BK164
        clear HB
        have HO137 := n0_
        have HO140 := n1_
        have HO145 := n2_
        have HO154 := n3_
        have HO157 := n4_
        have HO171 := n5_
        have BK164 := n6_
        have HB := n7_
        clear n0_ n1_ n2_ n3_ n4_ n5_ n6_ n7_
        clear hb ho101
        obtain ⟨Ao102, co102, eo102⟩ := Kd.R_slice HO140.out
        (first | subst eo102 | (injection eo102 with f1_ f2_ f3_; have f4_ := f1_.symm; have f5_ := f3_.symm; clear f1_ f2_ f3_; subst f4_; subst f5_))
        obtain ⟨Ao103, co103, eo103⟩ := Kd.R_slice HO171.out
        (first | subst eo103 | (injection eo103 with f1_ f2_ f3_; have f4_ := f1_.symm; have f5_ := f3_.symm; clear f1_ f2_ f3_; subst f4_; subst f5_))
        refine hK.out _ _ ⟨(blk_cell BK164.out 0).trans rfl, (blk_cell BK164.out 1).trans rfl⟩ (fun hHeld => ?_)
        clear hK K
        refine norm_ (a' := ?_) ?_ ?_
        rotate_left
        · show Act.put _ (some 24) _ = _
          simp only [Act.put, List.setIfInBounds_toArray, List.set_cons_zero, List.set_cons_succ, i64_w, i32_w]
          rfl
        refine one_ (i := 4) (N := some 25) bz1b_5 rfl rfl (one_of HT_.out (by kernel_rfl)) (by decide) (fun K hK => ?_)
        refine goes_ Try.func20 (by kernel_rfl) rfl #[.slice Ao102 t138.length co102, .slice Ao103 y169.length co103] (by rfl) rfl rfl xa ?_
        with_reducible refine (spoorref06_Same.calls k _ _ t138 _ _ y169 true _ ?side1 ?side2 ?side3 ?side4 A17.out).mono ?_
        (case side1 => repeat (first | exact (Kd.R_reads' HO140.out).2.2 | (with_reducible refine Kd.C_alloc ?_ _) | (with_reducible refine Kd.C_drewN ?_ _) | (with_reducible refine Kd.C_drew ?_)))
        (case side2 => exact (Kd.R_reads' HO140.out).2.1)
        (case side3 => repeat (first | exact (Kd.R_reads' HO171.out).2.2 | (with_reducible refine Kd.C_alloc ?_ _) | (with_reducible refine Kd.C_drewN ?_ _) | (with_reducible refine Kd.C_drew ?_)))
        (case side4 => exact (Kd.R_reads' HO171.out).2.1)
        rintro e w' ⟨rfl, ⟨nd, rfl⟩⟩
        refine ⟨_, rfl, ?_⟩
        refine hK.out _ _ ⟨(blk_cell BK164.out 0).trans rfl, (blk_cell BK164.out 1).trans rfl⟩ (fun hHeld => ?_)
        clear hK K
        refine norm_ (a' := ?_) ?_ ?_
        rotate_left
        · show Act.put _ (some 25) _ = _
          simp only [Act.put, List.setIfInBounds_toArray, List.set_cons_zero, List.set_cons_succ, i64_w, i32_w]
          rfl
        refine pz_ (i := 5) (N := some 26) bz1b_6 (any_of HT_.out (by kernel_rfl)) ?_
        refine pz_ (i := 6) (N := some 27) bz1b_7 (any_of HT_.out (by kernel_rfl)) ?_
        refine one_ (i := 7) (N := some 28) bz1b_8 rfl rfl (one_of HT_.out (by kernel_rfl)) (by decide) (fun K hK => ?_)
        refine goes_ Try.func18 (by kernel_rfl) rfl #[.int .i64 1, .int .i64 3] (by rfl) rfl rfl xa ?_
        with_reducible refine (spoorlaw06_of.calls 1 3 t173 t174 _ A19.out).mono ?_
        rintro e w104 ⟨rfl, hb⟩
        refine ⟨_, rfl, ?_⟩
        have n0_ := Aside0.mk (Kd.R_below (xr HO137) hb)
        have n1_ := Aside0.mk (Kd.R_below (xr HO140) hb)
        have n2_ := Aside0.mk (Kd.R_below (xr HO145) hb)
        have n3_ := Aside0.mk (Kd.R_below (xr HO154) hb)
        have n4_ := Aside0.mk (Kd.R_below (xr HO157) hb)
        have n5_ := Aside0.mk (Kd.R_below (xr HO171) hb)
        have n6_ := Aside0.mk (blk_below (g := gb164) (o := .cells #[.int .i64 t162, .int .i64 t163] 23 (0, 0)) (xb BK164) hb)
        have n7_ := Aside0.mk (below_step xq1 hb)
        clear HO137
        clear HO140
        clear HO145
        clear HO154
        clear HO157
        clear HO171
        clear BK164
        clear HB
        have HO137 := n0_
        have HO140 := n1_
        have HO145 := n2_
        have HO154 := n3_
        have HO157 := n4_
        have HO171 := n5_
        have BK164 := n6_
        have HB := n7_
        clear n0_ n1_ n2_ n3_ n4_ n5_ n6_ n7_
        (try clear hb)
        (try clear hb2)
        (try clear hk)
        (try clear hi)
        refine hK.out _ _ ⟨(blk_cell BK164.out 0).trans rfl, (blk_cell BK164.out 1).trans rfl⟩ (fun hHeld => ?_)
        clear hK K
        refine norm_ (a' := ?_) ?_ ?_
        rotate_left
        · show Act.put _ (some 28) _ = _
          simp only [Act.put, List.setIfInBounds_toArray, List.set_cons_zero, List.set_cons_succ, i64_w, i32_w]
          rfl
        refine one_ (i := 8) (N := some 29) bz1b_9 rfl rfl (one_of HT_.out (by kernel_rfl)) (by decide) (fun K hK => ?_)
        refine goes_ Try.func18 (by kernel_rfl) rfl #[.int .i64 4, .int .i64 6] (by rfl) rfl rfl xa ?_
        with_reducible refine (spoorlaw06_of.calls 4 6 t175 t176 _ A20.out).mono ?_
        rintro e w105 ⟨rfl, hb⟩
        refine ⟨_, rfl, ?_⟩
        have n0_ := Aside0.mk (Kd.R_below (xr HO137) hb)
        have n1_ := Aside0.mk (Kd.R_below (xr HO140) hb)
        have n2_ := Aside0.mk (Kd.R_below (xr HO145) hb)
        have n3_ := Aside0.mk (Kd.R_below (xr HO154) hb)
        have n4_ := Aside0.mk (Kd.R_below (xr HO157) hb)
        have n5_ := Aside0.mk (Kd.R_below (xr HO171) hb)
        have n6_ := Aside0.mk (blk_below (g := gb164) (o := .cells #[.int .i64 t162, .int .i64 t163] 23 (0, 0)) (xb BK164) hb)
        have n7_ := Aside0.mk (below_step xq1 hb)
        clear HO137
        clear HO140
        clear HO145
        clear HO154
        clear HO157
        clear HO171
        clear BK164
        clear HB
        have HO137 := n0_
        have HO140 := n1_
        have HO145 := n2_
        have HO154 := n3_
        have HO157 := n4_
        have HO171 := n5_
        have BK164 := n6_
        have HB := n7_
        clear n0_ n1_ n2_ n3_ n4_ n5_ n6_ n7_
        (try clear hb)
        (try clear hb2)
        (try clear hk)
        (try clear hi)
        refine hK.out _ _ ⟨(blk_cell BK164.out 0).trans rfl, (blk_cell BK164.out 1).trans rfl⟩ (fun hHeld => ?_)
        clear hK K
        refine norm_ (a' := ?_) ?_ ?_
        rotate_left
        · show Act.put _ (some 29) _ = _
          simp only [Act.put, List.setIfInBounds_toArray, List.set_cons_zero, List.set_cons_succ, i64_w, i32_w]
          rfl
        refine one_ (i := 9) (N := some 30) bz1b_10 rfl rfl (one_of HT_.out (by kernel_rfl)) (by decide) (fun K hK => ?_)
        refine goes_ Try.func18 (by kernel_rfl) rfl #[.int .i64 9, .int .i64 12] (by rfl) rfl rfl xa ?_
        with_reducible refine (spoorlaw06_of.calls 9 12 t177 t178 _ A21.out).mono ?_
        rintro e w106 ⟨rfl, hb⟩
        refine ⟨_, rfl, ?_⟩
        have n0_ := Aside0.mk (Kd.R_below (xr HO137) hb)
        have n1_ := Aside0.mk (Kd.R_below (xr HO140) hb)
        have n2_ := Aside0.mk (Kd.R_below (xr HO145) hb)
        have n3_ := Aside0.mk (Kd.R_below (xr HO154) hb)
        have n4_ := Aside0.mk (Kd.R_below (xr HO157) hb)
        have n5_ := Aside0.mk (Kd.R_below (xr HO171) hb)
        have n6_ := Aside0.mk (blk_below (g := gb164) (o := .cells #[.int .i64 t162, .int .i64 t163] 23 (0, 0)) (xb BK164) hb)
        have n7_ := Aside0.mk (below_step xq1 hb)
        clear HO137
        clear HO140
        clear HO145
        clear HO154
        clear HO157
        clear HO171
        clear BK164
        clear HB
        have HO137 := n0_
        have HO140 := n1_
        have HO145 := n2_
        have HO154 := n3_
        have HO157 := n4_
        have HO171 := n5_
        have BK164 := n6_
        have HB := n7_
        clear n0_ n1_ n2_ n3_ n4_ n5_ n6_ n7_
        (try clear hb)
        (try clear hb2)
        (try clear hk)
        (try clear hi)
        refine hK.out _ _ ⟨(blk_cell BK164.out 0).trans rfl, (blk_cell BK164.out 1).trans rfl⟩ (fun hHeld => ?_)
        clear hK K
        refine norm_ (a' := ?_) ?_ ?_
        rotate_left
        · show Act.put _ (some 30) _ = _
          simp only [Act.put, List.setIfInBounds_toArray, List.set_cons_zero, List.set_cons_succ, i64_w, i32_w]
          rfl
        refine one_ (i := 10) (N := some 31) bz1b_11 rfl rfl (one_of HT_.out (by kernel_rfl)) (by decide) (fun K hK => ?_)
        refine Kd.R_lit_step k23 _ 23 ?hg (N := 31) ?hd (xs := ([(⟨t173, t174⟩ : S23), (⟨t175, t176⟩ : S23), (⟨t177, t178⟩ : S23)] : List (S23))) (inner := [.int .i64 t173, .int .i64 t174, .int .i64 t175, .int .i64 t176, .int .i64 t177, .int .i64 t178]) (ok := fun _ => True) (okp := fun _ => True) ?hr ?hp (fun _ hk => hk) trivial (Below.refl _ _) (Nat.le_refl _) (by simp) ?_; (case hd => rfl); (case hg => rfl); (case hr => first | (go_simp; done) | (go_simp; rfl)); (case hp => exact (Reps.c2 (show Kd.M k23 _ _ _ (⟨t173, t174⟩ : S23) [.int .i64 t173, .int .i64 t174] from (k23_mkM _ _ _ (⟨t173, t174⟩ : S23) )) (Reps.c2 (show Kd.M k23 _ _ _ (⟨t175, t176⟩ : S23) [.int .i64 t175, .int .i64 t176] from (k23_mkM _ _ _ (⟨t175, t176⟩ : S23) )) (Reps.c2 (show Kd.M k23 _ _ _ (⟨t177, t178⟩ : S23) [.int .i64 t177, .int .i64 t178] from (k23_mkM _ _ _ (⟨t177, t178⟩ : S23) )) (Reps.none _ _)))))
        intro v180 w107 ho108 hb hg_ hnew_
        clear hg_ hnew_
        (first | rw [← Ny179.out] at ho108 | (simp only [Int.reduceToNat] at ho108; rw [← Ny179.out] at ho108))
        have n0_ := Aside0.mk (Kd.R_elder' (xr HO137) (Kd.R_base ho108) hb)
        have n1_ := Aside0.mk (Kd.R_elder' (xr HO140) (Kd.R_base ho108) hb)
        have n2_ := Aside0.mk (Kd.R_elder' (xr HO145) (Kd.R_base ho108) hb)
        have n3_ := Aside0.mk (Kd.R_elder' (xr HO154) (Kd.R_base ho108) hb)
        have n4_ := Aside0.mk (Kd.R_elder' (xr HO157) (Kd.R_base ho108) hb)
        have n5_ := Aside0.mk (Kd.R_elder' (xr HO171) (Kd.R_base ho108) hb)
        have n6_ := Aside0.mk (Kd.R_lower (Kd.R_newB (Kd.R_new' (Kd.R_new' (Kd.R_new' (Kd.R_new' (Kd.R_new' (Kd.R_new' ho108 (Kd.R_lt (xr HO137))) (Kd.R_lt (xr HO140))) (Kd.R_lt (xr HO145))) (Kd.R_lt (xr HO154))) (Kd.R_lt (xr HO157))) (Kd.R_lt (xr HO171))) (g := gb164) (o := .cells #[.int .i64 t162, .int .i64 t163] 23 (0, 0)) (xb BK164)) (below_size xq1))
        have n7_ := Aside0.mk (blk_below (g := gb164) (o := .cells #[.int .i64 t162, .int .i64 t163] 23 (0, 0)) (xb BK164) hb)
        have n8_ := Aside0.mk (below_step xq1 hb)
        clear HO137
        clear HO140
        clear HO145
        clear HO154
        clear HO157
        clear HO171
        clear BK164
        clear HB
        have HO137 := n0_
        have HO140 := n1_
        have HO145 := n2_
        have HO154 := n3_
        have HO157 := n4_
        have HO171 := n5_
        have HO181 := n6_
        have BK164 := n7_
        have HB := n8_
        clear n0_ n1_ n2_ n3_ n4_ n5_ n6_ n7_ n8_
        clear hb ho108
        obtain ⟨Ao109, co109, eo109⟩ := Kd.R_slice HO157.out
        (first | subst eo109 | (injection eo109 with f1_ f2_ f3_; have f4_ := f1_.symm; have f5_ := f3_.symm; clear f1_ f2_ f3_; subst f4_; subst f5_))
        obtain ⟨Ao110, co110, eo110⟩ := Kd.R_slice HO181.out
        (first | subst eo110 | (injection eo110 with f1_ f2_ f3_; have f4_ := f1_.symm; have f5_ := f3_.symm; clear f1_ f2_ f3_; subst f4_; subst f5_))
        refine hK.out _ _ ⟨(blk_cell BK164.out 0).trans rfl, (blk_cell BK164.out 1).trans rfl⟩ (fun hHeld => ?_)
        clear hK K
        refine norm_ (a' := ?_) ?_ ?_
        rotate_left
        · show Act.put _ (some 31) _ = _
          simp only [Act.put, List.setIfInBounds_toArray, List.set_cons_zero, List.set_cons_succ, i64_w, i32_w]
          rfl
        refine one_ (i := 11) (N := some 32) bz1b_12 rfl rfl (one_of HT_.out (by kernel_rfl)) (by decide) (fun K hK => ?_)
        refine goes_ Try.func20 (by kernel_rfl) rfl #[.slice Ao109 t155.length co109, .slice Ao110 y179.length co110] (by rfl) rfl rfl xa ?_
        with_reducible refine (spoorref06_Same.calls k _ _ t155 _ _ y179 true _ ?side1 ?side2 ?side3 ?side4 A22.out).mono ?_
        (case side1 => repeat (first | exact (Kd.R_reads' HO157.out).2.2 | (with_reducible refine Kd.C_alloc ?_ _) | (with_reducible refine Kd.C_drewN ?_ _) | (with_reducible refine Kd.C_drew ?_)))
        (case side2 => exact (Kd.R_reads' HO157.out).2.1)
        (case side3 => repeat (first | exact (Kd.R_reads' HO181.out).2.2 | (with_reducible refine Kd.C_alloc ?_ _) | (with_reducible refine Kd.C_drewN ?_ _) | (with_reducible refine Kd.C_drew ?_)))
        (case side4 => exact (Kd.R_reads' HO181.out).2.1)
        rintro e w' ⟨rfl, ⟨nd, rfl⟩⟩
        refine ⟨_, rfl, ?_⟩
        refine hK.out _ _ ⟨(blk_cell BK164.out 0).trans rfl, (blk_cell BK164.out 1).trans rfl⟩ (fun hHeld => ?_)
        clear hK K
        refine norm_ (a' := ?_) ?_ ?_
        rotate_left
        · show Act.put _ (some 32) _ = _
          simp only [Act.put, List.setIfInBounds_toArray, List.set_cons_zero, List.set_cons_succ, i64_w, i32_w]
          rfl
        refine pz_ (i := 12) (N := some 33) bz1b_13 (any_of HT_.out (by kernel_rfl)) ?_
        refine pz_ (i := 13) (N := some 34) bz1b_14 (any_of HT_.out (by kernel_rfl)) ?_
        refine take_ (i := 14) (N := some 35) (v := ?_) (a' := ?_) bz1b_15 rfl rfl (take_ofW HT_.out HW_.out (by kernel_rfl)) (fun _ _ _ h => h) (Or.inl ⟨by rfl, ?_⟩) hHeld ?_ ?_
        rotate_left
        · rintro w' ⟨s0, s1⟩
          go_simp
          with_reducible rfl
        rotate_left
        · simp only [Act.put, List.setIfInBounds_toArray, List.set_cons_zero, List.set_cons_succ, i64_w, i32_w]
          rfl
        refine one_ (i := 15) (N := some 36) bz1b_16 rfl rfl (one_of HT_.out (by kernel_rfl)) (by decide) (fun K hK => ?_)
        refine goes_ Try.func18 (by kernel_rfl) rfl #[.int .i64 9, .int .i64 9] (by rfl) rfl rfl xa ?_
        with_reducible refine (spoorlaw06_of.calls 9 9 t183 t184 _ A24.out).mono ?_
        rintro e w111 ⟨rfl, hb⟩
        refine ⟨_, rfl, ?_⟩
        have n0_ := Aside0.mk (Kd.R_below (xr HO137) hb)
        have n1_ := Aside0.mk (Kd.R_below (xr HO140) hb)
        have n2_ := Aside0.mk (Kd.R_below (xr HO145) hb)
        have n3_ := Aside0.mk (Kd.R_below (xr HO154) hb)
        have n4_ := Aside0.mk (Kd.R_below (xr HO157) hb)
        have n5_ := Aside0.mk (Kd.R_below (xr HO171) hb)
        have n6_ := Aside0.mk (Kd.R_below (xr HO181) hb)
        have n7_ := Aside0.mk (blk_below (g := gb164) (o := .cells #[.int .i64 t162, .int .i64 t163] 23 (0, 0)) (xb BK164) hb)
        have n8_ := Aside0.mk (below_step xq1 hb)
        clear HO137
        clear HO140
        clear HO145
        clear HO154
        clear HO157
        clear HO171
        clear HO181
        clear BK164
        clear HB
        have HO137 := n0_
        have HO140 := n1_
        have HO145 := n2_
        have HO154 := n3_
        have HO157 := n4_
        have HO171 := n5_
        have HO181 := n6_
        have BK164 := n7_
        have HB := n8_
        clear n0_ n1_ n2_ n3_ n4_ n5_ n6_ n7_ n8_
        (try clear hb)
        (try clear hb2)
        (try clear hk)
        (try clear hi)
        refine hK.out _ _ ⟨(blk_cell BK164.out 0).trans rfl, (blk_cell BK164.out 1).trans rfl⟩ (fun hHeld => ?_)
        clear hK K
        refine norm_ (a' := ?_) ?_ ?_
        rotate_left
        · show Act.put _ (some 36) _ = _
          simp only [Act.put, List.setIfInBounds_toArray, List.set_cons_zero, List.set_cons_succ, i64_w, i32_w]
          rfl
        refine pz_ (i := 16) (N := some 37) bz1b_17 (any_of HT_.out (by kernel_rfl)) ?_
        refine pz_ (i := 17) (N := some 38) bz1b_18 (any_of HT_.out (by kernel_rfl)) ?_
        refine pz_ (i := 18) (N := some 39) bz1b_19 (any_of HT_.out (by kernel_rfl)) ?_
        refine pu_ (i := 19) (N := some 40) bz1b_20 (any_of HT_.out (by kernel_rfl)) ?_
        refine pu_ (i := 20) (N := some 41) bz1b_21 (any_of HT_.out (by kernel_rfl)) ?_
        refine pu_ (i := 21) (N := some 42) bz1b_22 (any_of HT_.out (by kernel_rfl)) ?_
        refine pz_ (i := 22) (N := some 43) bz1b_23 (any_of HT_.out (by kernel_rfl)) ?_
        refine pz_ (i := 23) (N := some 0) bz1b_24 (any_of HT_.out (by kernel_rfl)) ?_
        refine done_ (done_of HT_.out (by kernel_rfl)) ?_
        try go_wp2
        go_ret
        exact ⟨by first | rfl | (simp [errW_none, errW_some] <;> rfl) | (simp [*, errW_none, errW_some] <;> rfl), by repeat (first | (with_reducible first | exact HB.out | apply below_alloc | apply pw_below_drewN | apply below_drew1 | refine below_set ?_ GE164.out) | exact HB.out)⟩
    · replace c23 := Bool.eq_false_iff.mpr c23
      subst c23
      have H1 : (some false) = some r := by rw [if_neg (show ¬ (false = true) by decide)] at H; exact H
      clear H
      have H := H1
      clear H1
      obtain rfl := Option.some.inj H
      go_enter Try.func10, Try.ntmps10
      try go_wp2_with (first | ((with_reducible refine gate_callee (f := 18) rfl ?_); refine goesL_ (some 4) rfl rfl Try.func18 (by kernel_rfl) rfl #[.int .i64 5, .int .i64 7] rfl xa ?_; (with_reducible refine (spoorlaw06_of.calls 5 7 t125 t126 _ A1.out).mono ?_); rintro e w112 ⟨rfl, hb⟩; refine ⟨_, rfl, ?_⟩; have n0_ := Aside0.mk (below_step xq0 hb); clear HB; have HB := n0_; clear n0_; (try clear hb); (try clear hb2); (try clear hk); (try clear hi)) | ((with_reducible refine gate_callee (f := 18) rfl ?_); refine goesL_ (some 5) rfl rfl Try.func18 (by kernel_rfl) rfl #[.int .i64 1, .int .i64 3] rfl xa ?_; (with_reducible refine (spoorlaw06_of.calls 1 3 t127 t128 _ A2.out).mono ?_); rintro e w113 ⟨rfl, hb⟩; refine ⟨_, rfl, ?_⟩; have n0_ := Aside0.mk (below_step xq0 hb); clear HB; have HB := n0_; clear n0_; (try clear hb); (try clear hb2); (try clear hk); (try clear hi)) | ((with_reducible refine gate_callee (f := 18) rfl ?_); refine goesL_ (some 6) rfl rfl Try.func18 (by kernel_rfl) rfl #[.int .i64 7, .int .i64 9] rfl xa ?_; (with_reducible refine (spoorlaw06_of.calls 7 9 t129 t130 _ A3.out).mono ?_); rintro e w114 ⟨rfl, hb⟩; refine ⟨_, rfl, ?_⟩; have n0_ := Aside0.mk (below_step xq0 hb); clear HB; have HB := n0_; clear n0_; (try clear hb); (try clear hb2); (try clear hk); (try clear hi)) | ((with_reducible refine gate_callee (f := 18) rfl ?_); refine goesL_ (some 7) rfl rfl Try.func18 (by kernel_rfl) rfl #[.int .i64 4, .int .i64 4] rfl xa ?_; (with_reducible refine (spoorlaw06_of.calls 4 4 t131 t132 _ A4.out).mono ?_); rintro e w115 ⟨rfl, hb⟩; refine ⟨_, rfl, ?_⟩; have n0_ := Aside0.mk (below_step xq0 hb); clear HB; have HB := n0_; clear n0_; (try clear hb); (try clear hb2); (try clear hk); (try clear hi)) | ((with_reducible refine gate_callee (f := 18) rfl ?_); refine goesL_ (some 8) rfl rfl Try.func18 (by kernel_rfl) rfl #[.int .i64 2, .int .i64 2] rfl xa ?_; (with_reducible refine (spoorlaw06_of.calls 2 2 t133 t134 _ A5.out).mono ?_); rintro e w116 ⟨rfl, hb⟩; refine ⟨_, rfl, ?_⟩; have n0_ := Aside0.mk (below_step xq0 hb); clear HB; have HB := n0_; clear n0_; (try clear hb); (try clear hb2); (try clear hk); (try clear hi)) | ((with_reducible refine gate_dst (N := 9) rfl ?_); (try (refine gate_guard (by rfl) ?_; dsimp only)); refine Kd.R_lit k23 _ 23 ?hg (N := 9) ?hd (xs := ([(⟨t125, t126⟩ : S23), (⟨t127, t128⟩ : S23), (⟨t129, t130⟩ : S23), (⟨t131, t132⟩ : S23), (⟨t133, t134⟩ : S23)] : List (S23))) (inner := [.int .i64 t125, .int .i64 t126, .int .i64 t127, .int .i64 t128, .int .i64 t129, .int .i64 t130, .int .i64 t131, .int .i64 t132, .int .i64 t133, .int .i64 t134]) (ok := fun _ => True) (okp := fun _ => True) ?hr ?hp (fun _ hk => hk) trivial (Below.refl _ _) (Nat.le_refl _) (by simp) ?_; (case hd => rfl); (case hg => rfl); (case hr => first | (go_simp; done) | (go_simp; rfl)); (case hp => exact (Reps.c2 (show Kd.M k23 _ _ _ (⟨t125, t126⟩ : S23) [.int .i64 t125, .int .i64 t126] from (k23_mkM _ _ _ (⟨t125, t126⟩ : S23) )) (Reps.c2 (show Kd.M k23 _ _ _ (⟨t127, t128⟩ : S23) [.int .i64 t127, .int .i64 t128] from (k23_mkM _ _ _ (⟨t127, t128⟩ : S23) )) (Reps.c2 (show Kd.M k23 _ _ _ (⟨t129, t130⟩ : S23) [.int .i64 t129, .int .i64 t130] from (k23_mkM _ _ _ (⟨t129, t130⟩ : S23) )) (Reps.c2 (show Kd.M k23 _ _ _ (⟨t131, t132⟩ : S23) [.int .i64 t131, .int .i64 t132] from (k23_mkM _ _ _ (⟨t131, t132⟩ : S23) )) (Reps.c2 (show Kd.M k23 _ _ _ (⟨t133, t134⟩ : S23) [.int .i64 t133, .int .i64 t134] from (k23_mkM _ _ _ (⟨t133, t134⟩ : S23) )) (Reps.none _ _))))))); intro v136 w117 ho118 hb hg_ hnew_; clear hg_ hnew_; (first | rw [← Ny135.out] at ho118 | (simp only [Int.reduceToNat] at ho118; rw [← Ny135.out] at ho118)); have n0_ := Aside0.mk (Kd.R_lower ho118 (below_size xq0)); have n1_ := Aside0.mk (below_step xq0 hb); clear HB; have HO137 := n0_; have HB := n1_; clear n0_ n1_; clear hb ho118; obtain ⟨Ao119, co119, eo119⟩ := Kd.R_slice HO137.out; subst eo119) | ((with_reducible refine gate_callee (f := 15) rfl ?_); refine goesL_ (some 10) rfl rfl Try.func15 (by kernel_rfl) rfl #[.slice Ao119 y135.length co119] rfl xa ?_; (with_reducible refine (ival_Normal.calls _ _ y135 t138 _ ?side1 ?side2 A6.out).mono ?_); (case side1 => repeat (first | exact (Kd.R_reads' HO137.out).2.2 | (with_reducible refine Kd.C_alloc ?_ _) | (with_reducible refine Kd.C_drewN ?_ _) | (with_reducible refine Kd.C_drew ?_))); (case side2 => exact (Kd.R_reads' HO137.out).2.1); rintro e w120 ⟨v139, rfl, ho0, hb⟩; refine ⟨_, rfl, ?_⟩; have n0_ := Aside0.mk (Kd.R_elder' (xr HO137) (Kd.R_base ho0) hb); have n1_ := Aside0.mk (Kd.R_lower (Kd.R_new' ho0 (Kd.R_lt (xr HO137))) (below_size xq0)); have n2_ := Aside0.mk (below_step xq0 hb); clear HO137; clear HB; have HO137 := n0_; have HO140 := n1_; have HB := n2_; clear n0_ n1_ n2_; (try clear hb); (try clear hb2); (try clear hk); (try clear hi); (try clear ho0)) | ((with_reducible refine gate_callee (f := 18) rfl ?_); refine goesL_ (some 11) rfl rfl Try.func18 (by kernel_rfl) rfl #[.int .i64 1, .int .i64 12] rfl xa ?_; (with_reducible refine (spoorlaw06_of.calls 1 12 t141 t142 _ A7.out).mono ?_); rintro e w121 ⟨rfl, hb⟩; refine ⟨_, rfl, ?_⟩; have n0_ := Aside0.mk (Kd.R_below (xr HO137) hb); have n1_ := Aside0.mk (Kd.R_below (xr HO140) hb); have n2_ := Aside0.mk (below_step xq0 hb); clear HO137; clear HO140; clear HB; have HO137 := n0_; have HO140 := n1_; have HB := n2_; clear n0_ n1_ n2_; (try clear hb); (try clear hb2); (try clear hk); (try clear hi)) | ((with_reducible refine gate_dst (N := 12) rfl ?_); (try (refine gate_guard (by rfl) ?_; dsimp only)); refine Kd.R_lit k23 _ 23 ?hg (N := 12) ?hd (xs := ([(⟨t141, t142⟩ : S23)] : List (S23))) (inner := [.int .i64 t141, .int .i64 t142]) (ok := fun _ => True) (okp := fun _ => True) ?hr ?hp (fun _ hk => hk) trivial (Below.refl _ _) (Nat.le_refl _) (by simp) ?_; (case hd => rfl); (case hg => rfl); (case hr => first | (go_simp; done) | (go_simp; rfl)); (case hp => exact (Reps.c2 (show Kd.M k23 _ _ _ (⟨t141, t142⟩ : S23) [.int .i64 t141, .int .i64 t142] from (k23_mkM _ _ _ (⟨t141, t142⟩ : S23) )) (Reps.none _ _))); intro v144 w122 ho123 hb hg_ hnew_; clear hg_ hnew_; (first | rw [← Ny143.out] at ho123 | (simp only [Int.reduceToNat] at ho123; rw [← Ny143.out] at ho123)); have n0_ := Aside0.mk (Kd.R_elder' (xr HO137) (Kd.R_base ho123) hb); have n1_ := Aside0.mk (Kd.R_elder' (xr HO140) (Kd.R_base ho123) hb); have n2_ := Aside0.mk (Kd.R_lower (Kd.R_new' (Kd.R_new' ho123 (Kd.R_lt (xr HO137))) (Kd.R_lt (xr HO140))) (below_size xq0)); have n3_ := Aside0.mk (below_step xq0 hb); clear HO137; clear HO140; clear HB; have HO137 := n0_; have HO140 := n1_; have HO145 := n2_; have HB := n3_; clear n0_ n1_ n2_ n3_; clear hb ho123) | ((with_reducible refine gate_callee (f := 18) rfl ?_); refine goesL_ (some 13) rfl rfl Try.func18 (by kernel_rfl) rfl #[.int .i64 3, .int .i64 4] rfl xa ?_; (with_reducible refine (spoorlaw06_of.calls 3 4 t146 t147 _ A8.out).mono ?_); rintro e w124 ⟨rfl, hb⟩; refine ⟨_, rfl, ?_⟩; have n0_ := Aside0.mk (Kd.R_below (xr HO137) hb); have n1_ := Aside0.mk (Kd.R_below (xr HO140) hb); have n2_ := Aside0.mk (Kd.R_below (xr HO145) hb); have n3_ := Aside0.mk (below_step xq0 hb); clear HO137; clear HO140; clear HO145; clear HB; have HO137 := n0_; have HO140 := n1_; have HO145 := n2_; have HB := n3_; clear n0_ n1_ n2_ n3_; (try clear hb); (try clear hb2); (try clear hk); (try clear hi)) | ((with_reducible refine gate_callee (f := 18) rfl ?_); refine goesL_ (some 14) rfl rfl Try.func18 (by kernel_rfl) rfl #[.int .i64 6, .int .i64 8] rfl xa ?_; (with_reducible refine (spoorlaw06_of.calls 6 8 t148 t149 _ A9.out).mono ?_); rintro e w125 ⟨rfl, hb⟩; refine ⟨_, rfl, ?_⟩; have n0_ := Aside0.mk (Kd.R_below (xr HO137) hb); have n1_ := Aside0.mk (Kd.R_below (xr HO140) hb); have n2_ := Aside0.mk (Kd.R_below (xr HO145) hb); have n3_ := Aside0.mk (below_step xq0 hb); clear HO137; clear HO140; clear HO145; clear HB; have HO137 := n0_; have HO140 := n1_; have HO145 := n2_; have HB := n3_; clear n0_ n1_ n2_ n3_; (try clear hb); (try clear hb2); (try clear hk); (try clear hi)) | ((with_reducible refine gate_callee (f := 18) rfl ?_); refine goesL_ (some 15) rfl rfl Try.func18 (by kernel_rfl) rfl #[.int .i64 8, .int .i64 9] rfl xa ?_; (with_reducible refine (spoorlaw06_of.calls 8 9 t150 t151 _ A10.out).mono ?_); rintro e w126 ⟨rfl, hb⟩; refine ⟨_, rfl, ?_⟩; have n0_ := Aside0.mk (Kd.R_below (xr HO137) hb); have n1_ := Aside0.mk (Kd.R_below (xr HO140) hb); have n2_ := Aside0.mk (Kd.R_below (xr HO145) hb); have n3_ := Aside0.mk (below_step xq0 hb); clear HO137; clear HO140; clear HO145; clear HB; have HO137 := n0_; have HO140 := n1_; have HO145 := n2_; have HB := n3_; clear n0_ n1_ n2_ n3_; (try clear hb); (try clear hb2); (try clear hk); (try clear hi)) | ((with_reducible refine gate_dst (N := 16) rfl ?_); (try (refine gate_guard (by rfl) ?_; dsimp only)); refine Kd.R_lit k23 _ 23 ?hg (N := 16) ?hd (xs := ([(⟨t146, t147⟩ : S23), (⟨t148, t149⟩ : S23), (⟨t150, t151⟩ : S23)] : List (S23))) (inner := [.int .i64 t146, .int .i64 t147, .int .i64 t148, .int .i64 t149, .int .i64 t150, .int .i64 t151]) (ok := fun _ => True) (okp := fun _ => True) ?hr ?hp (fun _ hk => hk) trivial (Below.refl _ _) (Nat.le_refl _) (by simp) ?_; (case hd => rfl); (case hg => rfl); (case hr => first | (go_simp; done) | (go_simp; rfl)); (case hp => exact (Reps.c2 (show Kd.M k23 _ _ _ (⟨t146, t147⟩ : S23) [.int .i64 t146, .int .i64 t147] from (k23_mkM _ _ _ (⟨t146, t147⟩ : S23) )) (Reps.c2 (show Kd.M k23 _ _ _ (⟨t148, t149⟩ : S23) [.int .i64 t148, .int .i64 t149] from (k23_mkM _ _ _ (⟨t148, t149⟩ : S23) )) (Reps.c2 (show Kd.M k23 _ _ _ (⟨t150, t151⟩ : S23) [.int .i64 t150, .int .i64 t151] from (k23_mkM _ _ _ (⟨t150, t151⟩ : S23) )) (Reps.none _ _))))); intro v153 w127 ho128 hb hg_ hnew_; clear hg_ hnew_; (first | rw [← Ny152.out] at ho128 | (simp only [Int.reduceToNat] at ho128; rw [← Ny152.out] at ho128)); have n0_ := Aside0.mk (Kd.R_elder' (xr HO137) (Kd.R_base ho128) hb); have n1_ := Aside0.mk (Kd.R_elder' (xr HO140) (Kd.R_base ho128) hb); have n2_ := Aside0.mk (Kd.R_elder' (xr HO145) (Kd.R_base ho128) hb); have n3_ := Aside0.mk (Kd.R_lower (Kd.R_new' (Kd.R_new' (Kd.R_new' ho128 (Kd.R_lt (xr HO137))) (Kd.R_lt (xr HO140))) (Kd.R_lt (xr HO145))) (below_size xq0)); have n4_ := Aside0.mk (below_step xq0 hb); clear HO137; clear HO140; clear HO145; clear HB; have HO137 := n0_; have HO140 := n1_; have HO145 := n2_; have HO154 := n3_; have HB := n4_; clear n0_ n1_ n2_ n3_ n4_; clear hb ho128; obtain ⟨Ao129, co129, eo129⟩ := Kd.R_slice HO145.out; subst eo129; obtain ⟨Ao130, co130, eo130⟩ := Kd.R_slice HO154.out; subst eo130) | ((with_reducible refine gate_callee (f := 17) rfl ?_); refine goesL_ (some 17) rfl rfl Try.func17 (by kernel_rfl) rfl #[.slice Ao129 y143.length co129, .slice Ao130 y152.length co130] rfl xa ?_; (with_reducible refine (ival_Minus.calls _ _ y143 _ _ y152 t155 _ ?side1 ?side2 ?side3 ?side4 A11.out).mono ?_); (case side1 => repeat (first | exact (Kd.R_reads' HO145.out).2.2 | (with_reducible refine Kd.C_alloc ?_ _) | (with_reducible refine Kd.C_drewN ?_ _) | (with_reducible refine Kd.C_drew ?_))); (case side2 => exact (Kd.R_reads' HO145.out).2.1); (case side3 => repeat (first | exact (Kd.R_reads' HO154.out).2.2 | (with_reducible refine Kd.C_alloc ?_ _) | (with_reducible refine Kd.C_drewN ?_ _) | (with_reducible refine Kd.C_drew ?_))); (case side4 => exact (Kd.R_reads' HO154.out).2.1); rintro e w131 ⟨v156, rfl, ho0, hb⟩; refine ⟨_, rfl, ?_⟩; have n0_ := Aside0.mk (Kd.R_elder' (xr HO137) (Kd.R_base ho0) hb); have n1_ := Aside0.mk (Kd.R_elder' (xr HO140) (Kd.R_base ho0) hb); have n2_ := Aside0.mk (Kd.R_elder' (xr HO145) (Kd.R_base ho0) hb); have n3_ := Aside0.mk (Kd.R_elder' (xr HO154) (Kd.R_base ho0) hb); have n4_ := Aside0.mk (Kd.R_lower (Kd.R_new' (Kd.R_new' (Kd.R_new' (Kd.R_new' ho0 (Kd.R_lt (xr HO137))) (Kd.R_lt (xr HO140))) (Kd.R_lt (xr HO145))) (Kd.R_lt (xr HO154))) (below_size xq0)); have n5_ := Aside0.mk (below_step xq0 hb); clear HO137; clear HO140; clear HO145; clear HO154; clear HB; have HO137 := n0_; have HO140 := n1_; have HO145 := n2_; have HO154 := n3_; have HO157 := n4_; have HB := n5_; clear n0_ n1_ n2_ n3_ n4_ n5_; (try clear hb); (try clear hb2); (try clear hk); (try clear hi); (try clear ho0)) | ((with_reducible refine gate_callee (f := 18) rfl ?_); refine goesL_ (some 18) rfl rfl Try.func18 (by kernel_rfl) rfl #[.int .i64 9, .int .i64 12] rfl xa ?_; (with_reducible refine (spoorlaw06_of.calls 9 12 t158 t159 _ A12.out).mono ?_); rintro e w132 ⟨rfl, hb⟩; refine ⟨_, rfl, ?_⟩; have n0_ := Aside0.mk (Kd.R_below (xr HO137) hb); have n1_ := Aside0.mk (Kd.R_below (xr HO140) hb); have n2_ := Aside0.mk (Kd.R_below (xr HO145) hb); have n3_ := Aside0.mk (Kd.R_below (xr HO154) hb); have n4_ := Aside0.mk (Kd.R_below (xr HO157) hb); have n5_ := Aside0.mk (below_step xq0 hb); clear HO137; clear HO140; clear HO145; clear HO154; clear HO157; clear HB; have HO137 := n0_; have HO140 := n1_; have HO145 := n2_; have HO154 := n3_; have HO157 := n4_; have HB := n5_; clear n0_ n1_ n2_ n3_ n4_ n5_; (try clear hb); (try clear hb2); (try clear hk); (try clear hi)) | ((with_reducible refine gate_callee (f := 18) rfl ?_); refine goesL_ (some 19) rfl rfl Try.func18 (by kernel_rfl) rfl #[.int .i64 5, .int .i64 9] rfl xa ?_; (with_reducible refine (spoorlaw06_of.calls 5 9 t160 t161 _ A13.out).mono ?_); rintro e w133 ⟨rfl, hb⟩; refine ⟨_, rfl, ?_⟩; have n0_ := Aside0.mk (Kd.R_below (xr HO137) hb); have n1_ := Aside0.mk (Kd.R_below (xr HO140) hb); have n2_ := Aside0.mk (Kd.R_below (xr HO145) hb); have n3_ := Aside0.mk (Kd.R_below (xr HO154) hb); have n4_ := Aside0.mk (Kd.R_below (xr HO157) hb); have n5_ := Aside0.mk (below_step xq0 hb); clear HO137; clear HO140; clear HO145; clear HO154; clear HO157; clear HB; have HO137 := n0_; have HO140 := n1_; have HO145 := n2_; have HO154 := n3_; have HO157 := n4_; have HB := n5_; clear n0_ n1_ n2_ n3_ n4_ n5_; (try clear hb); (try clear hb2); (try clear hk); (try clear hi)) | ((with_reducible refine gate_callee (f := 11) rfl ?_); refine goesL_ (some 20) rfl rfl Try.func11 (by kernel_rfl) rfl #[.agg #[.int .i64 t158, .int .i64 t159], .agg #[.int .i64 t160, .int .i64 t161]] rfl xa ?_; (with_reducible refine (ival_Clip.calls t158 t159 t160 t161 t162 t163 _ A14.out).mono ?_); rintro e w134 ⟨rfl, hb⟩; refine ⟨_, rfl, ?_⟩; have n0_ := Aside0.mk (Kd.R_below (xr HO137) hb); have n1_ := Aside0.mk (Kd.R_below (xr HO140) hb); have n2_ := Aside0.mk (Kd.R_below (xr HO145) hb); have n3_ := Aside0.mk (Kd.R_below (xr HO154) hb); have n4_ := Aside0.mk (Kd.R_below (xr HO157) hb); have n5_ := Aside0.mk (below_step xq0 hb); clear HO137; clear HO140; clear HO145; clear HO154; clear HO157; clear HB; have HO137 := n0_; have HO140 := n1_; have HO145 := n2_; have HO154 := n3_; have HO157 := n4_; have HB := n5_; clear n0_ n1_ n2_ n3_ n4_ n5_; (try clear hb); (try clear hb2); (try clear hk); (try clear hi)) | ((with_reducible refine gate_dst (N := 3) rfl ?_); (try (refine gate_guard (by rfl) ?_; dsimp only)); refine box_event ?hg (N := 3) ?hd (cs := #[.int .i64 0, .int .i64 0]) (t := 23) ?hr ?_; (case hd => rfl); (case hg => rfl); (case hr => first | (go_simp; done) | (go_simp; rfl)); intro gb164 hg w135 hbox hb; have n0_ := Aside0.mk (Kd.R_below (Kd.R_elderB (xr HO137) gb164 (Nat.le_of_eq hg.symm)) hb); have n1_ := Aside0.mk (Kd.R_below (Kd.R_elderB (xr HO140) gb164 (Nat.le_of_eq hg.symm)) hb); have n2_ := Aside0.mk (Kd.R_below (Kd.R_elderB (xr HO145) gb164 (Nat.le_of_eq hg.symm)) hb); have n3_ := Aside0.mk (Kd.R_below (Kd.R_elderB (xr HO154) gb164 (Nat.le_of_eq hg.symm)) hb); have n4_ := Aside0.mk (Kd.R_below (Kd.R_elderB (xr HO157) gb164 (Nat.le_of_eq hg.symm)) hb); have n5_ := Aside0.mk (below_step xq0 hb); have n6_ := Aside0.mk (hbox); have n7_ := Aside0.mk ((by rw [hg]; exact (below_size xq0) : w.heap.size ≤ gb164)); have n8_ := Aside0.mk ((by rw [hg]; exact (below_size xq0) : w.heap.size ≤ gb164)); clear HO137; clear HO140; clear HO145; clear HO154; clear HO157; clear HB; have HO137 := n0_; have HO140 := n1_; have HO145 := n2_; have HO154 := n3_; have HO157 := n4_; have HB := n5_; have BK164 := n6_; have GW164 := n7_; have GE164 := n8_; clear n0_ n1_ n2_ n3_ n4_ n5_ n6_ n7_ n8_; clear hb hbox hg; have hcz136_0 : w135.cell? ⟨gb164, 0, none⟩ = some (.int .i64 0) := (blk_cell BK164.out 0).trans rfl; have hcz136_1 : w135.cell? ⟨gb164, 1, none⟩ = some (.int .i64 0) := (blk_cell BK164.out 1).trans rfl; have hfz136_0 := blk_frozen BK164.out 0; have hfz136_1 := blk_frozen BK164.out 1))
      have n0_ : Aside0 (Kd.R k23 23 ((w135.setCell ⟨gb164, 0, none⟩ (.int .i64 t162)).setCell ⟨gb164, 1, none⟩ (.int .i64 t163)) w.heap.size (fun k_ => some k_ ≠ (v139 : Value).ownBlock ∧ some k_ ≠ (.slice Ao129 y143.length co129 : Value).ownBlock ∧ some k_ ≠ (.slice Ao130 y152.length co130 : Value).ownBlock ∧ some k_ ≠ (v156 : Value).ownBlock ∧ k_ ≠ gb164) (.slice Ao119 y135.length co119) y135) := ⟨by (with_reducible repeat (first | apply Kd.R_alloc | apply Kd.R_drewN | apply Kd.R_drew)); exact Kd.R_mono (Kd.R_far (p := ⟨gb164, 1, none⟩) (Kd.R_far (p := ⟨gb164, 0, none⟩) (Kd.R_mono HO137.out (fun k_ hk => (⟨hk, hk.2⟩ : _ ∧ k_ ≠ gb164))) (fun _ hk => hk.2) (.int .i64 t162)) (fun _ hk => hk.2) (.int .i64 t163)) (fun _ hk => ⟨hk.1.1.1.1.1.2, ⟨hk.1.1.1.1.2, ⟨hk.1.1.1.2, ⟨hk.1.1.2, hk.1.2⟩⟩⟩⟩)⟩
      have n1_ : Aside0 (Kd.R k23 23 ((w135.setCell ⟨gb164, 0, none⟩ (.int .i64 t162)).setCell ⟨gb164, 1, none⟩ (.int .i64 t163)) w.heap.size (fun k_ => some k_ ≠ (.slice Ao119 y135.length co119 : Value).ownBlock ∧ some k_ ≠ (.slice Ao129 y143.length co129 : Value).ownBlock ∧ some k_ ≠ (.slice Ao130 y152.length co130 : Value).ownBlock ∧ some k_ ≠ (v156 : Value).ownBlock ∧ k_ ≠ gb164) v139 t138) := ⟨by (with_reducible repeat (first | apply Kd.R_alloc | apply Kd.R_drewN | apply Kd.R_drew)); exact Kd.R_mono (Kd.R_far (p := ⟨gb164, 1, none⟩) (Kd.R_far (p := ⟨gb164, 0, none⟩) (Kd.R_mono HO140.out (fun k_ hk => (⟨hk, hk.2⟩ : _ ∧ k_ ≠ gb164))) (fun _ hk => hk.2) (.int .i64 t162)) (fun _ hk => hk.2) (.int .i64 t163)) (fun _ hk => ⟨hk.1.1.1.1.1.2, ⟨hk.1.1.1.1.2, ⟨hk.1.1.1.2, ⟨hk.1.1.2, hk.1.2⟩⟩⟩⟩)⟩
      have n2_ : Aside0 (Kd.R k23 23 ((w135.setCell ⟨gb164, 0, none⟩ (.int .i64 t162)).setCell ⟨gb164, 1, none⟩ (.int .i64 t163)) w.heap.size (fun k_ => some k_ ≠ (.slice Ao119 y135.length co119 : Value).ownBlock ∧ some k_ ≠ (v139 : Value).ownBlock ∧ some k_ ≠ (.slice Ao130 y152.length co130 : Value).ownBlock ∧ some k_ ≠ (v156 : Value).ownBlock ∧ k_ ≠ gb164) (.slice Ao129 y143.length co129) y143) := ⟨by (with_reducible repeat (first | apply Kd.R_alloc | apply Kd.R_drewN | apply Kd.R_drew)); exact Kd.R_mono (Kd.R_far (p := ⟨gb164, 1, none⟩) (Kd.R_far (p := ⟨gb164, 0, none⟩) (Kd.R_mono HO145.out (fun k_ hk => (⟨hk, hk.2⟩ : _ ∧ k_ ≠ gb164))) (fun _ hk => hk.2) (.int .i64 t162)) (fun _ hk => hk.2) (.int .i64 t163)) (fun _ hk => ⟨hk.1.1.1.1.1.2, ⟨hk.1.1.1.1.2, ⟨hk.1.1.1.2, ⟨hk.1.1.2, hk.1.2⟩⟩⟩⟩)⟩
      have n3_ : Aside0 (Kd.R k23 23 ((w135.setCell ⟨gb164, 0, none⟩ (.int .i64 t162)).setCell ⟨gb164, 1, none⟩ (.int .i64 t163)) w.heap.size (fun k_ => some k_ ≠ (.slice Ao119 y135.length co119 : Value).ownBlock ∧ some k_ ≠ (v139 : Value).ownBlock ∧ some k_ ≠ (.slice Ao129 y143.length co129 : Value).ownBlock ∧ some k_ ≠ (v156 : Value).ownBlock ∧ k_ ≠ gb164) (.slice Ao130 y152.length co130) y152) := ⟨by (with_reducible repeat (first | apply Kd.R_alloc | apply Kd.R_drewN | apply Kd.R_drew)); exact Kd.R_mono (Kd.R_far (p := ⟨gb164, 1, none⟩) (Kd.R_far (p := ⟨gb164, 0, none⟩) (Kd.R_mono HO154.out (fun k_ hk => (⟨hk, hk.2⟩ : _ ∧ k_ ≠ gb164))) (fun _ hk => hk.2) (.int .i64 t162)) (fun _ hk => hk.2) (.int .i64 t163)) (fun _ hk => ⟨hk.1.1.1.1.1.2, ⟨hk.1.1.1.1.2, ⟨hk.1.1.1.2, ⟨hk.1.1.2, hk.1.2⟩⟩⟩⟩)⟩
      have n4_ : Aside0 (Kd.R k23 23 ((w135.setCell ⟨gb164, 0, none⟩ (.int .i64 t162)).setCell ⟨gb164, 1, none⟩ (.int .i64 t163)) w.heap.size (fun k_ => some k_ ≠ (.slice Ao119 y135.length co119 : Value).ownBlock ∧ some k_ ≠ (v139 : Value).ownBlock ∧ some k_ ≠ (.slice Ao129 y143.length co129 : Value).ownBlock ∧ some k_ ≠ (.slice Ao130 y152.length co130 : Value).ownBlock ∧ k_ ≠ gb164) v156 t155) := ⟨by (with_reducible repeat (first | apply Kd.R_alloc | apply Kd.R_drewN | apply Kd.R_drew)); exact Kd.R_mono (Kd.R_far (p := ⟨gb164, 1, none⟩) (Kd.R_far (p := ⟨gb164, 0, none⟩) (Kd.R_mono HO157.out (fun k_ hk => (⟨hk, hk.2⟩ : _ ∧ k_ ≠ gb164))) (fun _ hk => hk.2) (.int .i64 t162)) (fun _ hk => hk.2) (.int .i64 t163)) (fun _ hk => ⟨hk.1.1.1.1.1.2, ⟨hk.1.1.1.1.2, ⟨hk.1.1.1.2, ⟨hk.1.1.2, hk.1.2⟩⟩⟩⟩)⟩
      have n5_ : Aside0 (((w135.setCell ⟨gb164, 0, none⟩ (.int .i64 t162)).setCell ⟨gb164, 1, none⟩ (.int .i64 t163)).heap[gb164]? = some (.cells #[.int .i64 t162, .int .i64 t163] 23 (0, 0))) := ⟨by (with_reducible repeat (first | refine blk_drewN ?_ _ | refine blk_drew ?_ | refine blk_alloc ?_ _)); refine blk_put (cs := #[.int .i64 t162, .int .i64 0]) ?_ 1 _ rfl; (with_reducible repeat (first | refine blk_drewN ?_ _ | refine blk_drew ?_ | refine blk_alloc ?_ _)); refine blk_put (cs := #[.int .i64 0, .int .i64 0]) ?_ 0 _ rfl; (with_reducible repeat (first | refine blk_drewN ?_ _ | refine blk_drew ?_ | refine blk_alloc ?_ _)); exact BK164.out⟩
      have n6_ : Aside0 (Below w.heap.size w ((w135.setCell ⟨gb164, 0, none⟩ (.int .i64 t162)).setCell ⟨gb164, 1, none⟩ (.int .i64 t163))) := ⟨by repeat (first | (with_reducible first | exact HB.out | apply below_alloc | apply pw_below_drewN | apply below_drew1 | refine below_set ?_ GE164.out) | exact HB.out)⟩
      (try clear HO137)
      (try clear HO140)
      (try clear HO145)
      (try clear HO154)
      (try clear HO157)
      (try clear BK164)
      (try clear HB)
      generalize ((w135.setCell ⟨gb164, 0, none⟩ (.int .i64 t162)).setCell ⟨gb164, 1, none⟩ (.int .i64 t163)) = w137 at n0_ n1_ n2_ n3_ n4_ n5_ n6_ ⊢
      have HO137 := n0_
      have HO140 := n1_
      have HO145 := n2_
      have HO154 := n3_
      have HO157 := n4_
      have BK164 := n5_
      have HB := n6_
      clear n0_ n1_ n2_ n3_ n4_ n5_ n6_
      have n0_ := Aside0.mk (Kd.R_drew HO137.out)
      have n1_ := Aside0.mk (Kd.R_drew HO140.out)
      have n2_ := Aside0.mk (Kd.R_drew HO145.out)
      have n3_ := Aside0.mk (Kd.R_drew HO154.out)
      have n4_ := Aside0.mk (Kd.R_drew HO157.out)
      have n5_ := Aside0.mk (blk_drew BK164.out)
      have n6_ := Aside0.mk (below_drew1 HB.out)
      clear HO137
      clear HO140
      clear HO145
      clear HO154
      clear HO157
      clear BK164
      clear HB
      have HO137 := n0_
      have HO140 := n1_
      have HO145 := n2_
      have HO154 := n3_
      have HO157 := n4_
      have BK164 := n5_
      have HB := n6_
      clear n0_ n1_ n2_ n3_ n4_ n5_ n6_
      refine start_ (n := 24) (S := fun w' => True) (ds := []) bz1b_0 (by kernel_rfl) rfl rfl trivial (fun hHeld => ?_); refine with_tabW spoorlaw06_alive.tab4 spoorlaw06_alive.bits4 (fun HT_ HW_ => ?_)
      generalize w137.drew = w138 at HO137 HO140 HO145 HO154 HO157 BK164 HB hHeld ⊢
      refine pz_ (i := 0) (N := some 21) bz1b_1 (any_of HT_.out (by kernel_rfl)) ?_
      refine one_ (i := 1) (N := some 22) bz1b_2 rfl rfl (one_of HT_.out (by kernel_rfl)) (by decide) (fun K hK => ?_)
      refine goes_ Try.func18 (by kernel_rfl) rfl #[.int .i64 1, .int .i64 3] (by rfl) rfl rfl xa ?_
      with_reducible refine (spoorlaw06_of.calls 1 3 t165 t166 _ A15.out).mono ?_
      rintro e w139 ⟨rfl, hb⟩
      refine ⟨_, rfl, ?_⟩
      have n0_ := Aside0.mk (Kd.R_below (xr HO137) hb)
      have n1_ := Aside0.mk (Kd.R_below (xr HO140) hb)
      have n2_ := Aside0.mk (Kd.R_below (xr HO145) hb)
      have n3_ := Aside0.mk (Kd.R_below (xr HO154) hb)
      have n4_ := Aside0.mk (Kd.R_below (xr HO157) hb)
      have n5_ := Aside0.mk (blk_below (g := gb164) (o := .cells #[.int .i64 t162, .int .i64 t163] 23 (0, 0)) (xb BK164) hb)
      have n6_ := Aside0.mk (below_step xq1 hb)
      clear HO137
      clear HO140
      clear HO145
      clear HO154
      clear HO157
      clear BK164
      clear HB
      have HO137 := n0_
      have HO140 := n1_
      have HO145 := n2_
      have HO154 := n3_
      have HO157 := n4_
      have BK164 := n5_
      have HB := n6_
      clear n0_ n1_ n2_ n3_ n4_ n5_ n6_
      (try clear hb)
      (try clear hb2)
      (try clear hk)
      (try clear hi)
      refine hK.out _ _ trivial (fun hHeld => ?_)
      clear hK K
      refine norm_ (a' := ?_) ?_ ?_
      rotate_left
      · show Act.put _ (some 22) _ = _
        simp only [Act.put, List.setIfInBounds_toArray, List.set_cons_zero, List.set_cons_succ, i64_w, i32_w]
        rfl
      refine one_ (i := 2) (N := some 23) bz1b_3 rfl rfl (one_of HT_.out (by kernel_rfl)) (by decide) (fun K hK => ?_)
      refine goes_ Try.func18 (by kernel_rfl) rfl #[.int .i64 5, .int .i64 9] (by rfl) rfl rfl xa ?_
      with_reducible refine (spoorlaw06_of.calls 5 9 t167 t168 _ A16.out).mono ?_
      rintro e w140 ⟨rfl, hb⟩
      refine ⟨_, rfl, ?_⟩
      have n0_ := Aside0.mk (Kd.R_below (xr HO137) hb)
      have n1_ := Aside0.mk (Kd.R_below (xr HO140) hb)
      have n2_ := Aside0.mk (Kd.R_below (xr HO145) hb)
      have n3_ := Aside0.mk (Kd.R_below (xr HO154) hb)
      have n4_ := Aside0.mk (Kd.R_below (xr HO157) hb)
      have n5_ := Aside0.mk (blk_below (g := gb164) (o := .cells #[.int .i64 t162, .int .i64 t163] 23 (0, 0)) (xb BK164) hb)
      have n6_ := Aside0.mk (below_step xq1 hb)
      clear HO137
      clear HO140
      clear HO145
      clear HO154
      clear HO157
      clear BK164
      clear HB
      have HO137 := n0_
      have HO140 := n1_
      have HO145 := n2_
      have HO154 := n3_
      have HO157 := n4_
      have BK164 := n5_
      have HB := n6_
      clear n0_ n1_ n2_ n3_ n4_ n5_ n6_
      (try clear hb)
      (try clear hb2)
      (try clear hk)
      (try clear hi)
      refine hK.out _ _ trivial (fun hHeld => ?_)
      clear hK K
      refine norm_ (a' := ?_) ?_ ?_
      rotate_left
      · show Act.put _ (some 23) _ = _
        simp only [Act.put, List.setIfInBounds_toArray, List.set_cons_zero, List.set_cons_succ, i64_w, i32_w]
        rfl
      refine one_ (i := 3) (N := some 24) bz1b_4 rfl rfl (one_of HT_.out (by kernel_rfl)) (by decide) (fun K hK => ?_)
      refine Kd.R_lit_step k23 _ 23 ?hg (N := 24) ?hd (xs := ([(⟨t165, t166⟩ : S23), (⟨t167, t168⟩ : S23)] : List (S23))) (inner := [.int .i64 t165, .int .i64 t166, .int .i64 t167, .int .i64 t168]) (ok := fun _ => True) (okp := fun _ => True) ?hr ?hp (fun _ hk => hk) trivial (Below.refl _ _) (Nat.le_refl _) (by simp) ?_; (case hd => rfl); (case hg => rfl); (case hr => first | (go_simp; done) | (go_simp; rfl)); (case hp => exact (Reps.c2 (show Kd.M k23 _ _ _ (⟨t165, t166⟩ : S23) [.int .i64 t165, .int .i64 t166] from (k23_mkM _ _ _ (⟨t165, t166⟩ : S23) )) (Reps.c2 (show Kd.M k23 _ _ _ (⟨t167, t168⟩ : S23) [.int .i64 t167, .int .i64 t168] from (k23_mkM _ _ _ (⟨t167, t168⟩ : S23) )) (Reps.none _ _))))
      intro v170 w141 ho142 hb hg_ hnew_
      clear hg_ hnew_
      (first | rw [← Ny169.out] at ho142 | (simp only [Int.reduceToNat] at ho142; rw [← Ny169.out] at ho142))
      have n0_ := Aside0.mk (Kd.R_elder' (xr HO137) (Kd.R_base ho142) hb)
      have n1_ := Aside0.mk (Kd.R_elder' (xr HO140) (Kd.R_base ho142) hb)
      have n2_ := Aside0.mk (Kd.R_elder' (xr HO145) (Kd.R_base ho142) hb)
      have n3_ := Aside0.mk (Kd.R_elder' (xr HO154) (Kd.R_base ho142) hb)
      have n4_ := Aside0.mk (Kd.R_elder' (xr HO157) (Kd.R_base ho142) hb)
      have n5_ := Aside0.mk (Kd.R_lower (Kd.R_newB (Kd.R_new' (Kd.R_new' (Kd.R_new' (Kd.R_new' (Kd.R_new' ho142 (Kd.R_lt (xr HO137))) (Kd.R_lt (xr HO140))) (Kd.R_lt (xr HO145))) (Kd.R_lt (xr HO154))) (Kd.R_lt (xr HO157))) (g := gb164) (o := .cells #[.int .i64 t162, .int .i64 t163] 23 (0, 0)) (xb BK164)) (below_size xq1))
      have n6_ := Aside0.mk (blk_below (g := gb164) (o := .cells #[.int .i64 t162, .int .i64 t163] 23 (0, 0)) (xb BK164) hb)
      have n7_ := Aside0.mk (below_step xq1 hb)
      clear HO137
      clear HO140
      clear HO145
      clear HO154
      clear HO157
      clear BK164
      clear HB
      have HO137 := n0_
      have HO140 := n1_
      have HO145 := n2_
      have HO154 := n3_
      have HO157 := n4_
      have HO171 := n5_
      have BK164 := n6_
      have HB := n7_
      clear n0_ n1_ n2_ n3_ n4_ n5_ n6_ n7_
      clear hb ho142
      obtain ⟨Ao143, co143, eo143⟩ := Kd.R_slice HO140.out
      (first | subst eo143 | (injection eo143 with f1_ f2_ f3_; have f4_ := f1_.symm; have f5_ := f3_.symm; clear f1_ f2_ f3_; subst f4_; subst f5_))
      obtain ⟨Ao144, co144, eo144⟩ := Kd.R_slice HO171.out
      (first | subst eo144 | (injection eo144 with f1_ f2_ f3_; have f4_ := f1_.symm; have f5_ := f3_.symm; clear f1_ f2_ f3_; subst f4_; subst f5_))
      refine hK.out _ _ trivial (fun hHeld => ?_)
      clear hK K
      refine norm_ (a' := ?_) ?_ ?_
      rotate_left
      · show Act.put _ (some 24) _ = _
        simp only [Act.put, List.setIfInBounds_toArray, List.set_cons_zero, List.set_cons_succ, i64_w, i32_w]
        rfl
      refine one_ (i := 4) (N := some 25) bz1b_5 rfl rfl (one_of HT_.out (by kernel_rfl)) (by decide) (fun K hK => ?_)
      refine goes_ Try.func20 (by kernel_rfl) rfl #[.slice Ao143 t138.length co143, .slice Ao144 y169.length co144] (by rfl) rfl rfl xa ?_
      with_reducible refine (spoorref06_Same.calls k _ _ t138 _ _ y169 true _ ?side1 ?side2 ?side3 ?side4 A17.out).mono ?_
      (case side1 => repeat (first | exact (Kd.R_reads' HO140.out).2.2 | (with_reducible refine Kd.C_alloc ?_ _) | (with_reducible refine Kd.C_drewN ?_ _) | (with_reducible refine Kd.C_drew ?_)))
      (case side2 => exact (Kd.R_reads' HO140.out).2.1)
      (case side3 => repeat (first | exact (Kd.R_reads' HO171.out).2.2 | (with_reducible refine Kd.C_alloc ?_ _) | (with_reducible refine Kd.C_drewN ?_ _) | (with_reducible refine Kd.C_drew ?_)))
      (case side4 => exact (Kd.R_reads' HO171.out).2.1)
      rintro e w' ⟨rfl, ⟨nd, rfl⟩⟩
      refine ⟨_, rfl, ?_⟩
      refine hK.out _ _ trivial (fun hHeld => ?_)
      clear hK K
      refine norm_ (a' := ?_) ?_ ?_
      rotate_left
      · show Act.put _ (some 25) _ = _
        simp only [Act.put, List.setIfInBounds_toArray, List.set_cons_zero, List.set_cons_succ, i64_w, i32_w]
        rfl
      refine pz_ (i := 5) (N := some 26) bz1b_6 (any_of HT_.out (by kernel_rfl)) ?_
      refine pz_ (i := 6) (N := some 27) bz1b_7 (any_of HT_.out (by kernel_rfl)) ?_
      refine one_ (i := 7) (N := some 28) bz1b_8 rfl rfl (one_of HT_.out (by kernel_rfl)) (by decide) (fun K hK => ?_)
      refine goes_ Try.func18 (by kernel_rfl) rfl #[.int .i64 1, .int .i64 3] (by rfl) rfl rfl xa ?_
      with_reducible refine (spoorlaw06_of.calls 1 3 t173 t174 _ A19.out).mono ?_
      rintro e w145 ⟨rfl, hb⟩
      refine ⟨_, rfl, ?_⟩
      have n0_ := Aside0.mk (Kd.R_below (xr HO137) hb)
      have n1_ := Aside0.mk (Kd.R_below (xr HO140) hb)
      have n2_ := Aside0.mk (Kd.R_below (xr HO145) hb)
      have n3_ := Aside0.mk (Kd.R_below (xr HO154) hb)
      have n4_ := Aside0.mk (Kd.R_below (xr HO157) hb)
      have n5_ := Aside0.mk (Kd.R_below (xr HO171) hb)
      have n6_ := Aside0.mk (blk_below (g := gb164) (o := .cells #[.int .i64 t162, .int .i64 t163] 23 (0, 0)) (xb BK164) hb)
      have n7_ := Aside0.mk (below_step xq1 hb)
      clear HO137
      clear HO140
      clear HO145
      clear HO154
      clear HO157
      clear HO171
      clear BK164
      clear HB
      have HO137 := n0_
      have HO140 := n1_
      have HO145 := n2_
      have HO154 := n3_
      have HO157 := n4_
      have HO171 := n5_
      have BK164 := n6_
      have HB := n7_
      clear n0_ n1_ n2_ n3_ n4_ n5_ n6_ n7_
      (try clear hb)
      (try clear hb2)
      (try clear hk)
      (try clear hi)
      refine hK.out _ _ trivial (fun hHeld => ?_)
      clear hK K
      refine norm_ (a' := ?_) ?_ ?_
      rotate_left
      · show Act.put _ (some 28) _ = _
        simp only [Act.put, List.setIfInBounds_toArray, List.set_cons_zero, List.set_cons_succ, i64_w, i32_w]
        rfl
      refine one_ (i := 8) (N := some 29) bz1b_9 rfl rfl (one_of HT_.out (by kernel_rfl)) (by decide) (fun K hK => ?_)
      refine goes_ Try.func18 (by kernel_rfl) rfl #[.int .i64 4, .int .i64 6] (by rfl) rfl rfl xa ?_
      with_reducible refine (spoorlaw06_of.calls 4 6 t175 t176 _ A20.out).mono ?_
      rintro e w146 ⟨rfl, hb⟩
      refine ⟨_, rfl, ?_⟩
      have n0_ := Aside0.mk (Kd.R_below (xr HO137) hb)
      have n1_ := Aside0.mk (Kd.R_below (xr HO140) hb)
      have n2_ := Aside0.mk (Kd.R_below (xr HO145) hb)
      have n3_ := Aside0.mk (Kd.R_below (xr HO154) hb)
      have n4_ := Aside0.mk (Kd.R_below (xr HO157) hb)
      have n5_ := Aside0.mk (Kd.R_below (xr HO171) hb)
      have n6_ := Aside0.mk (blk_below (g := gb164) (o := .cells #[.int .i64 t162, .int .i64 t163] 23 (0, 0)) (xb BK164) hb)
      have n7_ := Aside0.mk (below_step xq1 hb)
      clear HO137
      clear HO140
      clear HO145
      clear HO154
      clear HO157
      clear HO171
      clear BK164
      clear HB
      have HO137 := n0_
      have HO140 := n1_
      have HO145 := n2_
      have HO154 := n3_
      have HO157 := n4_
      have HO171 := n5_
      have BK164 := n6_
      have HB := n7_
      clear n0_ n1_ n2_ n3_ n4_ n5_ n6_ n7_
      (try clear hb)
      (try clear hb2)
      (try clear hk)
      (try clear hi)
      refine hK.out _ _ trivial (fun hHeld => ?_)
      clear hK K
      refine norm_ (a' := ?_) ?_ ?_
      rotate_left
      · show Act.put _ (some 29) _ = _
        simp only [Act.put, List.setIfInBounds_toArray, List.set_cons_zero, List.set_cons_succ, i64_w, i32_w]
        rfl
      refine one_ (i := 9) (N := some 30) bz1b_10 rfl rfl (one_of HT_.out (by kernel_rfl)) (by decide) (fun K hK => ?_)
      refine goes_ Try.func18 (by kernel_rfl) rfl #[.int .i64 9, .int .i64 12] (by rfl) rfl rfl xa ?_
      with_reducible refine (spoorlaw06_of.calls 9 12 t177 t178 _ A21.out).mono ?_
      rintro e w147 ⟨rfl, hb⟩
      refine ⟨_, rfl, ?_⟩
      have n0_ := Aside0.mk (Kd.R_below (xr HO137) hb)
      have n1_ := Aside0.mk (Kd.R_below (xr HO140) hb)
      have n2_ := Aside0.mk (Kd.R_below (xr HO145) hb)
      have n3_ := Aside0.mk (Kd.R_below (xr HO154) hb)
      have n4_ := Aside0.mk (Kd.R_below (xr HO157) hb)
      have n5_ := Aside0.mk (Kd.R_below (xr HO171) hb)
      have n6_ := Aside0.mk (blk_below (g := gb164) (o := .cells #[.int .i64 t162, .int .i64 t163] 23 (0, 0)) (xb BK164) hb)
      have n7_ := Aside0.mk (below_step xq1 hb)
      clear HO137
      clear HO140
      clear HO145
      clear HO154
      clear HO157
      clear HO171
      clear BK164
      clear HB
      have HO137 := n0_
      have HO140 := n1_
      have HO145 := n2_
      have HO154 := n3_
      have HO157 := n4_
      have HO171 := n5_
      have BK164 := n6_
      have HB := n7_
      clear n0_ n1_ n2_ n3_ n4_ n5_ n6_ n7_
      (try clear hb)
      (try clear hb2)
      (try clear hk)
      (try clear hi)
      refine hK.out _ _ trivial (fun hHeld => ?_)
      clear hK K
      refine norm_ (a' := ?_) ?_ ?_
      rotate_left
      · show Act.put _ (some 30) _ = _
        simp only [Act.put, List.setIfInBounds_toArray, List.set_cons_zero, List.set_cons_succ, i64_w, i32_w]
        rfl
      refine one_ (i := 10) (N := some 31) bz1b_11 rfl rfl (one_of HT_.out (by kernel_rfl)) (by decide) (fun K hK => ?_)
      refine Kd.R_lit_step k23 _ 23 ?hg (N := 31) ?hd (xs := ([(⟨t173, t174⟩ : S23), (⟨t175, t176⟩ : S23), (⟨t177, t178⟩ : S23)] : List (S23))) (inner := [.int .i64 t173, .int .i64 t174, .int .i64 t175, .int .i64 t176, .int .i64 t177, .int .i64 t178]) (ok := fun _ => True) (okp := fun _ => True) ?hr ?hp (fun _ hk => hk) trivial (Below.refl _ _) (Nat.le_refl _) (by simp) ?_; (case hd => rfl); (case hg => rfl); (case hr => first | (go_simp; done) | (go_simp; rfl)); (case hp => exact (Reps.c2 (show Kd.M k23 _ _ _ (⟨t173, t174⟩ : S23) [.int .i64 t173, .int .i64 t174] from (k23_mkM _ _ _ (⟨t173, t174⟩ : S23) )) (Reps.c2 (show Kd.M k23 _ _ _ (⟨t175, t176⟩ : S23) [.int .i64 t175, .int .i64 t176] from (k23_mkM _ _ _ (⟨t175, t176⟩ : S23) )) (Reps.c2 (show Kd.M k23 _ _ _ (⟨t177, t178⟩ : S23) [.int .i64 t177, .int .i64 t178] from (k23_mkM _ _ _ (⟨t177, t178⟩ : S23) )) (Reps.none _ _)))))
      intro v180 w148 ho149 hb hg_ hnew_
      clear hg_ hnew_
      (first | rw [← Ny179.out] at ho149 | (simp only [Int.reduceToNat] at ho149; rw [← Ny179.out] at ho149))
      have n0_ := Aside0.mk (Kd.R_elder' (xr HO137) (Kd.R_base ho149) hb)
      have n1_ := Aside0.mk (Kd.R_elder' (xr HO140) (Kd.R_base ho149) hb)
      have n2_ := Aside0.mk (Kd.R_elder' (xr HO145) (Kd.R_base ho149) hb)
      have n3_ := Aside0.mk (Kd.R_elder' (xr HO154) (Kd.R_base ho149) hb)
      have n4_ := Aside0.mk (Kd.R_elder' (xr HO157) (Kd.R_base ho149) hb)
      have n5_ := Aside0.mk (Kd.R_elder' (xr HO171) (Kd.R_base ho149) hb)
      have n6_ := Aside0.mk (Kd.R_lower (Kd.R_newB (Kd.R_new' (Kd.R_new' (Kd.R_new' (Kd.R_new' (Kd.R_new' (Kd.R_new' ho149 (Kd.R_lt (xr HO137))) (Kd.R_lt (xr HO140))) (Kd.R_lt (xr HO145))) (Kd.R_lt (xr HO154))) (Kd.R_lt (xr HO157))) (Kd.R_lt (xr HO171))) (g := gb164) (o := .cells #[.int .i64 t162, .int .i64 t163] 23 (0, 0)) (xb BK164)) (below_size xq1))
      have n7_ := Aside0.mk (blk_below (g := gb164) (o := .cells #[.int .i64 t162, .int .i64 t163] 23 (0, 0)) (xb BK164) hb)
      have n8_ := Aside0.mk (below_step xq1 hb)
      clear HO137
      clear HO140
      clear HO145
      clear HO154
      clear HO157
      clear HO171
      clear BK164
      clear HB
      have HO137 := n0_
      have HO140 := n1_
      have HO145 := n2_
      have HO154 := n3_
      have HO157 := n4_
      have HO171 := n5_
      have HO181 := n6_
      have BK164 := n7_
      have HB := n8_
      clear n0_ n1_ n2_ n3_ n4_ n5_ n6_ n7_ n8_
      clear hb ho149
      obtain ⟨Ao150, co150, eo150⟩ := Kd.R_slice HO157.out
      (first | subst eo150 | (injection eo150 with f1_ f2_ f3_; have f4_ := f1_.symm; have f5_ := f3_.symm; clear f1_ f2_ f3_; subst f4_; subst f5_))
      obtain ⟨Ao151, co151, eo151⟩ := Kd.R_slice HO181.out
      (first | subst eo151 | (injection eo151 with f1_ f2_ f3_; have f4_ := f1_.symm; have f5_ := f3_.symm; clear f1_ f2_ f3_; subst f4_; subst f5_))
      refine hK.out _ _ trivial (fun hHeld => ?_)
      clear hK K
      refine norm_ (a' := ?_) ?_ ?_
      rotate_left
      · show Act.put _ (some 31) _ = _
        simp only [Act.put, List.setIfInBounds_toArray, List.set_cons_zero, List.set_cons_succ, i64_w, i32_w]
        rfl
      refine one_ (i := 11) (N := some 32) bz1b_12 rfl rfl (one_of HT_.out (by kernel_rfl)) (by decide) (fun K hK => ?_)
      refine goes_ Try.func20 (by kernel_rfl) rfl #[.slice Ao150 t155.length co150, .slice Ao151 y179.length co151] (by rfl) rfl rfl xa ?_
      with_reducible refine (spoorref06_Same.calls k _ _ t155 _ _ y179 false _ ?side1 ?side2 ?side3 ?side4 A22.out).mono ?_
      (case side1 => repeat (first | exact (Kd.R_reads' HO157.out).2.2 | (with_reducible refine Kd.C_alloc ?_ _) | (with_reducible refine Kd.C_drewN ?_ _) | (with_reducible refine Kd.C_drew ?_)))
      (case side2 => exact (Kd.R_reads' HO157.out).2.1)
      (case side3 => repeat (first | exact (Kd.R_reads' HO181.out).2.2 | (with_reducible refine Kd.C_alloc ?_ _) | (with_reducible refine Kd.C_drewN ?_ _) | (with_reducible refine Kd.C_drew ?_)))
      (case side4 => exact (Kd.R_reads' HO181.out).2.1)
      rintro e w' ⟨rfl, ⟨nd, rfl⟩⟩
      refine ⟨_, rfl, ?_⟩
      refine hK.out _ _ trivial (fun hHeld => ?_)
      clear hK K
      refine norm_ (a' := ?_) ?_ ?_
      rotate_left
      · show Act.put _ (some 32) _ = _
        simp only [Act.put, List.setIfInBounds_toArray, List.set_cons_zero, List.set_cons_succ, i64_w, i32_w]
        rfl
      refine pz_ (i := 12) (N := some 33) bz1b_13 (any_of HT_.out (by kernel_rfl)) ?_
      refine pz_ (i := 13) (N := some 34) bz1b_14 (any_of HT_.out (by kernel_rfl)) ?_
      refine pu_ (i := 14) (N := some 35) bz1b_15 (any_of HT_.out (by kernel_rfl)) ?_
      refine pu_ (i := 15) (N := some 36) bz1b_16 (any_of HT_.out (by kernel_rfl)) ?_
      refine pu_ (i := 16) (N := some 37) bz1b_17 (any_of HT_.out (by kernel_rfl)) ?_
      refine pz_ (i := 17) (N := some 38) bz1b_18 (any_of HT_.out (by kernel_rfl)) ?_
      refine pz_ (i := 18) (N := some 39) bz1b_19 (any_of HT_.out (by kernel_rfl)) ?_
      refine pu_ (i := 19) (N := some 40) bz1b_20 (any_of HT_.out (by kernel_rfl)) ?_
      refine pu_ (i := 20) (N := some 41) bz1b_21 (any_of HT_.out (by kernel_rfl)) ?_
      refine pu_ (i := 21) (N := some 42) bz1b_22 (any_of HT_.out (by kernel_rfl)) ?_
      refine pz_ (i := 22) (N := some 43) bz1b_23 (any_of HT_.out (by kernel_rfl)) ?_
      refine pz_ (i := 23) (N := some 0) bz1b_24 (any_of HT_.out (by kernel_rfl)) ?_
      refine done_ (done_of HT_.out (by kernel_rfl)) ?_
      try go_wp2
      go_ret
      exact ⟨by first | rfl | (simp [errW_none, errW_some] <;> rfl) | (simp [*, errW_none, errW_some] <;> rfl), by repeat (first | (with_reducible first | exact HB.out | apply below_alloc | apply pw_below_drewN | apply below_drew1 | refine below_set ?_ GE164.out) | exact HB.out)⟩
  · replace c18 := Bool.eq_false_iff.mpr c18
    subst c18
    have H1 : (some false) = some r := by rw [if_neg (show ¬ (false = true) by decide)] at H; exact H
    clear H
    have H := H1
    clear H1
    obtain rfl := Option.some.inj H
    go_enter Try.func10, Try.ntmps10
    try go_wp2_with (first | ((with_reducible refine gate_callee (f := 18) rfl ?_); refine goesL_ (some 4) rfl rfl Try.func18 (by kernel_rfl) rfl #[.int .i64 5, .int .i64 7] rfl xa ?_; (with_reducible refine (spoorlaw06_of.calls 5 7 t125 t126 _ A1.out).mono ?_); rintro e w152 ⟨rfl, hb⟩; refine ⟨_, rfl, ?_⟩; have n0_ := Aside0.mk (below_step xq0 hb); clear HB; have HB := n0_; clear n0_; (try clear hb); (try clear hb2); (try clear hk); (try clear hi)) | ((with_reducible refine gate_callee (f := 18) rfl ?_); refine goesL_ (some 5) rfl rfl Try.func18 (by kernel_rfl) rfl #[.int .i64 1, .int .i64 3] rfl xa ?_; (with_reducible refine (spoorlaw06_of.calls 1 3 t127 t128 _ A2.out).mono ?_); rintro e w153 ⟨rfl, hb⟩; refine ⟨_, rfl, ?_⟩; have n0_ := Aside0.mk (below_step xq0 hb); clear HB; have HB := n0_; clear n0_; (try clear hb); (try clear hb2); (try clear hk); (try clear hi)) | ((with_reducible refine gate_callee (f := 18) rfl ?_); refine goesL_ (some 6) rfl rfl Try.func18 (by kernel_rfl) rfl #[.int .i64 7, .int .i64 9] rfl xa ?_; (with_reducible refine (spoorlaw06_of.calls 7 9 t129 t130 _ A3.out).mono ?_); rintro e w154 ⟨rfl, hb⟩; refine ⟨_, rfl, ?_⟩; have n0_ := Aside0.mk (below_step xq0 hb); clear HB; have HB := n0_; clear n0_; (try clear hb); (try clear hb2); (try clear hk); (try clear hi)) | ((with_reducible refine gate_callee (f := 18) rfl ?_); refine goesL_ (some 7) rfl rfl Try.func18 (by kernel_rfl) rfl #[.int .i64 4, .int .i64 4] rfl xa ?_; (with_reducible refine (spoorlaw06_of.calls 4 4 t131 t132 _ A4.out).mono ?_); rintro e w155 ⟨rfl, hb⟩; refine ⟨_, rfl, ?_⟩; have n0_ := Aside0.mk (below_step xq0 hb); clear HB; have HB := n0_; clear n0_; (try clear hb); (try clear hb2); (try clear hk); (try clear hi)) | ((with_reducible refine gate_callee (f := 18) rfl ?_); refine goesL_ (some 8) rfl rfl Try.func18 (by kernel_rfl) rfl #[.int .i64 2, .int .i64 2] rfl xa ?_; (with_reducible refine (spoorlaw06_of.calls 2 2 t133 t134 _ A5.out).mono ?_); rintro e w156 ⟨rfl, hb⟩; refine ⟨_, rfl, ?_⟩; have n0_ := Aside0.mk (below_step xq0 hb); clear HB; have HB := n0_; clear n0_; (try clear hb); (try clear hb2); (try clear hk); (try clear hi)) | ((with_reducible refine gate_dst (N := 9) rfl ?_); (try (refine gate_guard (by rfl) ?_; dsimp only)); refine Kd.R_lit k23 _ 23 ?hg (N := 9) ?hd (xs := ([(⟨t125, t126⟩ : S23), (⟨t127, t128⟩ : S23), (⟨t129, t130⟩ : S23), (⟨t131, t132⟩ : S23), (⟨t133, t134⟩ : S23)] : List (S23))) (inner := [.int .i64 t125, .int .i64 t126, .int .i64 t127, .int .i64 t128, .int .i64 t129, .int .i64 t130, .int .i64 t131, .int .i64 t132, .int .i64 t133, .int .i64 t134]) (ok := fun _ => True) (okp := fun _ => True) ?hr ?hp (fun _ hk => hk) trivial (Below.refl _ _) (Nat.le_refl _) (by simp) ?_; (case hd => rfl); (case hg => rfl); (case hr => first | (go_simp; done) | (go_simp; rfl)); (case hp => exact (Reps.c2 (show Kd.M k23 _ _ _ (⟨t125, t126⟩ : S23) [.int .i64 t125, .int .i64 t126] from (k23_mkM _ _ _ (⟨t125, t126⟩ : S23) )) (Reps.c2 (show Kd.M k23 _ _ _ (⟨t127, t128⟩ : S23) [.int .i64 t127, .int .i64 t128] from (k23_mkM _ _ _ (⟨t127, t128⟩ : S23) )) (Reps.c2 (show Kd.M k23 _ _ _ (⟨t129, t130⟩ : S23) [.int .i64 t129, .int .i64 t130] from (k23_mkM _ _ _ (⟨t129, t130⟩ : S23) )) (Reps.c2 (show Kd.M k23 _ _ _ (⟨t131, t132⟩ : S23) [.int .i64 t131, .int .i64 t132] from (k23_mkM _ _ _ (⟨t131, t132⟩ : S23) )) (Reps.c2 (show Kd.M k23 _ _ _ (⟨t133, t134⟩ : S23) [.int .i64 t133, .int .i64 t134] from (k23_mkM _ _ _ (⟨t133, t134⟩ : S23) )) (Reps.none _ _))))))); intro v136 w157 ho158 hb hg_ hnew_; clear hg_ hnew_; (first | rw [← Ny135.out] at ho158 | (simp only [Int.reduceToNat] at ho158; rw [← Ny135.out] at ho158)); have n0_ := Aside0.mk (Kd.R_lower ho158 (below_size xq0)); have n1_ := Aside0.mk (below_step xq0 hb); clear HB; have HO137 := n0_; have HB := n1_; clear n0_ n1_; clear hb ho158; obtain ⟨Ao159, co159, eo159⟩ := Kd.R_slice HO137.out; subst eo159) | ((with_reducible refine gate_callee (f := 15) rfl ?_); refine goesL_ (some 10) rfl rfl Try.func15 (by kernel_rfl) rfl #[.slice Ao159 y135.length co159] rfl xa ?_; (with_reducible refine (ival_Normal.calls _ _ y135 t138 _ ?side1 ?side2 A6.out).mono ?_); (case side1 => repeat (first | exact (Kd.R_reads' HO137.out).2.2 | (with_reducible refine Kd.C_alloc ?_ _) | (with_reducible refine Kd.C_drewN ?_ _) | (with_reducible refine Kd.C_drew ?_))); (case side2 => exact (Kd.R_reads' HO137.out).2.1); rintro e w160 ⟨v139, rfl, ho0, hb⟩; refine ⟨_, rfl, ?_⟩; have n0_ := Aside0.mk (Kd.R_elder' (xr HO137) (Kd.R_base ho0) hb); have n1_ := Aside0.mk (Kd.R_lower (Kd.R_new' ho0 (Kd.R_lt (xr HO137))) (below_size xq0)); have n2_ := Aside0.mk (below_step xq0 hb); clear HO137; clear HB; have HO137 := n0_; have HO140 := n1_; have HB := n2_; clear n0_ n1_ n2_; (try clear hb); (try clear hb2); (try clear hk); (try clear hi); (try clear ho0)) | ((with_reducible refine gate_callee (f := 18) rfl ?_); refine goesL_ (some 11) rfl rfl Try.func18 (by kernel_rfl) rfl #[.int .i64 1, .int .i64 12] rfl xa ?_; (with_reducible refine (spoorlaw06_of.calls 1 12 t141 t142 _ A7.out).mono ?_); rintro e w161 ⟨rfl, hb⟩; refine ⟨_, rfl, ?_⟩; have n0_ := Aside0.mk (Kd.R_below (xr HO137) hb); have n1_ := Aside0.mk (Kd.R_below (xr HO140) hb); have n2_ := Aside0.mk (below_step xq0 hb); clear HO137; clear HO140; clear HB; have HO137 := n0_; have HO140 := n1_; have HB := n2_; clear n0_ n1_ n2_; (try clear hb); (try clear hb2); (try clear hk); (try clear hi)) | ((with_reducible refine gate_dst (N := 12) rfl ?_); (try (refine gate_guard (by rfl) ?_; dsimp only)); refine Kd.R_lit k23 _ 23 ?hg (N := 12) ?hd (xs := ([(⟨t141, t142⟩ : S23)] : List (S23))) (inner := [.int .i64 t141, .int .i64 t142]) (ok := fun _ => True) (okp := fun _ => True) ?hr ?hp (fun _ hk => hk) trivial (Below.refl _ _) (Nat.le_refl _) (by simp) ?_; (case hd => rfl); (case hg => rfl); (case hr => first | (go_simp; done) | (go_simp; rfl)); (case hp => exact (Reps.c2 (show Kd.M k23 _ _ _ (⟨t141, t142⟩ : S23) [.int .i64 t141, .int .i64 t142] from (k23_mkM _ _ _ (⟨t141, t142⟩ : S23) )) (Reps.none _ _))); intro v144 w162 ho163 hb hg_ hnew_; clear hg_ hnew_; (first | rw [← Ny143.out] at ho163 | (simp only [Int.reduceToNat] at ho163; rw [← Ny143.out] at ho163)); have n0_ := Aside0.mk (Kd.R_elder' (xr HO137) (Kd.R_base ho163) hb); have n1_ := Aside0.mk (Kd.R_elder' (xr HO140) (Kd.R_base ho163) hb); have n2_ := Aside0.mk (Kd.R_lower (Kd.R_new' (Kd.R_new' ho163 (Kd.R_lt (xr HO137))) (Kd.R_lt (xr HO140))) (below_size xq0)); have n3_ := Aside0.mk (below_step xq0 hb); clear HO137; clear HO140; clear HB; have HO137 := n0_; have HO140 := n1_; have HO145 := n2_; have HB := n3_; clear n0_ n1_ n2_ n3_; clear hb ho163) | ((with_reducible refine gate_callee (f := 18) rfl ?_); refine goesL_ (some 13) rfl rfl Try.func18 (by kernel_rfl) rfl #[.int .i64 3, .int .i64 4] rfl xa ?_; (with_reducible refine (spoorlaw06_of.calls 3 4 t146 t147 _ A8.out).mono ?_); rintro e w164 ⟨rfl, hb⟩; refine ⟨_, rfl, ?_⟩; have n0_ := Aside0.mk (Kd.R_below (xr HO137) hb); have n1_ := Aside0.mk (Kd.R_below (xr HO140) hb); have n2_ := Aside0.mk (Kd.R_below (xr HO145) hb); have n3_ := Aside0.mk (below_step xq0 hb); clear HO137; clear HO140; clear HO145; clear HB; have HO137 := n0_; have HO140 := n1_; have HO145 := n2_; have HB := n3_; clear n0_ n1_ n2_ n3_; (try clear hb); (try clear hb2); (try clear hk); (try clear hi)) | ((with_reducible refine gate_callee (f := 18) rfl ?_); refine goesL_ (some 14) rfl rfl Try.func18 (by kernel_rfl) rfl #[.int .i64 6, .int .i64 8] rfl xa ?_; (with_reducible refine (spoorlaw06_of.calls 6 8 t148 t149 _ A9.out).mono ?_); rintro e w165 ⟨rfl, hb⟩; refine ⟨_, rfl, ?_⟩; have n0_ := Aside0.mk (Kd.R_below (xr HO137) hb); have n1_ := Aside0.mk (Kd.R_below (xr HO140) hb); have n2_ := Aside0.mk (Kd.R_below (xr HO145) hb); have n3_ := Aside0.mk (below_step xq0 hb); clear HO137; clear HO140; clear HO145; clear HB; have HO137 := n0_; have HO140 := n1_; have HO145 := n2_; have HB := n3_; clear n0_ n1_ n2_ n3_; (try clear hb); (try clear hb2); (try clear hk); (try clear hi)) | ((with_reducible refine gate_callee (f := 18) rfl ?_); refine goesL_ (some 15) rfl rfl Try.func18 (by kernel_rfl) rfl #[.int .i64 8, .int .i64 9] rfl xa ?_; (with_reducible refine (spoorlaw06_of.calls 8 9 t150 t151 _ A10.out).mono ?_); rintro e w166 ⟨rfl, hb⟩; refine ⟨_, rfl, ?_⟩; have n0_ := Aside0.mk (Kd.R_below (xr HO137) hb); have n1_ := Aside0.mk (Kd.R_below (xr HO140) hb); have n2_ := Aside0.mk (Kd.R_below (xr HO145) hb); have n3_ := Aside0.mk (below_step xq0 hb); clear HO137; clear HO140; clear HO145; clear HB; have HO137 := n0_; have HO140 := n1_; have HO145 := n2_; have HB := n3_; clear n0_ n1_ n2_ n3_; (try clear hb); (try clear hb2); (try clear hk); (try clear hi)) | ((with_reducible refine gate_dst (N := 16) rfl ?_); (try (refine gate_guard (by rfl) ?_; dsimp only)); refine Kd.R_lit k23 _ 23 ?hg (N := 16) ?hd (xs := ([(⟨t146, t147⟩ : S23), (⟨t148, t149⟩ : S23), (⟨t150, t151⟩ : S23)] : List (S23))) (inner := [.int .i64 t146, .int .i64 t147, .int .i64 t148, .int .i64 t149, .int .i64 t150, .int .i64 t151]) (ok := fun _ => True) (okp := fun _ => True) ?hr ?hp (fun _ hk => hk) trivial (Below.refl _ _) (Nat.le_refl _) (by simp) ?_; (case hd => rfl); (case hg => rfl); (case hr => first | (go_simp; done) | (go_simp; rfl)); (case hp => exact (Reps.c2 (show Kd.M k23 _ _ _ (⟨t146, t147⟩ : S23) [.int .i64 t146, .int .i64 t147] from (k23_mkM _ _ _ (⟨t146, t147⟩ : S23) )) (Reps.c2 (show Kd.M k23 _ _ _ (⟨t148, t149⟩ : S23) [.int .i64 t148, .int .i64 t149] from (k23_mkM _ _ _ (⟨t148, t149⟩ : S23) )) (Reps.c2 (show Kd.M k23 _ _ _ (⟨t150, t151⟩ : S23) [.int .i64 t150, .int .i64 t151] from (k23_mkM _ _ _ (⟨t150, t151⟩ : S23) )) (Reps.none _ _))))); intro v153 w167 ho168 hb hg_ hnew_; clear hg_ hnew_; (first | rw [← Ny152.out] at ho168 | (simp only [Int.reduceToNat] at ho168; rw [← Ny152.out] at ho168)); have n0_ := Aside0.mk (Kd.R_elder' (xr HO137) (Kd.R_base ho168) hb); have n1_ := Aside0.mk (Kd.R_elder' (xr HO140) (Kd.R_base ho168) hb); have n2_ := Aside0.mk (Kd.R_elder' (xr HO145) (Kd.R_base ho168) hb); have n3_ := Aside0.mk (Kd.R_lower (Kd.R_new' (Kd.R_new' (Kd.R_new' ho168 (Kd.R_lt (xr HO137))) (Kd.R_lt (xr HO140))) (Kd.R_lt (xr HO145))) (below_size xq0)); have n4_ := Aside0.mk (below_step xq0 hb); clear HO137; clear HO140; clear HO145; clear HB; have HO137 := n0_; have HO140 := n1_; have HO145 := n2_; have HO154 := n3_; have HB := n4_; clear n0_ n1_ n2_ n3_ n4_; clear hb ho168; obtain ⟨Ao169, co169, eo169⟩ := Kd.R_slice HO145.out; subst eo169; obtain ⟨Ao170, co170, eo170⟩ := Kd.R_slice HO154.out; subst eo170) | ((with_reducible refine gate_callee (f := 17) rfl ?_); refine goesL_ (some 17) rfl rfl Try.func17 (by kernel_rfl) rfl #[.slice Ao169 y143.length co169, .slice Ao170 y152.length co170] rfl xa ?_; (with_reducible refine (ival_Minus.calls _ _ y143 _ _ y152 t155 _ ?side1 ?side2 ?side3 ?side4 A11.out).mono ?_); (case side1 => repeat (first | exact (Kd.R_reads' HO145.out).2.2 | (with_reducible refine Kd.C_alloc ?_ _) | (with_reducible refine Kd.C_drewN ?_ _) | (with_reducible refine Kd.C_drew ?_))); (case side2 => exact (Kd.R_reads' HO145.out).2.1); (case side3 => repeat (first | exact (Kd.R_reads' HO154.out).2.2 | (with_reducible refine Kd.C_alloc ?_ _) | (with_reducible refine Kd.C_drewN ?_ _) | (with_reducible refine Kd.C_drew ?_))); (case side4 => exact (Kd.R_reads' HO154.out).2.1); rintro e w171 ⟨v156, rfl, ho0, hb⟩; refine ⟨_, rfl, ?_⟩; have n0_ := Aside0.mk (Kd.R_elder' (xr HO137) (Kd.R_base ho0) hb); have n1_ := Aside0.mk (Kd.R_elder' (xr HO140) (Kd.R_base ho0) hb); have n2_ := Aside0.mk (Kd.R_elder' (xr HO145) (Kd.R_base ho0) hb); have n3_ := Aside0.mk (Kd.R_elder' (xr HO154) (Kd.R_base ho0) hb); have n4_ := Aside0.mk (Kd.R_lower (Kd.R_new' (Kd.R_new' (Kd.R_new' (Kd.R_new' ho0 (Kd.R_lt (xr HO137))) (Kd.R_lt (xr HO140))) (Kd.R_lt (xr HO145))) (Kd.R_lt (xr HO154))) (below_size xq0)); have n5_ := Aside0.mk (below_step xq0 hb); clear HO137; clear HO140; clear HO145; clear HO154; clear HB; have HO137 := n0_; have HO140 := n1_; have HO145 := n2_; have HO154 := n3_; have HO157 := n4_; have HB := n5_; clear n0_ n1_ n2_ n3_ n4_ n5_; (try clear hb); (try clear hb2); (try clear hk); (try clear hi); (try clear ho0)) | ((with_reducible refine gate_callee (f := 18) rfl ?_); refine goesL_ (some 18) rfl rfl Try.func18 (by kernel_rfl) rfl #[.int .i64 9, .int .i64 12] rfl xa ?_; (with_reducible refine (spoorlaw06_of.calls 9 12 t158 t159 _ A12.out).mono ?_); rintro e w172 ⟨rfl, hb⟩; refine ⟨_, rfl, ?_⟩; have n0_ := Aside0.mk (Kd.R_below (xr HO137) hb); have n1_ := Aside0.mk (Kd.R_below (xr HO140) hb); have n2_ := Aside0.mk (Kd.R_below (xr HO145) hb); have n3_ := Aside0.mk (Kd.R_below (xr HO154) hb); have n4_ := Aside0.mk (Kd.R_below (xr HO157) hb); have n5_ := Aside0.mk (below_step xq0 hb); clear HO137; clear HO140; clear HO145; clear HO154; clear HO157; clear HB; have HO137 := n0_; have HO140 := n1_; have HO145 := n2_; have HO154 := n3_; have HO157 := n4_; have HB := n5_; clear n0_ n1_ n2_ n3_ n4_ n5_; (try clear hb); (try clear hb2); (try clear hk); (try clear hi)) | ((with_reducible refine gate_callee (f := 18) rfl ?_); refine goesL_ (some 19) rfl rfl Try.func18 (by kernel_rfl) rfl #[.int .i64 5, .int .i64 9] rfl xa ?_; (with_reducible refine (spoorlaw06_of.calls 5 9 t160 t161 _ A13.out).mono ?_); rintro e w173 ⟨rfl, hb⟩; refine ⟨_, rfl, ?_⟩; have n0_ := Aside0.mk (Kd.R_below (xr HO137) hb); have n1_ := Aside0.mk (Kd.R_below (xr HO140) hb); have n2_ := Aside0.mk (Kd.R_below (xr HO145) hb); have n3_ := Aside0.mk (Kd.R_below (xr HO154) hb); have n4_ := Aside0.mk (Kd.R_below (xr HO157) hb); have n5_ := Aside0.mk (below_step xq0 hb); clear HO137; clear HO140; clear HO145; clear HO154; clear HO157; clear HB; have HO137 := n0_; have HO140 := n1_; have HO145 := n2_; have HO154 := n3_; have HO157 := n4_; have HB := n5_; clear n0_ n1_ n2_ n3_ n4_ n5_; (try clear hb); (try clear hb2); (try clear hk); (try clear hi)) | ((with_reducible refine gate_callee (f := 11) rfl ?_); refine goesL_ (some 20) rfl rfl Try.func11 (by kernel_rfl) rfl #[.agg #[.int .i64 t158, .int .i64 t159], .agg #[.int .i64 t160, .int .i64 t161]] rfl xa ?_; (with_reducible refine (ival_Clip.calls t158 t159 t160 t161 t162 t163 _ A14.out).mono ?_); rintro e w174 ⟨rfl, hb⟩; refine ⟨_, rfl, ?_⟩; have n0_ := Aside0.mk (Kd.R_below (xr HO137) hb); have n1_ := Aside0.mk (Kd.R_below (xr HO140) hb); have n2_ := Aside0.mk (Kd.R_below (xr HO145) hb); have n3_ := Aside0.mk (Kd.R_below (xr HO154) hb); have n4_ := Aside0.mk (Kd.R_below (xr HO157) hb); have n5_ := Aside0.mk (below_step xq0 hb); clear HO137; clear HO140; clear HO145; clear HO154; clear HO157; clear HB; have HO137 := n0_; have HO140 := n1_; have HO145 := n2_; have HO154 := n3_; have HO157 := n4_; have HB := n5_; clear n0_ n1_ n2_ n3_ n4_ n5_; (try clear hb); (try clear hb2); (try clear hk); (try clear hi)) | ((with_reducible refine gate_dst (N := 3) rfl ?_); (try (refine gate_guard (by rfl) ?_; dsimp only)); refine box_event ?hg (N := 3) ?hd (cs := #[.int .i64 0, .int .i64 0]) (t := 23) ?hr ?_; (case hd => rfl); (case hg => rfl); (case hr => first | (go_simp; done) | (go_simp; rfl)); intro gb164 hg w175 hbox hb; have n0_ := Aside0.mk (Kd.R_below (Kd.R_elderB (xr HO137) gb164 (Nat.le_of_eq hg.symm)) hb); have n1_ := Aside0.mk (Kd.R_below (Kd.R_elderB (xr HO140) gb164 (Nat.le_of_eq hg.symm)) hb); have n2_ := Aside0.mk (Kd.R_below (Kd.R_elderB (xr HO145) gb164 (Nat.le_of_eq hg.symm)) hb); have n3_ := Aside0.mk (Kd.R_below (Kd.R_elderB (xr HO154) gb164 (Nat.le_of_eq hg.symm)) hb); have n4_ := Aside0.mk (Kd.R_below (Kd.R_elderB (xr HO157) gb164 (Nat.le_of_eq hg.symm)) hb); have n5_ := Aside0.mk (below_step xq0 hb); have n6_ := Aside0.mk (hbox); have n7_ := Aside0.mk ((by rw [hg]; exact (below_size xq0) : w.heap.size ≤ gb164)); have n8_ := Aside0.mk ((by rw [hg]; exact (below_size xq0) : w.heap.size ≤ gb164)); clear HO137; clear HO140; clear HO145; clear HO154; clear HO157; clear HB; have HO137 := n0_; have HO140 := n1_; have HO145 := n2_; have HO154 := n3_; have HO157 := n4_; have HB := n5_; have BK164 := n6_; have GW164 := n7_; have GE164 := n8_; clear n0_ n1_ n2_ n3_ n4_ n5_ n6_ n7_ n8_; clear hb hbox hg; have hcz176_0 : w175.cell? ⟨gb164, 0, none⟩ = some (.int .i64 0) := (blk_cell BK164.out 0).trans rfl; have hcz176_1 : w175.cell? ⟨gb164, 1, none⟩ = some (.int .i64 0) := (blk_cell BK164.out 1).trans rfl; have hfz176_0 := blk_frozen BK164.out 0; have hfz176_1 := blk_frozen BK164.out 1))
    have n0_ : Aside0 (Kd.R k23 23 ((w175.setCell ⟨gb164, 0, none⟩ (.int .i64 t162)).setCell ⟨gb164, 1, none⟩ (.int .i64 t163)) w.heap.size (fun k_ => some k_ ≠ (v139 : Value).ownBlock ∧ some k_ ≠ (.slice Ao169 y143.length co169 : Value).ownBlock ∧ some k_ ≠ (.slice Ao170 y152.length co170 : Value).ownBlock ∧ some k_ ≠ (v156 : Value).ownBlock ∧ k_ ≠ gb164) (.slice Ao159 y135.length co159) y135) := ⟨by (with_reducible repeat (first | apply Kd.R_alloc | apply Kd.R_drewN | apply Kd.R_drew)); exact Kd.R_mono (Kd.R_far (p := ⟨gb164, 1, none⟩) (Kd.R_far (p := ⟨gb164, 0, none⟩) (Kd.R_mono HO137.out (fun k_ hk => (⟨hk, hk.2⟩ : _ ∧ k_ ≠ gb164))) (fun _ hk => hk.2) (.int .i64 t162)) (fun _ hk => hk.2) (.int .i64 t163)) (fun _ hk => ⟨hk.1.1.1.1.1.2, ⟨hk.1.1.1.1.2, ⟨hk.1.1.1.2, ⟨hk.1.1.2, hk.1.2⟩⟩⟩⟩)⟩
    have n1_ : Aside0 (Kd.R k23 23 ((w175.setCell ⟨gb164, 0, none⟩ (.int .i64 t162)).setCell ⟨gb164, 1, none⟩ (.int .i64 t163)) w.heap.size (fun k_ => some k_ ≠ (.slice Ao159 y135.length co159 : Value).ownBlock ∧ some k_ ≠ (.slice Ao169 y143.length co169 : Value).ownBlock ∧ some k_ ≠ (.slice Ao170 y152.length co170 : Value).ownBlock ∧ some k_ ≠ (v156 : Value).ownBlock ∧ k_ ≠ gb164) v139 t138) := ⟨by (with_reducible repeat (first | apply Kd.R_alloc | apply Kd.R_drewN | apply Kd.R_drew)); exact Kd.R_mono (Kd.R_far (p := ⟨gb164, 1, none⟩) (Kd.R_far (p := ⟨gb164, 0, none⟩) (Kd.R_mono HO140.out (fun k_ hk => (⟨hk, hk.2⟩ : _ ∧ k_ ≠ gb164))) (fun _ hk => hk.2) (.int .i64 t162)) (fun _ hk => hk.2) (.int .i64 t163)) (fun _ hk => ⟨hk.1.1.1.1.1.2, ⟨hk.1.1.1.1.2, ⟨hk.1.1.1.2, ⟨hk.1.1.2, hk.1.2⟩⟩⟩⟩)⟩
    have n2_ : Aside0 (Kd.R k23 23 ((w175.setCell ⟨gb164, 0, none⟩ (.int .i64 t162)).setCell ⟨gb164, 1, none⟩ (.int .i64 t163)) w.heap.size (fun k_ => some k_ ≠ (.slice Ao159 y135.length co159 : Value).ownBlock ∧ some k_ ≠ (v139 : Value).ownBlock ∧ some k_ ≠ (.slice Ao170 y152.length co170 : Value).ownBlock ∧ some k_ ≠ (v156 : Value).ownBlock ∧ k_ ≠ gb164) (.slice Ao169 y143.length co169) y143) := ⟨by (with_reducible repeat (first | apply Kd.R_alloc | apply Kd.R_drewN | apply Kd.R_drew)); exact Kd.R_mono (Kd.R_far (p := ⟨gb164, 1, none⟩) (Kd.R_far (p := ⟨gb164, 0, none⟩) (Kd.R_mono HO145.out (fun k_ hk => (⟨hk, hk.2⟩ : _ ∧ k_ ≠ gb164))) (fun _ hk => hk.2) (.int .i64 t162)) (fun _ hk => hk.2) (.int .i64 t163)) (fun _ hk => ⟨hk.1.1.1.1.1.2, ⟨hk.1.1.1.1.2, ⟨hk.1.1.1.2, ⟨hk.1.1.2, hk.1.2⟩⟩⟩⟩)⟩
    have n3_ : Aside0 (Kd.R k23 23 ((w175.setCell ⟨gb164, 0, none⟩ (.int .i64 t162)).setCell ⟨gb164, 1, none⟩ (.int .i64 t163)) w.heap.size (fun k_ => some k_ ≠ (.slice Ao159 y135.length co159 : Value).ownBlock ∧ some k_ ≠ (v139 : Value).ownBlock ∧ some k_ ≠ (.slice Ao169 y143.length co169 : Value).ownBlock ∧ some k_ ≠ (v156 : Value).ownBlock ∧ k_ ≠ gb164) (.slice Ao170 y152.length co170) y152) := ⟨by (with_reducible repeat (first | apply Kd.R_alloc | apply Kd.R_drewN | apply Kd.R_drew)); exact Kd.R_mono (Kd.R_far (p := ⟨gb164, 1, none⟩) (Kd.R_far (p := ⟨gb164, 0, none⟩) (Kd.R_mono HO154.out (fun k_ hk => (⟨hk, hk.2⟩ : _ ∧ k_ ≠ gb164))) (fun _ hk => hk.2) (.int .i64 t162)) (fun _ hk => hk.2) (.int .i64 t163)) (fun _ hk => ⟨hk.1.1.1.1.1.2, ⟨hk.1.1.1.1.2, ⟨hk.1.1.1.2, ⟨hk.1.1.2, hk.1.2⟩⟩⟩⟩)⟩
    have n4_ : Aside0 (Kd.R k23 23 ((w175.setCell ⟨gb164, 0, none⟩ (.int .i64 t162)).setCell ⟨gb164, 1, none⟩ (.int .i64 t163)) w.heap.size (fun k_ => some k_ ≠ (.slice Ao159 y135.length co159 : Value).ownBlock ∧ some k_ ≠ (v139 : Value).ownBlock ∧ some k_ ≠ (.slice Ao169 y143.length co169 : Value).ownBlock ∧ some k_ ≠ (.slice Ao170 y152.length co170 : Value).ownBlock ∧ k_ ≠ gb164) v156 t155) := ⟨by (with_reducible repeat (first | apply Kd.R_alloc | apply Kd.R_drewN | apply Kd.R_drew)); exact Kd.R_mono (Kd.R_far (p := ⟨gb164, 1, none⟩) (Kd.R_far (p := ⟨gb164, 0, none⟩) (Kd.R_mono HO157.out (fun k_ hk => (⟨hk, hk.2⟩ : _ ∧ k_ ≠ gb164))) (fun _ hk => hk.2) (.int .i64 t162)) (fun _ hk => hk.2) (.int .i64 t163)) (fun _ hk => ⟨hk.1.1.1.1.1.2, ⟨hk.1.1.1.1.2, ⟨hk.1.1.1.2, ⟨hk.1.1.2, hk.1.2⟩⟩⟩⟩)⟩
    have n5_ : Aside0 (((w175.setCell ⟨gb164, 0, none⟩ (.int .i64 t162)).setCell ⟨gb164, 1, none⟩ (.int .i64 t163)).heap[gb164]? = some (.cells #[.int .i64 t162, .int .i64 t163] 23 (0, 0))) := ⟨by (with_reducible repeat (first | refine blk_drewN ?_ _ | refine blk_drew ?_ | refine blk_alloc ?_ _)); refine blk_put (cs := #[.int .i64 t162, .int .i64 0]) ?_ 1 _ rfl; (with_reducible repeat (first | refine blk_drewN ?_ _ | refine blk_drew ?_ | refine blk_alloc ?_ _)); refine blk_put (cs := #[.int .i64 0, .int .i64 0]) ?_ 0 _ rfl; (with_reducible repeat (first | refine blk_drewN ?_ _ | refine blk_drew ?_ | refine blk_alloc ?_ _)); exact BK164.out⟩
    have n6_ : Aside0 (Below w.heap.size w ((w175.setCell ⟨gb164, 0, none⟩ (.int .i64 t162)).setCell ⟨gb164, 1, none⟩ (.int .i64 t163))) := ⟨by repeat (first | (with_reducible first | exact HB.out | apply below_alloc | apply pw_below_drewN | apply below_drew1 | refine below_set ?_ GE164.out) | exact HB.out)⟩
    (try clear HO137)
    (try clear HO140)
    (try clear HO145)
    (try clear HO154)
    (try clear HO157)
    (try clear BK164)
    (try clear HB)
    generalize ((w175.setCell ⟨gb164, 0, none⟩ (.int .i64 t162)).setCell ⟨gb164, 1, none⟩ (.int .i64 t163)) = w177 at n0_ n1_ n2_ n3_ n4_ n5_ n6_ ⊢
    have HO137 := n0_
    have HO140 := n1_
    have HO145 := n2_
    have HO154 := n3_
    have HO157 := n4_
    have BK164 := n5_
    have HB := n6_
    clear n0_ n1_ n2_ n3_ n4_ n5_ n6_
    have n0_ := Aside0.mk (Kd.R_drew HO137.out)
    have n1_ := Aside0.mk (Kd.R_drew HO140.out)
    have n2_ := Aside0.mk (Kd.R_drew HO145.out)
    have n3_ := Aside0.mk (Kd.R_drew HO154.out)
    have n4_ := Aside0.mk (Kd.R_drew HO157.out)
    have n5_ := Aside0.mk (blk_drew BK164.out)
    have n6_ := Aside0.mk (below_drew1 HB.out)
    clear HO137
    clear HO140
    clear HO145
    clear HO154
    clear HO157
    clear BK164
    clear HB
    have HO137 := n0_
    have HO140 := n1_
    have HO145 := n2_
    have HO154 := n3_
    have HO157 := n4_
    have BK164 := n5_
    have HB := n6_
    clear n0_ n1_ n2_ n3_ n4_ n5_ n6_
    refine start_ (n := 24) (S := fun w' => True) (ds := []) bz1b_0 (by kernel_rfl) rfl rfl trivial (fun hHeld => ?_); refine with_tabW spoorlaw06_alive.tab4 spoorlaw06_alive.bits4 (fun HT_ HW_ => ?_)
    generalize w177.drew = w178 at HO137 HO140 HO145 HO154 HO157 BK164 HB hHeld ⊢
    refine pz_ (i := 0) (N := some 21) bz1b_1 (any_of HT_.out (by kernel_rfl)) ?_
    refine one_ (i := 1) (N := some 22) bz1b_2 rfl rfl (one_of HT_.out (by kernel_rfl)) (by decide) (fun K hK => ?_)
    refine goes_ Try.func18 (by kernel_rfl) rfl #[.int .i64 1, .int .i64 3] (by rfl) rfl rfl xa ?_
    with_reducible refine (spoorlaw06_of.calls 1 3 t165 t166 _ A15.out).mono ?_
    rintro e w179 ⟨rfl, hb⟩
    refine ⟨_, rfl, ?_⟩
    have n0_ := Aside0.mk (Kd.R_below (xr HO137) hb)
    have n1_ := Aside0.mk (Kd.R_below (xr HO140) hb)
    have n2_ := Aside0.mk (Kd.R_below (xr HO145) hb)
    have n3_ := Aside0.mk (Kd.R_below (xr HO154) hb)
    have n4_ := Aside0.mk (Kd.R_below (xr HO157) hb)
    have n5_ := Aside0.mk (blk_below (g := gb164) (o := .cells #[.int .i64 t162, .int .i64 t163] 23 (0, 0)) (xb BK164) hb)
    have n6_ := Aside0.mk (below_step xq1 hb)
    clear HO137
    clear HO140
    clear HO145
    clear HO154
    clear HO157
    clear BK164
    clear HB
    have HO137 := n0_
    have HO140 := n1_
    have HO145 := n2_
    have HO154 := n3_
    have HO157 := n4_
    have BK164 := n5_
    have HB := n6_
    clear n0_ n1_ n2_ n3_ n4_ n5_ n6_
    (try clear hb)
    (try clear hb2)
    (try clear hk)
    (try clear hi)
    refine hK.out _ _ trivial (fun hHeld => ?_)
    clear hK K
    refine norm_ (a' := ?_) ?_ ?_
    rotate_left
    · show Act.put _ (some 22) _ = _
      simp only [Act.put, List.setIfInBounds_toArray, List.set_cons_zero, List.set_cons_succ, i64_w, i32_w]
      rfl
    refine one_ (i := 2) (N := some 23) bz1b_3 rfl rfl (one_of HT_.out (by kernel_rfl)) (by decide) (fun K hK => ?_)
    refine goes_ Try.func18 (by kernel_rfl) rfl #[.int .i64 5, .int .i64 9] (by rfl) rfl rfl xa ?_
    with_reducible refine (spoorlaw06_of.calls 5 9 t167 t168 _ A16.out).mono ?_
    rintro e w180 ⟨rfl, hb⟩
    refine ⟨_, rfl, ?_⟩
    have n0_ := Aside0.mk (Kd.R_below (xr HO137) hb)
    have n1_ := Aside0.mk (Kd.R_below (xr HO140) hb)
    have n2_ := Aside0.mk (Kd.R_below (xr HO145) hb)
    have n3_ := Aside0.mk (Kd.R_below (xr HO154) hb)
    have n4_ := Aside0.mk (Kd.R_below (xr HO157) hb)
    have n5_ := Aside0.mk (blk_below (g := gb164) (o := .cells #[.int .i64 t162, .int .i64 t163] 23 (0, 0)) (xb BK164) hb)
    have n6_ := Aside0.mk (below_step xq1 hb)
    clear HO137
    clear HO140
    clear HO145
    clear HO154
    clear HO157
    clear BK164
    clear HB
    have HO137 := n0_
    have HO140 := n1_
    have HO145 := n2_
    have HO154 := n3_
    have HO157 := n4_
    have BK164 := n5_
    have HB := n6_
    clear n0_ n1_ n2_ n3_ n4_ n5_ n6_
    (try clear hb)
    (try clear hb2)
    (try clear hk)
    (try clear hi)
    refine hK.out _ _ trivial (fun hHeld => ?_)
    clear hK K
    refine norm_ (a' := ?_) ?_ ?_
    rotate_left
    · show Act.put _ (some 23) _ = _
      simp only [Act.put, List.setIfInBounds_toArray, List.set_cons_zero, List.set_cons_succ, i64_w, i32_w]
      rfl
    refine one_ (i := 3) (N := some 24) bz1b_4 rfl rfl (one_of HT_.out (by kernel_rfl)) (by decide) (fun K hK => ?_)
    refine Kd.R_lit_step k23 _ 23 ?hg (N := 24) ?hd (xs := ([(⟨t165, t166⟩ : S23), (⟨t167, t168⟩ : S23)] : List (S23))) (inner := [.int .i64 t165, .int .i64 t166, .int .i64 t167, .int .i64 t168]) (ok := fun _ => True) (okp := fun _ => True) ?hr ?hp (fun _ hk => hk) trivial (Below.refl _ _) (Nat.le_refl _) (by simp) ?_; (case hd => rfl); (case hg => rfl); (case hr => first | (go_simp; done) | (go_simp; rfl)); (case hp => exact (Reps.c2 (show Kd.M k23 _ _ _ (⟨t165, t166⟩ : S23) [.int .i64 t165, .int .i64 t166] from (k23_mkM _ _ _ (⟨t165, t166⟩ : S23) )) (Reps.c2 (show Kd.M k23 _ _ _ (⟨t167, t168⟩ : S23) [.int .i64 t167, .int .i64 t168] from (k23_mkM _ _ _ (⟨t167, t168⟩ : S23) )) (Reps.none _ _))))
    intro v170 w181 ho182 hb hg_ hnew_
    clear hg_ hnew_
    (first | rw [← Ny169.out] at ho182 | (simp only [Int.reduceToNat] at ho182; rw [← Ny169.out] at ho182))
    have n0_ := Aside0.mk (Kd.R_elder' (xr HO137) (Kd.R_base ho182) hb)
    have n1_ := Aside0.mk (Kd.R_elder' (xr HO140) (Kd.R_base ho182) hb)
    have n2_ := Aside0.mk (Kd.R_elder' (xr HO145) (Kd.R_base ho182) hb)
    have n3_ := Aside0.mk (Kd.R_elder' (xr HO154) (Kd.R_base ho182) hb)
    have n4_ := Aside0.mk (Kd.R_elder' (xr HO157) (Kd.R_base ho182) hb)
    have n5_ := Aside0.mk (Kd.R_lower (Kd.R_newB (Kd.R_new' (Kd.R_new' (Kd.R_new' (Kd.R_new' (Kd.R_new' ho182 (Kd.R_lt (xr HO137))) (Kd.R_lt (xr HO140))) (Kd.R_lt (xr HO145))) (Kd.R_lt (xr HO154))) (Kd.R_lt (xr HO157))) (g := gb164) (o := .cells #[.int .i64 t162, .int .i64 t163] 23 (0, 0)) (xb BK164)) (below_size xq1))
    have n6_ := Aside0.mk (blk_below (g := gb164) (o := .cells #[.int .i64 t162, .int .i64 t163] 23 (0, 0)) (xb BK164) hb)
    have n7_ := Aside0.mk (below_step xq1 hb)
    clear HO137
    clear HO140
    clear HO145
    clear HO154
    clear HO157
    clear BK164
    clear HB
    have HO137 := n0_
    have HO140 := n1_
    have HO145 := n2_
    have HO154 := n3_
    have HO157 := n4_
    have HO171 := n5_
    have BK164 := n6_
    have HB := n7_
    clear n0_ n1_ n2_ n3_ n4_ n5_ n6_ n7_
    clear hb ho182
    obtain ⟨Ao183, co183, eo183⟩ := Kd.R_slice HO140.out
    (first | subst eo183 | (injection eo183 with f1_ f2_ f3_; have f4_ := f1_.symm; have f5_ := f3_.symm; clear f1_ f2_ f3_; subst f4_; subst f5_))
    obtain ⟨Ao184, co184, eo184⟩ := Kd.R_slice HO171.out
    (first | subst eo184 | (injection eo184 with f1_ f2_ f3_; have f4_ := f1_.symm; have f5_ := f3_.symm; clear f1_ f2_ f3_; subst f4_; subst f5_))
    refine hK.out _ _ trivial (fun hHeld => ?_)
    clear hK K
    refine norm_ (a' := ?_) ?_ ?_
    rotate_left
    · show Act.put _ (some 24) _ = _
      simp only [Act.put, List.setIfInBounds_toArray, List.set_cons_zero, List.set_cons_succ, i64_w, i32_w]
      rfl
    refine one_ (i := 4) (N := some 25) bz1b_5 rfl rfl (one_of HT_.out (by kernel_rfl)) (by decide) (fun K hK => ?_)
    refine goes_ Try.func20 (by kernel_rfl) rfl #[.slice Ao183 t138.length co183, .slice Ao184 y169.length co184] (by rfl) rfl rfl xa ?_
    with_reducible refine (spoorref06_Same.calls k _ _ t138 _ _ y169 false _ ?side1 ?side2 ?side3 ?side4 A17.out).mono ?_
    (case side1 => repeat (first | exact (Kd.R_reads' HO140.out).2.2 | (with_reducible refine Kd.C_alloc ?_ _) | (with_reducible refine Kd.C_drewN ?_ _) | (with_reducible refine Kd.C_drew ?_)))
    (case side2 => exact (Kd.R_reads' HO140.out).2.1)
    (case side3 => repeat (first | exact (Kd.R_reads' HO171.out).2.2 | (with_reducible refine Kd.C_alloc ?_ _) | (with_reducible refine Kd.C_drewN ?_ _) | (with_reducible refine Kd.C_drew ?_)))
    (case side4 => exact (Kd.R_reads' HO171.out).2.1)
    rintro e w' ⟨rfl, ⟨nd, rfl⟩⟩
    refine ⟨_, rfl, ?_⟩
    refine hK.out _ _ trivial (fun hHeld => ?_)
    clear hK K
    refine norm_ (a' := ?_) ?_ ?_
    rotate_left
    · show Act.put _ (some 25) _ = _
      simp only [Act.put, List.setIfInBounds_toArray, List.set_cons_zero, List.set_cons_succ, i64_w, i32_w]
      rfl
    refine pz_ (i := 5) (N := some 26) bz1b_6 (any_of HT_.out (by kernel_rfl)) ?_
    refine pu_ (i := 6) (N := some 27) bz1b_7 (any_of HT_.out (by kernel_rfl)) ?_
    refine pu_ (i := 7) (N := some 28) bz1b_8 (any_of HT_.out (by kernel_rfl)) ?_
    refine pu_ (i := 8) (N := some 29) bz1b_9 (any_of HT_.out (by kernel_rfl)) ?_
    refine pu_ (i := 9) (N := some 30) bz1b_10 (any_of HT_.out (by kernel_rfl)) ?_
    refine pu_ (i := 10) (N := some 31) bz1b_11 (any_of HT_.out (by kernel_rfl)) ?_
    refine pu_ (i := 11) (N := some 32) bz1b_12 (any_of HT_.out (by kernel_rfl)) ?_
    refine pz_ (i := 12) (N := some 33) bz1b_13 (any_of HT_.out (by kernel_rfl)) ?_
    refine pz_ (i := 13) (N := some 34) bz1b_14 (any_of HT_.out (by kernel_rfl)) ?_
    refine pu_ (i := 14) (N := some 35) bz1b_15 (any_of HT_.out (by kernel_rfl)) ?_
    refine pu_ (i := 15) (N := some 36) bz1b_16 (any_of HT_.out (by kernel_rfl)) ?_
    refine pu_ (i := 16) (N := some 37) bz1b_17 (any_of HT_.out (by kernel_rfl)) ?_
    refine pz_ (i := 17) (N := some 38) bz1b_18 (any_of HT_.out (by kernel_rfl)) ?_
    refine pz_ (i := 18) (N := some 39) bz1b_19 (any_of HT_.out (by kernel_rfl)) ?_
    refine pu_ (i := 19) (N := some 40) bz1b_20 (any_of HT_.out (by kernel_rfl)) ?_
    refine pu_ (i := 20) (N := some 41) bz1b_21 (any_of HT_.out (by kernel_rfl)) ?_
    refine pu_ (i := 21) (N := some 42) bz1b_22 (any_of HT_.out (by kernel_rfl)) ?_
    refine pz_ (i := 22) (N := some 43) bz1b_23 (any_of HT_.out (by kernel_rfl)) ?_
    refine pz_ (i := 23) (N := some 0) bz1b_24 (any_of HT_.out (by kernel_rfl)) ?_
    refine done_ (done_of HT_.out (by kernel_rfl)) ?_
    try go_wp2
    go_ret
    exact ⟨by first | rfl | (simp [errW_none, errW_some] <;> rfl) | (simp [*, errW_none, errW_some] <;> rfl), by repeat (first | (with_reducible first | exact HB.out | apply below_alloc | apply pw_below_drewN | apply below_drew1 | refine below_set ?_ GE164.out) | exact HB.out)⟩

end Go.Proofs.Ytafpmcmpkgbgaaa.Pr
