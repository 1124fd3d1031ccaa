/- SampleDecides at any input. -/
import Derived.Test.YtdlnfmakfnggpaaDoorXRn
import Derived.Test.YtdlnfmakfnggpaaDoorMk
import Derived.Test.YtdlnfmakfnggpaaDoorOp
namespace Go.Proofs.YtdlnfmakfnggpaaDoor.Pr
open Go.RowKit Go.Lib Go.Proofs.YtdlnfmakfnggpaaDoorW.PrintWords Mg
set_option linter.unusedVariables false
set_option linter.unusedSimpArgs false
theorem nat_u {a : Int} (h : (Lit.int .u64 a).wf = true) : ∃ n : Nat, a = n ∧ n < 2 ^ 64 := by
  have h' : 0 ≤ a ∧ a ≤ 18446744073709551615 := by simpa [Lit.wf, IntKind.min, IntKind.max, IntKind.signed, IntKind.bits] using h
  exact ⟨a.toNat, by omega, by omega⟩
theorem decV_some (l0 : List S30) (l1 : List S43) (h1 : ∀ x ∈ l1, ok43 x) : ∃ vk vp vw er, decV l0 l1 = some (vk, vp, 0, vw, er) := by
  by_cases hz : polF l0 = 0
  · by_cases hR : l1.length = 0
    · unfold decV
      rw [if_pos hz, if_pos hR]
      by_cases ho : oneF chkS l1 = true
      · rw [if_pos ho]; exact ⟨_, _, _, _, rfl⟩
      · rw [if_neg ho]; exact ⟨_, _, _, _, rfl⟩
    · have hx := h1 _ (rd43_mem (l := l1) (k := 0) (by omega))
      obtain ⟨⟨hh, hl⟩, _⟩ := hx
      obtain ⟨a, ea, ha⟩ := nat_u hh
      obtain ⟨b, eb, hb⟩ := nat_u hl
      have hm := mix_int a b ha hb
      rw [← ea, ← eb] at hm
      rcases verdicts l0 l1 ((mixN a b : Nat) : Int) (((mixN a b : Nat) : Int) / 281474976710656) (by omega) rfl hz (by omega) hm with h | ⟨vk, vp, vw, _, _, _, h, _⟩
      · exact ⟨_, _, _, _, h.1⟩
      · exact ⟨_, _, _, _, h⟩
  · unfold decV
    rw [if_neg hz]
    exact ⟨_, _, _, _, rfl⟩
theorem decides_all (A0 : Option Addr) (c0 : Nat) (l0 : List S30) (A1 : Option Addr) (c1 : Nat) (l1 : List S43) (w : World) (hr0 : Kd.C k30 w A0 l0.length l0) (hc0 : l0.length ≤ c0) (hr1 : Kd.C k43 w A1 l1.length l1) (hc1 : l1.length ≤ c1)
    (hl0 : l0.length * 40 ≤ 140737488351232) (hA : ∀ x ∈ l0, x.f2.size ≤ 140737488351232) (hl1 : l1.length ≤ 837723144970) (hB : ∀ x ∈ l1, ok43 x) (hT : Tabs w) :
    Calls Tryd.prog 5 #[.slice A0 l0.length c0, .slice A1 l1.length c1] w (BoolPost w true) := by
  have hS : ∀ x ∈ l1, okS x := fun x hx => okS_of (hB x hx)
  have hp : ∀ x ∈ l1, ∀ e ∈ x.f3, 0 ≤ e := fun x hx e he => by
    obtain ⟨_, _, _, ⟨_, h3⟩, _⟩ := hB x hx
    obtain ⟨n, rfl, _⟩ := nat_u (h3 e he)
    omega
  obtain ⟨vk, vp, vw, er, hv⟩ := decV_some l0 l1 hB
  obtain ⟨K, wt, hw⟩ := weight_val l1 (by omega)
  obtain ⟨k1, h1⟩ := decide_val l0 l1 hA hS (by omega) _ hv
  refine decides_run A0 c0 l0 A1 c1 l1 w hr0 hc0 hr1 hc1 hl0 hl1 hS K wt hw vk vp vw er ?_ ?_ (fun x hx => cmp_ok x (hS x hx))
  · intro W A B c c' hb ha hc hb' hc'
    exact sample_Decide.calls k1 A c l0 B c' l1 vk vp 0 vw er W ha hc hb' hc' h1 (hT.below hb)
  · intro W A B c c' hb ha hc hb' hc'
    exact rdecide_run A c l0 B c' l1 W ha hc hb' hc' (by omega) hA hS hp (by omega) vk vp 0 vw er hv
end Go.Proofs.YtdlnfmakfnggpaaDoor.Pr
