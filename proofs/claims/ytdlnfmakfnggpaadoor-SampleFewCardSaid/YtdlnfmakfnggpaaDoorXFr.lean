/- SampleFew, of any names. -/
import Derived.Test.YtdlnfmakfnggpaaDoorXFw
import Derived.Test.YtdlnfmakfnggpaaDoorMc
import Derived.Test.YtdlnfmakfnggpaaDoorMy
namespace Go.Proofs.YtdlnfmakfnggpaaDoor.Pr
open Go.RowKit Go.Lib Go.Proofs.YtdlnfmakfnggpaaDoorW.PrintWords
theorem nat_of26 {a : Int} (h : (Lit.int .u64 a).wf = true) : ∃ n : Nat, a = n ∧ n < 2 ^ 64 := by
  have h' : 0 ≤ a ∧ a ≤ 18446744073709551615 := by simpa [Lit.wf, IntKind.min, IntKind.max, IntKind.signed, IntKind.bits] using h
  exact ⟨a.toNat, by omega, by omega⟩
theorem few_run (most at_ : Int) (A : Option Addr) (c : Nat) (l : List S26) (w : World) (hr : Kd.C k26 w A l.length l) (hc : l.length ≤ c) (hl : l.length ≤ 8796093022208) (hx : ∀ x ∈ l, ((Lit.int .u64 x.f0).wf = true) ∧ (((Lit.int .u64 x.f1).wf = true))) :
    Calls Tryd.prog 10 #[.int .i64 most, .slice A l.length c, .int .i64 at_] w fun e w' => e = .returned (.bool true) ∧ Below w.heap.size w w' := by
  by_cases hb : most < 2 ∨ 1000 < most
  · exact few_bad most at_ A l.length c w hb
  · obtain ⟨m, rfl⟩ := Int.eq_ofNat_of_zero_le (show 0 ≤ most by omega)
    have hmx : ∀ x ∈ l, sample_Mix.f x.f0 x.f1 = some (chn x).1 := fun x hxl => by
      obtain ⟨hi, h1, h2⟩ := nat_of26 (hx x hxl).1
      obtain ⟨lo, h3, h4⟩ := nat_of26 (hx x hxl).2
      have e : sample_Mix.f x.f0 x.f1 = some ((mixN hi lo : Nat) : Int) := by rw [h1, h3]; exact mix_int hi lo h2 h4
      unfold chn
      rw [e]; rfl
    exact few_good m at_ A c l w (by omega) (by omega) hr hc hl hmx (same_ok _ (by unfold ids; rw [List.length_map]; have := top_length m (chns l); omega)) (chosen_top l m (by omega) (by omega) hl hmx) (gok_top m _ (by omega))
end Go.Proofs.YtdlnfmakfnggpaaDoor.Pr
