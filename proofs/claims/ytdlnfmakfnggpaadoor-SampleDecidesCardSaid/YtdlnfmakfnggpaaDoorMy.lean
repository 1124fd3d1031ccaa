/- The mix and its inverse, on natural numbers. The printed mixes are those of Mx. -/
import Derived.Laws.Bits64
import Derived.Test.YtdlnfmakfnggpaaDoorPr0d
import Derived.Test.YtdlnfmakfnggpaaDoorWb
namespace Go.Proofs.YtdlnfmakfnggpaaDoor.Mx
set_option linter.unusedVariables false
def sx (k x : Nat) : Nat := x ^^^ (x >>> k)
theorem x3 (a b c : Nat) : a ^^^ b ^^^ c ^^^ (b ^^^ c) = a := by
  rw [Nat.xor_assoc a b c, Nat.xor_assoc, Nat.xor_self, Nat.xor_zero]
def mu (c x : Nat) : Nat := x * c % 2 ^ 64
theorem mu_lt (c x : Nat) : mu c x < 2 ^ 64 := Nat.mod_lt _ (by decide)
def blend (a : Nat) : Nat := sx 32 (mu 7640891576956012809 (sx 29 (mu 11400714819323198485 (sx 31 a))))
end Go.Proofs.YtdlnfmakfnggpaaDoor.Mx
namespace Go.Proofs.YtdlnfmakfnggpaaDoor.Pr
open Go.RowKit Go.Proofs.YtdlnfmakfnggpaaDoorW.PrintWords Go.Proofs.YtdlnfmakfnggpaaDoorW.PrintLast Go.Proofs.YtdlnfmakfnggpaaDoorW.PrintMore Go.Proofs.YtdlnfmakfnggpaaDoor
set_option linter.unusedVariables false
set_option linter.unusedSimpArgs false
theorem wrap_u (x : Int) : IntKind.u64.wrap x = x % 18446744073709551616 := by simp [IntKind.wrap, IntKind.bits, IntKind.signed]
theorem wrap_nat (x : Nat) : IntKind.u64.wrap (x : Int) = ((x % 18446744073709551616 : Nat) : Int) := by rw [wrap_u]; rfl
theorem sx_int (k : Nat) (s : Nat) (hs : s = 2 ^ k) (a : Nat) (h : a < 2 ^ 64) : Go.bits .xor .u64 (a : Int) ((a : Int) / (s : Int)) = (Mx.sx k a : Nat) := by
  rw [xorShift_u64 a s (by simpa using h)]
  unfold Mx.sx
  rw [Nat.shiftRight_eq_div_pow, hs]
theorem mu_int (c a : Nat) : IntKind.u64.wrap ((a : Int) * (c : Int)) = (Mx.mu c a : Nat) := by
  rw [show (a : Int) * (c : Int) = ((a * c : Nat) : Int) from (Int.natCast_mul a c).symm, wrap_nat]
  rfl
theorem blend_int (a : Nat) (h : a < 2 ^ 64) : sample_blend.f (a : Int) = some ((Mx.blend a : Nat) : Int) := by
  unfold sample_blend.f Mx.blend
  congr 1
  have e1 := sx_int 31 2147483648 (by decide) a h
  have m1 := mu_int 11400714819323198485 (Mx.sx 31 a)
  have e2 := sx_int 29 536870912 (by decide) (Mx.mu 11400714819323198485 (Mx.sx 31 a)) (Mx.mu_lt _ _)
  have m2 := mu_int 7640891576956012809 (Mx.sx 29 (Mx.mu 11400714819323198485 (Mx.sx 31 a)))
  have e3 := sx_int 32 4294967296 (by decide) (Mx.mu 7640891576956012809 (Mx.sx 29 (Mx.mu 11400714819323198485 (Mx.sx 31 a)))) (Mx.mu_lt _ _)
  rw [show (2147483648 : Int) = ((2147483648 : Nat) : Int) from rfl, e1, show (11400714819323198485 : Int) = ((11400714819323198485 : Nat) : Int) from rfl, m1, show (536870912 : Int) = ((536870912 : Nat) : Int) from rfl, e2, show (7640891576956012809 : Int) = ((7640891576956012809 : Nat) : Int) from rfl, m2, show (4294967296 : Int) = ((4294967296 : Nat) : Int) from rfl, e3]
def mixN (hi lo : Nat) : Nat := Mx.blend ((hi + Mx.blend lo) % 2 ^ 64)
theorem mix_int (hi lo : Nat) (h : hi < 2 ^ 64) (h' : lo < 2 ^ 64) : sample_Mix.f (hi : Int) (lo : Int) = some ((mixN hi lo : Nat) : Int) := by
  unfold sample_Mix.f
  rw [blend_int lo h']
  simp only [Option.bind_some]
  rw [show (hi : Int) + ((Mx.blend lo : Nat) : Int) = ((hi + Mx.blend lo : Nat) : Int) from (Int.natCast_add _ _).symm, wrap_nat, blend_int _ (Nat.mod_lt _ (by decide))]
  rfl
end Go.Proofs.YtdlnfmakfnggpaaDoor.Pr
