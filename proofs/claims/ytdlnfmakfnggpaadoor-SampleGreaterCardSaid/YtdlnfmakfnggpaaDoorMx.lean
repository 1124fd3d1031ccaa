/- The mix and its inverse, on natural numbers. -/
import Derived.Laws.Bits64
namespace Go.Proofs.YtdlnfmakfnggpaaDoor.Mx
set_option linter.unusedVariables false
theorem shr_big {v k : Nat} (h : v < 2 ^ 64) (hk : 64 ≤ k) : v >>> k = 0 := by
  rw [Nat.shiftRight_eq_div_pow]
  exact Nat.div_eq_of_lt (Nat.lt_of_lt_of_le h (Nat.pow_le_pow_right (by omega) hk))
def sx (k x : Nat) : Nat := x ^^^ (x >>> k)
def un (k v : Nat) : Nat := v ^^^ (v >>> k) ^^^ (v >>> (k + k))
theorem x3 (a b c : Nat) : a ^^^ b ^^^ c ^^^ (b ^^^ c) = a := by
  rw [Nat.xor_assoc a b c, Nat.xor_assoc, Nat.xor_self, Nat.xor_zero]
theorem sx_un (k v : Nat) (h : v < 2 ^ 64) (hk : 64 ≤ k + k + k) : sx k (un k v) = v := by
  unfold sx un
  rw [Nat.shiftRight_xor_distrib, Nat.shiftRight_xor_distrib, ← Nat.shiftRight_add, ← Nat.shiftRight_add, shr_big h hk, Nat.xor_zero]
  exact x3 _ _ _
theorem un_fix (k v : Nat) (h : v < 2 ^ 64) (hk : 64 ≤ k + k + k) : v ^^^ (un k v >>> k) = un k v := by
  unfold un
  rw [Nat.shiftRight_xor_distrib, Nat.shiftRight_xor_distrib, ← Nat.shiftRight_add, ← Nat.shiftRight_add, shr_big h hk, Nat.xor_zero, Nat.xor_assoc]
theorem un_two (k v : Nat) : v ^^^ ((v ^^^ (v >>> k)) >>> k) = un k v := by
  unfold un
  rw [Nat.shiftRight_xor_distrib, ← Nat.shiftRight_add, Nat.xor_assoc]
theorem un_sx (k v : Nat) (h : v < 2 ^ 64) (hk : 64 ≤ k + k + k) : un k (sx k v) = v := by
  unfold sx un
  rw [Nat.shiftRight_xor_distrib, Nat.shiftRight_xor_distrib, ← Nat.shiftRight_add, ← Nat.shiftRight_add]
  rw [show v >>> (k + (k + k)) = 0 from shr_big h (by omega), Nat.xor_zero]
  have e : ∀ a b c : Nat, a ^^^ b ^^^ (b ^^^ c) ^^^ c = a := fun a b c => by
    rw [Nat.xor_assoc (a ^^^ b), Nat.xor_assoc b, Nat.xor_self, Nat.xor_zero, Nat.xor_assoc, Nat.xor_self, Nat.xor_zero]
  exact e _ _ _
theorem lt_xor {a b : Nat} (ha : a < 2 ^ 64) (hb : b < 2 ^ 64) : a ^^^ b < 2 ^ 64 := Nat.xor_lt_two_pow ha hb
theorem lt_shr {a : Nat} (k : Nat) (ha : a < 2 ^ 64) : a >>> k < 2 ^ 64 := by rw [Nat.shiftRight_eq_div_pow]; exact Nat.lt_of_le_of_lt (Nat.div_le_self _ _) ha
theorem sx_lt {k x : Nat} (h : x < 2 ^ 64) : sx k x < 2 ^ 64 := lt_xor h (lt_shr _ h)
theorem un_lt {k x : Nat} (h : x < 2 ^ 64) : un k x < 2 ^ 64 := lt_xor (lt_xor h (lt_shr _ h)) (lt_shr _ h)
def mu (c x : Nat) : Nat := x * c % 2 ^ 64
theorem mu_lt (c x : Nat) : mu c x < 2 ^ 64 := Nat.mod_lt _ (by decide)
theorem mu_mu {c d x : Nat} (h : x < 2 ^ 64) (e : c * d % 2 ^ 64 = 1) : mu d (mu c x) = x := by
  unfold mu
  rw [Nat.mod_mul_mod, Nat.mul_assoc, Nat.mul_mod, e, Nat.mul_one, Nat.mod_mod, Nat.mod_eq_of_lt h]
def blend (a : Nat) : Nat := sx 32 (mu 7640891576956012809 (sx 29 (mu 11400714819323198485 (sx 31 a))))
def unblend (m : Nat) : Nat := un 31 (mu 17428512612931826493 (un 29 (mu 17228112808425395513 (un 32 m))))
theorem blend_lt {a : Nat} (h : a < 2 ^ 64) : blend a < 2 ^ 64 := sx_lt (mu_lt _ _)
theorem unblend_lt {a : Nat} : unblend a < 2 ^ 64 := un_lt (mu_lt _ _)
theorem blend_unblend {m : Nat} (h : m < 2 ^ 64) : blend (unblend m) = m := by
  unfold blend unblend
  rw [sx_un 31 _ (mu_lt _ _) (by decide), mu_mu (un_lt (mu_lt _ _)) (by decide +kernel), sx_un 29 _ (mu_lt _ _) (by decide), mu_mu (un_lt h) (by decide +kernel), sx_un 32 _ h (by decide)]
theorem unblend_blend {a : Nat} (h : a < 2 ^ 64) : unblend (blend a) = a := by
  unfold blend unblend
  rw [un_sx 32 _ (mu_lt _ _) (by decide), mu_mu (sx_lt (mu_lt _ _)) (by decide +kernel), un_sx 29 _ (mu_lt _ _) (by decide), mu_mu (sx_lt h) (by decide +kernel), un_sx 31 _ h (by decide)]
theorem blend_inj {a b : Nat} (ha : a < 2 ^ 64) (hb : b < 2 ^ 64) (h : blend a = blend b) : a = b := by
  rw [← unblend_blend ha, h, unblend_blend hb]
end Go.Proofs.YtdlnfmakfnggpaaDoor.Mx
