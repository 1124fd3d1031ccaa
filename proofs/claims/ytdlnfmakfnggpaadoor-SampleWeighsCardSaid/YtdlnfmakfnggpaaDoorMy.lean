/- The mix and its inverse, on natural numbers. The printed mixes are those of Mx. -/
import Derived.Laws.Bits64
import Derived.Test.YtdlnfmakfnggpaaDoorPr0d
import Derived.Test.YtdlnfmakfnggpaaDoorWMore
namespace Go.Proofs.YtdlnfmakfnggpaaDoor.Mx
set_option linter.unusedVariables false
theorem shr_big {v k : Nat} (h : v < 2 ^ 64) (hk : 64 ≤ k) : v >>> k = 0 := by
  rw [Nat.shiftRight_eq_div_pow]
  exact Nat.div_eq_of_lt (Nat.lt_of_lt_of_le h (Nat.pow_le_pow_right (by omega) hk))
def sx (k x : Nat) : Nat := x ^^^ (x >>> k)
def un (k v : Nat) : Nat := v ^^^ (v >>> k) ^^^ (v >>> (k + k))
theorem x3 (a b c : Nat) : a ^^^ b ^^^ c ^^^ (b ^^^ c) = a := by
  rw [Nat.xor_assoc a b c, Nat.xor_assoc, Nat.xor_self, Nat.xor_zero]
theorem sx_un (k v : Nat) (h : v < 2 ^ 64) (hk : 64 ≤ k + k + k) : sx k (un k v) = v := by
  unfold sx un
  rw [Nat.shiftRight_xor_distrib, Nat.shiftRight_xor_distrib, ← Nat.shiftRight_add, ← Nat.shiftRight_add, shr_big h hk, Nat.xor_zero]
  exact x3 _ _ _
theorem un_fix (k v : Nat) (h : v < 2 ^ 64) (hk : 64 ≤ k + k + k) : v ^^^ (un k v >>> k) = un k v := by
  unfold un
  rw [Nat.shiftRight_xor_distrib, Nat.shiftRight_xor_distrib, ← Nat.shiftRight_add, ← Nat.shiftRight_add, shr_big h hk, Nat.xor_zero, Nat.xor_assoc]
theorem un_two (k v : Nat) : v ^^^ ((v ^^^ (v >>> k)) >>> k) = un k v := by
  unfold un
  rw [Nat.shiftRight_xor_distrib, ← Nat.shiftRight_add, Nat.xor_assoc]
theorem un_sx (k v : Nat) (h : v < 2 ^ 64) (hk : 64 ≤ k + k + k) : un k (sx k v) = v := by
  unfold sx un
  rw [Nat.shiftRight_xor_distrib, Nat.shiftRight_xor_distrib, ← Nat.shiftRight_add, ← Nat.shiftRight_add]
  rw [show v >>> (k + (k + k)) = 0 from shr_big h (by omega), Nat.xor_zero]
  have e : ∀ a b c : Nat, a ^^^ b ^^^ (b ^^^ c) ^^^ c = a := fun a b c => by
    rw [Nat.xor_assoc (a ^^^ b), Nat.xor_assoc b, Nat.xor_self, Nat.xor_zero, Nat.xor_assoc, Nat.xor_self, Nat.xor_zero]
  exact e _ _ _
theorem lt_xor {a b : Nat} (ha : a < 2 ^ 64) (hb : b < 2 ^ 64) : a ^^^ b < 2 ^ 64 := Nat.xor_lt_two_pow ha hb
theorem lt_shr {a : Nat} (k : Nat) (ha : a < 2 ^ 64) : a >>> k < 2 ^ 64 := by rw [Nat.shiftRight_eq_div_pow]; exact Nat.lt_of_le_of_lt (Nat.div_le_self _ _) ha
theorem sx_lt {k x : Nat} (h : x < 2 ^ 64) : sx k x < 2 ^ 64 := lt_xor h (lt_shr _ h)
theorem un_lt {k x : Nat} (h : x < 2 ^ 64) : un k x < 2 ^ 64 := lt_xor (lt_xor h (lt_shr _ h)) (lt_shr _ h)
def mu (c x : Nat) : Nat := x * c % 2 ^ 64
theorem mu_lt (c x : Nat) : mu c x < 2 ^ 64 := Nat.mod_lt _ (by decide)
theorem mu_mu {c d x : Nat} (h : x < 2 ^ 64) (e : c * d % 2 ^ 64 = 1) : mu d (mu c x) = x := by
  unfold mu
  rw [Nat.mod_mul_mod, Nat.mul_assoc, Nat.mul_mod, e, Nat.mul_one, Nat.mod_mod, Nat.mod_eq_of_lt h]
def blend (a : Nat) : Nat := sx 32 (mu 7640891576956012809 (sx 29 (mu 11400714819323198485 (sx 31 a))))
def unblend (m : Nat) : Nat := un 31 (mu 17428512612931826493 (un 29 (mu 17228112808425395513 (un 32 m))))
theorem blend_lt {a : Nat} (h : a < 2 ^ 64) : blend a < 2 ^ 64 := sx_lt (mu_lt _ _)
theorem unblend_lt {a : Nat} : unblend a < 2 ^ 64 := un_lt (mu_lt _ _)
theorem blend_unblend {m : Nat} (h : m < 2 ^ 64) : blend (unblend m) = m := by
  unfold blend unblend
  rw [sx_un 31 _ (mu_lt _ _) (by decide), mu_mu (un_lt (mu_lt _ _)) (by decide +kernel), sx_un 29 _ (mu_lt _ _) (by decide), mu_mu (un_lt h) (by decide +kernel), sx_un 32 _ h (by decide)]
theorem unblend_blend {a : Nat} (h : a < 2 ^ 64) : unblend (blend a) = a := by
  unfold blend unblend
  rw [un_sx 32 _ (mu_lt _ _) (by decide), mu_mu (sx_lt (mu_lt _ _)) (by decide +kernel), un_sx 29 _ (mu_lt _ _) (by decide), mu_mu (sx_lt h) (by decide +kernel), un_sx 31 _ h (by decide)]
theorem blend_inj {a b : Nat} (ha : a < 2 ^ 64) (hb : b < 2 ^ 64) (h : blend a = blend b) : a = b := by
  rw [← unblend_blend ha, h, unblend_blend hb]
end Go.Proofs.YtdlnfmakfnggpaaDoor.Mx
namespace Go.Proofs.YtdlnfmakfnggpaaDoor.Pr
open Go.RowKit Go.Proofs.YtdlnfmakfnggpaaDoorW.PrintWords Go.Proofs.YtdlnfmakfnggpaaDoorW.PrintLast Go.Proofs.YtdlnfmakfnggpaaDoorW.PrintMore Go.Proofs.YtdlnfmakfnggpaaDoor
set_option linter.unusedVariables false
set_option linter.unusedSimpArgs false
theorem wrap_u (x : Int) : IntKind.u64.wrap x = x % 18446744073709551616 := by simp [IntKind.wrap, IntKind.bits, IntKind.signed]
theorem wrap_nat (x : Nat) : IntKind.u64.wrap (x : Int) = ((x % 18446744073709551616 : Nat) : Int) := by rw [wrap_u]; rfl
theorem sx_int (k : Nat) (s : Nat) (hs : s = 2 ^ k) (a : Nat) (h : a < 2 ^ 64) : Go.bits .xor .u64 (a : Int) ((a : Int) / (s : Int)) = (Mx.sx k a : Nat) := by
  rw [xorShift_u64 a s (by simpa using h)]
  unfold Mx.sx
  rw [Nat.shiftRight_eq_div_pow, hs]
theorem mu_int (c a : Nat) : IntKind.u64.wrap ((a : Int) * (c : Int)) = (Mx.mu c a : Nat) := by
  rw [show (a : Int) * (c : Int) = ((a * c : Nat) : Int) from (Int.natCast_mul a c).symm, wrap_nat]
  rfl
theorem blend_int (a : Nat) (h : a < 2 ^ 64) : sample_blend.f (a : Int) = some ((Mx.blend a : Nat) : Int) := by
  unfold sample_blend.f Mx.blend
  congr 1
  have e1 := sx_int 31 2147483648 (by decide) a h
  have m1 := mu_int 11400714819323198485 (Mx.sx 31 a)
  have e2 := sx_int 29 536870912 (by decide) (Mx.mu 11400714819323198485 (Mx.sx 31 a)) (Mx.mu_lt _ _)
  have m2 := mu_int 7640891576956012809 (Mx.sx 29 (Mx.mu 11400714819323198485 (Mx.sx 31 a)))
  have e3 := sx_int 32 4294967296 (by decide) (Mx.mu 7640891576956012809 (Mx.sx 29 (Mx.mu 11400714819323198485 (Mx.sx 31 a)))) (Mx.mu_lt _ _)
  rw [show (2147483648 : Int) = ((2147483648 : Nat) : Int) from rfl, e1, show (11400714819323198485 : Int) = ((11400714819323198485 : Nat) : Int) from rfl, m1, show (536870912 : Int) = ((536870912 : Nat) : Int) from rfl, e2, show (7640891576956012809 : Int) = ((7640891576956012809 : Nat) : Int) from rfl, m2, show (4294967296 : Int) = ((4294967296 : Nat) : Int) from rfl, e3]
theorem rblend_eq (a : Int) : spoorref21_Blend.f a = sample_blend.f a := rfl
def mixN (hi lo : Nat) : Nat := Mx.blend ((hi + Mx.blend lo) % 2 ^ 64)
theorem mix_int (hi lo : Nat) (h : hi < 2 ^ 64) (h' : lo < 2 ^ 64) : sample_Mix.f (hi : Int) (lo : Int) = some ((mixN hi lo : Nat) : Int) := by
  unfold sample_Mix.f
  rw [blend_int lo h']
  simp only [Option.bind_some]
  rw [show (hi : Int) + ((Mx.blend lo : Nat) : Int) = ((hi + Mx.blend lo : Nat) : Int) from (Int.natCast_add _ _).symm, wrap_nat, blend_int _ (Nat.mod_lt _ (by decide))]
  rfl
theorem shr_nat (x by' : Nat) (hb : by' ≤ 64) : shr .u64 (x : Int) (by' : Int) = ((x >>> by' : Nat) : Int) := by
  unfold shr
  rw [Int.toNat_natCast, show (IntKind.u64.bits : Nat) = 64 from rfl, Nat.min_eq_left hb, Nat.shiftRight_eq_div_pow]
  simp
theorem unshift_eq (k : Nat) (x0 x1 x5 x6 : Int) : spoorlaw21_unshift.l0 (k + 1) x0 x1 x5 x6 = if x6 < 8 then (if 0 ≤ x1 then (spoorlaw21_unshift.l0 k x0 x1 (Go.bits .xor .u64 x0 (shr .u64 x5 x1)) (wrap64 (x6 + 1))) else (none)) else (some x5) := by
  rw [spoorlaw21_unshift.l0]
theorem wrap_i (i : Nat) (hi : i < 8) : wrap64 ((i : Int) + 1) = ((i + 1 : Nat) : Int) := by unfold wrap64; omega
theorem xor_nat (v y : Nat) (hv : v < 2 ^ 64) (hy : y < 2 ^ 64) : Go.bits .xor .u64 (v : Int) (y : Int) = ((v ^^^ y : Nat) : Int) := bits_xor_u64_nat v y hv hy
theorem unshift_step (k : Nat) (v b x : Nat) (i : Nat) (hi : i < 8) (hv : v < 2 ^ 64) (hx : x < 2 ^ 64) (hb : b ≤ 64) :
    spoorlaw21_unshift.l0 (k + 1) v b x i = spoorlaw21_unshift.l0 k v b ((v ^^^ (x >>> b) : Nat) : Int) ((i + 1 : Nat) : Int) := by
  have h1 : (i : Int) < 8 := by omega
  have h2 : (0 : Int) ≤ (b : Int) := by omega
  rw [unshift_eq, if_pos h1, if_pos h2, shr_nat x b hb, xor_nat v _ hv (Mx.lt_shr b hx), wrap_i i hi]
theorem unshift_int (v b : Nat) (hv : v < 2 ^ 64) (hb : b ≤ 64) (h3 : 64 ≤ b + b + b) (k : Nat) : spoorlaw21_unshift.f (k + 9) v b = some ((Mx.un b v : Nat) : Int) := by
  unfold spoorlaw21_unshift.f
  have hu : Mx.un b v < 2 ^ 64 := Mx.un_lt hv
  rw [show (0 : Int) = ((0 : Nat) : Int) from rfl]
  rw [unshift_step _ _ _ _ _ (by decide) hv hv hb, unshift_step _ _ _ _ _ (by decide) hv (Mx.lt_xor hv (Mx.lt_shr _ hv)) hb, Mx.un_two]
  rw [unshift_step _ _ _ _ _ (by decide) hv hu hb, Mx.un_fix b v hv h3, unshift_step _ _ _ _ _ (by decide) hv hu hb, Mx.un_fix b v hv h3, unshift_step _ _ _ _ _ (by decide) hv hu hb, Mx.un_fix b v hv h3, unshift_step _ _ _ _ _ (by decide) hv hu hb, Mx.un_fix b v hv h3, unshift_step _ _ _ _ _ (by decide) hv hu hb, Mx.un_fix b v hv h3, unshift_step _ _ _ _ _ (by decide) hv hu hb, Mx.un_fix b v hv h3]
  rw [spoorlaw21_unshift.l0, if_neg (by decide)]
theorem inv1 : spoorlaw21_inverse.f 9 11400714819323198485 = some 17428512612931826493 := by decide +kernel
theorem inv2 : spoorlaw21_inverse.f 9 7640891576956012809 = some 17228112808425395513 := by decide +kernel
theorem unshift9 (v b : Nat) (hv : v < 2 ^ 64) (hb : b ≤ 64) (h3 : 64 ≤ b + b + b) : spoorlaw21_unshift.f 9 v b = some ((Mx.un b v : Nat) : Int) := unshift_int v b hv hb h3 0
theorem unblend_gen (I1 I2 : Nat) (C1 C2 : Int) (h1 : spoorlaw21_inverse.f 9 C1 = some (I1 : Int)) (h2 : spoorlaw21_inverse.f 9 C2 = some (I2 : Int)) (m : Nat) (hm : m < 2 ^ 64) :
    ((spoorlaw21_unshift.f 9 (m : Int) ((32 : Nat) : Int)).bind fun t168 => ((spoorlaw21_inverse.f 9 C2).bind fun t169 => ((spoorlaw21_unshift.f 9 (IntKind.u64.wrap (t168 * t169)) ((29 : Nat) : Int)).bind fun t170 => ((spoorlaw21_inverse.f 9 C1).bind fun t171 => ((spoorlaw21_unshift.f 9 (IntKind.u64.wrap (t170 * t171)) ((31 : Nat) : Int)).bind fun t172 => (some t172))))))
      = some ((Mx.un 31 (Mx.mu I1 (Mx.un 29 (Mx.mu I2 (Mx.un 32 m)))) : Nat) : Int) := by
  rw [h1, h2, unshift9 m 32 hm (by decide) (by decide)]
  simp only [Option.bind_some]
  rw [mu_int, unshift9 _ 29 (Mx.mu_lt _ _) (by decide) (by decide)]
  simp only [Option.bind_some]
  rw [mu_int, unshift9 _ 31 (Mx.mu_lt _ _) (by decide) (by decide)]
  simp only [Option.bind_some]
theorem unblend_int (m : Nat) (hm : m < 2 ^ 64) : spoorlaw21_unblend.f 9 (m : Int) = some ((Mx.unblend m : Nat) : Int) :=
  unblend_gen 17428512612931826493 17228112808425395513 11400714819323198485 7640891576956012809 inv1 inv2 m hm
def namedN (mix lo : Nat) : Nat := (Mx.unblend mix + (2 ^ 64 - Mx.blend lo)) % 2 ^ 64
theorem namedN_lt (mix lo : Nat) : namedN mix lo < 2 ^ 64 := Nat.mod_lt _ (by decide)
theorem sub_wrap (u b : Nat) (hb : b < 2 ^ 64) (hu : u < 2 ^ 64) : IntKind.u64.wrap ((u : Int) - (b : Int)) = (((u + (2 ^ 64 - b)) % 2 ^ 64 : Nat) : Int) := by
  rw [wrap_u]
  omega
theorem named_gen (u b : Nat) (lo : Int) (hb : b < 2 ^ 64) (hu : u < 2 ^ 64) : ((some (u : Int)).bind fun t174 => ((some (b : Int)).bind fun t175 => (some (IntKind.u64.wrap (t174 - t175), lo)))) = some ((((u + (2 ^ 64 - b)) % 2 ^ 64 : Nat) : Int), lo) := by
  simp only [Option.bind_some]
  rw [sub_wrap u b hb hu]
theorem named_int (m lo : Nat) (hm : m < 2 ^ 64) (hl : lo < 2 ^ 64) : spoorlaw21_named.f 9 (m : Int) (lo : Int) = some (((namedN m lo : Nat) : Int), (lo : Int)) := by
  unfold spoorlaw21_named.f namedN
  rw [unblend_int m hm, rblend_eq, blend_int lo hl]
  exact named_gen _ _ _ (Mx.blend_lt hl) Mx.unblend_lt
theorem mix_named (m lo : Nat) (hm : m < 2 ^ 64) (hl : lo < 2 ^ 64) : mixN (namedN m lo) lo = m := by
  unfold mixN namedN
  have h1 := Mx.blend_lt hl
  have h2 : Mx.unblend m < 2 ^ 64 := Mx.unblend_lt
  have e : ((Mx.unblend m + (2 ^ 64 - Mx.blend lo)) % 2 ^ 64 + Mx.blend lo) % 2 ^ 64 = Mx.unblend m := by
    generalize Mx.blend lo = b at *
    generalize Mx.unblend m = u at *
    omega
  rw [e, Mx.blend_unblend hm]
theorem mix_inj (a b lo : Nat) (ha : a < 2 ^ 64) (hb : b < 2 ^ 64) (h : mixN a lo = mixN b lo) : a = b := by
  have := Mx.blend_inj (Nat.mod_lt _ (by decide)) (Nat.mod_lt _ (by decide)) h
  generalize Mx.blend lo = c at *
  omega
end Go.Proofs.YtdlnfmakfnggpaaDoor.Pr
