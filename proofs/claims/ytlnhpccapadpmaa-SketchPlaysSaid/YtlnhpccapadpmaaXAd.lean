/- The intrinsic bits.Add64, as a call that runs in place, in the print's form. -/
import Derived.Test.YtlnhpccapadpmaaPr0
import Derived.Laws.Externs
namespace Go.Proofs.Ytlnhpccapadpmaa.Pr
open Go.RowKit Go.Proofs.YtlnhpccapadpmaaW.PrintWords Go.Proofs.YtlnhpccapadpmaaW.PrintLast Go.Proofs.YtlnhpccapadpmaaW.PrintMore
set_option linter.unusedVariables false
set_option linter.unusedSimpArgs false

def M64 : Int := 18446744073709551615
def inW (n : Int) : Bool := decide (0 ≤ n) && decide (n ≤ M64)
/-- A call that runs here and now. -/
def CallsX (P : Program) (f : FuncId) (args : Array Value) (w : World) (R : Ending → World → Prop) : Prop :=
  ∃ v, (callFunc f args).run P w = .ok (.value v) w ∧ R (.returned v) w
theorem CallsX.mono {P : Program} {f : FuncId} {args : Array Value} {w : World} {R R' : Ending → World → Prop} (h : CallsX P f args w R) (hr : ∀ e w', R e w' → R' e w') : CallsX P f args w R' :=
  let ⟨v, h1, h2⟩ := h; ⟨v, h1, hr _ _ h2⟩
theorem goesX_ {P : Program} {ops : Array Oper} {Q : Exit → Act → World → Prop} {rest : List Oper} {oi : Oper} {a : Act} {w : World} (N : Option Tmp) (hd : oi.dst = N) (hg : oi.guard = none) {f : FuncId} {asx : Array Operand} {ts : Array TypeId} (args : Array Value)
    (hop : oi.op = .call { callee := .value (.func f), args := asx, argTypes := ts }) (hargs : asx.map a.eval = args)
    (h : CallsX P f args w fun e w' => ∃ v, e = .returned v ∧ wpList P ops Q rest (a.put N v) w') : wpList P ops Q (oi :: rest) a w := by
  refine wpList_plain hg fun K hK => ?_
  obtain ⟨v, hrun, v', hv, hk⟩ := h
  cases hv
  have hx : (execOp a.eval oi).run P w = .ok (.value v) w := by
    unfold execOp
    simp [hop, resolve, Deferred.ofValue, invoke, Act.eval, hargs, hrun]
  unfold Oper.wp
  rw [hx, Oper.upon_value]
  subst hd
  exact hK _ _ hk

def bits_Add64.f (x y c : Int) : Option (Int × Int) :=
  if (inW x && inW y && (decide (c = 0) || decide (c = 1))) = true then some (if x + y + c ≤ M64 then x + y + c else x + y + c - (M64 + 1), if x + y + c ≤ M64 then 0 else 1) else none
theorem add_lo (x y c : Int) (hx : 0 ≤ x ∧ x ≤ M64) (hy : 0 ≤ y ∧ y ≤ M64) (hc : c = 0 ∨ c = 1) : (x + y + c) % 18446744073709551616 = if x + y + c ≤ M64 then x + y + c else x + y + c - (M64 + 1) := by
  unfold M64 at *; split <;> omega
theorem add_hi (x y c : Int) (hx : 0 ≤ x ∧ x ≤ M64) (hy : 0 ≤ y ∧ y ≤ M64) (hc : c = 0 ∨ c = 1) : (x + y + c) / 18446744073709551616 = if x + y + c ≤ M64 then 0 else 1 := by
  unfold M64 at *; split <;> omega
theorem bits_Add64.run (x y c : Int) (r1 r2 : Int) (w : World) (h : bits_Add64.f x y c = some (r1, r2)) :
    (callFunc 34 #[.int .u64 x, .int .u64 y, .int .u64 c]).run Try.prog w = .ok (.value (.tuple #[.int .u64 r1, .int .u64 r2])) w := by
  unfold bits_Add64.f at h
  by_cases hs : (inW x && inW y && (decide (c = 0) || decide (c = 1))) = true
  · rw [if_pos hs] at h
    simp only [inW, Bool.and_eq_true, Bool.or_eq_true, decide_eq_true_eq] at hs
    obtain ⟨⟨hx, hy⟩, hc⟩ := hs
    have e1 := add_lo x y c hx hy hc
    have e2 := add_hi x y c hx hy hc
    obtain ⟨rfl, rfl⟩ := Prod.mk.inj (Option.some.inj h)
    unfold M64 at hx hy
    rw [run_callFunc_extern (P := Try.prog) Try.func34 (by kernel_rfl) (by kernel_rfl) (by kernel_rfl) (e := add64Entry) (by kernel_rfl)]
    rw [run_add64 x y c (by omega) (by omega) (by omega) (by omega), e1, e2]
    rfl
  · rw [if_neg hs] at h; exact absurd h (by simp)
theorem bits_Add64.calls (a0 a1 a2 : Int) (r1 r2 : Int) (w : World) (h : bits_Add64.f a0 a1 a2 = some (r1, r2)) :
    CallsX Try.prog 34 #[.int .u64 a0, .int .u64 a1, .int .u64 a2] w fun e w' => e = .returned (.tuple #[.int .u64 r1, .int .u64 r2]) ∧ Drawn0 w w' :=
  ⟨_, bits_Add64.run a0 a1 a2 r1 r2 w h, rfl, Drawn0.refl _⟩
end Go.Proofs.Ytlnhpccapadpmaa.Pr
