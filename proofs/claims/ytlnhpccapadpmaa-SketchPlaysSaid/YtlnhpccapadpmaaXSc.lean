/- A script of calls: how it is read. -/
import Derived.Test.YtlnhpccapadpmaaPr0
import Derived.Test.YtlnhpccapadpmaaOpn
import Derived.Lib.LaidU8
namespace Go.Proofs.Ytlnhpccapadpmaa.Pr
open Go.RowKit Go.Deep Go.Proofs.YtlnhpccapadpmaaW.PrintWords Go.Proofs.YtlnhpccapadpmaaW.PrintLast Go.Proofs.YtlnhpccapadpmaaW.PrintMore
set_option linter.unusedVariables false
set_option linter.unusedSimpArgs false
/-- A slice that is read; a nil one has no room. -/
def sliceN {α : Type} (e : Nat) (d : Kd α) : Kd (List α) where
  sz := 1
  E := []
  K := fun w xs cs => (Kd.slice e d).K w xs cs ∧ ∀ n c, cs = [.slice none n c] → c = 0
  M := fun _ _ _ _ _ => False
  K_len := fun h => (Kd.slice e d).K_len h.1
  K_one := fun h => (Kd.slice e d).K_one h.1
  K_below := fun hb h => ⟨(Kd.slice e d).K_below hb h.1, h.2⟩
  K_of_M := fun h => h.elim
  M_mono := fun _ h => h
  M_bound := fun h => h
  M_move := fun _ h => h
  M_lower := fun _ h => h
structure S56 where
  f0 : Int
  f1 : Int
  f2 : List S61
  f3 : List S61
  f4 : Int
  f5 : Int
def z56 : S56 := ⟨0, 0, [], [], 0, 0⟩
def k56 : Kd S56 := Kd.iso (Kd.pair (Kd.int .i64) (Kd.pair (Kd.int .i64) (Kd.pair (sliceN 61 k61) (Kd.pair (sliceN 61 k61) (Kd.pair (Kd.int .u64) (Kd.int .u64)))))) (fun x : S56 => (x.f0, x.f1, x.f2, x.f3, x.f4, x.f5))
theorem k56_open {w : World} {x : S56} {cs : List Value} (h : k56.K w x cs) : ∃ A2 c2 A3 c3, cs = [.int .i64 x.f0, .int .i64 x.f1, .slice A2 x.f2.length c2, .slice A3 x.f3.length c3, .int .u64 x.f4, .int .u64 x.f5] ∧ x.f2.length ≤ c2 ∧ k61.C w A2 x.f2.length x.f2 ∧ (A2 = none → c2 = 0) ∧ x.f3.length ≤ c3 ∧ k61.C w A3 x.f3.length x.f3 ∧ (A3 = none → c3 = 0) := by
  obtain ⟨_, _, rfl, rfl, ⟨_, _, rfl, rfl, ⟨_, _, rfl, ⟨⟨A2, c2, rfl, l2, g2⟩, n2⟩, ⟨_, _, rfl, ⟨⟨A3, c3, rfl, l3, g3⟩, n3⟩, ⟨_, _, rfl, rfl, rfl⟩⟩⟩⟩⟩ := h
  exact ⟨A2, c2, A3, c3, rfl, l2, g2, fun e => n2 _ _ (by rw [e]), l3, g3, fun e => n3 _ _ (by rw [e])⟩
def rd_T56 (xs : List S56) (i : Int) : S56 := xs.getD i.toNat z56
theorem t56_at {w : World} {A : Option Addr} {n : Nat} {xs : List S56} (h : Kd.C k56 w A n xs) (k : Nat) (hk : k < n) : ∃ b o A2 c2 A3 c3, A = some ⟨b, o, none⟩ ∧
    w.cell? ⟨b, o + k * 6, none⟩ = some (.int .i64 (rd_T56 xs (k : Int)).f0) ∧ w.cell? ⟨b, o + k * 6 + 1, none⟩ = some (.int .i64 (rd_T56 xs (k : Int)).f1) ∧ w.cell? ⟨b, o + k * 6 + 2, none⟩ = some (.slice A2 (rd_T56 xs (k : Int)).f2.length c2) ∧
    w.cell? ⟨b, o + k * 6 + 3, none⟩ = some (.slice A3 (rd_T56 xs (k : Int)).f3.length c3) ∧ w.cell? ⟨b, o + k * 6 + 4, none⟩ = some (.int .u64 (rd_T56 xs (k : Int)).f4) ∧ w.cell? ⟨b, o + k * 6 + 5, none⟩ = some (.int .u64 (rd_T56 xs (k : Int)).f5) ∧
    (rd_T56 xs (k : Int)).f2.length ≤ c2 ∧ k61.C w A2 (rd_T56 xs (k : Int)).f2.length (rd_T56 xs (k : Int)).f2 ∧ (A2 = none → c2 = 0) ∧ (rd_T56 xs (k : Int)).f3.length ≤ c3 ∧ k61.C w A3 (rd_T56 xs (k : Int)).f3.length (rd_T56 xs (k : Int)).f3 ∧ (A3 = none → c3 = 0) := by
  obtain ⟨ad0, c0, e0, _, hK0, hc0⟩ := Kd.C_get h z56 0 (by omega) (by omega)
  obtain ⟨A2, c2, A3, c3, rfl, _⟩ := k56_open hK0
  obtain ⟨b, o, sp⟩ := ad0
  have y0 := hc0 0 _ rfl
  obtain rfl : sp = none := Go.Proofs.cell_spot (o := o) y0
  obtain ⟨ad, c, e, _, hK, hc⟩ := Kd.C_get h z56 (k : Int) (by omega) (by omega)
  rw [e0] at e
  cases e
  obtain ⟨A2, c2, A3, c3, rfl, r⟩ := k56_open hK
  have hc' : ∀ j u, _ → w.cell? ⟨b, o + (k * 6 + j), none⟩ = some u := fun j u hu => by
    have := hc j u hu
    rw [Int.toNat_natCast, Addr.add_lit] at this
    exact this
  exact ⟨b, o, A2, c2, A3, c3, e0, hc' 0 _ rfl, hc' 1 _ rfl, hc' 2 _ rfl, hc' 3 _ rfl, hc' 4 _ rfl, hc' 5 _ rfl, r⟩
namespace Opn
open Ytlnhpccapadpmaa.Opn
theorem opens_sliceN {P : Program} {t e : TypeId} {α : Type} {d : Kd α} {ok : α → Prop} (ht : P.underlying t = some (.slice e)) (he : Ytlnhpccapadpmaa.Opn.Opens P e d ok) (hsz : P.cellsOf e = d.sz) :
    Ytlnhpccapadpmaa.Opn.Opens P t (sliceN e d) (fun xs => xs.length * P.bytesOf e ≤ reachBytes ∧ ∀ x ∈ xs, ok x) := by
  intro H enc w fuel cs x h hz
  obtain ⟨a, ha, hok⟩ := Ytlnhpccapadpmaa.Opn.opens_slice ht he hsz H enc w fuel cs x h hz
  refine ⟨a, ⟨ha, fun n c hcs => ?_⟩, hok⟩
  rcases open_slice ht h with ⟨rfl, rfl⟩ | ⟨a', len, cap, m, n', D, Pl, rfl, _⟩
  · cases hcs; rfl
  · cases hcs
end Opn
end Go.Proofs.Ytlnhpccapadpmaa.Pr
