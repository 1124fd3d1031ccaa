/- Contracts of package sketch: bars laid as a row of 1920 cells. -/
import Derived.Test.YtlnhpccapadpmaaPr0
import Derived.Test.YtlnhpccapadpmaaPr0a
import Derived.Lib.Hide
import Derived.Outline
import Derived.LoopTactic
namespace Go.Proofs.Ytlnhpccapadpmaa.Pr
open Go.RowKit Go.Proofs.YtlnhpccapadpmaaW.PrintWords Go.Proofs.YtlnhpccapadpmaaW.PrintLast Go.Proofs.YtlnhpccapadpmaaW.PrintMore
set_option linter.unusedVariables false
set_option linter.unusedSimpArgs false

/-- The cells of a row of 1920 numbers. -/
def rowCells (r : List Int) : Array Value := (r.map (Value.int .u64)).toArray
def zrow : List Int := List.replicate 1920 0
theorem zv76 (w : World) : (zeroValue 76).run Try.prog w = .ok (.agg (rowCells zrow)) w := by kernel_rfl

theorem wpList_alloc76 {w : World} {ops : Array Oper} {rest : List Oper} {o : Oper} {a : Act} {Q : Exit → Act → World → Prop}
    (hg : o.guard = none) (hop : o.op = Op.alloc 76)
    (h : wpList Try.prog ops Q rest (a.put o.dst (.pointer (some ⟨w.heap.size, 0, none⟩))) (w.alloc (.cells (rowCells zrow) 76))) :
    wpList Try.prog ops Q (o :: rest) a w := by
  refine wpList_plain hg fun K hK => ?_
  have hz := zv76 w
  have hc : (Value.agg (rowCells zrow)).cells = rowCells zrow := by kernel_rfl
  unfold Oper.wp
  simp only [execOp, hop]
  simp [Instr.alloc, hz, newVar, hc]
  exact hK _ _ h

def barsOK : Int → List S61 → Bool
  | _, [] => true
  | last, b :: t => !(decide (b.f0 ≤ last)) && !(decide (b.f0 ≥ 1920)) && !(b.f1 == 0) && barsOK b.f0 t
def laidRow : List Int → List S61 → List Int
  | r, [] => r
  | r, b :: t => laidRow (r.set b.f0.toNat b.f1) t

theorem rowCells_get (r : List Int) (i : Nat) (h : i < r.length) : (rowCells r)[i]? = some (.int .u64 (r.getD i 0)) := by
  simp [rowCells, List.getD, h]
theorem rowCells_set (r : List Int) (i : Nat) (v : Int) : (rowCells r).setIfInBounds i (.int .u64 v) = rowCells (r.set i v) := by
  simp [rowCells, List.map_set]
theorem drop_cons61 (l : List S61) (k : Nat) (h : k < l.length) : l.drop k = rd_T61 l k :: l.drop (k + 1) := by
  rw [List.drop_eq_getElem_cons h]
  simp [rd_T61, List.getD, h]

def LaidPost (w : World) (l0 : List S61) (e : Ending) (w' : World) : Prop := Below w.heap.size w w' ∧
      (barsOK (-1) l0 = false ∧ e = .returned (.tuple #[.pointer none, .bool false]) ∨ barsOK (-1) l0 = true ∧ ∃ g, e = .returned (.tuple #[.pointer (some ⟨g, 0, none⟩), .bool true]) ∧ w.heap.size ≤ g ∧ w'.heap[g]? = some (.cells (rowCells (laidRow zrow l0)) 76 (0, 0)))
theorem LaidPost.no {w w' : World} {l0 : List S61} (h1 : Below w.heap.size w w') (h2 : barsOK (-1) l0 = false) : LaidPost w l0 (.returned (.tuple #[.pointer none, .bool false])) w' := ⟨h1, .inl ⟨h2, rfl⟩⟩
theorem LaidPost.yes {w w' : World} {l0 : List S61} {g : Nat} (h1 : Below w.heap.size w w') (h2 : barsOK (-1) l0 = true) (h3 : w.heap.size ≤ g) (h4 : w'.heap[g]? = some (.cells (rowCells (laidRow zrow l0)) 76 (0, 0))) :
    LaidPost w l0 (.returned (.tuple #[.pointer (some ⟨g, 0, none⟩), .bool true])) w' := ⟨h1, .inr ⟨h2, g, rfl, h3, h4⟩⟩

set_option maxHeartbeats 1000000 in
set_option maxRecDepth 100000 in
theorem laid_any (A0 : Option Addr) (c0 : Nat) (l0 : List S61) (w : World) (hr0 : Kd.C k61 w A0 l0.length l0) (hc0 : l0.length ≤ c0) (hlen : l0.length ≤ 140737488355328) :
    Calls Try.prog 29 #[.slice A0 l0.length c0] w fun e w' => LaidPost w l0 e w' := by
  go_enter Try.func29, Try.ntmps29
  go_wp2_with (with_reducible refine wpList_alloc76 rfl rfl ?_)
  go_loopw [5, 10] (fun v5 v10 wr => ∃ (k : Nat) (last : Int) (row : List Int), v5 = .int .i64 last ∧ v10 = .int .i64 k ∧ k ≤ l0.length ∧ row.length = 1920 ∧ -1 ≤ last ∧
      Hid (barsOK (-1) l0 = barsOK last (l0.drop k)) ∧ Hid (laidRow zrow l0 = laidRow row (l0.drop k)) ∧ Hid (wr.heap[w.heap.size]? = some (.cells (rowCells row) 76 (0, 0))) ∧ Hid (Below w.heap.size w wr)) (fun _ v10 _ => l0.length - (intOf v10).toNat)
  case atStart => exact ⟨0, -1, zrow, rfl, rfl, Nat.zero_le _, by simp [zrow], by omega, Lib.hid (by simp), Lib.hid (by simp), Lib.hid (heap_alloc_new _ _), Lib.hid ((Below.refl _ _).alloc (Nat.le_refl _) _)⟩
  case round =>
    obtain ⟨k, last, row, rfl, rfl, hk, hrow, hlast, HO, HL, HG, HB⟩ := hrel
    by_cases hlt : k < l0.length
    · obtain ⟨ad, rfl, hx0, hx1⟩ := at_T61 (Kd.C_below hr0 HB.out) k (by omega) (by omega)
      have HD := Lib.hid (drop_cons61 l0 k hlt)
      simp only [Int.toNat_natCast] at hx0 hx1
      generalize rd_T61 l0 k = b at hx0 hx1 HD
      have hgs : w.heap.size < wr.heap.size := blk_lt HG.out
      by_cases h1 : b.f0 ≤ last
      · go_wp2
        go_ret2
        refine LaidPost.no ?_ ?_
        · exact (HB.out.alloc (by omega) _)
        · rw [HO.out, HD.out]; simp [barsOK, h1]
      by_cases h2 : b.f0 ≥ 1920
      · have h2' : 1920 ≤ b.f0 := h2
        go_wp2
        go_ret2
        refine LaidPost.no ?_ ?_
        · exact (HB.out.alloc (by omega) _)
        · rw [HO.out, HD.out]; simp [barsOK, h2']
      by_cases h3 : b.f1 = 0
      · have h3' : (b.f1 == 0) = true := by simp [h3]
        have H3 := Lib.hid h3; clear h3
        go_wp2
        go_ret2
        refine LaidPost.no ?_ ?_
        · exact (HB.out.alloc (by omega) _)
        · rw [HO.out, HD.out]; simp [barsOK, H3.out]
      have h3' : (b.f1 == 0) = false := by simp [h3]
      have hc := (cell_of_row wr w.heap.size b.f0.toNat _ _ _ HG.out).trans (rowCells_get row b.f0.toNat (by omega))
      have hf := blk_frozen HG.out b.f0.toNat
      go_wp2
      go_region
      all_goals go_wp2
      all_goals go_roundw
      case rel =>
        refine ⟨k + 1, b.f0, row.set b.f0.toNat b.f1, rfl, by go_num, by omega, by simp [hrow], by omega, ?_, ?_, ?_, ?_⟩
        · exact Lib.hid (by rw [HO.out, HD.out]; simp [barsOK]; omega)
        · exact Lib.hid (by rw [HL.out, HD.out]; rfl)
        · exact Lib.hid (blk_drew (blk_alloc (by rw [← rowCells_set]; exact heap_setCell_same wr w.heap.size _ _ 76 _ HG.out) _))
        · exact Lib.hid (((HB.out.setCell (Nat.le_refl _) _).alloc (by simp; omega) _).drew)
      case measure => simp [intOf]; omega
    · go_wp2
      go_ret2
      have hkl : k = l0.length := by omega
      subst hkl
      have e1 : l0.drop l0.length = [] := by simp
      exact LaidPost.yes HB.out (by rw [HO.out, e1]; rfl) (Nat.le_refl _) (by rw [HL.out, e1]; exact HG.out)
end Go.Proofs.Ytlnhpccapadpmaa.Pr
