/- The keys of the store's maps. -/
import Derived.Test.YthdkgilpnkabmaaGreatDoorCh
import Derived.Test.YthdkgilpnkabmaaGreatDoorSg
import Derived.DeepKeys4
namespace Go.Proofs.YthdkgilpnkabmaaGreatDoor.Pr
open Go Go.RowKit Go.Proofs.YthdkgilpnkabmaaGreatDoorW.PrintWords Go.Proofs.YthdkgilpnkabmaaGreatDoorW.PrintMore
open Go.Maps (Keyed)
set_option linter.unusedVariables false
set_option linter.unusedSimpArgs false
theorem laid : laidOutB Tryz.prog = true := by kernel_rfl
theorem keyTr : Keyed Tryz.prog 33 := Keyed.of_law (deep_law_laid laid (m := 20) (by omega) (by decide +kernel) (by kernel_rfl) (by kernel_rfl))
theorem keyNm : Keyed Tryz.prog 118 := Keyed.of_law (deep_law_laid laid (m := 20) (by omega) (by decide +kernel) (by kernel_rfl) (by kernel_rfl))
theorem keyId : Keyed Tryz.prog 34 := Maps.int_keyed Tryz.underlying34
def mkTr (t : Int × Int) : Value := .agg #[.int .u64 t.1, .int .u64 t.2]
def mkNm (n : (Int × Int) × Int) : Value := .agg #[.int .u64 n.1.1, .int .u64 n.1.2, .int .u64 n.2]
def mkId (i : Int) : Value := .int .u64 i
theorem mkTr_inj {x y : Int × Int} (h : mkTr x = mkTr y) : x = y := by
  obtain ⟨a, b⟩ := x
  obtain ⟨c, d⟩ := y
  simpa [mkTr] using h
theorem mkNm_inj {x y : (Int × Int) × Int} (h : mkNm x = mkNm y) : x = y := by
  obtain ⟨⟨a, b⟩, e⟩ := x
  obtain ⟨⟨c, d⟩, f⟩ := y
  simp [mkNm] at h
  simp [h]
theorem mkId_inj {x y : Int} (h : mkId x = mkId y) : x = y := by simpa [mkId] using h
def wfI (i : Int) : Prop := (Lit.int .u64 i).wf = true
theorem keyId_mk {i : Int} (h : wfI i) : ∃ l, keyOf Tryz.prog 34 (mkId i) = some l := ⟨_, Maps.keyOf_int_mk Tryz.underlying34 h⟩
theorem depth : ∃ d, Tryz.prog.types.size + 1 = d + 6 := ⟨Tryz.prog.types.size - 5, by
  have : 5 ≤ Tryz.prog.types.size := of_decide_eq_true (by kernel_rfl)
  omega⟩
theorem lits_u64 (d : Nat) {i : Int} (h : wfI i) : Tryz.prog.keyLits (d + 1) 31 [.int .u64 i] = some [.int .u64 i] := by
  unfold Program.keyLits
  rw [Tryz.underlying31]
  exact if_pos ⟨rfl, h⟩
theorem lits_id (d : Nat) {i : Int} (h : wfI i) : Tryz.prog.keyLits (d + 1) 34 [.int .u64 i] = some [.int .u64 i] := by
  unfold Program.keyLits
  rw [Tryz.underlying34]
  exact if_pos ⟨rfl, h⟩
theorem lits_tr (d : Nat) {t : Int × Int} (h : wfI t.1) (h' : wfI t.2) : Tryz.prog.keyLits (d + 2) 33 [.int .u64 t.1, .int .u64 t.2] = some [.int .u64 t.1, .int .u64 t.2] := by
  unfold Program.keyLits
  rw [Tryz.underlying33]
  have e1 := lits_u64 d h
  have e2 := lits_u64 d h'
  have c1 : Tryz.prog.cellsOf 33 = 2 := by kernel_rfl
  have c2 : Tryz.prog.cellsOf 31 = 1 := by kernel_rfl
  simp [c1, c2, e1, e2]
theorem keyTr_mk {t : Int × Int} (h : wfI t.1) (h' : wfI t.2) : ∃ l, keyOf Tryz.prog 33 (mkTr t) = some l := by
  obtain ⟨d, hd⟩ := depth
  have e := lits_tr (d + 4) h h'
  have k : Tryz.prog.keyType 33 = true := by kernel_rfl
  have f : (mkTr t).formed Tryz.prog 33 = true := by unfold mkTr; kernel_rfl
  unfold keyOf
  rw [Tryz.underlying33]
  simp only [k, f, hd, Bool.and_self, if_true]
  exact ⟨_, by rw [show (mkTr t).cells.toList = [.int .u64 t.1, .int .u64 t.2] from rfl, e]; rfl⟩
theorem keyNm_mk {n : (Int × Int) × Int} (h : wfI n.1.1) (h' : wfI n.1.2) (h'' : wfI n.2) : ∃ l, keyOf Tryz.prog 118 (mkNm n) = some l := by
  obtain ⟨d, hd⟩ := depth
  have e1 := lits_tr (d + 3) h h'
  have e2 := lits_id (d + 4) h''
  have c1 : Tryz.prog.cellsOf 33 = 2 := by kernel_rfl
  have c2 : Tryz.prog.cellsOf 34 = 1 := by kernel_rfl
  have c3 : Tryz.prog.cellsOf 118 = 3 := by kernel_rfl
  have e : Tryz.prog.keyLits (d + 6) 118 [.int .u64 n.1.1, .int .u64 n.1.2, .int .u64 n.2] = some [.int .u64 n.1.1, .int .u64 n.1.2, .int .u64 n.2] := by
    unfold Program.keyLits
    rw [Tryz.underlying118]
    simp [c1, c2, c3, e1, e2]
  have k : Tryz.prog.keyType 118 = true := by kernel_rfl
  have f : (mkNm n).formed Tryz.prog 118 = true := by unfold mkNm; kernel_rfl
  unfold keyOf
  rw [Tryz.underlying118]
  simp only [k, f, hd, Bool.and_self, if_true]
  exact ⟨_, by rw [show (mkNm n).cells.toList = [.int .u64 n.1.1, .int .u64 n.1.2, .int .u64 n.2] from rfl, e]; rfl⟩
end Go.Proofs.YthdkgilpnkabmaaGreatDoor.Pr
