/- (*Store).room. -/
import Derived.Test.YthdkgilpnkabmaaGreatDoorSc
import Derived.BigRegion
namespace Go.Proofs.YthdkgilpnkabmaaGreatDoor.Pr
open Go Go.RowKit Go.Proofs.YthdkgilpnkabmaaGreatDoorW.PrintWords Go.Proofs.YthdkgilpnkabmaaGreatDoorW.PrintMore
open Go.Maps (Keyed)
open Rm Ps
set_option linter.unusedVariables false
set_option linter.unusedSimpArgs false
abbrev rdS (l : List Sp) (k : Nat) : Sp := rd_T41 l (k : Int)
theorem rdS_mem {l : List Sp} {k : Nat} (h : k < l.length) : rdS l k ∈ l := by simp [rd_T41, List.getD, h]
theorem rdS_at {l : List Sp} {k : Nat} (h : k < l.length) : rdS l k = l[k] := by simp [rd_T41, List.getD, h]
/-- A row of spans, element by element. -/
theorem spRow {w : World} {A : Option Addr} {l : List Sp} (hr : Kd.C kSp w A l.length l) (k : Nat) (hk : k < l.length) : ∃ ab ao, A = some ⟨ab, ao, none⟩ ∧ ab < w.heap.size ∧
    ∃ A4 c4 A11 c11 A12 c12, kSp.K w (rdS l k) (cSp (rdS l k) (.slice A4 (rdS l k).f3.length c4) (.slice A11 (rdS l k).f10.length c11) (.slice A12 (rdS l k).f11.length c12)) ∧
      ∀ i u, (cSp (rdS l k) (.slice A4 (rdS l k).f3.length c4) (.slice A11 (rdS l k).f10.length c11) (.slice A12 (rdS l k).f11.length c12))[i]? = some u → w.cell? ⟨ab, ao + k * 13 + i, none⟩ = some u := by
  obtain ⟨ad, A4, c4, A11, c11, A12, c12, hA, hx0, _⟩ := at_T41 hr 0 (by omega) (by omega)
  obtain ⟨ab, ao, sp⟩ := ad
  obtain rfl : sp = none := Go.Proofs.cell_spot hx0
  have hlt : ab < w.heap.size := World.block_lt_of_cell? w _ hx0
  refine ⟨ab, ao, hA, hlt, ?_⟩
  obtain ⟨ad, c, e, _, hK, hc⟩ := Kd.C_get hr z41 (k : Int) (by omega) (by omega)
  rw [hA] at e
  cases e
  obtain ⟨A4, c4, A11, c11, A12, c12, rfl, l4, g4, l11, g11, l12, g12⟩ := kSp_open' hK
  refine ⟨A4, c4, A11, c11, A12, c12, hK, fun i u hi => ?_⟩
  have := hc i u hi
  rw [Int.toNat_natCast, Addr.add_lit, ← Nat.add_assoc] at this
  exact this
theorem look_nil' {P : Program} {k t e : TypeId} (K : Keyed P k) (ht : P.underlying t = some (.map k e)) {w : World} {z : Value} (hz : (zeroValue e).run P w = .ok z w) {key : Value} {kl : Lit} (hkey : keyOf P k key = some kl) (c : Bool) :
    (Instr.lookup t (.map none) key c).run P w = .ok (if c then .tuple #[z, .bool false] else z) w := by
  rcases K.find w hkey [] (by simp) with ⟨h1, _⟩ | ⟨j, e0, _, h2, _⟩
  · simp [Instr.lookup, run_underlying ht, K.check w _ hkey, h1, hz, Result.andThen]
  · simp at h2
/-- What the store's two look-ups say of a span. -/
theorem Book.asks {w : World} {base s : Nat} {F : Nat → Prop} {L : List Sp} {tb : Nat} {T : List (Tr × Nat)} {I : Nat → List (Int × (Sp × List Value))} (B : Book w base s F L tb T I) (t : Tr) (i : Int) (h1 : wfI t.1) (h2 : wfI t.2) (h3 : wfI i) :
    ∃ (vT : Value) (a0 a1 a2 a3 : Int) (B4 : Option Addr) (n4 m4 : Nat) (t5 t6 : ByteArray) (a7 a8 a9 a10 : Int) (B11 : Option Addr) (n11 m11 : Nat) (B12 : Option Addr) (n12 m12 : Nat), ∀ V, Below w.heap.size w V →
      (Instr.lookup 74 (.map (some tb)) (.agg #[.int .u64 t.1, .int .u64 t.2]) false).run Tryz.prog V = .ok vT V ∧
      (Instr.lookup 79 vT (.int .u64 i) true).run Tryz.prog V = .ok (.tuple #[.agg #[.int .u64 a0, .int .u64 a1, .int .u64 a2, .int .u64 a3, .slice B4 n4 m4, .string t5, .string t6, .int .i64 a7, .int .i64 a8, .int .i64 a9, .int .i64 a10, .slice B11 n11 m11, .slice B12 n12 m12], .bool (getL nmS L (t, i)).isSome]) V := by
  obtain ⟨kt, hkt⟩ := keyTr_mk h1 h2
  obtain ⟨ki, hki⟩ := keyId_mk h3
  cases hT : getM T t with
  | none =>
    refine ⟨.map none, 0, 0, 0, 0, none, 0, 0, ⟨#[]⟩, ⟨#[]⟩, 0, 0, 0, 0, none, 0, 0, none, 0, 0, fun V hV => ⟨(B.traces.below hV).look_none keyTr Tryz.underlying74 (zero_tr _) false hkt mkTr_inj hT, ?_⟩⟩
    rw [B.get_no_trace hT i]
    exact look_nil' keyId Tryz.underlying79 (zero_sp _) hki true
  | some b =>
    cases hn : getL nmS L (t, i) with
    | none =>
      refine ⟨.map (some b), 0, 0, 0, 0, none, 0, 0, ⟨#[]⟩, ⟨#[]⟩, 0, 0, 0, 0, none, 0, 0, none, 0, 0, fun V hV => ⟨(B.traces.below hV).look_some keyTr Tryz.underlying74 (zero_tr _) false hkt mkTr_inj hT, ?_⟩⟩
      exact ((B.inner _ (getM_mem hT)).below hV).look_none keyId Tryz.underlying79 (zero_sp _) true hki mkId_inj (B.get_none hn hT)
    | some y =>
      obtain ⟨b', vy, hb', hiy, _, hiy2⟩ := B.get_some hn
      rw [hT] at hb'
      obtain rfl := Option.some.inj hb'
      obtain ⟨_, hyL, hMy, hoy⟩ := B.spans _ (getM_mem hT) _ hiy2
      obtain ⟨u4, u11, u12, huy, z4, z11, z12⟩ := kSq_openM hMy
      obtain ⟨D4, d4, rfl, _, _⟩ := Kd.Zv_reads z4
      obtain ⟨D11, d11, rfl, _, _⟩ := Kd.Zv_reads z11
      obtain ⟨D12, d12, rfl, _, _⟩ := Kd.Zv_reads z12
      refine ⟨.map (some b), y.f0.f0, y.f0.f1, y.f1, y.f2, D4, y.f3.length, d4, y.f4, y.f5, y.f6, y.f7, y.f8, y.f9, D11, y.f10.length, d11, D12, y.f11.length, d12, fun V hV => ⟨(B.traces.below hV).look_some keyTr Tryz.underlying74 (zero_tr _) false hkt mkTr_inj hT, ?_⟩⟩
      have := ((B.inner _ (getM_mem hT)).below hV).look_some keyId Tryz.underlying79 (zero_sp _) true hki mkId_inj hiy
      have huy : vy = cSp y (.slice D4 y.f3.length d4) (.slice D11 y.f10.length d11) (.slice D12 y.f11.length d12) := huy
      subst huy
      exact this
/-! ### the two counting maps -/
abbrev IsF (w : World) (b : Nat) (M : List (Nm × Int)) : Prop := MapIs w Tryz.prog 118 mkNm (Value.int .i64) b M
abbrev IsM (w : World) (b : Nat) (M : List (Tr × Int)) : Prop := MapIs w Tryz.prog 33 mkTr (Value.int .i64) b M
def ones (fr : List Nm) : List (Nm × Int) := fr.map (fun n => (n, (1 : Int)))
theorem ones_get (fr : List Nm) (n : Nm) : getM (ones fr) n = if n ∈ fr then some 1 else none := by
  split
  · rename_i h
    cases hg : getM (ones fr) n with
    | none => exact absurd rfl (getM_none.1 hg (n, 1) (List.mem_map.2 ⟨n, h, rfl⟩))
    | some v =>
      obtain ⟨m, _, he⟩ := List.mem_map.1 (getM_mem hg)
      simp only [Prod.mk.injEq] at he
      rw [← he.2]
  · rename_i h
    refine getM_none.2 (fun p hp => ?_)
    obtain ⟨m, hm, rfl⟩ := List.mem_map.1 hp
    exact fun e => h (e ▸ hm)
/-- more: how many new names each trace has. -/
def MoreOK (fr : List Nm) (Mo : List (Tr × Int)) : Prop := (∀ p ∈ Mo, p.2 = cntT fr p.1 ∧ 0 < p.2) ∧ ∀ n ∈ fr, getM Mo n.1 ≠ none
theorem MoreOK.nil : MoreOK [] [] := ⟨by simp, by simp⟩
theorem MoreOK.cur {fr : List Nm} {Mo : List (Tr × Int)} (h : MoreOK fr Mo) (t : Tr) : (getM Mo t).getD 0 = cntT fr t := by
  cases hg : getM Mo t with
  | some v => exact (h.1 _ (getM_mem hg)).1
  | none =>
    have : cntT fr t = 0 := by
      unfold cntT
      rw [List.length_eq_zero_iff, List.filter_eq_nil_iff]
      intro n hn e
      exact h.2 n hn (by rw [of_decide_eq_true e]; exact hg)
    rw [this]; rfl
theorem MoreOK.step {fr : List Nm} {Mo : List (Tr × Int)} (h : MoreOK fr Mo) (hn : (Mo.map Prod.fst).Nodup) (n : Nm) : MoreOK (fr ++ [n]) (setM Mo n.1 ((getM Mo n.1).getD 0 + 1)) := by
  have hc : ∀ t, cntT (fr ++ [n]) t = cntT fr t + if n.1 = t then 1 else 0 := fun t => by
    rw [cnt_append]
    congr 1
    unfold cntT
    by_cases e : n.1 = t <;> simp [e]
  refine ⟨fun p hp => ?_, fun m hm => ?_⟩
  · rcases mem_set.1 hp with rfl | ⟨hp, hne⟩
    · rw [h.cur]
      simp only
      rw [hc, if_pos rfl]
      omega
    · obtain ⟨h1, h2⟩ := h.1 p hp
      rw [hc, if_neg (fun e => hne e.symm)]
      exact ⟨by omega, h2⟩
  · rw [get_set hn]
    split
    · simp
    · rename_i hne
      rcases List.mem_append.1 hm with hm | hm
      · exact h.2 m hm
      · obtain rfl := List.mem_singleton.1 hm
        exact absurd rfl hne
theorem cnt_le (fr : List Nm) (t : Tr) : cntT fr t ≤ fr.length := List.length_filter_le _ _
end Go.Proofs.YthdkgilpnkabmaaGreatDoor.Pr
