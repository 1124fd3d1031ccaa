/- Slices of memory of one's own that were clipped: their kind (read like any slice; made: cells of a typed block). Spans with such slices. -/
import Derived.Test.YthdkgilpnkabmaaGreatDoorK0
namespace Go.Proofs.YthdkgilpnkabmaaGreatDoorW.PrintWords
open Go Go.RowKit
set_option linter.unusedVariables false
set_option linter.unusedSimpArgs false
def VRow (w : World) (base : Nat) (e : TypeId) (size : Nat) (v : Value) (n : Nat) (xs : List Value) : Prop :=
  xs.length = n * size ∧ ∃ A c, v = .slice A n c ∧ n ≤ c ∧ n ≤ 9223372036854775807 ∧ (∀ a, A = some a → base ≤ a.block ∧ ∃ cur, w.heap[a.block]? = some (.cells cur e (0, 0))) ∧ (0 < n → ∃ ad, A = some ad ∧ ∀ j u, xs[j]? = some u → w.cell? (ad.add j) = some u)
section
variable {w w1 : World} {base n size : Nat} {e : TypeId} {v : Value} {xs : List Value}
theorem v_of_q (h : QRow w base e size v n xs) : VRow w base e size v n xs := by
  obtain ⟨A, c, rfl, hl⟩ := q_slice h
  refine ⟨h.1, A, c, rfl, hl, q_max h, fun a ha => ?_, fun hn => q_cells h hn⟩
  subst ha
  exact q_typed h a.block rfl
theorem v_move (h : VRow w base e size v n xs) (hm : ∀ k, v.ownBlock = some k → w1.heap[k]? = w.heap[k]?) : VRow w1 base e size v n xs := by
  obtain ⟨h1, A, c, rfl, hl, hx, hA, hc⟩ := h
  refine ⟨h1, A, c, rfl, hl, hx, fun a ha => ?_, fun hn => ?_⟩
  · obtain ⟨hb, cur, hh⟩ := hA a ha
    subst ha
    exact ⟨hb, cur, (hm a.block rfl).trans hh⟩
  · obtain ⟨ad, ha, hcc⟩ := hc hn
    subst ha
    refine ⟨ad, rfl, fun j u hu => ?_⟩
    have := hcc j u hu
    have hb : (ad.add j).block = ad.block := by unfold Addr.add; split <;> rfl
    unfold World.cell? at this ⊢
    rw [hb] at this ⊢
    rw [hm ad.block rfl]
    exact this
theorem v_typed (h : VRow w base e size v n xs) (k : Nat) (hk : v.ownBlock = some k) : base ≤ k ∧ ∃ cells, w.heap[k]? = some (.cells cells e (0, 0)) := by
  obtain ⟨h1, A, c, rfl, hl, hx, hA, hc⟩ := h
  cases A with
  | none => simp [Value.ownBlock] at hk
  | some a =>
    obtain rfl : a.block = k := by simpa [Value.ownBlock] using hk
    exact hA a rfl
theorem v_lower {base' : Nat} (h : VRow w base e size v n xs) (hb : base' ≤ base) : VRow w base' e size v n xs := by
  obtain ⟨h1, A, c, rfl, hl, hx, hA, hc⟩ := h
  exact ⟨h1, A, c, rfl, hl, hx, fun a ha => ⟨Nat.le_trans hb (hA a ha).1, (hA a ha).2⟩, hc⟩
end
namespace Kd
def Zv {α : Type} (d : Kd α) (e : Nat) (w : World) (base : Nat) (ok : Nat → Prop) (v : Value) (xs : List α) : Prop :=
  (∀ k, v.ownBlock = some k → ok k) ∧ ∃ inner, VRow w base e d.sz v xs.length inner ∧ Reps (d.M w base (fun k => ok k ∧ some k ≠ v.ownBlock)) d.sz xs inner
section
variable {α : Type} {d : Kd α} {e : Nat} {w w1 : World} {base : Nat} {ok ok' : Nat → Prop} {v : Value} {xs : List α}
theorem Zv_of_Q (h : d.Q e w base ok v xs) : d.Zv e w base ok v xs := by
  obtain ⟨h0, inner, ho, hr⟩ := h
  exact ⟨h0, inner, v_of_q ho, hr⟩
theorem Zv_of_R (h : d.R e w base ok v xs) : d.Zv e w base ok v xs := Zv_of_Q (Q_of_R h)
theorem Zv_clip {A : Option Addr} {n c : Nat} (h : d.Zv e w base ok (.slice A n c) xs) (c' : Nat) (hc : n ≤ c') : d.Zv e w base ok (.slice A n c') xs := by
  obtain ⟨h0, inner, ⟨h1, A', c1, he, hl, hx, hA, hcc⟩, hr⟩ := h
  injection he with h2 h3 h4
  subst h2
  subst h3
  have hown : (Value.slice A xs.length c').ownBlock = (Value.slice A xs.length c).ownBlock := by cases A <;> rfl
  exact ⟨fun k hk => h0 k (hown ▸ hk), inner, ⟨h1, A, c', rfl, hc, hx, hA, hcc⟩, hr.imp_ (fun _ _ hp => d.M_mono (fun k hk => ⟨hk.1, by rw [hown]; exact hk.2⟩) hp)⟩
theorem Zv_mono (h : d.Zv e w base ok v xs) (hok : ∀ k, ok k → ok' k) : d.Zv e w base ok' v xs := by
  obtain ⟨h0, inner, ho, hr⟩ := h
  exact ⟨fun k hk => hok k (h0 k hk), inner, ho, hr.imp_ (fun _ _ hp => d.M_mono (fun k hk => ⟨hok k hk.1, hk.2⟩) hp)⟩
theorem Zv_bound (h : d.Zv e w base ok v xs) : d.Zv e w base (fun k => ok k ∧ base ≤ k ∧ k < w.heap.size ∧ ∃ q, q ∈ e :: d.E ∧ ∃ cells, w.heap[k]? = some (.cells cells q (0, 0))) v xs := by
  obtain ⟨h0, inner, ho, hr⟩ := h
  refine ⟨fun k hk => ?_, inner, ho, hr.imp_ (fun _ _ hp => d.M_mono (fun k hk => ?_) (d.M_bound hp))⟩
  · obtain ⟨hb, cells, hc⟩ := v_typed ho k hk
    exact ⟨h0 k hk, hb, (Array.getElem?_eq_some_iff.1 hc).1, e, List.mem_cons_self, cells, hc⟩
  · obtain ⟨⟨h1, h2⟩, h3, h4, q, hq, hc⟩ := hk
    exact ⟨⟨h1, h3, h4, q, List.mem_cons_of_mem _ hq, hc⟩, h2⟩
theorem Zv_move (h : d.Zv e w base ok v xs) (hm : ∀ k, ok k → w1.heap[k]? = w.heap[k]?) : d.Zv e w1 base ok v xs := by
  obtain ⟨h0, inner, ho, hr⟩ := h
  exact ⟨h0, inner, v_move ho (fun k hk => hm k (h0 k hk)), hr.imp_ (fun _ _ hp => d.M_move (fun k hk => hm k hk.1) hp)⟩
theorem Zv_lower {base' : Nat} (h : d.Zv e w base ok v xs) (hb : base' ≤ base) : d.Zv e w base' ok v xs := by
  obtain ⟨h0, inner, ho, hr⟩ := h
  exact ⟨h0, inner, v_lower ho hb, hr.imp_ (fun _ _ hp => d.M_lower hb hp)⟩
theorem Zv_reads (h : d.Zv e w base ok v xs) : ∃ A c, v = .slice A xs.length c ∧ xs.length ≤ c ∧ d.C w A xs.length xs := by
  obtain ⟨_, inner, ⟨h1, A, c, rfl, hl, hx, hA, hcc⟩, hr⟩ := h
  refine ⟨A, c, rfl, hl, rfl, hx, fun hp => ?_⟩
  obtain ⟨ad, ha, hc⟩ := hcc hp
  refine ⟨ad, ha, fun j p hj => ⟨(inner.drop (j * d.sz)).take d.sz, ?_, d.K_of_M (hr.2 j p hj), fun i u hu => ?_⟩⟩
  · have hjl := (List.getElem?_eq_some_iff.1 hj).1
    have h1 : j * d.sz + d.sz ≤ inner.length := by rw [hr.1, ← Nat.succ_mul]; exact Nat.mul_le_mul_right _ hjl
    rw [List.length_take, List.length_drop]
    omega
  · refine hc _ u ?_
    rw [List.getElem?_take] at hu
    split at hu
    · rw [List.getElem?_drop] at hu
      exact hu
    · cases hu
end
/-- A slice whose row may have been clipped. -/
def sliceV {α : Type} (e : Nat) (d : Kd α) : Kd (List α) where
  sz := 1
  E := e :: d.E
  K := fun w xs cs => ∃ A c, cs = [.slice A xs.length c] ∧ xs.length ≤ c ∧ d.C w A xs.length xs
  M := fun w base ok xs cs => ∃ v, cs = [v] ∧ d.Zv e w base ok v xs
  K_len := by
    rintro w x cs ⟨A, c, rfl, _⟩
    rfl
  K_one := by
    rintro w x cs ⟨A, c, rfl, _⟩ u hu
    rw [List.mem_singleton.1 hu]
    rfl
  K_below := by
    rintro w w1 x cs hb ⟨A, c, rfl, hl, hr⟩
    exact ⟨A, c, rfl, hl, C_below hr hb⟩
  K_of_M := by
    rintro w base ok x cs ⟨v, rfl, h⟩
    obtain ⟨A, c, rfl, hl, hr⟩ := Zv_reads h
    exact ⟨A, c, rfl, hl, hr⟩
  M_mono := by
    rintro w base ok ok' x cs hok ⟨v, rfl, h⟩
    exact ⟨v, rfl, Zv_mono h hok⟩
  M_bound := by
    rintro w base ok x cs ⟨v, rfl, h⟩
    exact ⟨v, rfl, Zv_bound h⟩
  M_move := by
    rintro w w1 base ok x cs hm ⟨v, rfl, h⟩
    exact ⟨v, rfl, Zv_move h hm⟩
  M_lower := by
    rintro w base base' ok x cs hb ⟨v, rfl, h⟩
    exact ⟨v, rfl, Zv_lower h hb⟩
end Kd
end Go.Proofs.YthdkgilpnkabmaaGreatDoorW.PrintWords
namespace Go.Proofs.YthdkgilpnkabmaaGreatDoor.Pr
open Go Go.RowKit Go.Proofs.YthdkgilpnkabmaaGreatDoorW.PrintWords
set_option linter.unusedVariables false
set_option linter.unusedSimpArgs false
abbrev Sp := S41
abbrev At := S108
abbrev Ev := S111
abbrev kSp : Kd Sp := k41
abbrev kAt : Kd At := k108
abbrev kEv : Kd Ev := k111
/-- A span's cells. -/
abbrev cSp (x : Sp) (v4 v11 v12 : Value) : List Value := [.int .u64 x.f0.f0, .int .u64 x.f0.f1, .int .u64 x.f1, .int .u64 x.f2, v4, .string x.f4, .string x.f5, .int .i64 x.f6, .int .i64 x.f7, .int .i64 x.f8, .int .i64 x.f9, v11, v12]
/-- A span whose lists are one's own, clipped. -/
def kSq : Kd Sp := Kd.iso (Kd.pair k33 (Kd.pair (Kd.int .u64) (Kd.pair (Kd.int .u64) (Kd.pair (Kd.sliceV 34 (Kd.int .u64)) (Kd.pair Kd.string (Kd.pair Kd.string (Kd.pair (Kd.int .i64) (Kd.pair (Kd.int .i64) (Kd.pair (Kd.int .i64) (Kd.pair (Kd.int .i64) (Kd.pair (Kd.sliceV 108 kAt) (Kd.sliceV 111 kEv)))))))))))) (fun x : Sp => (x.f0, x.f1, x.f2, x.f3, x.f4, x.f5, x.f6, x.f7, x.f8, x.f9, x.f10, x.f11))
theorem kSq_K : kSq.K = kSp.K := rfl
theorem kSq_sz : kSq.sz = 13 := rfl
theorem kSq_E : kSq.E = [34, 108, 111] := rfl
theorem kSq_openM {w : World} {base : Nat} {ok : Nat → Prop} {x : Sp} {cs : List Value} (h : kSq.M w base ok x cs) : ∃ v4 v11 v12, cs = cSp x v4 v11 v12 ∧ (Kd.int .u64).Zv 34 w base ok v4 x.f3 ∧ kAt.Zv 108 w base ok v11 x.f10 ∧ kEv.Zv 111 w base ok v12 x.f11 := by
  obtain ⟨_, _, rfl, s0, ⟨_, _, rfl, rfl, ⟨_, _, rfl, rfl, ⟨_, _, rfl, ⟨v4, rfl, g4⟩, ⟨_, _, rfl, rfl, ⟨_, _, rfl, rfl, ⟨_, _, rfl, rfl, ⟨_, _, rfl, rfl, ⟨_, _, rfl, rfl, ⟨_, _, rfl, rfl, ⟨_, _, rfl, ⟨v11, rfl, g11⟩, ⟨v12, rfl, g12⟩⟩⟩⟩⟩⟩⟩⟩⟩⟩⟩⟩ := h
  obtain rfl := k33_openM s0
  exact ⟨v4, v11, v12, rfl, g4, g11, g12⟩
theorem kSq_mkM (w : World) (base : Nat) (ok : Nat → Prop) (x : Sp) {v4 : Value} (g4 : (Kd.int .u64).Zv 34 w base ok v4 x.f3) {v11 : Value} (g11 : kAt.Zv 108 w base ok v11 x.f10) {v12 : Value} (g12 : kEv.Zv 111 w base ok v12 x.f11) : kSq.M w base ok x (cSp x v4 v11 v12) :=
  ⟨[.int .u64 x.f0.f0, .int .u64 x.f0.f1], [.int .u64 x.f1, .int .u64 x.f2, v4, .string x.f4, .string x.f5, .int .i64 x.f6, .int .i64 x.f7, .int .i64 x.f8, .int .i64 x.f9, v11, v12], rfl, (k33_mkM w base ok x.f0), ⟨[.int .u64 x.f1], _, rfl, rfl, ⟨[.int .u64 x.f2], _, rfl, rfl, ⟨[v4], _, rfl, ⟨v4, rfl, g4⟩, ⟨[.string x.f4], _, rfl, rfl, ⟨[.string x.f5], _, rfl, rfl, ⟨[.int .i64 x.f6], _, rfl, rfl, ⟨[.int .i64 x.f7], _, rfl, rfl, ⟨[.int .i64 x.f8], _, rfl, rfl, ⟨[.int .i64 x.f9], _, rfl, rfl, ⟨[v11], [v12], rfl, ⟨v11, rfl, g11⟩, ⟨v12, rfl, g12⟩⟩⟩⟩⟩⟩⟩⟩⟩⟩⟩⟩
theorem kSp_of_sq {w : World} {base : Nat} {ok : Nat → Prop} {x : Sp} {cs : List Value} (h : kSq.M w base ok x cs) : kSp.K w x cs := kSq.K_of_M h
/-- A span's cells out of what is read. -/
theorem kSp_open' {w : World} {x : Sp} {cs : List Value} (h : kSp.K w x cs) : ∃ A4 c4 A11 c11 A12 c12, cs = cSp x (.slice A4 x.f3.length c4) (.slice A11 x.f10.length c11) (.slice A12 x.f11.length c12) ∧ x.f3.length ≤ c4 ∧ (Kd.int .u64).C w A4 x.f3.length x.f3 ∧ x.f10.length ≤ c11 ∧ kAt.C w A11 x.f10.length x.f10 ∧ x.f11.length ≤ c12 ∧ kEv.C w A12 x.f11.length x.f11 :=
  k41_open h
end Go.Proofs.YthdkgilpnkabmaaGreatDoor.Pr
