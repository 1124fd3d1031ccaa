/- The pure statement of SketchSums: in whatever order and in whatever parts values are put, the sketch is the same. -/
import Derived.Test.YtlnhpccapadpmaaPr2e
import Derived.Test.YtlnhpccapadpmaaMc
namespace Go.Proofs.Ytlnhpccapadpmaa.Pure
set_option linter.unusedVariables false
set_option linter.unusedSimpArgs false
open Go.RowKit Go.Proofs.Ytlnhpccapadpmaa.Pr Go.Proofs.YtlnhpccapadpmaaW.PrintWords Go.Proofs.YtlnhpccapadpmaaW.PrintLast

theorem swapAt_perm (xs : List S73) (a b : Nat) (ha : a < xs.length) (hb : b < xs.length) : (swapAt xs a b).Perm xs := by
  have h := Array.swap_perm (xs := xs.toArray) (i := a) (j := b) (by simpa using ha) (by simpa using hb)
  have e : swapAt xs a b = (xs.toArray.swap a b (by simpa using ha) (by simpa using hb)).toList := by
    simp [swapAt, Array.swap, List.getD, ha, hb]
  rw [e]
  exact h.toList
theorem moveAll_perm (t : List Int) : ∀ (xs : List S73) (i : Nat), (moveAll xs t i).Perm xs := by
  induction t with
  | nil => intro xs i; exact List.Perm.refl _
  | cons c t ih =>
    intro xs i
    simp only [moveAll]
    split
    · rename_i h
      have hr := pickV_range c xs.length h
      exact (ih _ _).trans (swapAt_perm xs _ _ (Nat.mod_lt _ h) (by omega))
    · exact List.Perm.refl _
theorem put_comm {r : List Int} (hr : Row r) {i j n m : Int} (hi : 0 ≤ i ∧ i < 1920) (hj : 0 ≤ j ∧ j < 1920) (hn : W n) (hm : W m) : putRow (putRow r i n) j m = putRow (putRow r j m) i n := by
  have hl := hr.1
  by_cases e : i.toNat = j.toNat
  · unfold putRow
    rw [e]
    have h1 : j.toNat < r.length := by omega
    have g : ∀ v : Int, (r.set j.toNat v).getD j.toNat 0 = v := fun v => by simp [List.getD, h1]
    rw [g, g, List.set_set, List.set_set]
    have hx : W (r.getD j.toNat 0) := okRow_get hr.ok _ (by omega)
    rw [satAdd_assoc hx hn hm, satAdd_assoc hx hm hn, satAdd_comm n m]
  · unfold putRow
    have g : ∀ v : Int, (r.set i.toNat v).getD j.toNat 0 = r.getD j.toNat 0 := fun v => by simp [List.getD, List.getElem?_set_ne e]
    have g2 : ∀ v : Int, (r.set j.toNat v).getD i.toNat 0 = r.getD i.toNat 0 := fun v => by simp [List.getD, List.getElem?_set_ne (Ne.symm e)]
    rw [g, g2, List.set_comm _ _ e]
theorem on_perm {l m : List S73} (h : l.Perm m) : (∀ x ∈ l, ok73 x) → ∀ r, Row r → rowOn r l = rowOn r m := by
  induction h with
  | nil => intro _ r _; rfl
  | cons x p ih =>
    intro hl r hr
    have hx := hl x List.mem_cons_self
    exact ih (fun y hy => hl y (List.mem_cons_of_mem _ hy)) _ (hr.put (add_bars hr (W_of_wf hx.1) (W_of_wf hx.2)).2 (W_of_wf hx.2))
  | swap x y l =>
    intro hl r hr
    have hx := hl x (by simp)
    have hy := hl y (by simp)
    have bx := (add_bars hr (W_of_wf hx.1) (W_of_wf hx.2)).2
    have by_ := (add_bars hr (W_of_wf hy.1) (W_of_wf hy.2)).2
    show rowOn (putRow (putRow r (barOf y.f0) y.f1) (barOf x.f0) x.f1) l = rowOn (putRow (putRow r (barOf x.f0) x.f1) (barOf y.f0) y.f1) l
    rw [put_comm hr by_ bx (W_of_wf hy.2) (W_of_wf hx.2)]
  | trans p q ih1 ih2 =>
    intro hl r hr
    rw [ih1 hl r hr, ih2 (fun x hx => hl x (p.mem_iff.2 hx)) r hr]
theorem zip_assoc (t : List Int) : ∀ (r s : List Int), (∀ x ∈ r, W x) → (∀ x ∈ s, W x) → (∀ x ∈ t, W x) → List.zipWith satAdd (List.zipWith satAdd r s) t = List.zipWith satAdd r (List.zipWith satAdd s t) := by
  induction t with
  | nil => intro r s _ _ _; simp
  | cons z t ih =>
    intro r s hr hs ht
    match r, s with
    | [], _ => simp
    | x :: r, [] => simp
    | x :: r, y :: s =>
      simp only [List.zipWith_cons_cons]
      rw [satAdd_assoc (hr x List.mem_cons_self) (hs y List.mem_cons_self) (ht z List.mem_cons_self), ih r s (fun w hw => hr w (List.mem_cons_of_mem _ hw)) (fun w hw => hs w (List.mem_cons_of_mem _ hw)) (fun w hw => ht w (List.mem_cons_of_mem _ hw))]
theorem zip_comm (r : List Int) : ∀ s : List Int, List.zipWith satAdd r s = List.zipWith satAdd s r := by
  induction r with
  | nil => intro s; simp
  | cons x r ih =>
    intro s
    match s with
    | [] => simp
    | y :: s => simp only [List.zipWith_cons_cons]; rw [satAdd_comm, ih]
theorem zip_zero (n : Nat) : ∀ r : List Int, r.length = n → (∀ x ∈ r, W x) → List.zipWith satAdd r (List.replicate n 0) = r := by
  induction n with
  | zero => intro r h _; have : r = [] := List.eq_nil_of_length_eq_zero h; subst this; rfl
  | succ n ih =>
    intro r h hr
    match r, h with
    | x :: r, h =>
      simp only [List.replicate_succ, List.zipWith_cons_cons]
      rw [satAdd_zero (hr x List.mem_cons_self), ih r (by simpa using h) (fun w hw => hr w (List.mem_cons_of_mem _ hw))]
theorem zip_zrow {r : List Int} (hr : Row r) : List.zipWith satAdd r zrow = r := zip_zero 1920 r hr.1 hr.2
theorem zip_put (k : Nat) (n : Int) (hn : W n) : ∀ (m : Nat) (r : List Int), r.length = m → (∀ x ∈ r, W x) → List.zipWith satAdd r ((List.replicate m 0).set k n) = r.set k (satAdd (r.getD k 0) n) := by
  induction k with
  | zero =>
    intro m r h hr
    match m, r, h with
    | 0, [], _ => rfl
    | m + 1, x :: r, h =>
      simp only [List.replicate_succ, List.set_cons_zero, List.zipWith_cons_cons]
      rw [zip_zero m r (by simpa using h) (fun w hw => hr w (List.mem_cons_of_mem _ hw))]
      rfl
  | succ k ih =>
    intro m r h hr
    match m, r, h with
    | 0, [], _ => rfl
    | m + 1, x :: r, h =>
      simp only [List.replicate_succ, List.set_cons_succ, List.zipWith_cons_cons]
      rw [satAdd_zero (hr x List.mem_cons_self), ih m r (by simpa using h) (fun w hw => hr w (List.mem_cons_of_mem _ hw))]
      simp
theorem put_zip {r : List Int} (hr : Row r) (i n : Int) (hi : 0 ≤ i ∧ i < 1920) (hn : W n) : List.zipWith satAdd r (putRow zrow i n) = putRow r i n := by
  unfold putRow
  have e : zrow.getD i.toNat 0 = 0 := by
    unfold zrow
    rw [List.getD_eq_getElem?_getD, List.getElem?_replicate]
    split <;> rfl
  have e2 : satAdd 0 n = n := by rw [satAdd_comm]; exact satAdd_zero hn
  rw [e, e2]
  exact zip_put i.toNat n hn 1920 r hr.1 hr.2
theorem Row.of {l : List S73} (hl : ∀ x ∈ l, ok73 x) : Row (rowOf l) := Row.on hl Row.zero
theorem on_zip (l : List S73) : (∀ x ∈ l, ok73 x) → ∀ r, Row r → rowOn r l = List.zipWith satAdd r (rowOf l) := by
  induction l with
  | nil => intro _ r hr; exact (zip_zrow hr).symm
  | cons x t ih =>
    intro hl r hr
    have hx := hl x List.mem_cons_self
    have ht : ∀ y ∈ t, ok73 y := fun y hy => hl y (List.mem_cons_of_mem _ hy)
    have bx := (add_bars hr (W_of_wf hx.1) (W_of_wf hx.2)).2
    have hz := Row.zero.put bx (W_of_wf hx.2)
    show rowOn (putRow r (barOf x.f0) x.f1) t = List.zipWith satAdd r (rowOn (putRow zrow (barOf x.f0) x.f1) t)
    rw [ih ht _ (hr.put bx (W_of_wf hx.2)), ih ht _ hz, ← zip_assoc _ _ _ hr.2 hz.2 (Row.of ht).2, put_zip hr _ _ bx (W_of_wf hx.2)]
theorem on_append (l m : List S73) (hl : ∀ x ∈ l, ok73 x) (hm : ∀ x ∈ m, ok73 x) : rowOf (l ++ m) = List.zipWith satAdd (rowOf l) (rowOf m) := by
  have e : rowOf (l ++ m) = rowOn (rowOf l) m := by unfold rowOf rowOn; rw [List.foldl_append]
  rw [e, on_zip m hm _ (Row.of hl)]
theorem wf_bd {x : Int} (hx : (Lit.int .i64 x).wf = true) : -9223372036854775808 ≤ x ∧ x ≤ 9223372036854775807 := by
  simp only [Lit.wf, IntKind.min, IntKind.max, IntKind.signed, IntKind.bits, Bool.and_eq_true, decide_eq_true_eq] at hx
  have h1 := hx.1
  have h2 := hx.2
  simp at h1 h2
  omega
theorem SketchSums : ∀ (l0 : List (S73)) (l1 : List Int) (a2 : Int) (a3 : Int), (((l0).length * Try.prog.bytesOf 73 ≤ reachBytes ∧ ∀ x ∈ l0, ok73 x)) → (((l1).length * Try.prog.bytesOf 3 ≤ reachBytes ∧ ∀ x ∈ l1, (Lit.int .i64 x).wf = true)) → ((Lit.int .i64 a2).wf = true) → ((Lit.int .i64 a3).wf = true) → ∃ k, spoorlaw13_SketchSums.f k l0 l1 a2 a3 = some true := by
  intro l0 l1 a2 a3 ⟨b0, h0⟩ ⟨b1, h1⟩ w2 w3
  have eb : Try.prog.bytesOf 73 = 16 := by kernel_rfl
  have eb3 : Try.prog.bytesOf 3 = 8 := by kernel_rfl
  have er : reachBytes = 140737488351232 := by decide
  rw [eb, er] at b0
  rw [eb3, er] at b1
  have bd := fun (x : Int) (hx : (Lit.int .i64 x).wf = true) => wf_bd hx
  obtain ⟨K, hK⟩ : ∃ K, l0.length + 4000 ≤ K := ⟨_, Nat.le_refl _⟩
  refine ⟨K, ?_⟩
  have aw : spoorlaw13_awake.f K = some true := at_rounds spoorlaw13_awake.mono (show 20 ≤ _ by omega) (by kernel_rfl)
  obtain ⟨p, hp, hp0, hp1⟩ : ∃ p, spoorlaw13_pick.f a2 ((l0.length : Int) + 1) = some p ∧ 0 ≤ p ∧ p < (l0.length : Int) + 1 := by
    have := pickV_eq a2 (l0.length + 1) (bd a2 w2).1 (by omega)
    push_cast at this
    have hr := pickV_range a2 (l0.length + 1) (by omega)
    exact ⟨_, this, hr.1, by omega⟩
  obtain ⟨n, rfl⟩ : ∃ n : Nat, p = n := ⟨p.toNat, by omega⟩
  obtain ⟨q, hq, hq0, hq1⟩ : ∃ p, spoorlaw13_pick.f a3 ((l0.length : Int) - n + 1) = some p ∧ 0 ≤ p ∧ p < (l0.length : Int) - n + 1 := by
    have := pickV_eq a3 (l0.length - n + 1) (bd a3 w3).1 (by omega)
    rw [show (((l0.length - n + 1 : Nat)) : Int) = (l0.length : Int) - n + 1 by omega] at this
    have hr := pickV_range a3 (l0.length - n + 1) (by omega)
    exact ⟨_, this, hr.1, by omega⟩
  obtain ⟨d, rfl⟩ : ∃ d : Nat, q = d := ⟨q.toNat, by omega⟩
  have hmv : spoorlaw13_moved.f l0 l1 = some (moveAll l0 l1 0) := by
    unfold spoorlaw13_moved.f
    rw [if_pos]
    simp only [Bool.and_eq_true, decide_eq_true_eq, List.all_eq_true]
    exact ⟨⟨by omega, by omega⟩, fun x hx => (bd x (h1 x hx)).1⟩
  have pm := moveAll_perm l1 l0 0
  have hm0 : ∀ x ∈ moveAll l0 l1 0, ok73 x := fun x hx => h0 x (pm.mem_iff.1 hx)
  have hpart : ∀ l : List S73, l.length ≤ l0.length → (∀ x ∈ l, ok73 x) → spoorlaw13_put.f K l = some (bars (rowOf l), true) := fun l hl hk => put_eq l hk (by omega) _ (by omega)
  have ht1 : ∀ x ∈ l0.take n, ok73 x := fun x hx => h0 x (List.mem_of_mem_take hx)
  have ht2 : ∀ x ∈ (l0.take (n + d)).drop n, ok73 x := fun x hx => h0 x (List.mem_of_mem_take (List.mem_of_mem_drop hx))
  have ht3 : ∀ x ∈ l0.drop (n + d), ok73 x := fun x hx => h0 x (List.mem_of_mem_drop hx)
  have e3 : wrap64 ((n : Int) + d) = ((n + d : Nat) : Int) := by rw [w64 (by omega) (by omega)]; omega
  have hn : n ≤ l0.length := by omega
  have hnd : n + d ≤ l0.length := by omega
  have i1 : (n : Int) ≤ ((n + d : Nat) : Int) := Int.ofNat_le.2 (Nat.le_add_right _ _)
  have i2 : ((n + d : Nat) : Int) ≤ (l0.length : Int) := Int.ofNat_le.2 hnd
  have i3 : (n : Int) ≤ (l0.length : Int) := Int.ofNat_le.2 hn
  have f1 : wrap64 ((l0.length : Int) + 1) = (l0.length : Int) + 1 := w64 (by omega) (by omega)
  have f2 : wrap64 ((l0.length : Int) - n) = (l0.length : Int) - n := w64 (by omega) (by omega)
  have f3 : wrap64 ((l0.length : Int) - n + 1) = (l0.length : Int) - n + 1 := w64 (by omega) (by omega)
  have hz0 := hpart l0 (Nat.le_refl _) h0
  have hz1 := hpart _ (Nat.le_of_eq pm.length_eq) hm0
  have hz2 := hpart _ (List.length_take_le' _ _) ht1
  have hz3 := hpart ((l0.take (n + d)).drop n) (by rw [List.length_drop]; exact Nat.le_trans (Nat.sub_le _ _) (List.length_take_le' _ _)) ht2
  have hz4 := hpart (l0.drop (n + d)) (by rw [List.length_drop]; exact Nat.sub_le _ _) ht3
  clear b0 b1 hp0 hp1 hq0 hq1 hpart
  unfold spoorlaw13_SketchSums.f
  rw [aw, f1, hp]
  simp only [Option.bind_some]
  rw [f2, f3, hq]
  simp only [Option.bind_some]
  rw [e3]
  rw [hz0, hmv]
  simp only [Option.bind_some]
  rw [hz1]
  simp only [Option.bind_some]
  rw [if_pos (Int.natCast_nonneg n), if_pos i3, Int.toNat_natCast, hz2]
  simp only [Option.bind_some]
  rw [if_pos i1, if_pos i2, Int.toNat_natCast, hz3]
  simp only [Option.bind_some]
  rw [if_pos (Int.natCast_nonneg _), hz4]
  simp only [Option.bind_some, if_true, Bool.not_true]
  have rl := Row.of h0
  have r1 := Row.of ht1
  have r2 := Row.of ht2
  have r3 := Row.of ht3
  have em : rowOf (moveAll l0 l1 0) = rowOf l0 := on_perm pm hm0 zrow Row.zero
  have e12 : rowOf (l0.take (n + d)) = List.zipWith satAdd (rowOf (l0.take n)) (rowOf ((l0.take (n + d)).drop n)) := by
    rw [← on_append _ _ ht1 ht2]
    have e : l0.take n = (l0.take (n + d)).take n := by rw [List.take_take, Nat.min_eq_left (by omega)]
    rw [e, List.take_append_drop]
  have e123 : rowOf l0 = List.zipWith satAdd (List.zipWith satAdd (rowOf (l0.take n)) (rowOf ((l0.take (n + d)).drop n))) (rowOf (l0.drop (n + d))) := by
    rw [← e12, ← on_append _ _ (fun x hx => h0 x (List.mem_of_mem_take hx)) ht3, List.take_append_drop]
  rw [em]
  generalize rowOf l0 = all at *
  generalize rowOf (l0.take n) = x at *
  generalize rowOf ((l0.take (n + d)).drop n) = y at *
  generalize rowOf (l0.drop (n + d)) = z at *
  obtain ⟨k, hk⟩ : ∃ k, K = k + 2 := ⟨K - 2, by omega⟩
  rw [hk]
  have hk1 : 3997 < k := by omega
  have rxy := r1.zip r2
  have ryz := r2.zip r3
  have e0 : ([] : List S61) = bars zrow := by kernel_rfl
  simp only [spoorlaw13_SketchSums.j0]
  rw [if_neg (by simp), merge_bars r1 r2]
  simp only [Option.bind_some]
  rw [merge_bars rxy r3, merge_bars r2 r3]
  simp only [Option.bind_some]
  rw [merge_bars r1 ryz, merge_bars r2 r1, e0, merge_bars rl Row.zero]
  simp only [Option.bind_some, if_true]
  rw [check_bars (rxy.zip r3), ← zip_assoc z x y r1.2 r2.2 r3.2, ← e123, zip_zrow rl, zip_comm y x]
  simp only [Option.bind_some, spoorlaw13_SketchSums.j1]
  have sb : ∀ r, Row r → spoorlaw13_sameBars.f k (bars r) (bars r) = some true := fun r hr => same_bars _ (by have := bars_len r hr; omega) _ (by have := bars_len r hr; omega)
  rw [if_neg (by simp), sb all rl, sb _ rxy]
  simp only [Option.bind_some, if_true]
end Go.Proofs.Ytlnhpccapadpmaa.Pure
