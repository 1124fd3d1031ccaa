/- Plain laws of sorted lists of chances: what is put in, cut at the most. Few.Merge, of two fews in memory (or one). Five fews in memory, and what is done with them. -/
import Derived.Test.YtdlnfmakfnggpaaDoorXPu
import Derived.Test.YtdlnfmakfnggpaaDoorXTs
namespace Go.Proofs.YtdlnfmakfnggpaaDoor.Pr
set_option linter.unusedVariables false
set_option linter.unusedSimpArgs false
def ins : List C3 → C3 → List C3
  | [], x => [x]
  | a :: r, x => if lt3 a x then a :: ins r x else if a = x then a :: r else x :: a :: r
theorem srt_cons {a : C3} {r : List C3} : Srt (a :: r) ↔ (∀ b ∈ r, lt3 a b) ∧ Srt r := List.pairwise_cons
theorem lt3_asymm {a b : C3} (h : lt3 a b) (k : lt3 b a) : False := lt3_irrefl a (lt3_trans h k)
theorem pos_zero {l : List C3} {x : C3} (h : ∀ b ∈ l, ¬ lt3 b x) : pos l x = 0 := by
  unfold pos
  rw [List.countP_eq_zero]
  intro b hb
  simpa using h b hb
theorem insL_ins : ∀ (l : List C3) (x : C3), Srt l → insL l x = ins l x
  | [], x, _ => by simp [insL, pos, HAt, ins]
  | a :: r, x, hs => by
    have hs' := srt_cons.1 hs
    have ih := insL_ins r x hs'.2
    by_cases h : lt3 a x
    · have hp : pos (a :: r) x = pos r x + 1 := by unfold pos; rw [List.countP_cons_of_pos (by simpa using h)]
      have hh : HAt (a :: r) x (pos r x + 1) = HAt r x (pos r x) := by
        unfold HAt
        simp
      simp only [ins, if_pos h, ← ih]
      unfold insL
      rw [hp, hh]
      split
      · rfl
      · simp
    · have hx : ∀ b ∈ a :: r, ¬ lt3 b x := by
        intro b hb hbx
        rcases List.mem_cons.1 hb with rfl | hb
        · exact h hbx
        · exact h (lt3_trans (hs'.1 b hb) hbx)
      have hp : pos (a :: r) x = 0 := pos_zero hx
      simp only [ins, if_neg h]
      unfold insL
      rw [hp]
      by_cases e : a = x
      · subst e; simp [HAt]
      · simp [HAt, e]
theorem mem_ins : ∀ (l : List C3) (x y : C3), y ∈ ins l x ↔ y = x ∨ y ∈ l
  | [], x, y => by simp [ins]
  | a :: r, x, y => by
    unfold ins
    split
    · rw [List.mem_cons, mem_ins r x y, List.mem_cons]
      constructor
      · rintro (h | h | h) <;> simp [h]
      · rintro (h | h | h) <;> simp [h]
    · split
      · rename_i _ e
        subst e
        simp
      · simp
theorem srt_ins : ∀ (l : List C3) (x : C3), Srt l → Srt (ins l x)
  | [], x, _ => by simp [ins, Srt]
  | a :: r, x, hs => by
    have hs' := srt_cons.1 hs
    unfold ins
    split
    · rename_i h
      refine srt_cons.2 ⟨fun b hb => ?_, srt_ins r x hs'.2⟩
      rcases (mem_ins r x b).1 hb with rfl | hb
      · exact h
      · exact hs'.1 b hb
    · rename_i h
      split
      · exact hs
      · rename_i e
        have hxa : lt3 x a := (lt3_total h).resolve_left e
        refine srt_cons.2 ⟨fun b hb => ?_, hs⟩
        rcases List.mem_cons.1 hb with rfl | hb
        · exact hxa
        · exact lt3_trans hxa (hs'.1 b hb)
theorem srt_take {l : List C3} (h : Srt l) (n : Nat) : Srt (l.take n) := h.sublist (List.take_sublist n l)
/-- The heads of sorted lists, one within the other. -/
theorem cut_within : ∀ (m : Nat) (U V : List C3), Srt U → Srt V → (∀ y ∈ V, y ∈ U) → (∀ y ∈ U.take m, y ∈ V) → V.take m = U.take m
  | 0, U, V, _, _, _, _ => by simp
  | m + 1, [], V, _, _, hVU, _ => by
    have : V = [] := by
      cases V with
      | nil => rfl
      | cons v V' => exact absurd (hVU v (by simp)) (by simp)
    rw [this]
  | m + 1, u :: U, V, hU, hV, hVU, hUV => by
    have hu := srt_cons.1 hU
    have huV : u ∈ V := hUV u (by simp)
    cases V with
    | nil => simp at huV
    | cons v V =>
      have hv := srt_cons.1 hV
      have e : v = u := by
        rcases List.mem_cons.1 huV with h | h
        · exact h.symm
        · rcases List.mem_cons.1 (hVU v (by simp)) with h2 | h2
          · exact h2
          · exact (lt3_asymm (hv.1 u h) (hu.1 v h2)).elim
      subst e
      rw [List.take_succ_cons, List.take_succ_cons, cut_within m U V hu.2 hv.2 (fun y hy => ?_) (fun y hy => ?_)]
      · rcases List.mem_cons.1 (hVU y (by simp [hy])) with h | h
        · subst h; exact (lt3_irrefl _ (hv.1 _ hy)).elim
        · exact h
      · have hyU : y ∈ U := List.mem_of_mem_take hy
        rcases List.mem_cons.1 (hUV y (by simp [hy])) with h | h
        · subst h; exact (lt3_irrefl _ (hu.1 _ hyU)).elim
        · exact h
/-- What is among the first of the greater list is among the first of the lesser. -/
theorem mem_cut : ∀ (m : Nat) (U W : List C3) (x : C3), Srt U → Srt W → (∀ y ∈ W, y ∈ U) → x ∈ W → x ∈ U.take m → x ∈ W.take m
  | 0, U, W, x, _, _, _, _, h => by simp at h
  | m + 1, [], W, x, _, _, _, _, h => by simp at h
  | m + 1, u :: U, W, x, hU, hW, hWU, hx, h => by
    have hu := srt_cons.1 hU
    cases W with
    | nil => simp at hx
    | cons w0 W =>
      have hw := srt_cons.1 hW
      rw [List.take_succ_cons] at h ⊢
      by_cases e : w0 = u
      · subst e
        rcases List.mem_cons.1 hx with rfl | hx
        · simp
        · rcases List.mem_cons.1 h with rfl | h
          · simp
          · refine List.mem_cons_of_mem _ (mem_cut m U W x hu.2 hw.2 (fun y hy => ?_) hx h)
            rcases List.mem_cons.1 (hWU y (by simp [hy])) with h2 | h2
            · subst h2; exact (lt3_irrefl _ (hw.1 _ hy)).elim
            · exact h2
      · have hw0 : w0 ∈ U := (List.mem_cons.1 (hWU w0 (by simp))).resolve_left e
        have hall : ∀ y ∈ w0 :: W, lt3 u y := fun y hy => by
          rcases List.mem_cons.1 hy with rfl | hy
          · exact hu.1 _ hw0
          · exact lt3_trans (hu.1 _ hw0) (hw.1 y hy)
        have hWU' : ∀ y ∈ w0 :: W, y ∈ U := fun y hy => (List.mem_cons.1 (hWU y hy)).resolve_left (fun e2 => by subst e2; exact lt3_irrefl _ (hall _ hy))
        have hxu : x ≠ u := fun e2 => by subst e2; exact lt3_irrefl _ (hall _ hx)
        have h' := mem_cut m U (w0 :: W) x hu.2 hW hWU' hx ((List.mem_cons.1 h).resolve_left hxu)
        cases m with
        | zero => simp at h'
        | succ m =>
          rw [List.take_succ_cons] at h'
          rcases List.mem_cons.1 h' with rfl | h'
          · simp
          · exact List.mem_cons_of_mem _ ((List.take_subset_take_left W (by omega)) h')
theorem cut_ins (m : Nat) (L : List C3) (x : C3) (h : Srt L) : (ins (L.take m) x).take m = (ins L x).take m := by
  refine cut_within m (ins L x) (ins (L.take m) x) (srt_ins L x h) (srt_ins _ x (srt_take h m)) (fun y hy => ?_) (fun y hy => ?_)
  · rcases (mem_ins _ _ _).1 hy with rfl | hy
    · exact (mem_ins _ _ _).2 (.inl rfl)
    · exact (mem_ins _ _ _).2 (.inr (List.mem_of_mem_take hy))
  · rcases (mem_ins _ _ _).1 (List.mem_of_mem_take hy) with rfl | hyL
    · exact (mem_ins _ _ _).2 (.inl rfl)
    · exact (mem_ins _ _ _).2 (.inr (mem_cut m (ins L x) L y (srt_ins L x h) h (fun z hz => (mem_ins _ _ _).2 (.inr hz)) hyL hy))
/-- What is put in, one by one. -/
def puts (m : Nat) (l xs : List C3) : List C3 := xs.foldl (fun a x => (insL a x).take m) l
def insAll (l xs : List C3) : List C3 := xs.foldl ins l
theorem srt_insAll : ∀ (xs l : List C3), Srt l → Srt (insAll l xs)
  | [], l, h => h
  | x :: r, l, h => srt_insAll r (ins l x) (srt_ins l x h)
theorem mem_insAll : ∀ (xs l : List C3) (y : C3), y ∈ insAll l xs ↔ y ∈ l ∨ y ∈ xs
  | [], l, y => by simp [insAll]
  | x :: r, l, y => by
    have := mem_insAll r (ins l x) y
    unfold insAll at this ⊢
    rw [List.foldl_cons, this, mem_ins, List.mem_cons]
    constructor
    · rintro ((h | h) | h) <;> simp [h]
    · rintro (h | h | h) <;> simp [h]
theorem srt_puts (m : Nat) : ∀ (xs l : List C3), Srt l → Srt (puts m l xs)
  | [], l, h => h
  | x :: r, l, h => srt_puts m r _ (srt_take (by rw [insL_ins l x h]; exact srt_ins l x h) m)
theorem puts_length (m : Nat) : ∀ (xs l : List C3), l.length ≤ m → (puts m l xs).length ≤ m
  | [], l, h => h
  | x :: r, l, h => puts_length m r _ (by rw [List.length_take]; omega)
theorem puts_cut (m : Nat) : ∀ (xs L : List C3), Srt L → puts m (L.take m) xs = (insAll L xs).take m
  | [], L, h => rfl
  | x :: r, L, h => by
    have := puts_cut m r (ins L x) (srt_ins L x h)
    unfold puts insAll at this ⊢
    rw [List.foldl_cons, List.foldl_cons, ← this, insL_ins _ x (srt_take h m), cut_ins m L x h]
theorem srt_eq {U V : List C3} (hU : Srt U) (hV : Srt V) (h : ∀ y, y ∈ U ↔ y ∈ V) : V = U := by
  have := cut_within (max U.length V.length) U V hU hV (fun y hy => (h y).2 hy) (fun y hy => (h y).1 (List.mem_of_mem_take hy))
  rwa [List.take_of_length_le (by omega), List.take_of_length_le (by omega)] at this
theorem srt_nil : Srt [] := List.Pairwise.nil
/-- The few of a set. -/
def top (m : Nat) (xs : List C3) : List C3 := (insAll [] xs).take m
theorem puts_nil (m : Nat) (xs : List C3) : puts m [] xs = top m xs := by
  have := puts_cut m xs [] srt_nil
  rwa [List.take_nil] at this
theorem puts_append (m : Nat) (l xs ys : List C3) : puts m l (xs ++ ys) = puts m (puts m l xs) ys := by unfold puts; rw [List.foldl_append]
theorem top_set (m : Nat) {xs ys : List C3} (h : ∀ y, y ∈ xs ↔ y ∈ ys) : top m xs = top m ys := by
  unfold top
  rw [srt_eq (srt_insAll ys [] srt_nil) (srt_insAll xs [] srt_nil) (fun y => by rw [mem_insAll, mem_insAll, h])]
theorem srt_top (m : Nat) (xs : List C3) : Srt (top m xs) := srt_take (srt_insAll xs [] srt_nil) m
theorem top_length (m : Nat) (xs : List C3) : (top m xs).length ≤ m := by unfold top; rw [List.length_take]; omega
theorem mem_top {m : Nat} {xs : List C3} {y : C3} (h : y ∈ top m xs) : y ∈ xs := by
  have := (mem_insAll xs [] y).1 (List.mem_of_mem_take h)
  simpa using this
/-- .. and of two fews that are merged. -/
theorem puts_top (m : Nat) (xs ys : List C3) : puts m (top m xs) (top m ys) = top m (xs ++ ys) := by
  have hx := srt_insAll xs [] srt_nil
  have hy := srt_insAll ys [] srt_nil
  unfold top
  rw [puts_cut m _ _ hx]
  have hU := srt_insAll (xs ++ ys) [] srt_nil
  refine cut_within m (insAll [] (xs ++ ys)) _ hU (srt_insAll _ _ hx) (fun y hy => ?_) (fun y hy => ?_)
  · rw [mem_insAll, mem_insAll] at hy
    rw [mem_insAll, List.mem_append]
    rcases hy with (hy | hy) | hy
    · exact .inl hy
    · exact .inr (.inl hy)
    · have h := (mem_insAll ys [] y).1 (List.mem_of_mem_take hy)
      exact h.imp id .inr
  · rw [mem_insAll]
    have h := (mem_insAll (xs ++ ys) [] y).1 (List.mem_of_mem_take hy)
    have h : y ∈ xs ++ ys := by simpa using h
    rcases List.mem_append.1 h with h | h
    · exact .inl ((mem_insAll _ _ _).2 (.inr h))
    · refine .inr (mem_cut m (insAll [] (xs ++ ys)) (insAll [] ys) y hU (srt_insAll ys [] srt_nil) (fun z hz => ?_) ((mem_insAll _ _ _).2 (.inr h)) hy)
      rw [mem_insAll] at hz ⊢
      rcases hz with hz | hz
      · exact .inl hz
      · exact .inr (List.mem_append_right _ hz)
end Go.Proofs.YtdlnfmakfnggpaaDoor.Pr
namespace Go.Proofs.YtdlnfmakfnggpaaDoor.Pr
open Go.RowKit Go.Lib Go.Proofs.YtdlnfmakfnggpaaDoorW.PrintWords
set_option linter.unusedVariables false
set_option linter.unusedSimpArgs false
theorem R26_kept {w W : World} {base base2 B : Nat} {v vt : Value} {most : Nat} {l : List C3} {xs : List S26} (h : Kd.R k26 26 w base2 (fun _ => True) vt xs) (hF : FewAt w base B v most l) (k : Kx w W (Foot B v)) : Kd.R k26 26 W base2 (fun _ => True) vt xs := by
  refine Kd.R_mono (Kd.R_step (Kd.R_bound h) (fun j hj hlt => k.block j hlt ?_)) (fun _ _ => trivial)
  obtain ⟨_, _, _, q, hq, cells, hc⟩ := hj
  have hq' : q = 26 := by
    have hE : k26.E = [] := rfl
    rw [hE] at hq
    simpa using hq
  subst hq'
  rintro (rfl | hv)
  · have := hc.symm.trans hF.blk
    simp at this
  · rcases hF.own.2 with ⟨rfl, _⟩ | ⟨g, cap, cur, rfl, hbg, hg, _⟩
    · simp [Value.ownBlock] at hv
    · simp [Value.ownBlock] at hv
      subst hv
      have := hc.symm.trans hg
      simp at this
def OwnF (w : World) (v v1 : Value) : Prop := v1.ownBlock = v.ownBlock ∨ ∃ k, v1.ownBlock = some k ∧ w.heap.size ≤ k
def MixOk (l : List C3) : Prop := ∀ c ∈ l, sample_Mix.f c.2.1 c.2.2 = some c.1
def MergeOwn (w : World) (base B : Nat) (v : Value) (most : Nat) (l l2 : List C3) (e : Ending) (w' : World) : Prop :=
  ∃ v', e = .returned (.int .i64 0) ∧ FewAt w' base B v' most (puts most l l2) ∧ Kx w w' (Foot B v) ∧ (v'.ownBlock = v.ownBlock ∨ ∃ k, v'.ownBlock = some k ∧ w.heap.size ≤ k)
theorem puts_succ (most : Nat) (l l2 : List C3) (i : Nat) (h : i < l2.length) : puts most l (l2.take (i + 1)) = (insL (puts most l (l2.take i)) l2[i]!).take most := by
  rw [List.take_succ_eq_append_getElem h, puts_append, getElem!_pos l2 i h]
  rfl
set_option maxHeartbeats 4000000 in
set_option maxRecDepth 100000 in
theorem merge_own (base B B2 : Nat) (v v2 : Value) (most : Nat) (l l2 : List C3) (hs : Srt l) (w : World) (hF : FewAt w base B v most l) (hF2 : FewAt w base B2 v2 most l2) (hl : l.length ≤ most) (hl2 : l2.length ≤ 1000) (hm1 : most ≤ 1000) (hbase : base ≤ w.heap.size) (hmix : MixOk l2) :
    Calls Tryd.prog 31 #[.pointer (some ⟨B, 0, none⟩), .pointer (some ⟨B2, 0, none⟩)] w (MergeOwn w base B v most l l2) := by
  have c0 : ∀ z : Wx w, z.W.cell? ⟨B, 0, none⟩ = some (.int .i64 most) := fun z => z.cell ((cell_of_row _ _ 0 _ _ _ hF.blk).trans rfl)
  have c1 : ∀ z : Wx w, z.W.cell? ⟨B2, 0, none⟩ = some (.int .i64 most) := fun z => z.cell ((cell_of_row _ _ 0 _ _ _ hF2.blk).trans rfl)
  have HT : Hid (∀ W, Below w.heap.size w W → Calls Tryd.prog 32 #[.pointer (some ⟨B2, 0, none⟩)] W (TrPost W l2)) := fun W hW => traces_own base B2 v2 most l2 W (hF2.kept (Kx.of_below hW (fun _ => False)) (fun _ _ h => h)) hl2
  have HF : Aside (FewAt w base B v most l) := hF
  have HP : Aside (∀ (W : World) (v1 : Value) (i : Nat), i < l2.length → FewAt W base B v1 most (puts most l (l2.take i)) → base ≤ W.heap.size → Calls Tryd.prog 30 #[.pointer (some ⟨B, 0, none⟩), .agg #[.int .u64 (l2[i]!).2.1, .int .u64 (l2[i]!).2.2]] W (PutOwn W base B v1 most (puts most l (l2.take i)) l2[i]!)) := fun W v1 i hi hW hb => by
    refine put_own base B v1 most _ (srt_puts most _ _ hs) _ _ _ W hW (puts_length most _ _ hl) hm1 hb ?_
    have h := hmix l2[i] (List.getElem_mem hi)
    rw [← getElem!_pos l2 i hi] at h
    exact h
  have HBS : Aside (base ≤ w.heap.size) := hbase
  clear hF hF2 hbase hmix hs hl
  go_enter Tryd.func31, Tryd.ntmps31
  go_wp2
  refine wp_region_ext (by kernel_rfl) (by kernel_rfl) ?_
  repeat (go_big_quiet_step (fail))
  refine wpQuiet_nil ?_
  intro _ hw'
  obtain ⟨zz, rfl⟩ := hw'
  have HBZ := Lib.hid zz.h
  clear c0 c1
  generalize zz.W = W1 at *
  go_wp2_with fail
  refine (HT.out _ HBZ.out).mono ?_
  rintro e w1 ⟨vt, rfl, hR, hB1⟩
  have HBW : Below w.heap.size w w1 := HBZ.out.trans (hB1.mono HBZ.out.size)
  have HR0 : Aside (Kd.R k26 26 w1 W1.heap.size (fun _ => True) vt (ids l2)) := hR
  have HF0 : Aside (FewAt w1 base B v most (puts most l (l2.take 0))) := HF.kept (Kx.of_below HBW (fun _ => False)) (fun _ _ h => h)
  have HK0 : Aside (Kx w w1 (Foot B v)) := Kx.of_below HBW _
  have HV0 : Aside (OwnF w v v) := Or.inl rfl
  obtain ⟨A, c, hv⟩ := Kd.R_slice hR
  have hidl : (ids l2).length = l2.length := by unfold ids; rw [List.length_map]
  rw [hidl] at hv
  subst hv
  have HIL : Aside _ := hidl
  clear hidl
  clear hB1 hR HBW HF HT HBZ
  generalize hn : l2.length = n at *
  have HN : Aside (l2.length = n) := hn
  clear hn
  go_wp2_with fail
  go_loopg [23] n (fun kx s23 wr => ∃ (i : Nat) (v1 : Value), s23 = .int .i64 i ∧ i ≤ n ∧ n - i ≤ kx ∧ Aside (FewAt wr base B v1 most (puts most l (l2.take i))) ∧ Aside (Kx w wr (Foot B v)) ∧ Aside (OwnF w v v1) ∧ Aside (Kd.R k26 26 wr W1.heap.size (fun _ => True) (.slice A n c) (ids l2)))
  case atStart => exact ⟨0, v, rfl, Nat.zero_le _, by omega, HF0, HK0, HV0, HR0⟩
  case round =>
    clear HF0 HK0 HV0 HR0
    obtain ⟨i, v1, rfl, hin, hg, HF1, HK1, HV1, HR1⟩ := hrel
    by_cases hlt : i < n
    · have HPut := fun W hW hb => HP.out W v1 i (by have := HN.out; omega) hW hb
      have Y := puts_succ most l l2 i (by have := HN.out; omega)
      have HY : Aside _ := Y
      have hC := (Kd.R_reads' HR1.out).2.2
      obtain ⟨ad, rfl, e0, e1⟩ := at_T26 hC (i : Int) (by omega) (by have h1 := HIL.out; have := HN.out; omega)
      have hrd : rd_T26 (ids l2) (i : Int) = idOf l2[i]! := by
        have hil : i < l2.length := by have := HN.out; omega
        rw [getElem!_pos l2 i hil]
        simp [rd_T26, ids, List.getD, hil]
      rw [hrd] at e0 e1
      generalize l2[i]! = y at *
      obtain ⟨ym, yh, yl⟩ := y
      simp only [idOf, Int.toNat_natCast] at e0 e1
      have HQ : Hid (∀ (W : World), Below wr.heap.size wr W → Calls Tryd.prog 30 #[.pointer (some ⟨B, 0, none⟩), .agg #[.int .u64 yh, .int .u64 yl]] W fun e w' => ∃ bb v', e = .returned (.bool bb) ∧ FewAt w' base B v' most (puts most l (l2.take (i + 1))) ∧ Kx w w' (Foot B v) ∧ OwnF w v v' ∧ Kd.R k26 26 w' W1.heap.size (fun _ => True) (.slice (some ad) n c) (ids l2)) := fun W hW => by
        have hFW : FewAt W base B v1 most (puts most l (l2.take i)) := HF1.kept (Kx.of_below hW (fun _ => False)) (fun _ _ h => h)
        have hsz := HK1.size
        have hsz2 := hW.size
        refine (HPut W hFW (by have := HBS.out; omega)).mono ?_
        rintro e w' ⟨v', rfl, hF', hK', hv'⟩
        refine ⟨_, v', rfl, ?_, ?_, ?_, R26_kept (Kd.R_below HR1 hW) hFW hK'⟩
        · rw [show puts most l (l2.take (i + 1)) = _ from HY]; exact hF'
        · refine (HK1.then_ (Kx.of_below hW (fun _ => False)) (fun _ h => h.elim)).then_ hK' (fun k hk => ?_)
          rcases hk with rfl | hk
          · exact .inl (.inl rfl)
          · rcases HV1 with h1 | ⟨k', h1, h2⟩
            · exact .inl (.inr (by rw [← h1]; exact hk))
            · rw [h1] at hk; simp at hk; subst hk; exact .inr h2
        · rcases hv' with h1 | ⟨k', h1, h2⟩
          · rcases HV1 with h3 | ⟨k', h3, h4⟩
            · exact .inl (h1.trans h3)
            · exact .inr ⟨k', h1.trans h3, h4⟩
          · exact .inr ⟨k', h1, by omega⟩
      clear HF1 HK1 HV1 HR1 HPut HY Y hrd hC HP
      go_wp2_with (first
        | ((with_reducible refine gate_dst (N := 6) rfl ?_); refine box_event ?hg (N := 6) ?hd (cs := #[.int .u64 0, .int .u64 0]) (t := 26) ?hr ?_; (case hd => rfl); (case hg => rfl); (case hr => first | (go_simp; done) | (go_simp; rfl)); intro gb hgb w8 hbox hb8
           have HB8 := Aside0.mk hb8; have GE := Aside0.mk (show wr.heap.size ≤ gb by rw [hgb]; exact Nat.le_refl _)
           have q0 : w8.cell? ⟨gb, 0, none⟩ = some (.int .u64 0) := (blk_cell hbox 0).trans rfl
           have q1 : w8.cell? ⟨gb, 1, none⟩ = some (.int .u64 0) := (blk_cell hbox 1).trans rfl
           have f0 := blk_frozen hbox 0; have f1 := blk_frozen hbox 1
           have HW8 := Aside0.mk (below_set (j := 1) (v := .int .u64 yl) (below_set (j := 0) (v := .int .u64 yh) hb8 GE.out) GE.out)
           have r0 : ((w8.setCell ⟨gb, 0, none⟩ (.int .u64 yh)).setCell ⟨gb, 1, none⟩ (.int .u64 yl)).cell? ⟨gb, 0, none⟩ = some (.int .u64 yh) := (blk_cell (blk_set (blk_set hbox 0 (.int .u64 yh)) 1 (.int .u64 yl)) 0).trans rfl
           have r1 : ((w8.setCell ⟨gb, 0, none⟩ (.int .u64 yh)).setCell ⟨gb, 1, none⟩ (.int .u64 yl)).cell? ⟨gb, 1, none⟩ = some (.int .u64 yl) := (blk_cell (blk_set (blk_set hbox 0 (.int .u64 yh)) 1 (.int .u64 yl)) 1).trans rfl
           clear hbox hb8 hgb)
        | (go_at_call 30; refine (HQ.out _ HW8.out).mono ?_; rintro e w9 ⟨bb, v', rfl, hF', hK', hV', hR'⟩
           have HF2 : Aside _ := hF'; have HK2 : Aside _ := hK'; have HV2 : Aside _ := hV'; have HR2 : Aside _ := hR'
           clear hF' hK' hV' hR' q0 q1 f0 f1 r0 r1))
      go_roundg (n - (i + 1))
      case measure => omega
      case rel => exact ⟨i + 1, v', rfl, by omega, Nat.le_refl _, HF2, HK2, HV2, HR2⟩
    · have : i = n := by omega
      subst this
      have HE : MergeOwn w base B v most l l2 (.returned (.int .i64 0)) wr := ⟨v1, rfl, by have h := HF1.out; rwa [List.take_of_length_le (by rw [HN.out]; exact Nat.le_refl _)] at h, HK1.out, HV1.out⟩
      have HE' := Lib.hid HE
      clear HE
      go_wp2
      go_ret
      exact HE'.out
end Go.Proofs.YtdlnfmakfnggpaaDoor.Pr
namespace Go.Proofs.YtdlnfmakfnggpaaDoor.Pr
open Go.RowKit Go.Lib Go.Proofs.YtdlnfmakfnggpaaDoorW.PrintWords
set_option linter.unusedVariables false
set_option linter.unusedSimpArgs false
def upd (L : Nat → List C3) (i : Nat) (x : List C3) : Nat → List C3 := fun j => if j = i then x else L j
theorem upd_same (L : Nat → List C3) (i : Nat) (x : List C3) : upd L i x i = x := by simp [upd]
theorem upd_ne (L : Nat → List C3) {i j : Nat} (x : List C3) (h : j ≠ i) : upd L i x j = L j := by simp [upd, h]
/-- N fews whose blocks are b 0, b 1, .., apart from one another, all new since w0. -/
def Fews (N : Nat) (w0 W : World) (b : Nat → Nat) (most : Nat) (L : Nat → List C3) : Prop :=
  Below w0.heap.size w0 W ∧ ∃ v : Nat → Value, (∀ i, i < N → w0.heap.size ≤ b i ∧ FewAt W w0.heap.size (b i) (v i) most (L i) ∧ Srt (L i) ∧ (L i).length ≤ most ∧ MixOk (L i)) ∧
    ∀ i, i < N → ∀ j, j < N → i ≠ j → ∀ k, Foot (b i) (v i) k → ¬ Foot (b j) (v j) k
section
variable {N : Nat} {w0 W W' : World} {b : Nat → Nat} {most : Nat} {L : Nat → List C3}
theorem Fews.kept {S : Nat → Prop} (h : Fews N w0 W b most L) (hk : Kx W W' S) (hS : ∀ k, S k → w0.heap.size ≤ k) (hn : ∀ i, i < N → ∀ v, FewAt W w0.heap.size (b i) v most (L i) → ∀ k, Foot (b i) v k → ¬ S k) : Fews N w0 W' b most L := by
  obtain ⟨hb, v, hf, hd⟩ := h
  exact ⟨hb.trans (hk.below hb.size hS), v, fun i hi => ⟨(hf i hi).1, (hf i hi).2.1.kept hk (hn i hi _ (hf i hi).2.1), (hf i hi).2.2⟩, hd⟩
theorem Fews.below (h : Fews N w0 W b most L) (hb : Below W.heap.size W W') : Fews N w0 W' b most L :=
  h.kept (Kx.of_below hb (fun _ => False)) (fun _ h => h.elim) (fun _ _ _ _ _ _ h => h)
theorem foot_ge {base B : Nat} {v : Value} {l : List C3} (hB : base ≤ B) (h : FewAt W base B v most l) : ∀ k, Foot B v k → base ≤ k := fun k hk => by
  rcases hk with rfl | hk
  · exact hB
  · exact (h.own.lt k hk).1
theorem foot_lt {base B : Nat} {v : Value} {l : List C3} (h : FewAt W base B v most l) : ∀ k, Foot B v k → k < W.heap.size := fun k hk => by
  rcases hk with rfl | hk
  · exact blk_lt h.blk
  · exact (h.own.lt k hk).2
/-- One of them was changed. -/
theorem fews_step {i : Nat} {v : Nat → Value} {v' : Value} {l' : List C3} (hb : Below w0.heap.size w0 W) (hf : ∀ i, i < N → w0.heap.size ≤ b i ∧ FewAt W w0.heap.size (b i) (v i) most (L i) ∧ Srt (L i) ∧ (L i).length ≤ most ∧ MixOk (L i))
    (hd : ∀ i, i < N → ∀ j, j < N → i ≠ j → ∀ k, Foot (b i) (v i) k → ¬ Foot (b j) (v j) k) (hi : i < N) (hF : FewAt W' w0.heap.size (b i) v' most l') (hK : Kx W W' (Foot (b i) (v i))) (hv : OwnF W (v i) v')
    (hs : Srt l') (hl : l'.length ≤ most) (hm : MixOk l') : Fews N w0 W' b most (upd L i l') := by
  have hfoot : ∀ k, Foot (b i) v' k → Foot (b i) (v i) k ∨ W.heap.size ≤ k := fun k hk => by
    rcases hk with rfl | hk
    · exact .inl (.inl rfl)
    · rcases hv with h1 | ⟨k', h1, h2⟩
      · exact .inl (.inr (by rw [← h1]; exact hk))
      · rw [h1] at hk; simp at hk; subst hk; exact .inr h2
  refine ⟨hb.trans (hK.below hb.size (foot_ge (hf i hi).1 (hf i hi).2.1)), fun j => if j = i then v' else v j, fun j hj => ?_, fun j hj j' hj' hne k hk1 hk2 => ?_⟩
  · by_cases e : j = i
    · subst e
      simp only [if_true, upd_same]
      exact ⟨(hf j hj).1, hF, hs, hl, hm⟩
    · simp only [if_neg e, upd_ne L l' e]
      exact ⟨(hf j hj).1, (hf j hj).2.1.kept hK (fun k hk hk2 => hd j hj i hi e k hk hk2), (hf j hj).2.2⟩
  · by_cases e : j = i
    · subst e
      simp only [if_true] at hk1
      simp only [if_neg (Ne.symm hne)] at hk2
      rcases hfoot k hk1 with h | h
      · exact hd j hj j' hj' hne k h hk2
      · have := foot_lt (hf j' hj').2.1 k hk2; omega
    · simp only [if_neg e] at hk1
      by_cases e2 : j' = i
      · subst e2
        simp only [if_true] at hk2
        rcases hfoot k hk2 with h | h
        · exact hd j hj j' hj' hne k hk1 h
        · have := foot_lt (hf j hj).2.1 k hk1; omega
      · simp only [if_neg e2] at hk2
        exact hd j hj j' hj' hne k hk1 hk2
theorem mixOk_insL {l : List C3} {x : C3} (hs : Srt l) (h : MixOk l) (hx : sample_Mix.f x.2.1 x.2.2 = some x.1) : MixOk ((insL l x).take most) := fun c hc => by
  have hc := List.mem_of_mem_take hc
  rw [insL_ins l x hs] at hc
  rcases (mem_ins l x c).1 hc with rfl | hc
  · exact hx
  · exact h c hc
theorem mixOk_puts : ∀ {l2 l : List C3}, Srt l → MixOk l → MixOk l2 → MixOk (puts most l l2)
  | [], l, hs, h, h2 => h
  | x :: r, l, hs, h, h2 => mixOk_puts (l2 := r) (l := (insL l x).take most) (srt_take (by rw [insL_ins l x hs]; exact srt_ins l x hs) most) (mixOk_insL hs h (h2 x (by simp))) (fun c hc => h2 c (by simp [hc]))
/-- Arrays of fews are as they were. -/
def Far75 (W W' : World) : Prop := ∀ (g : Nat) (cs : Array Value), W.heap[g]? = some (.cells cs 75 (0, 0)) → W'.heap[g]? = some (.cells cs 75 (0, 0))
theorem far75 {base B : Nat} {v : Value} {l : List C3} (hF : FewAt W base B v most l) (hK : Kx W W' (Foot B v)) : Far75 W W' := fun g cs hg => by
  refine (hK.block g (blk_lt hg) ?_).trans hg
  rintro (rfl | hv)
  · have := hg.symm.trans hF.blk
    simp at this
  · rcases hF.own.2 with ⟨rfl, _⟩ | ⟨g', cap, cur, rfl, hbg, hgg, _⟩
    · simp [Value.ownBlock] at hv
    · simp [Value.ownBlock] at hv
      subst hv
      have := hg.symm.trans hgg
      simp at this
theorem Fews.congr {L' : Nat → List C3} (h : Fews N w0 W b most L) (he : ∀ i, i < N → L i = L' i) : Fews N w0 W b most L' := by
  obtain ⟨hb, v, hf, hd⟩ := h
  exact ⟨hb, v, fun i hi => by rw [← he i hi]; exact hf i hi, hd⟩
theorem Fews.drew (h : Fews N w0 W b most L) : Fews N w0 W.drew b most L := h.below (below_drew (Below.refl _ _))
theorem newfew_bad (most : Int) (h : most < 2 ∨ 1000 < most) (w : World) : Calls Tryd.prog 23 #[.int .i64 most] w fun e w' => e = .returned (.tuple #[.pointer none, .int .i64 1]) ∧ Below w.heap.size w w' := by
  by_cases h2 : most < 2
  · go_enter Tryd.func23, Tryd.ntmps23
    go_wp2
    go_ret2
    exact ⟨rfl, Below.refl _ _⟩
  · have h3 : 1000 < most := by omega
    go_enter Tryd.func23, Tryd.ntmps23
    go_wp2
    go_ret2
    exact ⟨rfl, Below.refl _ _⟩
def NewPost (w : World) (most : Nat) (e : Ending) (w' : World) : Prop := ∃ B, e = .returned (.tuple #[.pointer (some ⟨B, 0, none⟩), .int .i64 0]) ∧ w.heap.size ≤ B ∧ w'.heap[B]? = some (.cells #[.int .i64 most, .slice none 0 0] 96 (0, 0)) ∧ Below w.heap.size w w'
theorem newfew_ok (most : Nat) (h0 : 2 ≤ most) (h1 : most ≤ 1000) (w : World) : Calls Tryd.prog 23 #[.int .i64 most] w (NewPost w most) := by
  have h2 : ¬ (most : Int) < 2 := by omega
  have h3 : ¬ 1000 < (most : Int) := by omega
  have h4 : ¬ most < 2 := by omega
  have h5 : ¬ 1000 < most := by omega
  go_enter Tryd.func23, Tryd.ntmps23
  go_wp2
  go_ret2
  exact ⟨w.heap.size, rfl, Nat.le_refl _, blk_new w _, below_alloc (Below.refl _ _) _⟩
theorem fews_put (h : Fews N w0 W b most L) (hm1 : most ≤ 1000) (i : Nat) (hi : i < N) (hh lo mx : Int) (hm : sample_Mix.f hh lo = some mx) :
    Calls Tryd.prog 30 #[.pointer (some ⟨b i, 0, none⟩), .agg #[.int .u64 hh, .int .u64 lo]] W fun e W' => ∃ bb, e = .returned (.bool bb) ∧ Fews N w0 W' b most (upd L i ((insL (L i) (mx, hh, lo)).take most)) ∧ Far75 W W' := by
  obtain ⟨hb, v, hf, hd⟩ := h
  obtain ⟨hB, hF, hs, hl, hmx⟩ := hf i hi
  refine (put_own w0.heap.size (b i) (v i) most (L i) hs hh lo mx W hF hl hm1 hb.size hm).mono ?_
  rintro e W' ⟨v', rfl, hF', hK, hv⟩
  exact ⟨_, rfl, fews_step hb hf hd hi hF' hK hv (srt_take (by rw [insL_ins _ _ hs]; exact srt_ins _ _ hs) most) (by rw [List.length_take]; omega) (mixOk_insL hs hmx hm), far75 hF hK⟩
theorem fews_merge (h : Fews N w0 W b most L) (hm1 : most ≤ 1000) (i j : Nat) (hi : i < N) (hj : j < N) :
    Calls Tryd.prog 31 #[.pointer (some ⟨b i, 0, none⟩), .pointer (some ⟨b j, 0, none⟩)] W fun e W' => e = .returned (.int .i64 0) ∧ Fews N w0 W' b most (upd L i (puts most (L i) (L j))) ∧ Far75 W W' := by
  obtain ⟨hb, v, hf, hd⟩ := h
  obtain ⟨hB, hF, hs, hl, hmx⟩ := hf i hi
  obtain ⟨_, hF2, _, hl2, hmx2⟩ := hf j hj
  refine (merge_own w0.heap.size (b i) (b j) (v i) (v j) most (L i) (L j) hs W hF hF2 hl (by omega) hm1 hb.size hmx2).mono ?_
  rintro e W' ⟨v', rfl, hF', hK, hv⟩
  exact ⟨rfl, fews_step hb hf hd hi hF' hK hv (srt_puts most _ _ hs) (puts_length most _ _ hl) (mixOk_puts hs hmx hmx2), far75 hF hK⟩
theorem fews_traces (h : Fews N w0 W b most L) (hm1 : most ≤ 1000) (i : Nat) (hi : i < N) :
    Calls Tryd.prog 32 #[.pointer (some ⟨b i, 0, none⟩)] W fun e W' => (∃ v', e = .returned v' ∧ Kd.R k26 26 W' W.heap.size (fun _ => True) v' (ids (L i))) ∧ Below W.heap.size W W' := by
  obtain ⟨hb, v, hf, hd⟩ := h
  obtain ⟨hB, hF, hs, hl, hmx⟩ := hf i hi
  refine (traces_own w0.heap.size (b i) (v i) most (L i) W hF (by omega)).mono ?_
  rintro e W' ⟨v', rfl, hR, hb⟩
  exact ⟨⟨v', rfl, hR⟩, hb⟩
/-- Guess's division answers. -/
def GOk (most : Nat) (l : List C3) : Prop := l.length < most ∨ ((lastM l = 0 ∨ lastM l ≤ (most : Int) - 1) ∨ ∃ r, bits_Div64.f 40 ((most : Int) - 1) 0 (lastM l) = some r)
theorem fews_guess (h : Fews N w0 W b most L) (hm0 : 2 ≤ most) (hm1 : most ≤ 1000) (i : Nat) (hi : i < N) (hd : GOk most (L i)) :
    Calls Tryd.prog 28 #[.pointer (some ⟨b i, 0, none⟩)] W fun e W' => e = .returned (.int .u64 (guessV most (L i))) ∧ Below W.heap.size W W' := by
  obtain ⟨hb, v, hf, _⟩ := h
  obtain ⟨hB, hF, hs, hl, hmx⟩ := hf i hi
  by_cases hlt : (L i).length < most
  · have := guess_few w0.heap.size (b i) (v i) most (L i) W hF hlt hm1
    have e : guessV most (L i) = ((L i).length : Int) := by unfold guessV; rw [if_pos hlt]
    rw [e]
    exact this
  · exact guess_full w0.heap.size (b i) (v i) most (L i) W hF (by omega) hm0 hm1 (hd.resolve_left hlt)
end
end Go.Proofs.YtdlnfmakfnggpaaDoor.Pr
