/- append onto a row of one's own, where the old slice is read on: it lies in the old row, or the old row stays as it was. A list is grown one by one; the old one reads as it read. Lists in memory, each its own row: headers, what is read, what is written over. Lists in memory: those that are grown, the old ones read on. IvalMemory's walk, over what its calls make. IvalMemory's walk, its calls by their contracts. -/
import Derived.Test.YtafpmcmpkgbgaaaWWords
import Derived.WalkKit
import Derived.Maps.AppendAt
import Derived.ArgAppend
import Derived.Test.YtafpmcmpkgbgaaaPr0d
import Derived.Test.YtafpmcmpkgbgaaaPr0e
import Derived.Outline
import Derived.IntWalk
import Derived.Lib.Hide
import Derived.Deep.QuietTactic
import Derived.BigQuiet
import Derived.StillTailTactics
import Derived.Deep.RegionHeld3
import Derived.Test.YtafpmcmpkgbgaaaXRu
namespace Go.Proofs.Ytafpmcmpkgbgaaa.Pr
open Go.RowKit Go.Proofs.YtafpmcmpkgbgaaaW.PrintWords
set_option linter.unusedVariables false
set_option linter.unusedSimpArgs false
theorem run_append_kept {P : Program} (w : World) (base : Nat) (t ty e : TypeId) (i : TypeInfo) (z : Value) (size bytes : Nat) (ht : P.underlying t = some (.slice e)) (hi : P.info? e = some i) (hz : i.zero = some z)
    (hsize : i.size = size) (hby : i.bytes = bytes) (hzs : z.cells.size = size) (hsz : 0 < size)
    (v : Value) (n : Nat) (xs : List Value) (hown : w.ownsRow base e size v n xs)
    (a : Addr) (m c : Nat) (news : List Value) (hl : news.length = m * size) (hnews : ∀ j u, news[j]? = some u → w.cell? (a.add j) = some u) (h1 : ∀ u ∈ news, u.oneCell' = true)
    (h63 : n + m ≤ maxLen) (hbytes : (n + m) * bytes ≤ 140737488355328) (hbase : base ≤ w.heap.size) :
    ∃ v' w', (Builtin.append_ #[t, t] ty #[v, .slice (some a) m c]).run P w = .ok v' w' ∧ w'.ownsRow base e size v' (n + m) (xs ++ news) ∧ w.grownBy w' v.ownBlock ∧
      (v'.ownBlock = v.ownBlock ∨ (w.grownBy w' none ∧ v'.ownBlock = some w.heap.size)) := by
  obtain ⟨v', w', hrun, q1, q2, _, q4⟩ := run_append_own_at (P := P) w base t ty e i z size bytes ht hi hz hsize hby hzs hsz v n xs hown a m c news hl hnews h1 h63 hbytes hbase
  refine ⟨v', w', hrun, q1, q2, ?_⟩
  rcases q4 with q4 | q4
  · exact .inl q4
  · rcases hown.2 with ⟨rfl, rfl⟩ | ⟨g, cap, cur, rfl, hbg, hg, hnc, hcm, hcs, htake⟩
    · exact .inr ⟨q2, q4⟩
    · by_cases hroom : n + m ≤ cap
      · have hr := run_append_room (P := P) w t ty e i ht hi g n cap cur hg a m c news (by rw [hsize]; exact hl) hnews h1 hroom (by rw [hl, hcs, hsize, ← Nat.add_mul]; exact Nat.mul_le_mul_right _ hroom)
        rw [hrun] at hr
        cases hr
        exact .inl rfl
      · have hcell : ∀ j u, xs[j]? = some u → w.cell? ((⟨g, 0, none⟩ : Addr).add j) = some u := by
          intro j u hj
          have hb := blk_cell hg j
          have e1 : (⟨g, 0, none⟩ : Addr).add j = ⟨g, j, none⟩ := by (simp [Addr.add]; try (intro h; exact h.symm))
          rw [e1, hb]
          rw [← htake] at hj
          have hj2 : j < (List.take (n * size) cur.toList).length := (List.getElem?_eq_some_iff.1 hj).1
          rw [List.getElem?_take] at hj
          split at hj
          · simpa using hj
          · cases hj
        obtain ⟨v2, w2, hrun2, _, q5⟩ := run_append_arg_grows (P := P) w t ty e i z size bytes ht hi hz hsize hby hzs hsz ⟨g, 0, none⟩ n cap xs hown.1 hcell a m c news hl hnews (by omega) h63 hbytes
        rw [hrun] at hrun2
        cases hrun2
        exact .inr ⟨q5, q4⟩
section
variable {P : Program} {ops : Array Oper} {rest : List Oper} {o : Oper} {a : Act} {Q : Exit → Act → World → Prop} {α : Type}
theorem R_append_kept (d : Kd α) {w0 W : World} (base : Nat) (hgd : o.guard = none) (s x : Operand) (t e : TypeId) (z : Value) (bytes : Nat)
    (ho : o.op = .call { callee := .builtin .append, args := #[s, x], argTypes := #[t, t] })
    (ht : P.underlying t = some (.slice e)) (hinfo : (P.info? e).map (fun i => (i.zero, i.size, i.bytes)) = some (some z, d.sz, bytes)) (hz : z.cells.size = d.sz) (hs0 : 0 < d.sz) (hb0 : 0 < bytes)
    (v : Value) (xs : List α) (p : α) (cs : List Value) (ok okp : Nat → Prop) (hs : a.eval s = v) (hx : a.eval x = .slice (some ⟨W.heap.size, 0, none⟩) 1 1) (hp : d.M W base okp p cs) (hokp : ∀ k, okp k → ok k ∧ some k ≠ v.ownBlock) (hfresh : ∀ k, W.heap.size ≤ k → ok k)
    (HO : d.R e W base ok v xs) (HB : Below base w0 W) (hbase : base ≤ W.heap.size) (hl : (xs.length + 1) * bytes ≤ 140737488355328)
    (h : ∀ v1 w1, d.R e w1 base ok v1 (xs ++ [p]) → Below base w0 w1 → W.grownBy w1 v.ownBlock → (v1.ownBlock = v.ownBlock ∨ (W.grownBy w1 none ∧ ∃ b, v1.ownBlock = some b ∧ W.heap.size ≤ b)) → wpList P ops Q rest (a.put o.dst v1) w1) :
    wpList P ops Q (o :: rest) a (W.alloc (.cells cs.toArray e)) := by
  obtain ⟨h0, inner, hown, hr⟩ := HO
  obtain ⟨i0, hi, hzz⟩ := Option.map_eq_some_iff.1 hinfo
  simp only [Prod.mk.injEq] at hzz
  obtain ⟨hz0, hz1, hz2⟩ := hzz
  have hlen : xs.length + 1 ≤ 140737488355328 := Nat.le_trans (Nat.le_mul_of_pos_right _ hb0) hl
  have hcl := d.K_len (d.K_of_M hp)
  obtain ⟨v1, w1, hrun, q1, q2, q3⟩ := run_append_kept (P := P) (W.alloc (.cells cs.toArray e)) base t o.type e i0 z d.sz bytes ht hi hz0 hz1 hz2 hz hs0 v xs.length inner (hown.alloc _) ⟨W.heap.size, 0, none⟩ 1 1 cs (by rw [hcl]; simp)
    (by simpa using World.news_of_block (cs := cs.toArray) (t := e) (fr := (0, 0)) (heap_alloc_new W (.cells cs.toArray e))) (d.K_one (d.K_of_M hp)) (by simp only [maxLen]; omega) hl (by simp; omega)
  have hg : W.grownBy w1 v.ownBlock := World.grownBy.trans (World.grownBy_alloc W _ _) q2
  have hat : v1.ownBlock = v.ownBlock ∨ (W.grownBy w1 none ∧ ∃ b, v1.ownBlock = some b ∧ W.heap.size ≤ b) := by
    rcases q3 with q3 | ⟨q3, q4⟩
    · exact .inl q3
    · exact .inr ⟨World.grownBy.trans (World.grownBy_alloc W _ _) q3, _, q4, by simp⟩
  refine wpList_plain hgd fun K hK' => ?_
  unfold Oper.wp
  simp [execOp, ho, resolve, invoke, builtin, hs, hx, hrun, Result.andThen]
  refine hK' _ _ (h v1 w1 ?_ ?_ hg hat)
  · exact Kd.R_appended h0 hr hp hokp hfresh q1 hg (hat.imp id (fun h => h.2))
  · exact (HB.alloc hbase _).grown q2 (by simp; omega) (own_base hown)
end
end Go.Proofs.Ytafpmcmpkgbgaaa.Pr
namespace Go.Proofs.Ytafpmcmpkgbgaaa.Pr
open Go.RowKit Go.Proofs.YtafpmcmpkgbgaaaW.PrintWords Go.Proofs.YtafpmcmpkgbgaaaW.PrintLast Go.Proofs.YtafpmcmpkgbgaaaW.PrintMore
open Go.Lib
set_option linter.unusedVariables false
set_option linter.unusedSimpArgs false
abbrev T1 : Nat → Prop := fun _ => True
theorem info23g : (Try.prog.info? 23).map (fun i => (i.zero, i.size, i.bytes)) = some (some (.agg #[(.int .i64 0), (.int .i64 0)]), 2, 16) := by kernel_rfl
theorem C_nil (w : World) (A : Option Addr) : Kd.C k23 w A 0 [] := ⟨rfl, by omega, fun h => by omega⟩
theorem C_same {W W' : World} {g n : Nat} {xs : List S23} (h : Kd.C k23 W (some ⟨g, 0, none⟩) n xs) (hk : W'.heap[g]? = W.heap[g]?) : Kd.C k23 W' (some ⟨g, 0, none⟩) n xs := by
  obtain ⟨h1, h2, h3⟩ := h
  refine ⟨h1, h2, fun hn => ?_⟩
  obtain ⟨ad, ha, h4⟩ := h3 hn
  refine ⟨ad, ha, fun j p hj => ?_⟩
  cases ha
  obtain ⟨c, c1, c2, c3⟩ := h4 j p hj
  refine ⟨c, c1, c2, fun i u hu => ?_⟩
  have := c3 i u hu
  rw [← this]
  refine World.cell?_of_block ?_
  have e2 : ((⟨g, 0, none⟩ : Addr).add (j * k23.sz + i)).block = g := by
    first | rfl | (unfold Addr.add; split <;> rfl)
  rw [e2]
  exact hk
/-- The old list reads on. -/
def Old (W wr : World) (v : Value) (xs : List S23) : Prop := xs = [] ∨ ∃ (g c : Nat), v = .slice (some ⟨g, 0, none⟩) xs.length c ∧ g < W.heap.size ∧ (∃ cells, wr.heap[g]? = some (.cells cells 23 (0, 0))) ∧ Kd.C k23 wr (some ⟨g, 0, none⟩) xs.length xs
structure GS (w0 W : World) (v : Value) (xs : List S23) (m : Int) (j : Nat) (v0 : Value) (wr : World) : Prop where
  row : Kd.R k23 23 wr w0.heap.size T1 v0 (xs ++ List.replicate j ⟨m, -m⟩)
  below : Below w0.heap.size w0 wr
  far : ∀ k, k < W.heap.size → some k ≠ v.ownBlock → wr.heap[k]? = W.heap[k]?
  size : W.heap.size ≤ wr.heap.size
  at_ : v0.ownBlock = v.ownBlock ∨ ∃ b, v0.ownBlock = some b ∧ W.heap.size ≤ b
  old : Old W wr v xs
theorem GS.start {w0 W : World} {v : Value} {xs : List S23} {m : Int} (hR : Kd.R k23 23 W w0.heap.size T1 v xs) (hB : Below w0.heap.size w0 W) : GS w0 W v xs m 0 v W := by
  refine ⟨by simpa using hR, hB, fun _ _ _ => rfl, Nat.le_refl _, .inl rfl, ?_⟩
  by_cases h : xs = []
  · exact .inl h
  · obtain ⟨g, c, e, _, hl, hcl⟩ := Kd.R_form hR (List.length_pos_iff.2 h)
    subst e
    exact .inr ⟨g, c, rfl, hl, hcl, (Kd.R_reads' hR).2.2⟩
theorem GS.step {w0 W wr w1 : World} {v v0 v1 : Value} {xs : List S23} {m : Int} {j : Nat} (h : GS w0 W v xs m j v0 wr) (hR : Kd.R k23 23 w1 w0.heap.size T1 v1 ((xs ++ List.replicate j ⟨m, -m⟩) ++ [⟨m, -m⟩])) (hB : Below w0.heap.size w0 w1) (hg : wr.grownBy w1 v0.ownBlock)
    (hat : v1.ownBlock = v0.ownBlock ∨ (wr.grownBy w1 none ∧ ∃ b, v1.ownBlock = some b ∧ wr.heap.size ≤ b)) : GS w0 W v xs m (j + 1) v1 w1 := by
  have hs := h.size
  have e1 : (xs ++ List.replicate j (⟨m, -m⟩ : S23)) ++ [⟨m, -m⟩] = xs ++ List.replicate (j + 1) ⟨m, -m⟩ := by rw [List.append_assoc, List.replicate_succ']
  rw [e1] at hR
  refine ⟨hR, hB, fun k hk hkv => ?_, by have := hg.size; omega, ?_, ?_⟩
  · refine (hg.block k (by omega) (fun e => ?_)).trans (h.far k hk hkv)
    rcases h.at_ with t | ⟨b, t, hb⟩
    · exact hkv (e.trans t)
    · rw [t] at e; cases e; omega
  · rcases hat with t | ⟨_, b, t, hb⟩
    · rw [t]; exact h.at_
    · exact .inr ⟨b, t, by omega⟩
  · rcases h.old with o | ⟨g, c, o1, o2, o4, o3⟩
    · exact .inl o
    · have hvo : v.ownBlock = some g := by rw [o1]; rfl
      rcases hat with t | ⟨t, _⟩
      · by_cases hv0 : v0.ownBlock = some g
        · have hne : 0 < (xs ++ List.replicate (j + 1) (⟨m, -m⟩ : S23)).length := by simp only [List.length_append, List.length_replicate]; omega
          obtain ⟨g1, c1, e2, _⟩ := Kd.R_form hR hne
          have hg1 : g1 = g := by
            have : v1.ownBlock = some g := t.trans hv0
            rw [e2] at this
            cases this; rfl
          subst hg1
          subst e2
          have h2 := Kd.R_take (m := xs.length) hR (by simp)
          rw [List.take_left] at h2
          exact .inr ⟨g1, c, o1, o2, Kd.R_typed hR g1 rfl, (Kd.R_reads' h2).2.2⟩
        · have hk := hg.block g (by omega) (fun e => hv0 e.symm)
          exact .inr ⟨g, c, o1, o2, o4.imp (fun _ q => hk.trans q), C_same o3 hk⟩
      · have hk := t.block g (by omega) (by simp)
        exact .inr ⟨g, c, o1, o2, o4.imp (fun _ q => hk.trans q), C_same o3 hk⟩
theorem GS.more {w0 W wr w1 : World} {v v0 : Value} {xs : List S23} {m : Int} {j : Nat} (h : GS w0 W v xs m j v0 wr) (hb : Below wr.heap.size wr w1) : GS w0 W v xs m j v0 w1 := by
  have hs := h.size
  refine ⟨Kd.R_below h.row hb, h.below.trans (hb.mono h.below.size), fun k hk hkv => (hb.block k (by omega)).trans (h.far k hk hkv), by have := hb.size; omega, h.at_, ?_⟩
  rcases h.old with o | ⟨g, c, o1, o2, o4, o3⟩
  · exact .inl o
  · exact .inr ⟨g, c, o1, o2, o4.imp (fun _ q => (hb.block g (by omega)).trans q), C_same o3 (hb.block g (by omega))⟩
def GrownPost (w0 W : World) (v : Value) (xs : List S23) (m : Int) (e : Ending) (w' : World) : Prop := ∃ v1, e = .returned v1 ∧ GS w0 W v xs m 20 v1 w'
set_option maxHeartbeats 1000000 in
set_option maxRecDepth 100000 in
theorem grown_run (w0 W : World) (v : Value) (xs : List S23) (m : Int) (hR : Kd.R k23 23 W w0.heap.size T1 v xs) (hB : Below w0.heap.size w0 W) (hl : xs.length ≤ 8000000) (hm : 0 ≤ m ∧ m ≤ 1000) :
    Calls Try.prog 25 #[v, .int .i64 m] W fun e w' => GrownPost w0 W v xs m e w' := by
  have H0 := Lib.hid (GS.start (m := m) hR hB)
  have hw : wrap64 (-m) = -m := by unfold wrap64; omega
  have HW := Lib.hid hw
  clear hR hB hw
  go_enter Try.func25, Try.ntmps25
  go_wp2_with fail
  go_loopw [0, 5] (fun v0 v5 wr => ∃ j : Nat, v5 = .int .i64 j ∧ j ≤ 20 ∧ Hid (GS w0 W v xs m j v0 wr)) (fun _ v5 _ => 20 - (intOf v5).toNat)
  case atStart => exact ⟨0, rfl, by omega, H0⟩
  case round =>
    clear H0
    obtain ⟨j, rfl, hj, HG⟩ := hrel
    by_cases hlt : j < 20
    · go_wp2_with fail
      refine (spoorlaw06_of.calls m (-m) m (-m) wr rfl).mono ?_
      rintro e w2 ⟨rfl, hb2⟩
      have HG2 := Lib.hid (HG.out.more hb2)
      clear hb2 HG
      go_wp2_with (at_builtin; refine R_append_kept k23 (w0 := w0) w0.heap.size rfl (.tmp 10) (.tmp 15) 29 23 (.agg #[(.int .i64 0), (.int .i64 0)]) 16 rfl Try.underlying29 info23g rfl (by decide) (by omega) u0 (xs ++ List.replicate j ⟨m, -m⟩) (⟨m, -m⟩ : S23) [.int .i64 m, .int .i64 (-m)] T1 (fun _ => False) rfl rfl ?aP (fun _ hk => hk.elim) ?aF ?aO ?aB ?aS ?aL ?_; (case aP => exact k23_mkM _ _ _ (⟨m, -m⟩ : S23)); (case aF => exact fun _ _ => trivial); (case aO => exact HG2.out.row); (case aB => exact HG2.out.below); (case aS => exact HG2.out.below.size); (case aL => simp only [List.length_append, List.length_replicate]; omega); intro v1 w3 ho hb hg hat; have HG3 := Lib.hid (HG2.out.step ho hb hg hat); clear ho hb hg hat)
      go_roundw
      case rel => exact ⟨j + 1, by go_num, by omega, HG3⟩
      case measure => simp [intOf]; omega
    · obtain rfl : j = 20 := by omega
      go_wp2_with fail
      go_ret
      exact ⟨_, rfl, HG.out⟩
end Go.Proofs.Ytafpmcmpkgbgaaa.Pr
namespace Go.Proofs.Ytafpmcmpkgbgaaa.Pr
open Go.RowKit Go.Proofs.YtafpmcmpkgbgaaaW.PrintWords Go.Proofs.YtafpmcmpkgbgaaaW.PrintLast Go.Proofs.YtafpmcmpkgbgaaaW.PrintMore
open Go.Lib
set_option linter.unusedVariables false
set_option linter.unusedSimpArgs false
structure Hd where
  A : Option Addr
  n : Nat
  c : Nat
def Hd.val (h : Hd) : Value := .slice h.A h.n h.c
def kH : Kd Hd := Kd.scalar Hd.val (fun _ => rfl)
theorem infoH29 : (Try.prog.info? 29).map (fun i => (i.zero, i.size, i.bytes)) = some (some (.slice none 0 0), 1, 24) := by kernel_rfl
theorem row_keep {α : Type} {d : Kd α} {e base : Nat} {W w' : World} {v : Value} {xs : List α} (hE : d.E = []) (h : Kd.R d e W base T1 v xs) (hk : ∀ k, v.ownBlock = some k → w'.heap[k]? = W.heap[k]?) : Kd.R d e w' base T1 v xs :=
  Kd.R_mono (Kd.R_move (Kd.R_tight hE h) (fun k hk' => hk k hk'.symm)) (fun _ _ => trivial)
theorem read_H {base : Nat} {W : World} {go n co : Nat} {L : List Hd} (h : Kd.R kH 29 W base T1 (.slice (some ⟨go, 0, none⟩) n co) L) (x : Nat) (hx : x < n) (d0 : Hd) :
    W.cell? ⟨go, x, none⟩ = some (L.getD x d0).val := by
  obtain ⟨ce, hcl, hM, hcc, hfr⟩ := Kd.R_elem h d0 (x : Int) (by omega) (by omega)
  have hce : ce = [(L.getD (x : Int).toNat d0).val] := hM
  subst hce
  have e1 : (x : Int).toNat * kH.sz + 0 = x := by show x * 1 + 0 = x; omega
  have h1 := hcc 0 _ rfl
  rw [e1] at h1
  exact h1
structure MS (w W : World) (all : List Hd) (Z : Nat → List S23) : Prop where
  below : Below w.heap.size w W
  lst : ∀ (i : Nat) (h : Hd), all[i]? = some h → h.n = (Z i).length ∧ Kd.R k23 23 W w.heap.size T1 h.val (Z i)
  apart : ∀ (i j : Nat) (h h' : Hd), i ≠ j → all[i]? = some h → all[j]? = some h' → h.val.ownBlock = none ∨ h.val.ownBlock ≠ h'.val.ownBlock
theorem MS.more {w W W' : World} {all : List Hd} {Z : Nat → List S23} (h : MS w W all Z) (hb : Below W.heap.size W W') : MS w W' all Z :=
  ⟨h.below.trans (hb.mono h.below.size), fun i x hx => ⟨(h.lst i x hx).1, Kd.R_below (h.lst i x hx).2 hb⟩, h.apart⟩
theorem MS.nil (w W : World) (Z : Nat → List S23) (hB : Below w.heap.size w W) : MS w W [] Z := ⟨hB, fun i h hi => by simp at hi, fun i j h h' _ hi => by simp at hi⟩
theorem MS.push {w W W' : World} {all : List Hd} {Z : Nat → List S23} {x : Hd} (h : MS w W all Z) (hb : Below W.heap.size W W') (hR : Kd.R k23 23 W' W.heap.size T1 x.val (Z all.length)) (hn : x.n = (Z all.length).length) : MS w W' (all ++ [x]) Z := by
  have h' := h.more hb
  have cases_ : ∀ {i : Nat} {y : Hd}, (all ++ [x])[i]? = some y → (all[i]? = some y ∧ i < all.length) ∨ (i = all.length ∧ y = x) := by
    intro i y hi
    by_cases hl : i < all.length
    · rw [List.getElem?_append_left hl] at hi; exact .inl ⟨hi, hl⟩
    · rw [List.getElem?_append_right (by omega)] at hi
      have h1 := (List.getElem?_eq_some_iff.1 hi).1
      simp at h1
      have e : i = all.length := by omega
      subst e
      simp at hi
      exact .inr ⟨rfl, hi.symm⟩
  have ap : ∀ (i : Nat) (y : Hd), all[i]? = some y → y.val.ownBlock = none ∨ y.val.ownBlock ≠ x.val.ownBlock := by
    intro i y hy
    cases hu : y.val.ownBlock with
    | none => exact .inl rfl
    | some k =>
      refine .inr (fun e => ?_)
      have h1 := Kd.R_lt (h.lst i y hy).2 k hu
      have h2 := Kd.R_base hR k e.symm
      omega
  refine ⟨h'.below, fun i y hy => ?_, fun i j y y' hij hy hy' => ?_⟩
  · rcases cases_ hy with ⟨h1, _⟩ | ⟨rfl, rfl⟩
    · exact h'.lst i y h1
    · exact ⟨hn, Kd.R_lower hR h.below.size⟩
  · rcases cases_ hy with ⟨h1, h1l⟩ | ⟨rfl, rfl⟩
    · rcases cases_ hy' with ⟨h2, _⟩ | ⟨rfl, rfl⟩
      · exact h.apart i j y y' hij h1 h2
      · exact ap i y h1
    · rcases cases_ hy' with ⟨h2, h2l⟩ | ⟨rfl, rfl⟩
      · rcases ap j y' h2 with t | t
        · rw [t]
          cases y.val.ownBlock with
          | none => exact .inl rfl
          | some k => exact .inr (by intro e; cases e)
        · exact .inr (fun e => t e.symm)
      · exact absurd rfl hij
/-- What can be read. -/
theorem MS.reads {w W : World} {all : List Hd} {Z : Nat → List S23} (h : MS w W all Z) {i : Nat} {x : Hd} (hx : all[i]? = some x) : x.n = (Z i).length ∧ (Z i).length ≤ x.c ∧ Kd.C k23 W x.A (Z i).length (Z i) := by
  obtain ⟨h1, h2⟩ := h.lst i x hx
  have h3 : Kd.R k23 23 W w.heap.size T1 (.slice x.A x.n x.c) (Z i) := h2
  obtain ⟨_, h4, h5⟩ := Kd.R_reads' h3
  exact ⟨h1, by omega, h5⟩
def setZ (Z : Nat → List S23) (i : Nat) (z : List S23) : Nat → List S23 := fun j => if j = i then z else Z j
theorem MS.write {w W W' : World} {all : List Hd} {Z : Nat → List S23} {i : Nat} {x : Hd} {z : List S23} (h : MS w W all Z) (hx : all[i]? = some x) (hB : Below w.heap.size w W') (hR : Kd.R k23 23 W' w.heap.size T1 x.val z) (hz : z.length = (Z i).length) (hk : ∀ k, k < W.heap.size → some k ≠ x.val.ownBlock → W'.heap[k]? = W.heap[k]?) : MS w W' all (setZ Z i z) := by
  refine ⟨hB, fun j y hy => ?_, h.apart⟩
  obtain ⟨h1, h2⟩ := h.lst j y hy
  by_cases hij : j = i
  · subst hij
    rw [hx] at hy; cases hy
    rw [show setZ Z j z j = z from if_pos rfl]
    exact ⟨by rw [hz]; exact h1, hR⟩
  · rw [show setZ Z i z j = Z j from if_neg hij]
    refine ⟨h1, row_keep rfl h2 (fun k hkv => hk k (Kd.R_lt h2 k hkv) (fun e => ?_))⟩
    rcases h.apart j i y x hij hy hx with t | t
    · rw [hkv] at t; cases t
    · exact t (hkv.trans e)
def mkS (m : Int) : S23 := ⟨m, -m⟩
theorem wneg {m : Int} (hm : 0 ≤ m ∧ m ≤ 1000) : wrap64 (-m) = -m := by unfold wrap64; omega
theorem wnat {i : Nat} (h : i < 4611686018427387904) : wrap64 ((i : Int) + 1) = ((i + 1 : Nat) : Int) := by unfold wrap64; omega
theorem marked_eq (m : Int) (hm : 0 ≤ m ∧ m ≤ 1000) : ∀ (d k i : Nat) (l : List S23), l.length - i = d → d < k → i ≤ l.length → l.length ≤ 8000000 → spoorlaw06_marked.l0 k l m (i : Int) = some (l.take i ++ List.replicate (l.length - i) (mkS m)) := by
  intro d
  induction d with
  | zero =>
    intro k i l h1 h2 h3 h4
    obtain ⟨k, rfl⟩ : ∃ q, k = q + 1 := ⟨k - 1, by omega⟩
    unfold spoorlaw06_marked.l0
    have e : i = l.length := by omega
    subst e
    rw [if_neg (by omega)]
    simp
  | succ d ih =>
    intro k i l h1 h2 h3 h4
    obtain ⟨k, rfl⟩ : ∃ q, k = q + 1 := ⟨k - 1, by omega⟩
    unfold spoorlaw06_marked.l0
    have hi : i < l.length := by omega
    rw [if_pos (by omega)]
    have e1 : spoorlaw06_of.f m (wrap64 (-m)) = some (m, -m) := by rw [wneg hm]; rfl
    rw [e1, Option.bind_some, if_pos (by omega), wnat (by omega)]
    have e2 : ((i : Int)).toNat = i := by omega
    rw [e2]
    have := ih k (i + 1) (l.set i ⟨m, -m⟩) (by rw [List.length_set]; omega) (by omega) (by rw [List.length_set]; omega) (by rw [List.length_set]; exact h4)
    rw [this, List.length_set]
    congr 1
    have e3 : (l.set i (⟨m, -m⟩ : S23)).take (i + 1) = l.take i ++ [mkS m] := by
      rw [List.take_succ_eq_append_getElem (by rw [List.length_set]; exact hi)]
      congr 1
      · exact List.take_set_of_le (Nat.le_refl i)
      · simp [mkS]
    rw [e3, show l.length - i = (l.length - (i + 1)) + 1 by omega, List.replicate_succ, List.append_assoc]
    rfl
theorem looks_eq (m : Int) (hm : 0 ≤ m ∧ m ≤ 1000) (n : Nat) (hn : n ≤ 8000100) : ∀ (d k i : Nat), n - i = d → d < k → i ≤ n → spoorlaw06_looks.l0 k (List.replicate n (mkS m)) m (i : Int) = some true := by
  intro d
  induction d with
  | zero =>
    intro k i h1 h2 h3
    obtain ⟨k, rfl⟩ : ∃ q, k = q + 1 := ⟨k - 1, by omega⟩
    unfold spoorlaw06_looks.l0
    rw [if_neg (by rw [List.length_replicate]; omega)]
  | succ d ih =>
    intro k i h1 h2 h3
    obtain ⟨k, rfl⟩ : ∃ q, k = q + 1 := ⟨k - 1, by omega⟩
    unfold spoorlaw06_looks.l0
    rw [if_pos (by rw [List.length_replicate]; omega), if_pos (by omega)]
    have e1 : spoorlaw06_of.f m (wrap64 (-m)) = some (m, -m) := by rw [wneg hm]; rfl
    have e2 : rd_T23 (List.replicate n (mkS m)) (i : Int) = mkS m := by
      unfold rd_T23
      simp [List.getD, show i < n by omega]
    rw [e1, Option.bind_some, e2, wnat (by omega), ih k (i + 1) (by omega) (by omega) (by omega)]
    simp [mkS]
theorem marked_run {w W : World} {all : List Hd} {Z : Nat → List S23} {i : Nat} {x : Hd} (h : MS w W all Z) (hx : all[i]? = some x) (m : Int) (hm : 0 ≤ m ∧ m ≤ 1000) (hl : (Z i).length ≤ 8000000) :
    Calls Try.prog 24 #[x.val, .int .i64 m] W fun e w' => e = .returned (.tuple #[]) ∧ MS w w' all (setZ Z i (List.replicate (Z i).length (mkS m))) ∧ (∀ k, k < W.heap.size → some k ≠ x.val.ownBlock → w'.heap[k]? = W.heap[k]?) ∧ W.heap.size ≤ w'.heap.size := by
  obtain ⟨h1, h2⟩ := h.lst i x hx
  have he := marked_eq m hm (Z i).length ((Z i).length + 1) 0 (Z i) (by omega) (by omega) (by omega) hl
  have he' : spoorlaw06_marked.f ((Z i).length + 1) (Z i) m = some (List.replicate (Z i).length (mkS m)) := by
    unfold spoorlaw06_marked.f
    have := he
    simpa using this
  refine (spoorlaw06_marked.calls ((Z i).length + 1) (fun k => some k = x.val.ownBlock) x.val (Z i) m _ w W h.below (Kd.R_tight rfl h2) he').mono ?_
  rintro e w' ⟨rfl, hR, hB, hK⟩
  have hk : ∀ k, k < W.heap.size → some k ≠ x.val.ownBlock → w'.heap[k]? = W.heap[k]? := fun k a b => hK.2 k a b
  exact ⟨rfl, h.write hx hB (Kd.R_mono hR (fun _ _ => trivial)) (by simp) hk, hk, hK.1⟩
theorem looks_run {W : World} {A : Option Addr} {c n : Nat} (m : Int) (hm : 0 ≤ m ∧ m ≤ 1000) (hn : n ≤ 8000100) (hC : Kd.C k23 W A n (List.replicate n (mkS m))) (hc : n ≤ c) :
    Calls Try.prog 26 #[.slice A n c, .int .i64 m] W fun e w' => e = .returned (.bool true) ∧ Below W.heap.size W w' := by
  have he : spoorlaw06_looks.f (n + 1) (List.replicate n (mkS m)) m = some true := looks_eq m hm n hn n (n + 1) 0 (by omega) (by omega) (by omega)
  have := spoorlaw06_looks.calls (n + 1) A c (List.replicate n (mkS m)) m true W (by rw [List.length_replicate]; exact hC) (by rw [List.length_replicate]; exact hc) he
  rw [List.length_replicate] at this
  exact this
end Go.Proofs.Ytafpmcmpkgbgaaa.Pr
namespace Go.Proofs.Ytafpmcmpkgbgaaa.Pr
open Go.RowKit Go.Proofs.YtafpmcmpkgbgaaaW.PrintWords Go.Proofs.YtafpmcmpkgbgaaaW.PrintLast Go.Proofs.YtafpmcmpkgbgaaaW.PrintMore
open Go.Lib
set_option linter.unusedVariables false
set_option linter.unusedSimpArgs false
/-- What a call makes: a list of its own. -/
def Makes (f : Nat) (args : Array Value) (w : World) (X : List S23) : Prop :=
  ∀ W, Below w.heap.size w W → Calls Try.prog f args W fun e W' => ∃ (A : Option Addr) (c : Nat), e = .returned (.slice A X.length c) ∧ Kd.R k23 23 W' W.heap.size T1 (.slice A X.length c) X ∧ Below W.heap.size W W'
/-- It reads so. -/
def Reads (W : World) (h : Hd) (xs : List S23) : Prop := h.n = xs.length ∧ xs.length ≤ h.c ∧ (xs = [] ∨ ∃ g, h.A = some ⟨g, 0, none⟩ ∧ (∃ cells, W.heap[g]? = some (.cells cells 23 (0, 0))) ∧ Kd.C k23 W (some ⟨g, 0, none⟩) xs.length xs)
theorem Reads.C {W : World} {h : Hd} {xs : List S23} (hr : Reads W h xs) : Kd.C k23 W h.A xs.length xs := by
  obtain ⟨_, _, rfl | ⟨g, e, _, hc⟩⟩ := hr
  · exact C_nil W h.A
  · rw [e]; exact hc
theorem reads_of {W : World} {base : Nat} {h : Hd} {xs : List S23} (hn : h.n = xs.length) (hR : Kd.R k23 23 W base T1 h.val xs) : Reads W h xs := by
  have hR' : Kd.R k23 23 W base T1 (.slice h.A h.n h.c) xs := hR
  obtain ⟨_, h2, h3⟩ := Kd.R_reads' hR'
  refine ⟨hn, by omega, ?_⟩
  by_cases e : xs = []
  · exact .inl e
  · obtain ⟨g, c, e1, _, _, hl⟩ := Kd.R_form hR' (List.length_pos_iff.2 e)
    injection e1 with e2 e3 e4
    rw [e2] at h3
    exact .inr ⟨g, e2, hl, h3⟩
theorem Reads.keep {W W' : World} {h : Hd} {xs : List S23} (hr : Reads W h xs) (hz : W.heap.size ≤ W'.heap.size) (hk : ∀ g, xs ≠ [] → h.A = some ⟨g, 0, none⟩ → W'.heap[g]? = W.heap[g]?) : Reads W' h xs := by
  obtain ⟨h1, h2, h3⟩ := hr
  refine ⟨h1, h2, ?_⟩
  rcases h3 with h3 | ⟨g, e, hl, hc⟩
  · exact .inl h3
  · by_cases hx : xs = []
    · exact .inl hx
    · exact .inr ⟨g, e, hl.imp (fun _ q => (hk g hx e).trans q), C_same hc (hk g hx e)⟩
theorem own_of {h : Hd} {g : Nat} (e : h.A = some ⟨g, 0, none⟩) : h.val.ownBlock = some g := by
  unfold Hd.val; rw [e]; rfl
/-- The first i of ten lists have been grown. -/
structure G4 (w W : World) (all gs : List Hd) (Z : Nat → List S23) (i : Nat) : Prop where
  below : Below w.heap.size w W
  len : gs.length = i
  later : ∀ (j : Nat) (h : Hd), i ≤ j → all[j]? = some h → h.n = (Z j).length ∧ Kd.R k23 23 W w.heap.size T1 h.val (Z j)
  apart : ∀ (i j : Nat) (h h' : Hd), i ≠ j → all[i]? = some h → all[j]? = some h' → h.val.ownBlock = none ∨ h.val.ownBlock ≠ h'.val.ownBlock
  olds : ∀ (j : Nat) (h : Hd), j < i → all[j]? = some h → Reads W h (Z j)
  news : ∀ (j : Nat) (g : Hd), gs[j]? = some g → Reads W g (Z j ++ List.replicate 20 (mkS ((j : Int) + 1)))
  aside : ∀ (j j' : Nat) (g h : Hd), gs[j]? = some g → i ≤ j' → all[j']? = some h → h.val.ownBlock = none ∨ h.val.ownBlock ≠ g.val.ownBlock
theorem MS.toG {w W : World} {all : List Hd} {Z : Nat → List S23} (h : MS w W all Z) : G4 w W all [] Z 0 :=
  ⟨h.below, rfl, fun j x _ hx => h.lst j x hx, h.apart, fun j x hj => by omega, fun j g hg => by simp at hg, fun j j' g x hg => by simp at hg⟩
theorem G4.more {w W W' : World} {all gs : List Hd} {Z : Nat → List S23} {i : Nat} (h : G4 w W all gs Z i) (hb : Below W.heap.size W W') : G4 w W' all gs Z i := by
  refine ⟨h.below.trans (hb.mono h.below.size), h.len, fun j x hj hx => ⟨(h.later j x hj hx).1, Kd.R_below (h.later j x hj hx).2 hb⟩, h.apart, fun j x hj hx => ?_, fun j g hg => ?_, h.aside⟩
  · have hr := h.olds j x hj hx
    refine hr.keep hb.size (fun g hne e => ?_)
    rcases hr.2.2 with t | ⟨g', e', hl, _⟩
    · exact absurd t hne
    · rw [e] at e'; cases e'; obtain ⟨_, hl'⟩ := hl; exact hb.block g (Array.getElem?_eq_some_iff.1 hl').1
  · have hr := h.news j g hg
    refine hr.keep hb.size (fun b hne e => ?_)
    rcases hr.2.2 with t | ⟨g', e', hl, _⟩
    · exact absurd t hne
    · rw [e] at e'; cases e'; obtain ⟨_, hl'⟩ := hl; exact hb.block b (Array.getElem?_eq_some_iff.1 hl').1
theorem G4.grow {w W : World} {all gs : List Hd} {Z : Nat → List S23} {i : Nat} {x : Hd} (h : G4 w W all gs Z i) (hx : all[i]? = some x) (hl : (Z i).length ≤ 8000000) (hi : i < 100) :
    Calls Try.prog 25 #[x.val, .int .i64 ((i : Int) + 1)] W fun e w' => ∃ g : Hd, e = .returned g.val ∧ G4 w w' all (gs ++ [g]) Z (i + 1) ∧ (∀ k, k < W.heap.size → some k ≠ x.val.ownBlock → w'.heap[k]? = W.heap[k]?) ∧ W.heap.size ≤ w'.heap.size := by
  obtain ⟨hn, hR⟩ := h.later i x (Nat.le_refl _) hx
  refine (grown_run w W x.val (Z i) ((i : Int) + 1) hR h.below hl ⟨by omega, by omega⟩).mono ?_
  rintro e w' ⟨v1, rfl, hG⟩
  obtain ⟨A1, c1, e1⟩ := Kd.R_slice hG.row
  have hz := hG.size
  have keepR : ∀ {y : Hd} {xs : List S23}, Reads W y xs → y.val.ownBlock = none ∨ y.val.ownBlock ≠ x.val.ownBlock → Reads w' y xs := by
    intro y xs hr ho
    refine hr.keep hz (fun g hne e => ?_)
    rcases hr.2.2 with t | ⟨g', e', hlt, _⟩
    · exact absurd t hne
    · rw [e] at e'; cases e'
      obtain ⟨_, hl'⟩ := hlt
      refine hG.far g (Array.getElem?_eq_some_iff.1 hl').1 (fun e2 => ?_)
      rcases ho with t | t
      · rw [own_of e] at t; cases t
      · exact t ((own_of e).trans e2)
  have sym : ∀ {a b : Option Nat}, (a = none ∨ a ≠ b) → (b = none ∨ b ≠ a) := by
    intro a b hab
    rcases hab with t | t
    · subst t
      cases b with
      | none => exact .inl rfl
      | some k => exact .inr (by intro e; cases e)
    · exact .inr (fun e => t e.symm)
  have cases_ : ∀ {j : Nat} {g : Hd}, (gs ++ [⟨A1, (Z i ++ List.replicate 20 (mkS ((i : Int) + 1))).length, c1⟩])[j]? = some g → (gs[j]? = some g ∧ j < i) ∨ (j = i ∧ g = ⟨A1, (Z i ++ List.replicate 20 (mkS ((i : Int) + 1))).length, c1⟩) := by
    intro j g hg
    have hgl := h.len
    by_cases hj : j < gs.length
    · rw [List.getElem?_append_left hj] at hg; exact .inl ⟨hg, by omega⟩
    · rw [List.getElem?_append_right (by omega)] at hg
      have h1 := (List.getElem?_eq_some_iff.1 hg).1
      simp at h1
      have e : j = gs.length := by omega
      subst e
      simp at hg
      exact .inr ⟨hgl, by rw [← hg]; simp⟩
  have hown : ((⟨A1, (Z i ++ List.replicate 20 (mkS ((i : Int) + 1))).length, c1⟩ : Hd)).val = v1 := by rw [e1]; rfl
  refine ⟨⟨A1, (Z i ++ List.replicate 20 (mkS ((i : Int) + 1))).length, c1⟩, by rw [hown], ⟨hG.below, by simp [h.len], fun j y hj hy => ?_, h.apart, fun j y hj hy => ?_, fun j g hg => ?_, fun j j' g y hg hj' hy => ?_⟩, hG.far, hz⟩
  · obtain ⟨q1, q2⟩ := h.later j y (by omega) hy
    refine ⟨q1, row_keep rfl q2 (fun k hk => hG.far k (Kd.R_lt q2 k hk) (fun e => ?_))⟩
    rcases h.apart j i y x (by omega) hy hx with t | t
    · rw [hk] at t; cases t
    · exact t (hk.trans e)
  · by_cases hji : j = i
    · subst hji
      rw [hx] at hy; cases hy
      have hr := reads_of hn hR
      refine ⟨hr.1, hr.2.1, ?_⟩
      rcases hG.old with o | ⟨g, c, o1, o2, o4, o3⟩
      · exact .inl o
      · refine .inr ⟨g, ?_, o4, o3⟩
        have : Value.slice x.A x.n x.c = .slice (some ⟨g, 0, none⟩) (Z j).length c := o1
        injection this
    · exact keepR (h.olds j y (by omega) hy) (h.apart j i y x hji hy hx)
  · rcases cases_ hg with ⟨hg', hji⟩ | ⟨rfl, rfl⟩
    · exact keepR (h.news j g hg') (sym (h.aside j i g x hg' (Nat.le_refl _) hx))
    · exact reads_of rfl (by rw [hown]; exact hG.row)
  · rcases cases_ hg with ⟨hg', hji⟩ | ⟨rfl, rfl⟩
    · exact h.aside j j' g y hg' (by omega) hy
    · rw [hown]
      rcases hG.at_ with t | ⟨b, t, hb⟩
      · rw [t]; exact h.apart j' j y x (by omega) hy hx
      · rw [t]
        cases hu : y.val.ownBlock with
        | none => exact .inl rfl
        | some k =>
          refine .inr (fun e => ?_)
          cases e
          have := Kd.R_lt (h.later j' y (by omega) hy).2 b hu
          omega
/-- A row of headers is written. -/
theorem G4.past {w W w1 : World} {all gs : List Hd} {Z : Nat → List S23} {i base : Nat} {u : Value} {xs : List Hd} (h : G4 w W all gs Z i) (hR : Kd.R kH 29 W base T1 u xs) (hg : W.grownBy w1 u.ownBlock) (hB : Below w.heap.size w w1) : G4 w w1 all gs Z i := by
  have far : ∀ {k : Nat} {cells : Array Value}, W.heap[k]? = some (.cells cells 23 (0, 0)) → w1.heap[k]? = W.heap[k]? := by
    intro k cells hc
    refine hg.block k (Array.getElem?_eq_some_iff.1 hc).1 (fun e => ?_)
    obtain ⟨cells', hc'⟩ := Kd.R_typed hR k e.symm
    rw [hc] at hc'; cases hc'
  have keepR : ∀ {y : Hd} {xs : List S23}, Reads W y xs → Reads w1 y xs := by
    intro y xs hr
    refine hr.keep hg.size (fun g hne e => ?_)
    rcases hr.2.2 with t | ⟨g', e', ⟨_, hl'⟩, _⟩
    · exact absurd t hne
    · rw [e] at e'; cases e'; exact far hl'
  refine ⟨hB, h.len, fun j y hj hy => ?_, h.apart, fun j y hj hy => keepR (h.olds j y hj hy), fun j g hg' => keepR (h.news j g hg'), h.aside⟩
  obtain ⟨q1, q2⟩ := h.later j y hj hy
  exact ⟨q1, row_keep rfl q2 (fun k hk => by obtain ⟨cells, hc⟩ := Kd.R_typed q2 k hk; exact far hc)⟩
end Go.Proofs.Ytafpmcmpkgbgaaa.Pr
namespace Go.Proofs.Ytafpmcmpkgbgaaa.Pr
open Go.RowKit Go.Proofs.YtafpmcmpkgbgaaaW.PrintWords Go.Proofs.YtafpmcmpkgbgaaaW.PrintLast Go.Proofs.YtafpmcmpkgbgaaaW.PrintMore
open Go.Lib
set_option linter.unusedVariables false
set_option linter.unusedSimpArgs false
theorem MS.readsAt {w W : World} {all : List Hd} {Z : Nat → List S23} (h : MS w W all Z) {i : Nat} {x : Hd} (hx : all[i]? = some x) : Reads W x (Z i) := reads_of (h.lst i x hx).1 (h.lst i x hx).2
structure ML (w W : World) (hs ws : List Hd) (Z : Nat → List S23) (v6 v8 : Value) : Prop where
  ms : MS w W (hs ++ ws) Z
  rowL : Kd.R kH 29 W w.heap.size T1 v6 hs
  rowW : Kd.R kH 29 W w.heap.size T1 v8 ws
theorem ML.more {w W W' : World} {hs ws : List Hd} {Z : Nat → List S23} {v6 v8 : Value} (h : ML w W hs ws Z v6 v8) (hb : Below W.heap.size W W') : ML w W' hs ws Z v6 v8 := ⟨h.ms.more hb, Kd.R_below h.rowL hb, Kd.R_below h.rowW hb⟩
theorem ML.drew {w W : World} {hs ws : List Hd} {Z : Nat → List S23} {v6 v8 : Value} (h : ML w W hs ws Z v6 v8) : ML w W.drew hs ws Z v6 v8 := h.more (below_drew1 (Below.refl _ _))
theorem get_left {hs ws : List Hd} {i : Nat} {x : Hd} (h : hs[i]? = some x) : (hs ++ ws)[i]? = some x := by rw [List.getElem?_append_left (List.getElem?_eq_some_iff.1 h).1]; exact h
theorem get_right {hs ws : List Hd} {i n : Nat} {x : Hd} (hn : hs.length = n) (h : ws[i]? = some x) : (hs ++ ws)[n + i]? = some x := by rw [List.getElem?_append_right (by omega), show n + i - hs.length = i by omega]; exact h
theorem getD_of {hs : List Hd} {i : Nat} {x d0 : Hd} (h : hs[i]? = some x) : hs.getD i d0 = x := by simp [List.getD, h]
def d0H : Hd := ⟨none, 0, 0⟩
def Zm (X : Nat → List S23) (i : Nat) : Nat → List S23 := fun j => if j < i then List.replicate (X (j % 5)).length (mkS ((j : Int) + 1)) else X (j % 5)
theorem Zm_zero (X : Nat → List S23) : Zm X 0 = fun j => X (j % 5) := by funext j; simp [Zm]
theorem Zm_len (X : Nat → List S23) (i j : Nat) : (Zm X i j).length = (X (j % 5)).length := by unfold Zm; split <;> simp
theorem Zm_step (X : Nat → List S23) (i : Nat) : setZ (Zm X i) i (List.replicate (Zm X i i).length (mkS ((i : Int) + 1))) = Zm X (i + 1) := by
  funext j
  unfold setZ
  rw [Zm_len]
  unfold Zm
  by_cases h : j = i
  · subst h; rw [if_pos rfl, if_pos (by omega)]
  · rw [if_neg h]
    by_cases h2 : j < i
    · rw [if_pos h2, if_pos (by omega)]
    · rw [if_neg h2, if_neg (by omega)]
theorem keep29 {w W W' : World} {x : Hd} {z : List S23} {u : Value} {hs : List Hd} {base base' : Nat} (hx : Kd.R k23 23 W base T1 x.val z) (hR : Kd.R kH 29 W base' T1 u hs) (hk : ∀ k, k < W.heap.size → some k ≠ x.val.ownBlock → W'.heap[k]? = W.heap[k]?) : Kd.R kH 29 W' base' T1 u hs :=
  row_keep rfl hR (fun k hkv => by
    obtain ⟨cells, hc⟩ := Kd.R_typed hR k hkv
    refine hk k (Kd.R_lt hR k hkv) (fun e => ?_)
    obtain ⟨cells', hc'⟩ := Kd.R_typed hx k e.symm
    rw [hc] at hc'; cases hc')
theorem ML.mark {w W : World} {hs ws : List Hd} {X : Nat → List S23} {v6 v8 : Value} {i : Nat} {x : Hd} (h : ML w W hs ws (Zm X i) v6 v8) (hx : hs[i]? = some x) (hi : i < 10) (hX : ∀ i, (X i).length ≤ 8000000) :
    Calls Try.prog 24 #[.slice x.A x.n x.c, .int .i64 ((i : Int) + 1)] W fun e w' => e = .returned (.tuple #[]) ∧ ML w w' hs ws (Zm X (i + 1)) v6 v8 := by
  have hx' := get_left (ws := ws) hx
  refine (marked_run h.ms hx' ((i : Int) + 1) ⟨by omega, by omega⟩ (by rw [Zm_len]; exact hX _)).mono ?_
  rintro e w' ⟨rfl, q1, q2, q3⟩
  rw [Zm_step] at q1
  have hr := (h.ms.lst i x hx').2
  exact ⟨rfl, q1, keep29 (w := w) hr h.rowL q2, keep29 (w := w) hr h.rowW q2⟩
structure MG (w W : World) (hs ws gs : List Hd) (Z : Nat → List S23) (i : Nat) (v6 v8 v11 : Value) : Prop where
  g4 : G4 w W (hs ++ ws) gs Z i
  rowL : Kd.R kH 29 W w.heap.size T1 v6 hs
  rowW : Kd.R kH 29 W w.heap.size T1 v8 ws
  rowG : Kd.R kH 29 W w.heap.size T1 v11 gs
  sepL : ∀ k, v6.ownBlock = some k → v11.ownBlock ≠ some k
  sepW : ∀ k, v8.ownBlock = some k → v11.ownBlock ≠ some k
theorem ML.toG {w W : World} {hs ws : List Hd} {Z : Nat → List S23} {v6 v8 : Value} (h : ML w W hs ws Z v6 v8) : MG w W hs ws [] Z 0 v6 v8 (.slice none 0 0) :=
  ⟨h.ms.toG, h.rowL, h.rowW, Kd.R_nil _ _ _ _ _, (fun k _ e => by cases e), (fun k _ e => by cases e)⟩
theorem MG.more {w W W' : World} {hs ws gs : List Hd} {Z : Nat → List S23} {i : Nat} {v6 v8 v11 : Value} (h : MG w W hs ws gs Z i v6 v8 v11) (hb : Below W.heap.size W W') : MG w W' hs ws gs Z i v6 v8 v11 :=
  ⟨h.g4.more hb, Kd.R_below h.rowL hb, Kd.R_below h.rowW hb, Kd.R_below h.rowG hb, h.sepL, h.sepW⟩
structure MH (w W : World) (hs ws gs : List Hd) (g : Hd) (Z : Nat → List S23) (i : Nat) (v6 v8 v11 : Value) : Prop where
  g4 : G4 w W (hs ++ ws) (gs ++ [g]) Z (i + 1)
  rowL : Kd.R kH 29 W w.heap.size T1 v6 hs
  rowW : Kd.R kH 29 W w.heap.size T1 v8 ws
  rowG : Kd.R kH 29 W w.heap.size T1 v11 gs
  sepL : ∀ k, v6.ownBlock = some k → v11.ownBlock ≠ some k
  sepW : ∀ k, v8.ownBlock = some k → v11.ownBlock ≠ some k
theorem MG.grow {w W : World} {hs ws gs : List Hd} {Z : Nat → List S23} {i : Nat} {v6 v8 v11 : Value} {x : Hd} (h : MG w W hs ws gs Z i v6 v8 v11) (hx : hs[i]? = some x) (hi : i < 10) (hZ : (Z i).length ≤ 8000000) :
    Calls Try.prog 25 #[.slice x.A x.n x.c, .int .i64 ((i : Int) + 1)] W fun e w' => ∃ (gA : Option Addr) (gn gc : Nat), e = .returned (.slice gA gn gc) ∧ MH w w' hs ws gs ⟨gA, gn, gc⟩ Z i v6 v8 v11 := by
  have hx' := get_left (ws := ws) hx
  refine (h.g4.grow hx' hZ (by omega)).mono ?_
  rintro e w' ⟨⟨gA, gn, gc⟩, rfl, q1, q2, q3⟩
  have hr := (h.g4.later i x (Nat.le_refl _) hx').2
  exact ⟨gA, gn, gc, rfl, q1, keep29 (w := w) hr h.rowL q2, keep29 (w := w) hr h.rowW q2, keep29 (w := w) hr h.rowG q2, h.sepL, h.sepW⟩
theorem MH.put {w W w1 : World} {hs ws gs : List Hd} {g : Hd} {Z : Nat → List S23} {i : Nat} {v6 v8 v11 v1 : Value} (h : MH w W hs ws gs g Z i v6 v8 v11) (hR : Kd.R kH 29 w1 w.heap.size T1 v1 (gs ++ [g])) (hB : Below w.heap.size w w1) (hg : W.grownBy w1 v11.ownBlock) (hat : v1.ownBlock = v11.ownBlock ∨ ∃ b, v1.ownBlock = some b ∧ W.heap.size ≤ b) : MG w w1 hs ws (gs ++ [g]) Z (i + 1) v6 v8 v1 := by
  have sep : ∀ {u : Value} {us : List Hd}, Kd.R kH 29 W w.heap.size T1 u us → (∀ k, u.ownBlock = some k → v11.ownBlock ≠ some k) → ∀ k, u.ownBlock = some k → v1.ownBlock ≠ some k := by
    intro u us hu hs k hk e
    rcases hat with t | ⟨b, t, hb⟩
    · exact hs k hk (t.symm.trans e)
    · rw [t] at e; cases e
      have := Kd.R_lt hu k hk
      omega
  have kp : ∀ {u : Value} {us : List Hd}, Kd.R kH 29 W w.heap.size T1 u us → (∀ k, u.ownBlock = some k → v11.ownBlock ≠ some k) → Kd.R kH 29 w1 w.heap.size T1 u us := fun hu hs => row_keep rfl hu (fun k hk => hg.block k (Kd.R_lt hu k hk) (fun e => hs k hk e.symm))
  exact ⟨h.g4.past h.rowG hg hB, kp h.rowL h.sepL, kp h.rowW h.sepW, hR, sep h.rowL h.sepL, sep h.rowW h.sepW⟩
theorem Zm_ten (X : Nat → List S23) (i : Nat) (h : i < 10) : Zm X 10 i = List.replicate (X (i % 5)).length (mkS ((i : Int) + 1)) := if_pos h
theorem Zm_want (X : Nat → List S23) (t : Nat) (h : t < 5) : Zm X 10 (10 + t) = X t := by
  unfold Zm
  rw [if_neg (by omega), show (10 + t) % 5 = t by omega]
theorem MG.looksL {w W : World} {hs ws gs : List Hd} {X : Nat → List S23} {v6 v8 v11 : Value} {i : Nat} {x : Hd} (h : MG w W hs ws gs (Zm X 10) 10 v6 v8 v11) (hx : hs[i]? = some x) (hi : i < 10) (hX : ∀ i, (X i).length ≤ 8000000) :
    Calls Try.prog 26 #[.slice x.A x.n x.c, .int .i64 ((i : Int) + 1)] W fun e w' => e = .returned (.bool true) ∧ Below W.heap.size W w' := by
  have hr := h.g4.olds i x hi (get_left (ws := ws) hx)
  rw [Zm_ten X i hi] at hr
  have hl := hX (i % 5)
  have hC := hr.C
  obtain ⟨q1, q2, _⟩ := hr
  rw [List.length_replicate] at q1 q2 hC
  rw [q1]
  exact looks_run ((i : Int) + 1) ⟨by omega, by omega⟩ (by omega) hC q2
theorem MG.looksG {w W : World} {hs ws gs : List Hd} {X : Nat → List S23} {v6 v8 v11 : Value} {i : Nat} {g : Hd} (h : MG w W hs ws gs (Zm X 10) 10 v6 v8 v11) (hg : gs[i]? = some g) (hi : i < 10) (hX : ∀ i, (X i).length ≤ 8000000) :
    Calls Try.prog 26 #[.slice g.A g.n g.c, .int .i64 ((i : Int) + 1)] W fun e w' => e = .returned (.bool true) ∧ Below W.heap.size W w' := by
  have hr := h.g4.news i g hg
  rw [Zm_ten X i hi, List.replicate_append_replicate] at hr
  have hl := hX (i % 5)
  have hC := hr.C
  obtain ⟨q1, q2, _⟩ := hr
  rw [List.length_replicate] at q1 q2 hC
  rw [q1]
  exact looks_run ((i : Int) + 1) ⟨by omega, by omega⟩ (by omega) hC q2
theorem MG.want {w W : World} {hs ws gs : List Hd} {X : Nat → List S23} {v6 v8 v11 : Value} {t : Nat} {y : Hd} (h : MG w W hs ws gs (Zm X 10) 10 v6 v8 v11) (hl : hs.length = 10) (hy : ws[t]? = some y) (ht : t < 5) : Reads W y (X t) := by
  obtain ⟨q1, q2⟩ := h.g4.later (10 + t) y (by omega) (get_right hl hy)
  rw [Zm_want X t ht] at q1 q2
  exact reads_of q1 q2
def MemPost (w : World) (e : Ending) (w' : World) : Prop := e = .returned (.bool true) ∧ Below w.heap.size w w'
theorem MS.push5 {w W W' : World} {all : List Hd} {X : Nat → List S23} {A : Option Addr} {c t : Nat} (h : MS w W all (fun j => X (j % 5))) (hb : Below W.heap.size W W') (ht : all.length % 5 = t) (hR : Kd.R k23 23 W' W.heap.size T1 (.slice A (X t).length c) (X t)) : MS w W' (all ++ [⟨A, (X t).length, c⟩]) (fun j => X (j % 5)) := by
  refine h.push hb ?_ ?_
  · show Kd.R k23 23 W' W.heap.size T1 _ (X (all.length % 5))
    rw [ht]; exact hR
  · show (X t).length = (X (all.length % 5)).length
    rw [ht]
/-- A row of headers is written: the lists stay. -/
theorem MS.past {w W w1 : World} {all : List Hd} {Z : Nat → List S23} {base : Nat} {u : Value} {xs : List Hd} (h : MS w W all Z) (hR : Kd.R kH 29 W base T1 u xs) (hg : W.grownBy w1 u.ownBlock) (hB : Below w.heap.size w w1) : MS w w1 all Z := by
  refine ⟨hB, fun j y hy => ?_, h.apart⟩
  obtain ⟨q1, q2⟩ := h.lst j y hy
  refine ⟨q1, row_keep rfl q2 (fun k hk => ?_)⟩
  obtain ⟨cells, hc⟩ := Kd.R_typed q2 k hk
  refine hg.block k (Kd.R_lt q2 k hk) (fun e => ?_)
  obtain ⟨cells', hc'⟩ := Kd.R_typed hR k e.symm
  rw [hc] at hc'; cases hc'
theorem lit_H (W : World) (base : Nat) (hs : List Hd) (hb : base ≤ W.heap.size) (hl : hs.length ≤ 1000) : Kd.R kH 29 (W.alloc (.cells (hs.map Hd.val).toArray 29)) base T1 (.slice (some ⟨W.heap.size, 0, none⟩) hs.length hs.length) hs :=
  ⟨fun _ _ => trivial, OwnRow.lit W base (inner := hs.map Hd.val) ⟨by simp [kH, Kd.scalar], fun j p hj => by
    obtain ⟨hj1, rfl⟩ := List.getElem?_eq_some_iff.1 hj
    show List.take 1 (List.drop (j * 1) (hs.map Hd.val)) = [_]
    rw [Nat.mul_one, List.drop_eq_getElem_cons (by simpa using hj1)]
    simp⟩ hb (by omega)⟩
set_option maxHeartbeats 4000000 in
set_option maxRecDepth 100000 in
theorem memory_walk (w : World) (A0 A1 : Option Addr) (n0 n1 c0 c1' : Nat) (X : Nat → List S23) (hX : ∀ i, (X i).length ≤ 8000000) (k0 : Makes 15 #[.slice A0 n0 c0] w (X 0)) (k1 : Makes 16 #[.slice A0 n0 c0, .slice A1 n1 c1'] w (X 1)) (k2 : Makes 17 #[.slice A0 n0 c0, .slice A1 n1 c1'] w (X 2)) (k3 : Makes 15 #[.slice A1 n1 c1'] w (X 3)) (k4 : Makes 17 #[.slice A1 n1 c1', .slice A0 n0 c0] w (X 4)) (r0 : Makes 21 #[.slice A0 n0 c0] w (X 0)) (r1 : Makes 22 #[.slice A0 n0 c0, .slice A1 n1 c1'] w (X 1)) (r2 : Makes 23 #[.slice A0 n0 c0, .slice A1 n1 c1'] w (X 2)) (r3 : Makes 21 #[.slice A1 n1 c1'] w (X 3)) (r4 : Makes 23 #[.slice A1 n1 c1', .slice A0 n0 c0] w (X 4))
    (al : ∀ W : World, Calls Try.prog 10 #[] W fun e W' => e = .returned (.bool true) ∧ Below W.heap.size W W')
    (sm : ∀ (W : World) (x y : Hd) (xs : List S23), Reads W x xs → Reads W y xs → xs.length ≤ 8000000 → Calls Try.prog 20 #[.slice x.A x.n x.c, .slice y.A y.n y.c] W fun e W' => e = .returned (.bool true) ∧ Below W.heap.size W W') :
    Calls Try.prog 5 #[.slice A0 n0 c0, .slice A1 n1 c1'] w fun e w' => MemPost w e w' := by
  have K0 := Lib.hid k0
  have F0 := Lib.hid r0
  have K1 := Lib.hid k1
  have F1 := Lib.hid r1
  have K2 := Lib.hid k2
  have F2 := Lib.hid r2
  have K3 := Lib.hid k3
  have F3 := Lib.hid r3
  have K4 := Lib.hid k4
  have F4 := Lib.hid r4
  have HX := Lib.hid hX
  have SM := Lib.hid sm
  clear k0 k1 k2 k3 k4 r0 r1 r2 r3 r4 hX sm
  go_enter Try.func5, Try.ntmps5
  go_wp2_with fail
  refine (al w).mono ?_
  rintro e wa ⟨rfl, hb⟩
  have HB := Lib.hid hb
  clear hb al
  go_wp2_with fail
  go_loopw [6, 7] (fun v6 v7 wr => ∃ (i : Nat) (hs : List Hd), v7 = .int .i64 i ∧ i ≤ 2 ∧ hs.length = 5 * i ∧ Hid (MS w wr hs (fun j => X (j % 5))) ∧ Hid (Kd.R kH 29 wr w.heap.size T1 v6 hs)) (fun _ v7 _ => 2 - (intOf v7).toNat)
  case atStart => exact ⟨0, [], rfl, by omega, rfl, Lib.hid (MS.nil w wa _ HB.out), Lib.hid (Kd.R_nil _ _ _ _ _)⟩
  case round =>
    clear HB
    obtain ⟨i, hs, rfl, hi, hsl, HM, HR⟩ := hrel
    have HSL := Lib.hid hsl
    clear hsl
    by_cases hlt : i < 2
    · go_wp2_with fail
      refine (K0.out _ HM.out.below).mono ?_
      rintro e w1 ⟨B0, d0, rfl, hR0, hb0⟩
      have HM' := Lib.hid (HM.out.push5 (X := X) (t := 0) hb0 (by have := HSL.out; omega) hR0)
      have HR' := Lib.hid (Kd.R_below HR.out hb0)
      clear HM HR hR0 hb0
      have HM := HM'
      have HR := HR'
      clear HM' HR'
      go_wp2_with fail
      refine (K1.out _ HM.out.below).mono ?_
      rintro e w2 ⟨B1, d1, rfl, hR1, hb1⟩
      have HM' := Lib.hid (HM.out.push5 (X := X) (t := 1) hb1 (by have := HSL.out; simp only [List.length_append, List.length_singleton]; omega) hR1)
      have HR' := Lib.hid (Kd.R_below HR.out hb1)
      clear HM HR hR1 hb1
      have HM := HM'
      have HR := HR'
      clear HM' HR'
      go_wp2_with fail
      refine (K2.out _ HM.out.below).mono ?_
      rintro e w3 ⟨B2, d2, rfl, hR2, hb2⟩
      have HM' := Lib.hid (HM.out.push5 (X := X) (t := 2) hb2 (by have := HSL.out; simp only [List.length_append, List.length_singleton]; omega) hR2)
      have HR' := Lib.hid (Kd.R_below HR.out hb2)
      clear HM HR hR2 hb2
      have HM := HM'
      have HR := HR'
      clear HM' HR'
      go_wp2_with fail
      refine (K3.out _ HM.out.below).mono ?_
      rintro e w4 ⟨B3, d3, rfl, hR3, hb3⟩
      have HM' := Lib.hid (HM.out.push5 (X := X) (t := 3) hb3 (by have := HSL.out; simp only [List.length_append, List.length_singleton]; omega) hR3)
      have HR' := Lib.hid (Kd.R_below HR.out hb3)
      clear HM HR hR3 hb3
      have HM := HM'
      have HR := HR'
      clear HM' HR'
      go_wp2_with fail
      refine (K4.out _ HM.out.below).mono ?_
      rintro e w5 ⟨B4, d4, rfl, hR4, hb4⟩
      have HM' := Lib.hid (HM.out.push5 (X := X) (t := 4) hb4 (by have := HSL.out; simp only [List.length_append, List.length_singleton]; omega) hR4)
      have HR' := Lib.hid (Kd.R_below HR.out hb4)
      clear HM HR hR4 hb4
      have HM := HM'
      have HR := HR'
      clear HM' HR'
      obtain ⟨ys, hys⟩ : ∃ ys : List Hd, ys = [(⟨B0, (X 0).length, d0⟩ : Hd), (⟨B1, (X 1).length, d1⟩ : Hd), (⟨B2, (X 2).length, d2⟩ : Hd), (⟨B3, (X 3).length, d3⟩ : Hd), (⟨B4, (X 4).length, d4⟩ : Hd)] := ⟨_, rfl⟩
      have hyl : ys.length = 5 := by rw [hys]; rfl
      have hLit := lit_H w5 w.heap.size ys HM.out.below.size (by omega)
      rw [hyl, hys] at hLit
      have HLit := Lib.hid hLit
      have hRA := Kd.R_below HR.out (below_alloc (Below.refl w5.heap.size w5) (.cells (List.map Hd.val [(⟨B0, (X 0).length, d0⟩ : Hd), (⟨B1, (X 1).length, d1⟩ : Hd), (⟨B2, (X 2).length, d2⟩ : Hd), (⟨B3, (X 3).length, d3⟩ : Hd), (⟨B4, (X 4).length, d4⟩ : Hd)]).toArray 29))
      have HRA := Lib.hid hRA
      have hMA := HM.out.more (below_alloc (Below.refl w5.heap.size w5) (.cells (List.map Hd.val [(⟨B0, (X 0).length, d0⟩ : Hd), (⟨B1, (X 1).length, d1⟩ : Hd), (⟨B2, (X 2).length, d2⟩ : Hd), (⟨B3, (X 3).length, d3⟩ : Hd), (⟨B4, (X 4).length, d4⟩ : Hd)]).toArray 29))
      have HMA := Lib.hid hMA
      have HMA7 := Lib.hid (fun (w7 : World) (u : Value) (q1 : Kd.R kH 29 (w5.alloc (.cells (List.map Hd.val [(⟨B0, (X 0).length, d0⟩ : Hd), (⟨B1, (X 1).length, d1⟩ : Hd), (⟨B2, (X 2).length, d2⟩ : Hd), (⟨B3, (X 3).length, d3⟩ : Hd), (⟨B4, (X 4).length, d4⟩ : Hd)]).toArray 29)) w.heap.size T1 u hs) (q2 : (w5.alloc (.cells (List.map Hd.val [(⟨B0, (X 0).length, d0⟩ : Hd), (⟨B1, (X 1).length, d1⟩ : Hd), (⟨B2, (X 2).length, d2⟩ : Hd), (⟨B3, (X 3).length, d3⟩ : Hd), (⟨B4, (X 4).length, d4⟩ : Hd)]).toArray 29)).grownBy w7 u.ownBlock) (q3 : Below w.heap.size w w7) => (show MS w w7 (hs ++ [(⟨B0, (X 0).length, d0⟩ : Hd), (⟨B1, (X 1).length, d1⟩ : Hd), (⟨B2, (X 2).length, d2⟩ : Hd), (⟨B3, (X 3).length, d3⟩ : Hd), (⟨B4, (X 4).length, d4⟩ : Hd)]) (fun j => X (j % 5)) by have h := hMA.past q1 q2 q3; simpa only [List.append_assoc, List.cons_append, List.nil_append] using h))
      clear hLit hRA hMA hyl hys
      simp only [List.map_cons, List.map_nil, Hd.val] at HLit HRA HMA HMA7
      have HMF := Lib.hid (show MS w w5 (hs ++ [(⟨B0, (X 0).length, d0⟩ : Hd), (⟨B1, (X 1).length, d1⟩ : Hd), (⟨B2, (X 2).length, d2⟩ : Hd), (⟨B3, (X 3).length, d3⟩ : Hd), (⟨B4, (X 4).length, d4⟩ : Hd)]) (fun j => X (j % 5)) by have h := HM.out; simpa only [List.append_assoc, List.cons_append, List.nil_append] using h)
      clear HM HR
      go_wp2_with (at_builtin; refine Kd.R_append_rows kH (Rr := kH.K w5) (w0 := w) w.heap.size rfl (.tmp 19) (.tmp 33) 37 29 (.slice none 0 0) 24 rfl Try.underlying37 infoH29 rfl (by decide) (by omega) u6 hs [(⟨B0, (X 0).length, d0⟩ : Hd), (⟨B1, (X 1).length, d1⟩ : Hd), (⟨B2, (X 2).length, d2⟩ : Hd), (⟨B3, (X 3).length, d3⟩ : Hd), (⟨B4, (X 4).length, d4⟩ : Hd)] _ 5 5 T1 (fun _ => False) rfl rfl ?aO ?aR (fun _ _ h => h) (fun _ h => h.elim) ?aF ?aB ?aS ?aL ?_; (case aO => exact HRA.out); (case aR => exact (Kd.R_reads' HLit.out).2.2); (case aF => exact fun _ _ => trivial); (case aB => exact HMA.out.below); (case aS => exact HMA.out.below.size); (case aL => have := HSL.out; omega); intro v1 w7 d1_ d2_ d3_ d4_; have HM7 := Lib.hid (HMA7.out w7 _ HRA.out d3_ d2_); have HR7 := Lib.hid d1_; clear d1_ d2_ d3_ d4_)
      go_roundw
      case rel => exact ⟨i + 1, hs ++ [(⟨B0, (X 0).length, d0⟩ : Hd), (⟨B1, (X 1).length, d1⟩ : Hd), (⟨B2, (X 2).length, d2⟩ : Hd), (⟨B3, (X 3).length, d3⟩ : Hd), (⟨B4, (X 4).length, d4⟩ : Hd)], by go_num, by omega, by have := HSL.out; simp; omega, HM7, HR7⟩
      case measure => simp [intOf]; omega
    · obtain rfl : i = 2 := by omega
      have hl10 : hs.length = 10 := HSL.out
      clear HSL
      have HL10 := Lib.hid hl10
      clear hl10
      go_wp2_with fail
      refine (F0.out _ HM.out.below).mono ?_
      rintro e w1 ⟨B0, d0, rfl, hR0, hb0⟩
      have HM' := Lib.hid (HM.out.push5 (X := X) (t := 0) hb0 (by have := HL10.out; omega) hR0)
      have HR' := Lib.hid (Kd.R_below HR.out hb0)
      clear HM HR hR0 hb0
      have HM := HM'
      have HR := HR'
      clear HM' HR'
      go_wp2_with fail
      refine (F1.out _ HM.out.below).mono ?_
      rintro e w2 ⟨B1, d1, rfl, hR1, hb1⟩
      have HM' := Lib.hid (HM.out.push5 (X := X) (t := 1) hb1 (by have := HL10.out; simp only [List.length_append, List.length_singleton]; omega) hR1)
      have HR' := Lib.hid (Kd.R_below HR.out hb1)
      clear HM HR hR1 hb1
      have HM := HM'
      have HR := HR'
      clear HM' HR'
      go_wp2_with fail
      refine (F2.out _ HM.out.below).mono ?_
      rintro e w3 ⟨B2, d2, rfl, hR2, hb2⟩
      have HM' := Lib.hid (HM.out.push5 (X := X) (t := 2) hb2 (by have := HL10.out; simp only [List.length_append, List.length_singleton]; omega) hR2)
      have HR' := Lib.hid (Kd.R_below HR.out hb2)
      clear HM HR hR2 hb2
      have HM := HM'
      have HR := HR'
      clear HM' HR'
      go_wp2_with fail
      refine (F3.out _ HM.out.below).mono ?_
      rintro e w4 ⟨B3, d3, rfl, hR3, hb3⟩
      have HM' := Lib.hid (HM.out.push5 (X := X) (t := 3) hb3 (by have := HL10.out; simp only [List.length_append, List.length_singleton]; omega) hR3)
      have HR' := Lib.hid (Kd.R_below HR.out hb3)
      clear HM HR hR3 hb3
      have HM := HM'
      have HR := HR'
      clear HM' HR'
      go_wp2_with fail
      refine (F4.out _ HM.out.below).mono ?_
      rintro e w5 ⟨B4, d4, rfl, hR4, hb4⟩
      have HM' := Lib.hid (HM.out.push5 (X := X) (t := 4) hb4 (by have := HL10.out; simp only [List.length_append, List.length_singleton]; omega) hR4)
      have HR' := Lib.hid (Kd.R_below HR.out hb4)
      clear HM HR hR4 hb4
      have HM := HM'
      have HR := HR'
      clear HM' HR'
      have hLit := lit_H w5 w.heap.size [(⟨B0, (X 0).length, d0⟩ : Hd), (⟨B1, (X 1).length, d1⟩ : Hd), (⟨B2, (X 2).length, d2⟩ : Hd), (⟨B3, (X 3).length, d3⟩ : Hd), (⟨B4, (X 4).length, d4⟩ : Hd)] HM.out.below.size (by simp)
      have hb6 := below_alloc (Below.refl w5.heap.size w5) (.cells (List.map Hd.val [(⟨B0, (X 0).length, d0⟩ : Hd), (⟨B1, (X 1).length, d1⟩ : Hd), (⟨B2, (X 2).length, d2⟩ : Hd), (⟨B3, (X 3).length, d3⟩ : Hd), (⟨B4, (X 4).length, d4⟩ : Hd)]).toArray 29)
      have HML := Lib.hid (show ML w (w5.alloc (.cells (List.map Hd.val [(⟨B0, (X 0).length, d0⟩ : Hd), (⟨B1, (X 1).length, d1⟩ : Hd), (⟨B2, (X 2).length, d2⟩ : Hd), (⟨B3, (X 3).length, d3⟩ : Hd), (⟨B4, (X 4).length, d4⟩ : Hd)]).toArray 29)) hs [(⟨B0, (X 0).length, d0⟩ : Hd), (⟨B1, (X 1).length, d1⟩ : Hd), (⟨B2, (X 2).length, d2⟩ : Hd), (⟨B3, (X 3).length, d3⟩ : Hd), (⟨B4, (X 4).length, d4⟩ : Hd)] (fun j => X (j % 5)) u6 (.slice (some ⟨w5.heap.size, 0, none⟩) 5 5) from ⟨by have h := HM.out.more hb6; simpa only [List.append_assoc, List.cons_append, List.nil_append] using h, Kd.R_below HR.out hb6, hLit⟩)
      clear hLit hb6 HM HR
      simp only [List.map_cons, List.map_nil, Hd.val] at HML
      obtain ⟨g6, k6, e6, _⟩ := Kd.R_form HML.out.rowL (by rw [HL10.out]; omega)
      rw [HL10.out] at e6
      subst e6
      generalize hws : [(⟨B0, (X 0).length, d0⟩ : Hd), (⟨B1, (X 1).length, d1⟩ : Hd), (⟨B2, (X 2).length, d2⟩ : Hd), (⟨B3, (X 3).length, d3⟩ : Hd), (⟨B4, (X 4).length, d4⟩ : Hd)] = ws at HML
      have HWL := Lib.hid (show ws.length = 5 by rw [← hws]; rfl)
      clear hws
      go_wp2_with fail
      generalize w5.alloc (.cells #[.slice B0 (X 0).length d0, .slice B1 (X 1).length d1, .slice B2 (X 2).length d2, .slice B3 (X 3).length d3, .slice B4 (X 4).length d4] 29) = w6 at *
      generalize w5.heap.size = g8 at *
      go_loopw [9] (fun v9 wx => ∃ i : Nat, v9 = .int .i64 i ∧ i ≤ 10 ∧ Hid (ML w wx hs ws (fun j => X (j % 5)) (.slice (some ⟨g6, 0, none⟩) 10 k6) (.slice (some ⟨g8, 0, none⟩) 5 5))) (fun v9 _ => 10 - (intOf v9).toNat)
      case atStart => exact ⟨0, rfl, by omega, HML⟩
      case round =>
        clear HML
        obtain ⟨i, rfl, hi10, HQ⟩ := hrel
        by_cases hlt : i < 10
        · obtain ⟨⟨xA, xn, xc⟩, hx⟩ : ∃ x, hs[i]? = some x := ⟨hs[i]'(by have := HL10.out; omega), by simp⟩
          obtain ⟨⟨yA, yn, yc⟩, hy⟩ : ∃ y, ws[i % 5]? = some y := ⟨ws[i % 5]'(by have := HWL.out; omega), by simp⟩
          have hcx := read_H HQ.out.rowL i hlt d0H
          rw [getD_of hx] at hcx
          have hcy := read_H HQ.out.rowW (i % 5) (by omega) d0H
          rw [getD_of hy] at hcy
          simp only [Hd.val] at hcx hcy
          have hrx := HQ.out.drew.ms.readsAt (get_left (ws := ws) hx)
          have hry := HQ.out.drew.ms.readsAt (get_right (n := 10) HL10.out hy)
          have e5 : (10 + i % 5) % 5 = i % 5 := by omega
          simp only [e5] at hrx hry
          have HC := Lib.hid (SM.out _ _ _ _ hrx hry (HX.out _))
          obtain ⟨r, hr⟩ : ∃ r, r = i % 5 := ⟨_, rfl⟩
          rw [← hr] at hcy
          have hr5 : r < 5 := by omega
          have hm5 : ((i : Int) % 5) = (r : Int) := by omega
          have hm5t : Int.tmod (i : Int) 5 = (r : Int) := by rw [Int.tmod_eq_emod_of_nonneg (by omega)]; exact hm5
          have hr6 : (0 : Int) ≤ (r : Int) ∧ (r : Int) < ((5 : Nat) : Int) := by omega
          have hr7 : (0 : Int) ≤ (r : Int) ∧ (r : Int) < 5 := by omega
          clear hr
          have HQ' := Lib.hid HQ.out.drew
          clear hrx hry e5 hx hy HQ
          go_wp2_with fail
          go_still_tail 9, (by kernel_rfl)
          change wpList _ _ _ _ _ wr.drew
          generalize wr.drew = w7 at *
          go_wp2_with fail
          refine HC.out.mono ?_
          clear HC hcx hcy
          rintro e w8 ⟨rfl, hb8⟩
          have HQ8 := Lib.hid (HQ'.out.more hb8)
          clear hb8 HQ'
          go_wp2_with fail
          go_roundw
          case rel => exact ⟨i + 1, by go_num, by omega, HQ8⟩
          case measure => simp [intOf]; omega
        · obtain rfl : i = 10 := by omega
          have HM3 : Hid (ML w wr hs ws (Zm X 0) (.slice (some ⟨g6, 0, none⟩) 10 k6) (.slice (some ⟨g8, 0, none⟩) 5 5)) := Lib.hid (by rw [Zm_zero]; exact HQ.out)
          clear HQ
          go_wp2_with fail
          go_loopw [10] (fun v10 wx => ∃ i : Nat, v10 = .int .i64 i ∧ i ≤ 10 ∧ Hid (ML w wx hs ws (Zm X i) (.slice (some ⟨g6, 0, none⟩) 10 k6) (.slice (some ⟨g8, 0, none⟩) 5 5))) (fun v10 _ => 10 - (intOf v10).toNat)
          case atStart => exact ⟨0, rfl, by omega, HM3⟩
          case round =>
            clear HM3
            obtain ⟨i, rfl, hi10, HQ⟩ := hrel
            by_cases hlt : i < 10
            · obtain ⟨⟨xA, xn, xc⟩, hx⟩ : ∃ x, hs[i]? = some x := ⟨hs[i]'(by have := HL10.out; omega), by simp⟩
              have hcx := read_H HQ.out.rowL i hlt d0H
              rw [getD_of hx] at hcx
              simp only [Hd.val] at hcx
              have HC := Lib.hid (HQ.out.mark hx hlt HX.out)
              clear hx HQ
              go_wp2_with fail
              refine HC.out.mono ?_
              clear HC hcx
              rintro e w8 ⟨rfl, hq8⟩
              have HQ8 := Lib.hid hq8
              clear hq8
              go_wp2_with fail
              go_roundw
              case rel => (repeat apply Exists.intro); exact ⟨⟨i + 1, by go_num, by omega, HQ8⟩, rfl⟩
              case measure => simp [intOf]; omega
            · obtain rfl : i = 10 := by omega
              have HG4 := Lib.hid HQ.out.toG
              clear HQ
              go_wp2_with fail
              go_loopw [11, 12] (fun v11 v12 wx => ∃ (i : Nat) (gs : List Hd), v12 = .int .i64 i ∧ i ≤ 10 ∧ gs.length = i ∧ Hid (MG w wx hs ws gs (Zm X 10) i (.slice (some ⟨g6, 0, none⟩) 10 k6) (.slice (some ⟨g8, 0, none⟩) 5 5) v11)) (fun _ v12 _ => 10 - (intOf v12).toNat)
              case atStart => exact ⟨0, [], rfl, by omega, rfl, HG4⟩
              case round =>
                clear HG4
                obtain ⟨i, gs, rfl, hi10, hgl, HQ⟩ := hrel
                have HGL := Lib.hid hgl
                clear hgl
                by_cases hlt : i < 10
                · obtain ⟨⟨xA, xn, xc⟩, hx⟩ : ∃ x, hs[i]? = some x := ⟨hs[i]'(by have := HL10.out; omega), by simp⟩
                  have hcx := read_H HQ.out.rowL i hlt d0H
                  rw [getD_of hx] at hcx
                  simp only [Hd.val] at hcx
                  have HC := Lib.hid (HQ.out.grow hx hlt (by rw [Zm_len]; exact HX.out _))
                  clear hx HQ
                  go_wp2_with fail
                  refine HC.out.mono ?_
                  clear HC hcx
                  rintro e w8 ⟨gA, gn, gc, rfl, hq8⟩
                  have HQ8 := Lib.hid hq8
                  clear hq8
                  go_wp2_with (at_builtin; refine Kd.R_append kH (w0 := w) w.heap.size rfl (.tmp 85) (.tmp 93) 37 29 (.slice none 0 0) 24 rfl Try.underlying37 infoH29 rfl (by decide) (by omega) u11 gs (⟨gA, gn, gc⟩ : Hd) [.slice gA gn gc] (fun _ => True) (fun _ => False) rfl rfl ?aP (fun _ hk => hk.elim) ?aF ?aO ?aB ?aS ?aL ?_; (case aP => rfl); (case aF => exact fun _ _ => trivial); (case aO => exact HQ8.out.rowG); (case aB => exact HQ8.out.g4.below); (case aS => exact HQ8.out.g4.below.size); (case aL => have := HGL.out; omega); intro v1 w9 ho hb hg hat; have HQ9 := Lib.hid (HQ8.out.put ho hb hg hat); clear ho hb hg hat)
                  go_roundw
                  case rel => (repeat apply Exists.intro); exact ⟨⟨i + 1, gs ++ [⟨gA, gn, gc⟩], by go_num, by omega, by (have := HGL.out; simp; omega), HQ9⟩, rfl⟩
                  case measure => simp [intOf]; omega
                · obtain rfl : i = 10 := by omega
                  obtain ⟨g11, k11, e11, _⟩ := Kd.R_form HQ.out.rowG (by rw [HGL.out]; omega)
                  rw [HGL.out] at e11
                  subst e11
                  go_wp2_with fail
                  go_loopw [13] (fun v13 wx => ∃ i : Nat, v13 = .int .i64 i ∧ i ≤ 10 ∧ Hid (MG w wx hs ws gs (Zm X 10) 10 (.slice (some ⟨g6, 0, none⟩) 10 k6) (.slice (some ⟨g8, 0, none⟩) 5 5) (.slice (some ⟨g11, 0, none⟩) 10 k11))) (fun v13 _ => 10 - (intOf v13).toNat)
                  case atStart => exact ⟨0, rfl, by omega, HQ⟩
                  case round =>
                    clear HQ
                    obtain ⟨i, rfl, hi10, HQ⟩ := hrel
                    by_cases hlt : i < 10
                    · obtain ⟨⟨xA, xn, xc⟩, hx⟩ : ∃ x, hs[i]? = some x := ⟨hs[i]'(by have := HL10.out; omega), by simp⟩
                      obtain ⟨⟨yA, yn, yc⟩, hy⟩ : ∃ y, gs[i]? = some y := ⟨gs[i]'(by have := HGL.out; omega), by simp⟩
                      have hcx := read_H HQ.out.rowL i hlt d0H
                      rw [getD_of hx] at hcx
                      simp only [Hd.val] at hcx
                      have HC := Lib.hid (HQ.out.looksL hx hlt HX.out)
                      have HX1 := Lib.hid hx
                      have HY1 := Lib.hid hy
                      clear hx hy
                      go_wp2_with fail
                      refine HC.out.mono ?_
                      clear HC hcx
                      rintro e w8 ⟨rfl, hb8⟩
                      have HQ8 := Lib.hid (HQ.out.more hb8)
                      clear hb8 HQ
                      have hcy := read_H HQ8.out.rowG i hlt d0H
                      rw [getD_of HY1.out] at hcy
                      simp only [Hd.val] at hcy
                      have HC2 := Lib.hid (HQ8.out.looksG HY1.out hlt HX.out)
                      go_wp2_with fail
                      refine HC2.out.mono ?_
                      clear HC2 hcy
                      rintro e w9 ⟨rfl, hb9⟩
                      have HQ9 := Lib.hid (HQ8.out.more hb9)
                      clear hb9 HQ8
                      go_wp2_with fail
                      go_roundw
                      case rel => (repeat apply Exists.intro); exact ⟨⟨i + 1, by go_num, by omega, HQ9⟩, rfl⟩
                      case measure => simp [intOf]; omega
                    · obtain ⟨⟨y0A, y0n, y0c⟩, hy0⟩ : ∃ y, ws[0]? = some y := ⟨ws[0]'(by have := HWL.out; omega), by simp⟩
                      obtain ⟨⟨y1A, y1n, y1c⟩, hy1⟩ : ∃ y, ws[1]? = some y := ⟨ws[1]'(by have := HWL.out; omega), by simp⟩
                      obtain ⟨⟨y2A, y2n, y2c⟩, hy2⟩ : ∃ y, ws[2]? = some y := ⟨ws[2]'(by have := HWL.out; omega), by simp⟩
                      have HW : Hid (∀ W : World, MG w W hs ws gs (Zm X 10) 10 (.slice (some ⟨g6, 0, none⟩) 10 k6) (.slice (some ⟨g8, 0, none⟩) 5 5) (.slice (some ⟨g11, 0, none⟩) 10 k11) → W.cell? ⟨g8, 0, none⟩ = some (.slice y0A y0n y0c) ∧ W.cell? ⟨g8, 1, none⟩ = some (.slice y1A y1n y1c) ∧ W.cell? ⟨g8, 2, none⟩ = some (.slice y2A y2n y2c)) := Lib.hid (fun W h => ⟨by have q := read_H h.rowW 0 (by omega) d0H; rw [getD_of hy0] at q; exact q, by have q := read_H h.rowW 1 (by omega) d0H; rw [getD_of hy1] at q; exact q, by have q := read_H h.rowW 2 (by omega) d0H; rw [getD_of hy2] at q; exact q⟩)
                      have HY0 : Hid (∀ W : World, MG w W hs ws gs (Zm X 10) 10 (.slice (some ⟨g6, 0, none⟩) 10 k6) (.slice (some ⟨g8, 0, none⟩) 5 5) (.slice (some ⟨g11, 0, none⟩) 10 k11) → Reads W ⟨y0A, y0n, y0c⟩ (X 0)) := Lib.hid (fun W h => h.want HL10.out hy0 (by omega))
                      have HY1 : Hid (∀ W : World, MG w W hs ws gs (Zm X 10) 10 (.slice (some ⟨g6, 0, none⟩) 10 k6) (.slice (some ⟨g8, 0, none⟩) 5 5) (.slice (some ⟨g11, 0, none⟩) 10 k11) → Reads W ⟨y1A, y1n, y1c⟩ (X 1)) := Lib.hid (fun W h => h.want HL10.out hy1 (by omega))
                      have HY2 : Hid (∀ W : World, MG w W hs ws gs (Zm X 10) 10 (.slice (some ⟨g6, 0, none⟩) 10 k6) (.slice (some ⟨g8, 0, none⟩) 5 5) (.slice (some ⟨g11, 0, none⟩) 10 k11) → Reads W ⟨y2A, y2n, y2c⟩ (X 2)) := Lib.hid (fun W h => h.want HL10.out hy2 (by omega))
                      have HQ0 := Lib.hid (HQ.out.more (below_drew1 (Below.refl _ _)))
                      have hq0 := HW.out _ HQ0.out
                      clear hy0 hy1 hy2 HQ
                      go_wp2_with fail
                      go_region_held3 (fun w' => w'.cell? ⟨g8, 0, none⟩ = some (.slice y0A y0n y0c) ∧ w'.cell? ⟨g8, 1, none⟩ = some (.slice y1A y1n y1c) ∧ w'.cell? ⟨g8, 2, none⟩ = some (.slice y2A y2n y2c)) (first | exact hq6 | exact hq5 | exact hq4 | exact hq3 | exact hq2 | exact hq1 | exact hq0) (first | (go_at_call 20; refine (SM.out _ ⟨B2n, (X 2).length, d2n⟩ ⟨y2A, y2n, y2c⟩ (X 2) HN2.out (HY2.out _ HQ5.out) (HX.out _)).mono ?_; rintro e_ w2s ⟨rfl, hb2s⟩; have HQ6 := Lib.hid (HQ5.out.more hb2s); clear hb2s HN2; have hq6 := HW.out _ HQ6.out) | (go_at_call 17; refine (K2.out _ HQ4.out.g4.below).mono ?_; rintro e_ w2m ⟨B2n, d2n, rfl, hR2n, hb2n⟩; have HN2 := Lib.hid (reads_of (h := ⟨B2n, (X 2).length, d2n⟩) rfl hR2n); have HQ5 := Lib.hid (HQ4.out.more hb2n); clear hR2n hb2n; have hq5 := HW.out _ HQ5.out) | (go_at_call 20; refine (SM.out _ ⟨B1n, (X 1).length, d1n⟩ ⟨y1A, y1n, y1c⟩ (X 1) HN1.out (HY1.out _ HQ3.out) (HX.out _)).mono ?_; rintro e_ w1s ⟨rfl, hb1s⟩; have HQ4 := Lib.hid (HQ3.out.more hb1s); clear hb1s HN1; have hq4 := HW.out _ HQ4.out) | (go_at_call 16; refine (K1.out _ HQ2.out.g4.below).mono ?_; rintro e_ w1m ⟨B1n, d1n, rfl, hR1n, hb1n⟩; have HN1 := Lib.hid (reads_of (h := ⟨B1n, (X 1).length, d1n⟩) rfl hR1n); have HQ3 := Lib.hid (HQ2.out.more hb1n); clear hR1n hb1n; have hq3 := HW.out _ HQ3.out) | (go_at_call 20; refine (SM.out _ ⟨B0n, (X 0).length, d0n⟩ ⟨y0A, y0n, y0c⟩ (X 0) HN0.out (HY0.out _ HQ1.out) (HX.out _)).mono ?_; rintro e_ w0s ⟨rfl, hb0s⟩; have HQ2 := Lib.hid (HQ1.out.more hb0s); clear hb0s HN0; have hq2 := HW.out _ HQ2.out) | (go_at_call 15; refine (K0.out _ HQ0.out.g4.below).mono ?_; rintro e_ w0m ⟨B0n, d0n, rfl, hR0n, hb0n⟩; have HN0 := Lib.hid (reads_of (h := ⟨B0n, (X 0).length, d0n⟩) rfl hR0n); have HQ1 := Lib.hid (HQ0.out.more hb0n); clear hR0n hb0n; have hq1 := HW.out _ HQ1.out))
                      go_wp2_with fail
                      go_ret
                      exact ⟨rfl, HQ6.out.g4.below⟩
end Go.Proofs.Ytafpmcmpkgbgaaa.Pr
namespace Go.Proofs.Ytafpmcmpkgbgaaa.Pr
open Go.RowKit Go.Proofs.YtafpmcmpkgbgaaaW.PrintWords Go.Proofs.YtafpmcmpkgbgaaaW.PrintLast Go.Proofs.YtafpmcmpkgbgaaaW.PrintMore
open Go.Lib
set_option linter.unusedVariables false
set_option linter.unusedSimpArgs false
theorem makes_of {f : Nat} {args : Array Value} {w : World} {X : List S23} (h : ∀ W, Below w.heap.size w W → Calls Try.prog f args W fun e W' => ∃ v0_ : Value, e = .returned (v0_) ∧ Kd.R k23 23 W' W.heap.size (fun _ => True) v0_ X ∧ Below W.heap.size W W') : Makes f args w X := by
  intro W hB
  refine (h W hB).mono ?_
  rintro e W' ⟨v, rfl, hR, hb⟩
  obtain ⟨A, c, rfl⟩ := Kd.R_slice hR
  exact ⟨A, c, rfl, hR, hb⟩
def XL (a b : List S23) : Nat → List S23
  | 0 => normalL a
  | 1 => meetL a b
  | 2 => minusL a b
  | 3 => normalL b
  | _ => minusL b a
theorem memory_run (A0 : Option Addr) (c0 : Nat) (l0 : List S23) (A1 : Option Addr) (c1 : Nat) (l1 : List S23) (w : World) (h0 : Kd.C k23 w A0 l0.length l0) (hc0 : l0.length ≤ c0) (h1 : Kd.C k23 w A1 l1.length l1) (hc1 : l1.length ≤ c1)
    (hl0 : l0.length ≤ 1048576) (hl1 : l1.length ≤ 1048576) :
    Calls Try.prog 5 #[.slice A0 l0.length c0, .slice A1 l1.length c1] w fun e w' => MemPost w e w' := by
  have k0 : ∀ {W : World}, Below w.heap.size w W → Kd.C k23 W A0 l0.length l0 := fun hB => Kd.C_below h0 hB
  have k1 : ∀ {W : World}, Below w.heap.size w W → Kd.C k23 W A1 l1.length l1 := fun hB => Kd.C_below h1 hB
  refine memory_walk w A0 A1 l0.length l1.length c0 c1 (XL l0 l1) (fun i => ?_)
    (makes_of fun W hB => ival_Normal.calls A0 c0 l0 (normalL l0) W (k0 hB) hc0 (normal_eq (by omega)))
    (makes_of fun W hB => ival_Meet.calls A0 c0 l0 A1 c1 l1 (meetL l0 l1) W (k0 hB) hc0 (k1 hB) hc1 (meet_eq hl0 hl1))
    (makes_of fun W hB => ival_Minus.calls A0 c0 l0 A1 c1 l1 (minusL l0 l1) W (k0 hB) hc0 (k1 hB) hc1 (minus_eq hl0 hl1))
    (makes_of fun W hB => ival_Normal.calls A1 c1 l1 (normalL l1) W (k1 hB) hc1 (normal_eq (by omega)))
    (makes_of fun W hB => ival_Minus.calls A1 c1 l1 A0 c0 l0 (minusL l1 l0) W (k1 hB) hc1 (k0 hB) hc0 (minus_eq hl1 hl0))
    (makes_of fun W hB => spoorref06_Normal.calls A0 c0 l0 (normalL l0) W (k0 hB) hc0 (refNormal_eq (by omega)))
    (makes_of fun W hB => spoorref06_Meet.calls A0 c0 l0 A1 c1 l1 (meetL l0 l1) W (k0 hB) hc0 (k1 hB) hc1 (refMeet_eq hl0 hl1))
    (makes_of fun W hB => spoorref06_Minus.calls A0 c0 l0 A1 c1 l1 (minusL l0 l1) W (k0 hB) hc0 (k1 hB) hc1 (refMinus_eq hl0 hl1))
    (makes_of fun W hB => spoorref06_Normal.calls A1 c1 l1 (normalL l1) W (k1 hB) hc1 (refNormal_eq (by omega)))
    (makes_of fun W hB => spoorref06_Minus.calls A1 c1 l1 A0 c0 l0 (minusL l1 l0) W (k1 hB) hc1 (k0 hB) hc0 (refMinus_eq hl1 hl0))
    (fun W => alive_run.mono fun e W' h => ⟨h.1, h.2.out⟩)
    (fun W x y xs hx hy hl => ?_)
  · have q0 := normal_len l0
    have q1 := normal_len l1
    have q2 := meet_len l0 l1
    have q3 := minus_len l0 l1
    have q4 := minus_len l1 l0
    unfold XL
    split <;> omega
  · have hcx := hx.C
    have hcy := hy.C
    obtain ⟨x1, x2, _⟩ := hx
    obtain ⟨y1, y2, _⟩ := hy
    rw [x1, y1]
    exact (same_run hcx x2 hcy y2 (by omega)).mono fun e W' h => ⟨h.1, h.2.out⟩
end Go.Proofs.Ytafpmcmpkgbgaaa.Pr
