/- Plain: StoreMerged's law: two sets of spans, put together this way and that. -/
import Derived.Test.YthdkgilpnkabmaaGreatDoorOq
import Derived.Test.YthdkgilpnkabmaaGreatDoorRu
namespace Go.Proofs.YthdkgilpnkabmaaGreatDoor.Pr
open Go Go.RowKit
open Ps
set_option linter.unusedVariables false
set_option linter.unusedSimpArgs false
section
variable {S : Type} {nm : S → Nm} {cmp : S → S → Int} {chk : S → Int}
theorem dom_new (hc : Cmp3 cmp) (l : List S) : DomOf nm cmp (putAll nm cmp [] l) (fun x => x ∈ l) := by
  have h := all_dom (nm := nm) hc l (L := []) (by simp)
  exact ⟨fun z hz => (h.1 z hz).elim (fun h => absurd h (List.not_mem_nil)) (fun h => h), fun y hy => h.2 y (.inr hy)⟩
theorem nd_new (l : List S) : ((putAll nm cmp [] l).map nm).Nodup := nodup_all (by simp) l
theorem chk_new (hc : Cmp3 cmp) {l : List S} (h : fitsF nm chk [] l = 0) : ∀ x ∈ putAll nm cmp [] l, chk x = 0 := fun x hx => (fits_zero h).1 x ((dom_new (nm := nm) hc l).1 x hx)
/-- Refused one way: refused the other way, for the same reason. -/
theorem merged_no (hc : Cmp3 cmp) {l m ys zs : List S} (el : fitsF nm chk [] l = 0) (em : fitsF nm chk [] m = 0) (hy : ys.Perm (putAll nm cmp [] m)) (hz : zs.Perm (putAll nm cmp [] l)) :
    fitsF nm chk (putAll nm cmp [] m) zs = fitsF nm chk (putAll nm cmp [] l) ys := by
  have hcl := chk_new hc el
  have hcm := chk_new hc em
  rw [fits_U (cmp := cmp) (nd_new m) (cnt_of_fits em) (fun x hx => hcl x (hz.mem_iff.1 hx)), fits_U (cmp := cmp) (nd_new l) (cnt_of_fits el) (fun x hx => hcm x (hy.mem_iff.1 hx))]
  refine roomU_perm (names_perm (nd_new m) (nd_new l) (fun n => ?_))
  have h1 : n ∈ zs.map nm ↔ n ∈ (putAll nm cmp [] l).map nm := (hz.map nm).mem_iff
  have h2 : n ∈ ys.map nm ↔ n ∈ (putAll nm cmp [] m).map nm := (hy.map nm).mem_iff
  rw [h1, h2]
  exact Or.comm
theorem dom_both (hc : Cmp3 cmp) {l m ys : List S} (hy : ys.Perm (putAll nm cmp [] m)) : DomOf nm cmp (putAll nm cmp (putAll nm cmp [] l) ys) (fun x => x ∈ l ∨ x ∈ m) :=
  dom_all hc (nd_new l) (dom_new hc l) (dom_perm (dom_new hc m) hy.symm)
/-- Done one way: what the other one gets then is the same set, and there is room. -/
theorem merged_ok (hc : Cmp3 cmp) {l m ys zs : List S} (el : fitsF nm chk [] l = 0) (em : fitsF nm chk [] m = 0) (hy : ys.Perm (putAll nm cmp [] m)) (hi : fitsF nm chk (putAll nm cmp [] l) ys = 0) (hz : zs.Perm (putAll nm cmp (putAll nm cmp [] l) ys)) :
    fitsF nm chk (putAll nm cmp [] m) zs = 0 ∧ (putAll nm cmp (putAll nm cmp [] m) zs).Perm (putAll nm cmp (putAll nm cmp [] l) ys) := by
  have hU := dom_both (l := l) hc hy
  have hP : (putAll nm cmp (putAll nm cmp [] m) zs).Perm (putAll nm cmp (putAll nm cmp [] l) ys) := by
    refine dom_one hc (nodup_all (nd_new m) zs) (nodup_all (nd_new l) ys) (dom_iff (dom_all hc (nd_new m) (dom_new hc m) (dom_perm hU hz.symm)) (fun x => ?_)) hU
    exact ⟨fun h => h.elim .inr id, .inr⟩
  refine ⟨?_, hP⟩
  have hcl := (fits_zero el).1
  have hcm := (fits_zero em).1
  rw [fits_U (cmp := cmp) (nd_new m) (cnt_of_fits em) (fun x hx => (hU.1 x (hz.mem_iff.1 hx)).elim (hcl x) (hcm x)), roomU_perm (hP.map nm), ← fits_U (cmp := cmp) (nd_new l) (cnt_of_fits el) (fun x hx => chk_new hc em x (hy.mem_iff.1 hx))]
  exact hi
theorem merged_put (hc : Cmp3 cmp) {l m ys : List S} (el : fitsF nm chk [] l = 0) (em : fitsF nm chk [] m = 0) (hy : ys.Perm (putAll nm cmp [] m)) (hi : fitsF nm chk (putAll nm cmp [] l) ys = 0) :
    fitsF nm chk [] (l ++ m) = 0 ∧ (putAll nm cmp [] (l ++ m)).Perm (putAll nm cmp (putAll nm cmp [] l) ys) := by
  have hU := dom_both (l := l) hc hy
  have hP : (putAll nm cmp [] (l ++ m)).Perm (putAll nm cmp (putAll nm cmp [] l) ys) := dom_one hc (nd_new _) (nodup_all (nd_new l) ys) (dom_iff (dom_new hc (l ++ m)) (fun x => List.mem_append)) hU
  refine ⟨?_, hP⟩
  have hcl := (fits_zero el).1
  have hcm := (fits_zero em).1
  rw [fits_0 (cmp := cmp) (fun x hx => (List.mem_append.1 hx).elim (hcl x) (hcm x)), roomU_perm (hP.map nm), ← fits_U (cmp := cmp) (nd_new l) (cnt_of_fits el) (fun x hx => chk_new hc em x (hy.mem_iff.1 hx))]
  exact hi
/-- Of what is put in one by one, in any order: the same set as at once. -/
theorem order_perm (hc : Cmp3 cmp) {l M : List S} (h1 : ∀ x ∈ M, x ∈ l) (h2 : ∀ x ∈ l, x ∈ M) : (putAll nm cmp [] M).Perm (putAll nm cmp [] l) :=
  dom_one hc (nd_new M) (nd_new l) (dom_iff (dom_new hc M) (fun x => ⟨h1 x, h2 x⟩)) (dom_new hc l)
end
end Go.Proofs.YthdkgilpnkabmaaGreatDoor.Pr
