/-
  Walk: more shards come to the same as fewer (BranchFiner).
-/
import Derived.Test.YthflkfgiclcdiaaZB30
import Derived.Test.YthflkfgiclcdiaaZB29
import Derived.Test.YthflkfgiclcdiaaZB19
import Derived.Test.YthflkfgiclcdiaaZB22
import Derived.Test.YthflkfgiclcdiaaZP7
import Derived.Test.YthflkfgiclcdiaaZW9
import Derived.Test.YthflkfgiclcdiaaZP4
import Derived.Test.YthflkfgiclcdiaaZW1
import Derived.Deep.CutBlock
set_option linter.unusedVariables false
set_option linter.unusedSimpArgs false
namespace Go.Proofs.Ythflkfgiclcdiaa
open Go.RowKit Go.Gr Go.Sort
set_option linter.unusedSimpArgs false
set_option linter.unusedVariables false
theorem stOuts : SliceTy Try.prog 81 41 tOutcome.n := .mk' (z := .agg #[.int .i64 0, .int .i64 0, .slice none 0 0, .slice none 0 0]) (by_ := 64) Try.underlying81 (by kernel_rfl) rfl (by decide) (by omega)
/-- A shard's request, upon a reader of its own. -/
theorem brPart_ {Y : Nat → Prop} {W : World} {lv gv : Value} {P : List DPair} {q : List DOp} (hY : ∀ b, Y b → b < W.heap.size) (hl : (Ty.slice tPair).rep W Y [lv] P) (hg : (Ty.slice tOp).rep W Y [gv] q) (hP : RisP P) (hPl : P.length ≤ 1000) :
    Calls Try.prog 25 #[.iface 62 (.pointer (some ⟨W.heap.size, 0, none⟩)), gv] (W.alloc (.cells #[lv, .slice none 0 0, .int .i64 0] 65)) fun e w' => ∃ rv wv, e = .returned (.agg (outC (runB P q).err (runB P q).at_ rv wv)) ∧
        (Ty.slice (Ty.slice tPair)).rep w' Y [rv] (runB P q).rows ∧ (Ty.slice tWrite).rep w' Y [wv] (runB P q).writes ∧ Step W w' := by
  have hk : ∀ {α : Type} {E : Ty α} {cs : List Value} {x : α}, E.rep W Y cs x → E.rep (W.alloc (.cells #[lv, .slice none 0 0, .int .i64 0] 65)) (fun b => b = W.heap.size ∨ Y b) cs x := fun {_ E _ _} h => E.keep h fun b hb hm => ⟨Below.heap_alloc _ _ b hb, fun e => e.elim (fun e => by omega) hm⟩
  refine (brRunY_ (Y := Y) (w := W.alloc (.cells #[lv, .slice none 0 0, .int .i64 0] 65)) (lb := W.heap.size) (CellsAt.new rfl) (fun b hb => ⟨by have := hY b hb; simp; omega, by have := hY b hb; omega⟩) (hk hl) (hk hg) hP hPl).mono ?_
  rintro e w' ⟨rv, wv, h1, h2, h3, h4⟩
  exact ⟨rv, wv, h1, h2, h3, Turn.step ((Step.refl W).alloc _) h4 (fun b hb => by subst hb; exact Nat.le_refl _)⟩
/-- Parts of a request, run one behind the other: what the first k come to. -/
def outsB (P : List DPair) (sp : List (List UInt8)) (ops : List DOp) : List DOutcome := (partsPO P sp ops).map Prod.snd
theorem partsPO_fst {P : List DPair} {sp : List (List UInt8)} {ops : List DOp} : (partsPO P sp ops).map Prod.fst = partsB sp ops (sp.length + 1) := by
  unfold partsPO
  rw [List.map_map]
  exact List.map_id _
theorem zip_fst_snd {α β : Type} : ∀ l : List (α × β), (l.map Prod.fst).zip (l.map Prod.snd) = l
  | [] => rfl
  | (a, b) :: l => by simp [zip_fst_snd l]
theorem outsB_len {P : List DPair} {sp : List (List UInt8)} {ops : List DOp} : (outsB P sp ops).length = (partsB sp ops (sp.length + 1)).length := by
  unfold outsB
  rw [← partsPO_fst (P := P), List.length_map, List.length_map]
theorem outsB_zip {P : List DPair} {sp : List (List UInt8)} {ops : List DOp} : (partsB sp ops (sp.length + 1)).zip (outsB P sp ops) = partsPO P sp ops := by
  unfold outsB
  rw [← partsPO_fst (P := P)]
  exact zip_fst_snd _
theorem outsB_at {P : List DPair} {sp : List (List UInt8)} {ops : List DOp} {i : Nat} (h : i < (partsB sp ops (sp.length + 1)).length) (h2 : i < (outsB P sp ops).length) : (outsB P sp ops)[i] = runB (shardB P sp (partsB sp ops (sp.length + 1))[i].shard.toNat) (partsB sp ops (sp.length + 1))[i].ops := by
  simp [outsB, partsPO]
/-- Join of the parts with what they come to: what the whole comes to. -/
theorem joinParts_ {w : World} {M1 M2 Z : Nat → Prop} {ov pv cv : Value} {P : List DPair} {sp : List (List UInt8)} {ops : List DOp} (hP : RisP P) (h : GoodSp sp) (hc : checkB ops = 0) (ho : (Ty.slice tOp).rep w M1 [ov] ops) (hp : (Ty.slice tPart).rep w M2 [pv] (partsB sp ops (sp.length + 1))) (hq : (Ty.slice tOutcome).rep w Z [cv] (outsB P sp ops)) (hZ : ∀ b, Z b → b < w.heap.size) :
    Calls Try.prog 35 #[ov, pv, cv] w fun x w' => ∃ rv wv, x = .returned (.agg (jC (runB P ops).err (runB P ops).at_ rv wv)) ∧ (Ty.slice (Ty.slice tPair)).rep w' Z [rv] (runB P ops).rows ∧ (Ty.slice tWrite).rep w' Z [wv] (runB P ops).writes ∧ Step w w' := by
  have hlaw := parts_law hP h hc
  have hok := (check_ok hc).1
  have hsl := h.len
  have hl : (outsB P sp ops).length ≤ sp.length + 1 := by
    unfold outsB
    rw [List.length_map]
    exact partsPO_len
  have hj := Join_ (w := w) ho hp hq hZ outsB_len.symm (by omega) (by omega) (fun i h1 h2 => by
    have hi : i < (partsPO P sp ops).length := by have := h2; unfold outsB at this; rwa [List.length_map] at this
    have hwf := partsPO_wf h hc _ (List.getElem_mem hi)
    have e1 : (partsB sp ops (sp.length + 1))[i] = (partsPO P sp ops)[i].1 := by simp [partsPO]
    have e2 : (outsB P sp ops)[i] = (partsPO P sp ops)[i].2 := by simp [outsB]
    rw [e1, e2]
    exact hwf) (fun hw => by
    rw [outsB_zip] at hw ⊢
    exact partsPO_rise hP h hc hw)
  rw [outsB_zip, hlaw] at hj
  exact hj
end Go.Proofs.Ythflkfgiclcdiaa
