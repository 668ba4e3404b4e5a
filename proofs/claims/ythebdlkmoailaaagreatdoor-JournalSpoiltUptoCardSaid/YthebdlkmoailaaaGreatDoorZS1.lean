/-
  Plain words: a sealed record of which one byte was changed does not open.
-/
import Derived.Test.YthebdlkmoailaaaGreatDoorZP11
set_option linter.unusedVariables false
set_option linter.unusedSimpArgs false
namespace Go.Proofs.YthebdlkmoailaaaGreatDoor
open Go.Gr
set_option linter.unusedSimpArgs false
set_option linter.unusedVariables false
def inv8 : List Nat := [54, 108, 216, 173, 71, 142, 1, 2]
theorem inv8_gens : ∀ f : Fin 256, xorL inv8 (xorL gens f.val 0 % 256) 0 = f.val := by decide +kernel
theorem gens_inj {f g : Nat} (hf : f < 256) (hg : g < 256) (h : xorL gens f 0 % 256 = xorL gens g 0 % 256) : f = g := by
  have h1 := inv8_gens ⟨f, hf⟩
  have h2 := inv8_gens ⟨g, hg⟩
  simp only at h1 h2
  rw [← h1, ← h2, h]
theorem xor_cancel {a b x : Nat} (h : a ^^^ x = b ^^^ x) : a = b := by
  have := congrArg (· ^^^ x) h
  simpa [Nat.xor_assoc] using this
theorem stepC_low (r : Nat) (c : UInt8) : stepC r c % 256 = xorL gens (c.toNat ^^^ (r / 16777216)) 0 % 256 := by
  unfold stepC
  rw [xorL_acc, show (256 : Nat) = 2 ^ 8 from rfl, Nat.xor_mod_two_pow]
  have : r * 2 ^ 8 % 4294967296 % 2 ^ 8 = 0 := by omega
  rw [this, Nat.zero_xor]
theorem stepC_inj {r s : Nat} {c d : UInt8} (hr : r < 4294967296) (hs : s < 4294967296) (h : stepC r c = stepC s d) : c.toNat ^^^ (r / 16777216) = d.toNat ^^^ (s / 16777216) ∧ r * 256 % 4294967296 = s * 256 % 4294967296 := by
  have h1 := congrArg (· % 256) h
  simp only [stepC_low] at h1
  have hf : ∀ (e : UInt8) (x : Nat), x < 4294967296 → e.toNat ^^^ (x / 16777216) < 256 := fun e x hx => Nat.xor_lt_two_pow (n := 8) e.toNat_lt (by omega)
  have h2 := gens_inj (hf c r hr) (hf d s hs) h1
  refine ⟨h2, ?_⟩
  unfold stepC at h
  rw [xorL_acc, h2, xorL_acc gens _ (s * 256 % 4294967296)] at h
  exact xor_cancel h
theorem foldC_inj : ∀ (t : List UInt8) {r s : Nat}, r < 4294967296 → s < 4294967296 → t.foldl stepC r = t.foldl stepC s → r = s
  | [], _, _, _, _, h => h
  | c :: t, r, s, hr, hs, h => by
    have h1 := foldC_inj t (stepC_lt r c) (stepC_lt s c) h
    obtain ⟨h2, h3⟩ := stepC_inj hr hs h1
    have h4 : r / 16777216 = s / 16777216 := by
      rw [Nat.xor_comm c.toNat, Nat.xor_comm c.toNat] at h2
      exact xor_cancel h2
    omega
theorem crc_ne {a t : List UInt8} {x y : UInt8} (h : x ≠ y) : crcR (a ++ x :: t) ≠ crcR (a ++ y :: t) := fun he => by
  unfold crcR at he
  rw [List.foldl_append, List.foldl_append, List.foldl_cons, List.foldl_cons] at he
  have hl : a.foldl stepC 0 < 4294967296 := crcR_lt a
  have h1 := (stepC_inj hl hl (foldC_inj t (stepC_lt _ _) (stepC_lt _ _) he)).1
  exact h (UInt8.toNat_inj.1 (xor_cancel h1))
/-- One byte changed. -/
def spoil (y : UInt8) : Nat → List UInt8 → List UInt8
  | _, [] => []
  | 0, x :: l => (x ^^^ y) :: l
  | i + 1, x :: l => x :: spoil y i l
theorem spoil_len (y : UInt8) : ∀ (i : Nat) (l : List UInt8), (spoil y i l).length = l.length
  | _, [] => by simp [spoil]
  | 0, x :: l => rfl
  | i + 1, x :: l => by simp [spoil, spoil_len y i l]
theorem spoil_left {y : UInt8} : ∀ {i : Nat} {a b : List UInt8}, i < a.length → spoil y i (a ++ b) = spoil y i a ++ b
  | _, [], _, h => by simp at h
  | 0, x :: a, b, _ => rfl
  | i + 1, x :: a, b, h => by
    rw [List.cons_append, spoil, spoil, spoil_left (by simpa using h)]
    rfl
theorem spoil_right {y : UInt8} {i : Nat} : ∀ {a b : List UInt8}, spoil y (a.length + i) (a ++ b) = a ++ spoil y i b
  | [], b => by simp
  | x :: a, b => by
    rw [List.cons_append, List.length_cons, Nat.add_right_comm, spoil, spoil_right]
    rfl
theorem spoil_split {y : UInt8} : ∀ {i : Nat} {l : List UInt8}, i < l.length → ∃ a x b, l = a ++ x :: b ∧ spoil y i l = a ++ (x ^^^ y) :: b
  | _, [], h => by simp at h
  | 0, x :: l, _ => ⟨[], x, l, rfl, rfl⟩
  | i + 1, x :: l, h => by
    obtain ⟨a, z, b, h1, h2⟩ := spoil_split (y := y) (i := i) (l := l) (by simpa using h)
    exact ⟨x :: a, z, b, by rw [h1]; rfl, by rw [spoil, h2]; rfl⟩
theorem spoil_set {y : UInt8} : ∀ {i : Nat} {l : List UInt8} (h : i < l.length), spoil y i l = l.set i (l[i] ^^^ y)
  | _, [], h => by simp at h
  | 0, x :: l, _ => rfl
  | i + 1, x :: l, h => by
    rw [spoil, spoil_set (by simpa using h)]
    rfl
theorem xor_ne {x y : UInt8} (hy : y ≠ 0) : x ^^^ y ≠ x := fun h => hy (by
  have := congrArg (x ^^^ ·) h
  simpa [← UInt8.xor_assoc] using this)
theorem spoil_ne {y : UInt8} (hy : y ≠ 0) {i : Nat} {l : List UInt8} (h : i < l.length) : spoil y i l ≠ l := fun he => by
  obtain ⟨a, x, b, h1, h2⟩ := spoil_split (y := y) h
  rw [he, h1] at h2
  have := List.append_cancel_left h2
  exact xor_ne hy (List.cons.inj this).1.symm
theorem crcB_inj {a b : List UInt8} (h : crcB a = crcB b) : crcR a = crcR b := by
  have := congrArg beN h
  unfold crcB at this
  rwa [beN_be4 (crcR_lt a), beN_be4 (crcR_lt b)] at this
theorem cell_spoilt {c : List UInt8} {i : Nat} {y : UInt8} (hy : y ≠ 0) (hi : i < (cellB c).length) : crcB ((spoil y i (cellB c)).take c.length) ≠ (spoil y i (cellB c)).drop c.length := by
  unfold cellB at hi ⊢
  by_cases h : i < c.length
  · rw [spoil_left h, List.take_left' (spoil_len _ _ _), List.drop_left' (spoil_len _ _ _)]
    intro he
    obtain ⟨a, x, b, h1, h2⟩ := spoil_split (y := y) h
    have h3 := crcB_inj he
    rw [h2, h1] at h3
    exact crc_ne (xor_ne hy) h3
  · obtain ⟨j, rfl⟩ : ∃ j, i = c.length + j := ⟨i - c.length, by omega⟩
    rw [List.length_append] at hi
    rw [spoil_right, List.take_left' rfl, List.drop_left' rfl]
    exact (spoil_ne hy (by omega)).symm
theorem takeC_bad {a z t : List UInt8} {n : Nat} (hz : z.length = n + 4) (h : crcB (z.take n) ≠ z.drop n) : (takeC (a ++ (z ++ t)) a.length n).2 ≠ 0 := by
  have h1 : (a ++ (z ++ t)).drop a.length = z ++ t := List.drop_left' rfl
  have h2 : (a ++ (z ++ t)).drop (a.length + n) = z.drop n ++ t := by
    rw [← List.drop_drop, h1, List.drop_append_of_le_length (by omega)]
  unfold takeC
  rw [if_neg (by rw [List.length_append, List.length_append]; omega), h1, h2, List.take_append_of_le_length (by omega), List.take_left' (by rw [List.length_drop]; omega), if_neg h]
  simp
theorem partsO_spoilt {y : UInt8} (hy : y ≠ 0) (r : List UInt8) : ∀ (a t out : List UInt8) (i : Nat), i < (cellsB r).length → (partsO (a ++ (spoil y i (cellsB r) ++ t)) r.length a.length out).2.2 ≠ 0 := by
  induction hn : r.length using Nat.strongRecOn generalizing r with
  | _ n ih =>
    intro a t out i hi
    by_cases h : r = []
    · subst h; rw [cellsB_nil] at hi; simp at hi
    · have hp : 0 < r.length := List.length_pos_iff.2 h
      have hlt : (r.take 251).length = min 251 n := by rw [List.length_take, hn]
      have hcl : (cellB (r.take 251)).length = min 251 n + 4 := by rw [cellB_len, hlt]
      rw [cellsB_cons h] at hi ⊢
      by_cases hs : i < (cellB (r.take 251)).length
      · rw [spoil_left hs, List.append_assoc]
        have hT := takeC_bad (a := a) (z := spoil y i (cellB (r.take 251))) (t := cellsB (r.drop 251) ++ t) (n := min 251 n) (by rw [spoil_len, hcl]) (by have := cell_spoilt hy hs; rwa [hlt] at this)
        rw [partsO_bad (by omega) hT]
        exact hT
      · obtain ⟨j, rfl⟩ : ∃ j, i = (cellB (r.take 251)).length + j := ⟨i - (cellB (r.take 251)).length, by omega⟩
        rw [List.length_append] at hi
        rw [spoil_right, List.append_assoc]
        have hT : takeC (a ++ (cellB (r.take 251) ++ (spoil y j (cellsB (r.drop 251)) ++ t))) a.length (min 251 n) = (r.take 251, 0) := by rw [← hlt]; exact takeC_cell _ _ _
        rw [partsO_go (by omega) (by rw [hT])]
        have hl2 : (a ++ cellB (r.take 251)).length = a.length + min 251 n + 4 := by rw [List.length_append, hcl]; omega
        have hl3 : n - min 251 n = (r.drop 251).length := by rw [List.length_drop, hn]; omega
        rw [← List.append_assoc, ← hl2, hl3]
        exact ih (r.drop 251).length (by rw [List.length_drop]; omega) (r.drop 251) rfl _ _ _ _ (by omega)
theorem openO_spoilt {y : UInt8} (hy : y ≠ 0) {r : List UInt8} (hr : r.length ≤ 1048576) (a t : List UInt8) {i : Nat} (hi : i < (sealB r).length) : (openO (a ++ (spoil y i (sealB r) ++ t)) a.length).2.2 ≠ 0 := by
  have hcl : (cellB (be4 r.length)).length = 8 := by rw [cellB_len, be4_len]
  unfold sealB at hi ⊢
  by_cases hs : i < (cellB (be4 r.length)).length
  · rw [spoil_left hs, List.append_assoc]
    have hT := takeC_bad (a := a) (z := spoil y i (cellB (be4 r.length))) (t := cellsB r ++ t) (n := 4) (by rw [spoil_len, hcl]) (by have := cell_spoilt hy hs; rwa [be4_len] at this)
    unfold openO
    rw [if_pos hT]
    exact hT
  · obtain ⟨j, rfl⟩ : ∃ j, i = (cellB (be4 r.length)).length + j := ⟨i - (cellB (be4 r.length)).length, by omega⟩
    rw [List.length_append] at hi
    rw [spoil_right, List.append_assoc]
    have hT : takeC (a ++ (cellB (be4 r.length) ++ (spoil y j (cellsB r) ++ t))) a.length 4 = (be4 r.length, 0) := takeC_cell _ _ _
    unfold openO
    rw [hT]
    simp only [ne_eq, not_true, if_false]
    rw [beN_be4 (by omega), if_neg (by omega), ← List.append_assoc]
    have hl2 : (a ++ cellB (be4 r.length)).length = a.length + 8 := by rw [List.length_append, hcl]
    rw [← hl2]
    exact partsO_spoilt hy r _ _ _ _ (by omega)
/-- Of sealed records of which one byte was changed those stand ahead that were whole ahead of it, and nothing opens behind. -/
theorem seals_spoilt {y : UInt8} (hy : y ≠ 0) : ∀ (R : List (List UInt8)) (i : Nat), (∀ r ∈ R, r.length ≤ 1048576) → i < (sealsB R).length → ∃ j t, j < R.length ∧ spoil y i (sealsB R) = sealsB (R.take j) ++ t ∧ DeadT t ∧ t ≠ [] ∧ ∀ m, (sealsB (R.take m)).length ≤ i → m ≤ j
  | [], i, _, h => by simp [sealsB] at h
  | r :: R, i, hr, h => by
    have hp : 8 ≤ (sealB r).length := by rw [sealB_len]; omega
    rw [sealsB_cons] at h ⊢
    by_cases hi : i < (sealB r).length
    · refine ⟨0, spoil y i (sealB r) ++ sealsB R, by simp, by rw [spoil_left hi]; rfl, fun b => openO_spoilt hy (hr r List.mem_cons_self) b _ hi, ?_, fun m hm => ?_⟩
      · intro h0
        have := congrArg List.length h0
        rw [List.length_append, spoil_len, List.length_nil] at this
        omega
      · rcases m with _ | m
        · exact Nat.le_refl _
        · rw [List.take_succ_cons, sealsB_cons, List.length_append] at hm
          omega
    · obtain ⟨k, rfl⟩ : ∃ k, i = (sealB r).length + k := ⟨i - (sealB r).length, by omega⟩
      rw [List.length_append] at h
      obtain ⟨j, t, h1, h2, h3, h4, h5⟩ := seals_spoilt hy R k (fun x hx => hr x (List.mem_cons_of_mem _ hx)) (by omega)
      refine ⟨j + 1, t, by simpa using h1, by rw [spoil_right, h2, List.take_succ_cons, sealsB_cons, List.append_assoc], h3, h4, fun m hm => ?_⟩
      rcases m with _ | m
      · omega
      · rw [List.take_succ_cons, sealsB_cons, List.length_append] at hm
        have := h5 m (by omega)
        omega
end Go.Proofs.YthebdlkmoailaaaGreatDoor
