/-
  Walks: reading small numbers and texts back (Take, number, Reader.Num, Text, Left, Close).
-/
import Derived.Test.YthflkfgiclcdiaaGreatW2
import Derived.Test.YthflkfgiclcdiaaGreatRow
namespace Go.Proofs.YthflkfgiclcdiaaGreat
open Go.RowKit Go.Gr
set_option linter.unusedSimpArgs false
set_option maxRecDepth 100000 in
theorem Take_small {w : World} {M : Nat → Prop} {a : Option Addr} {n c k : Nat} {xs : List UInt8} (h : Ty.bytes.rep w M [.slice a n c] xs) (hk : k < xs.length) (hs : xs[k].toNat ≤ 247) :
    Calls Tryz.prog 103 #[.slice a n c, .int .i64 (k : Int)] w fun e w' => e = .returned (.tuple #[.int .u64 (xs[k].toNat : Int), .int .i64 ((k : Int) + 1), .int .i64 0]) ∧ w' = w := by
  obtain rfl : n = xs.length := by obtain ⟨_, _, hv, _⟩ := Ty.slice_val h; injection hv
  have hl := Ty.slice_le h
  rw [lim_eq] at hl
  obtain ⟨b, off, u, rfl, _, _, hu, hc⟩ := Ty.slice_at1 rfl h hk
  have hu' : [u] = [Value.int .u8 (xs[k].toNat : Int)] := hu
  obtain rfl := (List.cons.inj hu').1
  clear hu hu' h
  have t0 : decide ((k : Int) < 0) = false := decide_eq_false (by omega)
  have t1 : decide ((xs.length : Int) < (k : Int)) = false := decide_eq_false (by omega)
  have t2 : ((k : Int) == (xs.length : Int)) = false := beq_eq_false_iff_ne.2 (by omega)
  generalize hx : xs[k].toNat = x at *
  have t3 : decide ((x : Int) ≤ 247) = true := decide_eq_true (by omega)
  clear hx
  go_enter Tryz.func103, Tryz.ntmps103
  go_wp2
  go_ret3
  exact ⟨rfl, rfl⟩
set_option maxRecDepth 100000 in
theorem bNumber_small {w : World} {M : Nat → Prop} {a : Option Addr} {n c : Nat} {x : UInt8} (h : Ty.bytes.rep w M [.slice a n c] [x]) (hs : x.toNat ≤ 247) :
    Calls Tryz.prog 65 #[.slice a n c] w fun e w' => e = .returned (.tuple #[.int .i64 (x.toNat : Int), .int .i64 0]) ∧ w' = w := by
  obtain rfl : n = 1 := by obtain ⟨_, _, hv, _⟩ := Ty.slice_val h; injection hv
  have H := Lib.hid h
  clear h
  go_enter Tryz.func65, Tryz.ntmps65
  go_wp2_with (go_at_call 103; refine (Take_small (k := 0) H.out (by simp) (by simpa using hs)).mono ?_; rintro e w1 ⟨rfl, rfl⟩)
  go_ret2
  exact ⟨rfl, rfl⟩
end Go.Proofs.YthflkfgiclcdiaaGreat
