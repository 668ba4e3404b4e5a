/-
  The data of the program: its structs as Lean structures, and how each lies in cells ('Ty'). Printed by genty.py. No program is named here.
-/
import Derived.Test.YthflkfgiclcdiaaMem
namespace Go.Gr
def I64 (x : Int) : Prop := -9223372036854775808 ≤ x ∧ x ≤ 9223372036854775807
structure DTxn where
  boot : Nat
  session : Nat
  seq : Nat
  deriving DecidableEq, Inhabited
def tTxn : Ty DTxn where
  n := 3
  rep := fun w M cs x => cs = [.int .u64 (x.boot : Int), .int .u64 (x.session : Int), .int .u64 (x.seq : Int)] ∧ x.boot < 18446744073709551616 ∧ x.session < 18446744073709551616 ∧ x.seq < 18446744073709551616
  len := by rintro w M cs x ⟨rfl, _, _, _⟩; rfl
  one := by
    rintro w M cs x ⟨rfl, h0, h1, h2⟩ u hu
    simp only [List.mem_cons, List.not_mem_nil, or_false] at hu
    rcases hu with rfl | rfl | rfl
    · rfl
    · rfl
    · rfl
  keep := by
    rintro w w2 M M2 cs x ⟨rfl, h0, h1, h2⟩ hk
    exact ⟨rfl, h0, h1, h2⟩

structure DPair where
  key : List UInt8
  value : List UInt8
  deriving DecidableEq, Inhabited
def tPair : Ty DPair where
  n := 2
  rep := fun w M cs x => ∃ c0 c1, cs = [c0, c1] ∧ (Ty.bytes).rep w M [c0] x.key ∧ (Ty.bytes).rep w M [c1] x.value
  len := by rintro w M cs x ⟨_, _, rfl, _, _⟩; rfl
  one := by
    rintro w M cs x ⟨e0, e1, rfl, h0, h1⟩ u hu
    simp only [List.mem_cons, List.not_mem_nil, or_false] at hu
    rcases hu with rfl | rfl
    · exact (Ty.bytes).one h0 _ (by simp)
    · exact (Ty.bytes).one h1 _ (by simp)
  keep := by
    rintro w w2 M M2 cs x ⟨e0, e1, rfl, h0, h1⟩ hk
    exact ⟨e0, e1, rfl, (Ty.bytes).keep h0 hk, (Ty.bytes).keep h1 hk⟩

structure DWrite where
  key : List UInt8
  value : List UInt8
  gone : Bool
  deriving DecidableEq, Inhabited
def tWrite : Ty DWrite where
  n := 3
  rep := fun w M cs x => ∃ c0 c1, cs = [c0, c1, .bool x.gone] ∧ (Ty.bytes).rep w M [c0] x.key ∧ (Ty.bytes).rep w M [c1] x.value
  len := by rintro w M cs x ⟨_, _, rfl, _, _⟩; rfl
  one := by
    rintro w M cs x ⟨e0, e1, rfl, h0, h1⟩ u hu
    simp only [List.mem_cons, List.not_mem_nil, or_false] at hu
    rcases hu with rfl | rfl | rfl
    · exact (Ty.bytes).one h0 _ (by simp)
    · exact (Ty.bytes).one h1 _ (by simp)
    · rfl
  keep := by
    rintro w w2 M M2 cs x ⟨e0, e1, rfl, h0, h1⟩ hk
    exact ⟨e0, e1, rfl, (Ty.bytes).keep h0 hk, (Ty.bytes).keep h1 hk⟩

structure DRange where
  lo : List UInt8
  hi : List UInt8
  excl : Bool
  deriving DecidableEq, Inhabited
def tRange : Ty DRange where
  n := 3
  rep := fun w M cs x => ∃ c0 c1, cs = [c0, c1, .bool x.excl] ∧ (Ty.bytes).rep w M [c0] x.lo ∧ (Ty.bytes).rep w M [c1] x.hi
  len := by rintro w M cs x ⟨_, _, rfl, _, _⟩; rfl
  one := by
    rintro w M cs x ⟨e0, e1, rfl, h0, h1⟩ u hu
    simp only [List.mem_cons, List.not_mem_nil, or_false] at hu
    rcases hu with rfl | rfl | rfl
    · exact (Ty.bytes).one h0 _ (by simp)
    · exact (Ty.bytes).one h1 _ (by simp)
    · rfl
  keep := by
    rintro w w2 M M2 cs x ⟨e0, e1, rfl, h0, h1⟩ hk
    exact ⟨e0, e1, rfl, (Ty.bytes).keep h0 hk, (Ty.bytes).keep h1 hk⟩

structure DOp where
  kind : Int
  key : List UInt8
  value : List UInt8
  most : Int
  deriving DecidableEq, Inhabited
def tOp : Ty DOp where
  n := 4
  rep := fun w M cs x => ∃ c1 c2, cs = [.int .i64 x.kind, c1, c2, .int .i64 x.most] ∧ I64 x.kind ∧ (Ty.bytes).rep w M [c1] x.key ∧ (Ty.bytes).rep w M [c2] x.value ∧ I64 x.most
  len := by rintro w M cs x ⟨_, _, rfl, _, _, _, _⟩; rfl
  one := by
    rintro w M cs x ⟨e0, e1, rfl, h0, h1, h2, h3⟩ u hu
    simp only [List.mem_cons, List.not_mem_nil, or_false] at hu
    rcases hu with rfl | rfl | rfl | rfl
    · rfl
    · exact (Ty.bytes).one h1 _ (by simp)
    · exact (Ty.bytes).one h2 _ (by simp)
    · rfl
  keep := by
    rintro w w2 M M2 cs x ⟨e0, e1, rfl, h0, h1, h2, h3⟩ hk
    exact ⟨e0, e1, rfl, h0, (Ty.bytes).keep h1 hk, (Ty.bytes).keep h2 hk, h3⟩

structure DOutcome where
  err : Int
  at_ : Int
  rows : List (List DPair)
  writes : List DWrite
  deriving DecidableEq, Inhabited
def tOutcome : Ty DOutcome where
  n := 4
  rep := fun w M cs x => ∃ c2 c3, cs = [.int .i64 x.err, .int .i64 x.at_, c2, c3] ∧ I64 x.err ∧ I64 x.at_ ∧ (Ty.slice (Ty.slice tPair)).rep w M [c2] x.rows ∧ (Ty.slice tWrite).rep w M [c3] x.writes
  len := by rintro w M cs x ⟨_, _, rfl, _, _, _, _⟩; rfl
  one := by
    rintro w M cs x ⟨e0, e1, rfl, h0, h1, h2, h3⟩ u hu
    simp only [List.mem_cons, List.not_mem_nil, or_false] at hu
    rcases hu with rfl | rfl | rfl | rfl
    · rfl
    · rfl
    · exact (Ty.slice (Ty.slice tPair)).one h2 _ (by simp)
    · exact (Ty.slice tWrite).one h3 _ (by simp)
  keep := by
    rintro w w2 M M2 cs x ⟨e0, e1, rfl, h0, h1, h2, h3⟩ hk
    exact ⟨e0, e1, rfl, h0, h1, (Ty.slice (Ty.slice tPair)).keep h2 hk, (Ty.slice tWrite).keep h3 hk⟩

structure DPart where
  shard : Int
  ops : List DOp
  index : List Int
  deriving DecidableEq, Inhabited
def tPart : Ty DPart where
  n := 3
  rep := fun w M cs x => ∃ c1 c2, cs = [.int .i64 x.shard, c1, c2] ∧ I64 x.shard ∧ (Ty.slice tOp).rep w M [c1] x.ops ∧ (Ty.slice Ty.int).rep w M [c2] x.index
  len := by rintro w M cs x ⟨_, _, rfl, _, _, _⟩; rfl
  one := by
    rintro w M cs x ⟨e0, e1, rfl, h0, h1, h2⟩ u hu
    simp only [List.mem_cons, List.not_mem_nil, or_false] at hu
    rcases hu with rfl | rfl | rfl
    · rfl
    · exact (Ty.slice tOp).one h1 _ (by simp)
    · exact (Ty.slice Ty.int).one h2 _ (by simp)
  keep := by
    rintro w w2 M M2 cs x ⟨e0, e1, rfl, h0, h1, h2⟩ hk
    exact ⟨e0, e1, rfl, h0, (Ty.slice tOp).keep h1 hk, (Ty.slice Ty.int).keep h2 hk⟩

structure DAsk where
  kind : Int
  inc : Nat
  head : Nat
  boot : Nat
  txn : DTxn
  ops : List DOp
  commit : Bool
  reply : List UInt8
  id : Nat
  name : List UInt8
  deriving DecidableEq, Inhabited
def tAsk : Ty DAsk where
  n := 12
  rep := fun w M cs x => ∃ c7 c9, cs = [.int .i64 x.kind, .int .u64 (x.inc : Int), .int .u64 (x.head : Int), .int .u64 (x.boot : Int), .int .u64 (x.txn.boot : Int), .int .u64 (x.txn.session : Int), .int .u64 (x.txn.seq : Int), c7, .bool x.commit, c9, .int .u64 (x.id : Int), .string ⟨x.name.toArray⟩] ∧ I64 x.kind ∧ x.inc < 18446744073709551616 ∧ x.head < 18446744073709551616 ∧ x.boot < 18446744073709551616 ∧ x.txn.boot < 18446744073709551616 ∧ x.txn.session < 18446744073709551616 ∧ x.txn.seq < 18446744073709551616 ∧ (Ty.slice tOp).rep w M [c7] x.ops ∧ (Ty.bytes).rep w M [c9] x.reply ∧ x.id < 18446744073709551616 ∧ x.name.length ≤ lim
  len := by rintro w M cs x ⟨_, _, rfl, _, _, _, _, _, _, _, _, _, _, _⟩; rfl
  one := by
    rintro w M cs x ⟨e0, e1, rfl, h0, h1, h2, h3, h4, h5, h6, h7, h8, h9, h10⟩ u hu
    simp only [List.mem_cons, List.not_mem_nil, or_false] at hu
    rcases hu with rfl | rfl | rfl | rfl | rfl | rfl | rfl | rfl | rfl | rfl | rfl | rfl
    · rfl
    · rfl
    · rfl
    · rfl
    · rfl
    · rfl
    · rfl
    · exact (Ty.slice tOp).one h7 _ (by simp)
    · rfl
    · exact (Ty.bytes).one h8 _ (by simp)
    · rfl
    · rfl
  keep := by
    rintro w w2 M M2 cs x ⟨e0, e1, rfl, h0, h1, h2, h3, h4, h5, h6, h7, h8, h9, h10⟩ hk
    exact ⟨e0, e1, rfl, h0, h1, h2, h3, h4, h5, h6, (Ty.slice tOp).keep h7 hk, (Ty.bytes).keep h8 hk, h9, h10⟩

structure DSend where
  shard : Int
  ask : DAsk
  deriving DecidableEq, Inhabited
def tSend : Ty DSend where
  n := 13
  rep := fun w M cs x => ∃ c8 c10, cs = [.int .i64 x.shard, .int .i64 x.ask.kind, .int .u64 (x.ask.inc : Int), .int .u64 (x.ask.head : Int), .int .u64 (x.ask.boot : Int), .int .u64 (x.ask.txn.boot : Int), .int .u64 (x.ask.txn.session : Int), .int .u64 (x.ask.txn.seq : Int), c8, .bool x.ask.commit, c10, .int .u64 (x.ask.id : Int), .string ⟨x.ask.name.toArray⟩] ∧ I64 x.shard ∧ I64 x.ask.kind ∧ x.ask.inc < 18446744073709551616 ∧ x.ask.head < 18446744073709551616 ∧ x.ask.boot < 18446744073709551616 ∧ x.ask.txn.boot < 18446744073709551616 ∧ x.ask.txn.session < 18446744073709551616 ∧ x.ask.txn.seq < 18446744073709551616 ∧ (Ty.slice tOp).rep w M [c8] x.ask.ops ∧ (Ty.bytes).rep w M [c10] x.ask.reply ∧ x.ask.id < 18446744073709551616 ∧ x.ask.name.length ≤ lim
  len := by rintro w M cs x ⟨_, _, rfl, _, _, _, _, _, _, _, _, _, _, _, _⟩; rfl
  one := by
    rintro w M cs x ⟨e0, e1, rfl, h0, h1, h2, h3, h4, h5, h6, h7, h8, h9, h10, h11⟩ u hu
    simp only [List.mem_cons, List.not_mem_nil, or_false] at hu
    rcases hu with rfl | rfl | rfl | rfl | rfl | rfl | rfl | rfl | rfl | rfl | rfl | rfl | rfl
    · rfl
    · rfl
    · rfl
    · rfl
    · rfl
    · rfl
    · rfl
    · rfl
    · exact (Ty.slice tOp).one h8 _ (by simp)
    · rfl
    · exact (Ty.bytes).one h9 _ (by simp)
    · rfl
    · rfl
  keep := by
    rintro w w2 M M2 cs x ⟨e0, e1, rfl, h0, h1, h2, h3, h4, h5, h6, h7, h8, h9, h10, h11⟩ hk
    exact ⟨e0, e1, rfl, h0, h1, h2, h3, h4, h5, h6, h7, (Ty.slice tOp).keep h8 hk, (Ty.bytes).keep h9 hk, h10, h11⟩

structure DAnswer where
  kind : Int
  inc : Nat
  boot : Nat
  txn : DTxn
  id : Nat
  err : Int
  out : DOutcome
  commit : Bool
  reply : List UInt8
  at_ : Nat
  deriving DecidableEq, Inhabited
def tAnswer : Ty DAnswer where
  n := 15
  rep := fun w M cs x => ∃ c10 c11 c13, cs = [.int .i64 x.kind, .int .u64 (x.inc : Int), .int .u64 (x.boot : Int), .int .u64 (x.txn.boot : Int), .int .u64 (x.txn.session : Int), .int .u64 (x.txn.seq : Int), .int .u64 (x.id : Int), .int .i64 x.err, .int .i64 x.out.err, .int .i64 x.out.at_, c10, c11, .bool x.commit, c13, .int .u64 (x.at_ : Int)] ∧ I64 x.kind ∧ x.inc < 18446744073709551616 ∧ x.boot < 18446744073709551616 ∧ x.txn.boot < 18446744073709551616 ∧ x.txn.session < 18446744073709551616 ∧ x.txn.seq < 18446744073709551616 ∧ x.id < 18446744073709551616 ∧ I64 x.err ∧ I64 x.out.err ∧ I64 x.out.at_ ∧ (Ty.slice (Ty.slice tPair)).rep w M [c10] x.out.rows ∧ (Ty.slice tWrite).rep w M [c11] x.out.writes ∧ (Ty.bytes).rep w M [c13] x.reply ∧ x.at_ < 18446744073709551616
  len := by rintro w M cs x ⟨_, _, _, rfl, _, _, _, _, _, _, _, _, _, _, _, _, _, _⟩; rfl
  one := by
    rintro w M cs x ⟨e0, e1, e2, rfl, h0, h1, h2, h3, h4, h5, h6, h7, h8, h9, h10, h11, h12, h13⟩ u hu
    simp only [List.mem_cons, List.not_mem_nil, or_false] at hu
    rcases hu with rfl | rfl | rfl | rfl | rfl | rfl | rfl | rfl | rfl | rfl | rfl | rfl | rfl | rfl | rfl
    · rfl
    · rfl
    · rfl
    · rfl
    · rfl
    · rfl
    · rfl
    · rfl
    · rfl
    · rfl
    · exact (Ty.slice (Ty.slice tPair)).one h10 _ (by simp)
    · exact (Ty.slice tWrite).one h11 _ (by simp)
    · rfl
    · exact (Ty.bytes).one h12 _ (by simp)
    · rfl
  keep := by
    rintro w w2 M M2 cs x ⟨e0, e1, e2, rfl, h0, h1, h2, h3, h4, h5, h6, h7, h8, h9, h10, h11, h12, h13⟩ hk
    exact ⟨e0, e1, e2, rfl, h0, h1, h2, h3, h4, h5, h6, h7, h8, h9, (Ty.slice (Ty.slice tPair)).keep h10 hk, (Ty.slice tWrite).keep h11 hk, (Ty.bytes).keep h12 hk, h13⟩

structure DRec where
  kind : Int
  txn : DTxn
  writes : List DWrite
  ranges : List DRange
  commit : Bool
  shards : List Int
  reply : List UInt8
  id : Nat
  name : List UInt8
  deriving DecidableEq, Inhabited
def tRec : Ty DRec where
  n := 11
  rep := fun w M cs x => ∃ c4 c5 c7 c8, cs = [.int .i64 x.kind, .int .u64 (x.txn.boot : Int), .int .u64 (x.txn.session : Int), .int .u64 (x.txn.seq : Int), c4, c5, .bool x.commit, c7, c8, .int .u64 (x.id : Int), .string ⟨x.name.toArray⟩] ∧ I64 x.kind ∧ x.txn.boot < 18446744073709551616 ∧ x.txn.session < 18446744073709551616 ∧ x.txn.seq < 18446744073709551616 ∧ (Ty.slice tWrite).rep w M [c4] x.writes ∧ (Ty.slice tRange).rep w M [c5] x.ranges ∧ (Ty.slice Ty.int).rep w M [c7] x.shards ∧ (Ty.bytes).rep w M [c8] x.reply ∧ x.id < 18446744073709551616 ∧ x.name.length ≤ lim
  len := by rintro w M cs x ⟨_, _, _, _, rfl, _, _, _, _, _, _, _, _, _, _⟩; rfl
  one := by
    rintro w M cs x ⟨e0, e1, e2, e3, rfl, h0, h1, h2, h3, h4, h5, h6, h7, h8, h9⟩ u hu
    simp only [List.mem_cons, List.not_mem_nil, or_false] at hu
    rcases hu with rfl | rfl | rfl | rfl | rfl | rfl | rfl | rfl | rfl | rfl | rfl
    · rfl
    · rfl
    · rfl
    · rfl
    · exact (Ty.slice tWrite).one h4 _ (by simp)
    · exact (Ty.slice tRange).one h5 _ (by simp)
    · rfl
    · exact (Ty.slice Ty.int).one h6 _ (by simp)
    · exact (Ty.bytes).one h7 _ (by simp)
    · rfl
    · rfl
  keep := by
    rintro w w2 M M2 cs x ⟨e0, e1, e2, e3, rfl, h0, h1, h2, h3, h4, h5, h6, h7, h8, h9⟩ hk
    exact ⟨e0, e1, e2, e3, rfl, h0, h1, h2, h3, (Ty.slice tWrite).keep h4 hk, (Ty.slice tRange).keep h5 hk, (Ty.slice Ty.int).keep h6 hk, (Ty.bytes).keep h7 hk, h8, h9⟩

end Go.Gr
