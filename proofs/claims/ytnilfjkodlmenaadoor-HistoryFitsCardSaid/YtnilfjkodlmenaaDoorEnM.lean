/- entry: an entry as plain words; what is right. -/
import Derived.Test.YtnilfjkodlmenaaDoorBase
set_option maxRecDepth 16000
namespace Go.Pin
open Go.RowKit
set_option linter.unusedVariables false
set_option linter.unusedSimpArgs false
structure En where
  term : Int
  index : Int
  kind : Int
  client : Int
  seq : Int
  block : Int
  many : Int
  node : Int
  level : Int
  data : ByteArray
  old : ByteArray
def En.val (e : En) : Value := .agg #[.int .u64 e.term, .int .u64 e.index, .int .i64 e.kind, .int .u64 e.client, .int .u64 e.seq, .int .u64 e.block, .int .u64 e.many, .int .i64 e.node, .int .i64 e.level, .string e.data, .string e.old]
def En.zero : En := ⟨0, 0, 0, 0, 0, 0, 0, 0, 0, ⟨#[]⟩, ⟨#[]⟩⟩
/-- The letters of a kind. -/
def enF (k : Int) : ByteArray × Bool :=
  if k = 1 then (⟨#[99, 98, 100]⟩, true) else if k = 2 then (⟨#[99, 98, 109]⟩, true) else if k = 3 then (⟨#[99, 109]⟩, true) else if k = 4 then (⟨#[99]⟩, true) else
  if k = 5 ∨ k = 6 then (⟨#[110]⟩, true) else if k = 7 then (⟨#[110, 108]⟩, true) else if k = 11 then (⟨#[99, 98, 100, 111]⟩, true) else
  if k = 0 ∨ k = 8 ∨ k = 9 ∨ k = 10 then (⟨#[]⟩, true) else (⟨#[]⟩, false)
def enHas (s : ByteArray) (c : UInt8) : Bool := s.data.toList.contains c
/-- One field: it may be there, it is, it is right. -/
def enFit (s : ByteArray) (c : UInt8) (there right : Bool) : Bool := if enHas s c = true then right else !there
def En.right (e : En) : Bool :=
  (enF e.kind).2 && decide (0 < e.term) && decide (0 < e.index) &&
  (enFit (enF e.kind).1 99 (decide (0 < e.client) || decide (0 < e.seq)) (decide (0 < e.client)) &&
   enFit (enF e.kind).1 98 (decide (0 < e.block)) (decide (e.block < 4294967296)) &&
   enFit (enF e.kind).1 109 (decide (0 < e.many)) (decide (e.many < 4294967296)) &&
   enFit (enF e.kind).1 110 (decide (e.node ≠ 0)) (decide (1 ≤ e.node ∧ e.node ≤ 7)) &&
   enFit (enF e.kind).1 108 (decide (e.level ≠ 0)) (decide (e.level = 1 ∨ e.level = 2)) &&
   enFit (enF e.kind).1 100 (decide (e.data ≠ ⟨#[]⟩)) (decide (e.data.size ≤ 64)) &&
   enFit (enF e.kind).1 111 (decide (e.old ≠ ⟨#[]⟩)) (decide (e.old.size ≤ 64)))
end Go.Pin
