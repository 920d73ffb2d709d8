/- Plain: a program's frame, its act, a cell; no program in sight. -/
import Derived.Test.YtknfikdignpniaaDoorPlain
namespace Go.Proofs.YtknfikdignpniaaDoor
open Go Go.RowKit
set_option maxRecDepth 100000
set_option maxHeartbeats 8000000

structure Frm where
  kind : Int
  a : Int
  b : Int
  pc : Int
  i : Int
  j : Int
  n : Int
  p : Int
  h : Int
  x : Int
  y : Int

abbrev Frm.v (f : Frm) : Value := .agg #[.int .u8 f.kind, .int .u32 f.a, .int .u32 f.b, .int .u8 f.pc, .int .u8 f.i, .int .u8 f.j, .int .u8 f.n, .int .u8 f.p, .int .u8 f.h, .int .u32 f.x, .int .u32 f.y]

structure Frm.Fits (f : Frm) : Prop where
  kind : 0 ≤ f.kind ∧ f.kind ≤ 255
  a : 0 ≤ f.a ∧ f.a ≤ 4294967295
  b : 0 ≤ f.b ∧ f.b ≤ 4294967295
  pc : 0 ≤ f.pc ∧ f.pc ≤ 255
  i : 0 ≤ f.i ∧ f.i ≤ 255
  j : 0 ≤ f.j ∧ f.j ≤ 255
  n : 0 ≤ f.n ∧ f.n ≤ 255
  p : 0 ≤ f.p ∧ f.p ≤ 255
  h : 0 ≤ f.h ∧ f.h ≤ 255
  x : 0 ≤ f.x ∧ f.x ≤ 4294967295
  y : 0 ≤ f.y ∧ f.y ≤ 4294967295

abbrev zeroFrm : Frm := ⟨0, 0, 0, 0, 0, 0, 0, 0, 0, 0, 0⟩

structure Actn where
  kind : Int
  at' : Int
  a : Int
  b : Int
  c : Int
  code : Int
  v' : Int

abbrev Actn.v (x : Actn) : Value := .agg #[.int .u8 x.kind, .int .i64 x.at', .int .u64 x.a, .int .u64 x.b, .int .u64 x.c, .int .i64 x.code, .int .u32 x.v']

abbrev zeroAct : Actn := ⟨0, 0, 0, 0, 0, 0, 0⟩

structure Cel where
  tag : Int
  a : Int
  b : Int
  c : Int

abbrev Cel.v (x : Cel) : Value := .agg #[.int .u64 x.tag, .int .u64 x.a, .int .u64 x.b, .int .u64 x.c]

structure Cel.Fits (x : Cel) : Prop where
  tag : 0 ≤ x.tag ∧ x.tag ≤ 18446744073709551615
  a : 0 ≤ x.a ∧ x.a ≤ 18446744073709551615
  b : 0 ≤ x.b ∧ x.b ≤ 18446744073709551615
  c : 0 ≤ x.c ∧ x.c ≤ 18446744073709551615
end Go.Proofs.YtknfikdignpniaaDoor
