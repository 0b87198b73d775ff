/- Chapter 15: values, frames and steps as raw rows in memory. -/
import Derived.Test.YtmhdambkchlilaaGreatDoorJGa
import Derived.Test.YtmhdambkchlilaaGreatDoorJGt
namespace Go.Proofs.YtmhdambkchlilaaGreatDoor
open Go.RowKit
set_option linter.unusedVariables false
abbrev Vl:=Int×Int×Int
def zI(v:Vl):List Value:=[.int .i64 v.1,.int .i64 v.2.1,.int .i64 v.2.2]
theorem yc:yk zI 3:=⟨fun _=>rfl,fun _ u hu=>by simp[zI] at hu;rcases hu with rfl|rfl|rfl<;>rfl⟩
theorem aaq:qc Tryz.prog 52 63 3 24 (.agg #[.int .i64 0,.int .i64 0,.int .i64 0]):=⟨Tryz.underlying52,by kernel_rfl,rfl,by omega⟩
structure RFr where
 fn:Int
 at_:Int
 no:Int
 call:Int
 A:Option Addr
 n:Nat
 c:Nat
 r:Vl
def jb(x:RFr):List Value:=[.int .i64 x.fn,.int .i64 x.at_,.int .i64 x.no,.int .i64 x.call,.slice x.A x.n x.c,.int .i64 x.r.1,.int .i64 x.r.2.1,.int .i64 x.r.2.2]
theorem qn:yk jb 8:=⟨fun _=>rfl,fun _ u hu=>by simp[jb] at hu;rcases hu with rfl|rfl|rfl|rfl|rfl|rfl|rfl|rfl<;>rfl⟩
theorem ai9:qc Tryz.prog 99 167 8 80 (.agg #[.int .i64 0,.int .i64 0,.int .i64 0,.int .i64 0,.slice none 0 0,.int .i64 0,.int .i64 0,.int .i64 0]):=⟨Tryz.underlying99,by kernel_rfl,rfl,by omega⟩
structure ROb where
 fn:Int
 at_:Int
 no:Int
 call:Int
 A:Option Addr
 n:Nat
 c:Nat
def kN(x:ROb):List Value:=[.int .i64 x.fn,.int .i64 x.at_,.int .i64 x.no,.int .i64 x.call,.slice x.A x.n x.c]
theorem abE:yk kN 5:=⟨fun _=>rfl,fun _ u hu=>by simp[kN] at hu;rcases hu with rfl|rfl|rfl|rfl|rfl<;>rfl⟩
theorem aja:qc Tryz.prog 45 54 5 56 (.agg #[.int .i64 0,.int .i64 0,.int .i64 0,.int .i64 0,.slice none 0 0]):=⟨Tryz.underlying45,by kernel_rfl,rfl,by omega⟩
end Go.Proofs.YtmhdambkchlilaaGreatDoor
