/- Chapter 12: the answer's types: the error of the types of an instruction. -/
import Derived.Test.YtmhdambkchlilaaGreatDoorJRi
import Derived.Test.YtmhdambkchlilaaGreatDoorJRcK
namespace Go.Proofs.YtmhdambkchlilaaGreatDoor
open Go.RowKit
set_option linter.unusedVariables false
set_option maxRecDepth 100000
set_option maxHeartbeats 2000000
theorem afU(cs:List Cls)(f:Fun)(x:Ins)(AH AV AC AI:Option Addr)(cH cV cC cI:Nat)(w:World)(H:Hid (TyH w cs f x AH AV AI cH))(hn:Hid (NoKw cs))(hop:x.op=5) :
  Calls Tryz.prog 271 #[.agg #[.slice AH cs.length cH],.agg #[.string f.cls,.string f.name,.bool f.static,.int .i64 f.nparams,.slice AV f.vars.length cV,.string f.result,.slice AC f.code.length cC],.agg #[.int .i64 x.op,.int .i64 x.dst,.int .i64 x.a,.int .i64 x.b,.int .i64 x.n,.string x.cls,.string x.name,.slice AI x.args.length cI,.int .i64 x.jmp,.int .i64 x.hnd]] w fun e w'=>e = .returned (.int .i64 (insT cs f.vars f.result x))∧Below w.heap.size w w':=by
 obtain⟨r,HR⟩:∃r,Hid (r=insT cs f.vars f.result x):=⟨_,v9h rfl⟩
 rw[←HR.out];have e6:(x.op==6)=false:=by rw[hop];rfl
 have e15:(x.op==15)=false:=by rw[hop];rfl
 have e7:(x.op==7)=false:=by rw[hop];rfl
 have e8:(x.op==8)=false:=by rw[hop];rfl
 have e9:(x.op==9)=false:=by rw[hop];rfl
 have e10:(x.op==10)=false:=by rw[hop];rfl
 have e13:(x.op==13)=false:=by rw[hop];rfl
 have HM:Hid (∀W,Below w.heap.size w W→Hid (TyH W cs f x AH AV AI cH)):=fun W hb=>v9h ⟨H.out.hl,H.out.hcc,H.out.hs.mono hb,H.out.hok,H.out.hlk,H.out.hv.mono hb,H.out.hvo,H.out.ha.mono hb,H.out.hla,H.out.hg,H.out.hxc,H.out.hxr⟩
 obtain⟨bi,HBI⟩:∃bi,Hid (bi=(zu (tyOf f.vars x.dst))):=⟨_,v9h rfl⟩
 have HB:Hid (r=zM bi):=by show r=_;rw[HR.out,HBI.out];simp[insT,hop]<;>rfl
 have HI:=v9h (fun W (h:Below w.heap.size w W)=>agG cs f x AH AV AC AI cH cV cC cI W (HM.out W h) hn hop);rw[←HBI.out] at HI;clear HR HBI hop
 go_enter Tryz.func271,Tryz.ntmps271
 go_upto_region 1 with fail
 generalize hW:World.alloc _ _=W1 at *
 have hb1:Below w.heap.size w W1:=by rw[←hW];exact(by repeat(first|assumption|exact v9r|apply zc|apply zd|apply zg|apply ze|apply zi))
 have bh:Box W1 w.heap.size [.slice AH cs.length cH] 29:=by rw[←hW];exact((Box.new _ _ _).alloc _).alloc _
 have bf:Box W1 (w.heap.size+1) [.string f.cls,.string f.name,.bool f.static,.int .i64 f.nparams,.slice AV f.vars.length cV,.string f.result,.slice AC f.code.length cC] 42:=by rw[←hW];exact Box.alloc (w:=(w.alloc _).alloc _) (Box.at (w:=w.alloc _) (by simp)) _
 have bx:Box W1 (w.heap.size+2) [.int .i64 x.op,.int .i64 x.dst,.int .i64 x.a,.int .i64 x.b,.int .i64 x.n,.string x.cls,.string x.name,.slice AI x.args.length cI,.int .i64 x.jmp,.int .i64 x.hnd] 59:=by rw[←hW];refine Box.at (w:=(w.alloc _).alloc _) ?_;simp
 clear hW;have f0:=bf.cell 0 rfl;have f1:=bf.cell 1 rfl;have f2:=bf.cell 2 rfl;have f3:=bf.cell 3 rfl;have f4:=bf.cell 4 rfl;have f5:=bf.cell 5 rfl;have f6:=bf.cell 6 rfl;have fl:=bf.lt;have x0:=bx.cell 0 rfl;have x1:=bx.cell 1 rfl;have x2:=bx.cell 2 rfl;have x3:=bx.cell 3 rfl;have x4:=bx.cell 4 rfl;have x5:=bx.cell 5 rfl;have x6:=bx.cell 6 rfl;have x7:=bx.cell 7 rfl;have x8:=bx.cell 8 rfl;have x9:=bx.cell 9 rfl;have xl:=bx.lt;have h0:=bh.cell 0 rfl;have hlh:=bh.lt
 go_wp2_with fail
 refine(HI.out _ hb1).mono ?_;rintro e w2 ⟨rfl,hq2⟩
 cases bi with
 |false=>
  go_wp2_with fail
  go_ret
  exact⟨by rw[HB.out];rfl,za hb1 hq2⟩
 |true=>
  go_wp2_with fail
  go_ret
  exact⟨by rw[HB.out];rfl,za hb1 hq2⟩
theorem ad2(cs:List Cls)(f:Fun)(x:Ins)(AH AV AC AI:Option Addr)(cH cV cC cI:Nat)(w:World)(H:Hid (TyH w cs f x AH AV AI cH))(hn:Hid (NoKw cs))(hop:x.op=13)(hz:(x.a == -1)=true) :
  Calls Tryz.prog 271 #[.agg #[.slice AH cs.length cH],.agg #[.string f.cls,.string f.name,.bool f.static,.int .i64 f.nparams,.slice AV f.vars.length cV,.string f.result,.slice AC f.code.length cC],.agg #[.int .i64 x.op,.int .i64 x.dst,.int .i64 x.a,.int .i64 x.b,.int .i64 x.n,.string x.cls,.string x.name,.slice AI x.args.length cI,.int .i64 x.jmp,.int .i64 x.hnd]] w fun e w'=>e = .returned (.int .i64 (insT cs f.vars f.result x))∧Below w.heap.size w w':=by
 obtain⟨r,HR⟩:∃r,Hid (r=insT cs f.vars f.result x):=⟨_,v9h rfl⟩
 rw[←HR.out];have e6:(x.op==6)=false:=by rw[hop];rfl
 have e15:(x.op==15)=false:=by rw[hop];rfl
 have e7:(x.op==7)=false:=by rw[hop];rfl
 have e8:(x.op==8)=false:=by rw[hop];rfl
 have e9:(x.op==9)=false:=by rw[hop];rfl
 have e10:(x.op==10)=false:=by rw[hop];rfl
 have e13:(x.op==13)=true:=by rw[hop];rfl
 have HM:Hid (∀W,Below w.heap.size w W→Hid (TyH W cs f x AH AV AI cH)):=fun W hb=>v9h ⟨H.out.hl,H.out.hcc,H.out.hs.mono hb,H.out.hok,H.out.hlk,H.out.hv.mono hb,H.out.hvo,H.out.ha.mono hb,H.out.hla,H.out.hg,H.out.hxc,H.out.hxr⟩
 have HT:Hid (r=if((x.a == -1) != f.result.toList.isEmpty)=true then 9 else zM ((x.a == -1)||zB cs (tyOf f.vars x.a) f.result)):=by show r=_;rw[HR.out,←yC x.a (-1)];simp[insT,hop]<;>rfl
 have HI:=v9h (fun W (h:Below w.heap.size w W)=>aeN cs f x AH AV AC AI cH cV cC cI W (HM.out W h) hn hop hz);obtain⟨bi,HBI⟩:∃bi,Hid (bi=(true)):=⟨_,v9h rfl⟩
 rw[←HBI.out] at HI;clear HR hop;have hre:((f.result.toList==([]:List UInt8))=true∧f.result.toList.isEmpty=true)∨((f.result.toList==([]:List UInt8))=false∧f.result.toList.isEmpty=false):=by cases f.result.toList<;>simp
 go_enter Tryz.func271,Tryz.ntmps271
 go_upto_region 1 with fail
 generalize hW:World.alloc _ _=W1 at *
 have hb1:Below w.heap.size w W1:=by rw[←hW];exact(by repeat(first|assumption|exact v9r|apply zc|apply zd|apply zg|apply ze|apply zi))
 have bh:Box W1 w.heap.size [.slice AH cs.length cH] 29:=by rw[←hW];exact((Box.new _ _ _).alloc _).alloc _
 have bf:Box W1 (w.heap.size+1) [.string f.cls,.string f.name,.bool f.static,.int .i64 f.nparams,.slice AV f.vars.length cV,.string f.result,.slice AC f.code.length cC] 42:=by rw[←hW];exact Box.alloc (w:=(w.alloc _).alloc _) (Box.at (w:=w.alloc _) (by simp)) _
 have bx:Box W1 (w.heap.size+2) [.int .i64 x.op,.int .i64 x.dst,.int .i64 x.a,.int .i64 x.b,.int .i64 x.n,.string x.cls,.string x.name,.slice AI x.args.length cI,.int .i64 x.jmp,.int .i64 x.hnd] 59:=by rw[←hW];refine Box.at (w:=(w.alloc _).alloc _) ?_;simp
 clear hW;have f0:=bf.cell 0 rfl;have f1:=bf.cell 1 rfl;have f2:=bf.cell 2 rfl;have f3:=bf.cell 3 rfl;have f4:=bf.cell 4 rfl;have f5:=bf.cell 5 rfl;have f6:=bf.cell 6 rfl;have fl:=bf.lt;have x0:=bx.cell 0 rfl;have x1:=bx.cell 1 rfl;have x2:=bx.cell 2 rfl;have x3:=bx.cell 3 rfl;have x4:=bx.cell 4 rfl;have x5:=bx.cell 5 rfl;have x6:=bx.cell 6 rfl;have x7:=bx.cell 7 rfl;have x8:=bx.cell 8 rfl;have x9:=bx.cell 9 rfl;have xl:=bx.lt;have h0:=bh.cell 0 rfl;have hlh:=bh.lt
 rcases hre with⟨h1,h2⟩|⟨h1,h2⟩
 ·have HB:Hid (r=zM bi):=by show r=_;rw[HT.out,hz,h2,HBI.out];rfl
  go_wp2_with fail
  refine(HI.out _ hb1).mono ?_;rintro e w2 ⟨rfl,hq2⟩
  cases bi with
  |false=>
   go_wp2_with fail
   go_ret
   exact⟨by rw[HB.out];rfl,za hb1 hq2⟩
  |true=>
   go_wp2_with fail
   go_ret
   exact⟨by rw[HB.out];rfl,za hb1 hq2⟩
 ·have HB:Hid (r=9):=by show r=9;rw[HT.out,hz,h2];rfl
  go_wp2_with fail
  go_ret
  exact⟨by rw[HB.out];rfl,hb1⟩
theorem ad3(cs:List Cls)(f:Fun)(x:Ins)(AH AV AC AI:Option Addr)(cH cV cC cI:Nat)(w:World)(H:Hid (TyH w cs f x AH AV AI cH))(hn:Hid (NoKw cs))(hop:x.op=13)(hz:(x.a == -1)=false) :
  Calls Tryz.prog 271 #[.agg #[.slice AH cs.length cH],.agg #[.string f.cls,.string f.name,.bool f.static,.int .i64 f.nparams,.slice AV f.vars.length cV,.string f.result,.slice AC f.code.length cC],.agg #[.int .i64 x.op,.int .i64 x.dst,.int .i64 x.a,.int .i64 x.b,.int .i64 x.n,.string x.cls,.string x.name,.slice AI x.args.length cI,.int .i64 x.jmp,.int .i64 x.hnd]] w fun e w'=>e = .returned (.int .i64 (insT cs f.vars f.result x))∧Below w.heap.size w w':=by
 obtain⟨r,HR⟩:∃r,Hid (r=insT cs f.vars f.result x):=⟨_,v9h rfl⟩
 rw[←HR.out];have e6:(x.op==6)=false:=by rw[hop];rfl
 have e15:(x.op==15)=false:=by rw[hop];rfl
 have e7:(x.op==7)=false:=by rw[hop];rfl
 have e8:(x.op==8)=false:=by rw[hop];rfl
 have e9:(x.op==9)=false:=by rw[hop];rfl
 have e10:(x.op==10)=false:=by rw[hop];rfl
 have e13:(x.op==13)=true:=by rw[hop];rfl
 have HM:Hid (∀W,Below w.heap.size w W→Hid (TyH W cs f x AH AV AI cH)):=fun W hb=>v9h ⟨H.out.hl,H.out.hcc,H.out.hs.mono hb,H.out.hok,H.out.hlk,H.out.hv.mono hb,H.out.hvo,H.out.ha.mono hb,H.out.hla,H.out.hg,H.out.hxc,H.out.hxr⟩
 have HT:Hid (r=if((x.a == -1) != f.result.toList.isEmpty)=true then 9 else zM ((x.a == -1)||zB cs (tyOf f.vars x.a) f.result)):=by show r=_;rw[HR.out,←yC x.a (-1)];simp[insT,hop]<;>rfl
 have HI:=v9h (fun W (h:Below w.heap.size w W)=>aeO cs f x AH AV AC AI cH cV cC cI W (HM.out W h) hn hop hz);obtain⟨bi,HBI⟩:∃bi,Hid (bi=(zB cs (tyOf f.vars x.a) f.result)):=⟨_,v9h rfl⟩
 rw[←HBI.out] at HI;clear HR hop;have hre:((f.result.toList==([]:List UInt8))=true∧f.result.toList.isEmpty=true)∨((f.result.toList==([]:List UInt8))=false∧f.result.toList.isEmpty=false):=by cases f.result.toList<;>simp
 go_enter Tryz.func271,Tryz.ntmps271
 go_upto_region 1 with fail
 generalize hW:World.alloc _ _=W1 at *
 have hb1:Below w.heap.size w W1:=by rw[←hW];exact(by repeat(first|assumption|exact v9r|apply zc|apply zd|apply zg|apply ze|apply zi))
 have bh:Box W1 w.heap.size [.slice AH cs.length cH] 29:=by rw[←hW];exact((Box.new _ _ _).alloc _).alloc _
 have bf:Box W1 (w.heap.size+1) [.string f.cls,.string f.name,.bool f.static,.int .i64 f.nparams,.slice AV f.vars.length cV,.string f.result,.slice AC f.code.length cC] 42:=by rw[←hW];exact Box.alloc (w:=(w.alloc _).alloc _) (Box.at (w:=w.alloc _) (by simp)) _
 have bx:Box W1 (w.heap.size+2) [.int .i64 x.op,.int .i64 x.dst,.int .i64 x.a,.int .i64 x.b,.int .i64 x.n,.string x.cls,.string x.name,.slice AI x.args.length cI,.int .i64 x.jmp,.int .i64 x.hnd] 59:=by rw[←hW];refine Box.at (w:=(w.alloc _).alloc _) ?_;simp
 clear hW;have f0:=bf.cell 0 rfl;have f1:=bf.cell 1 rfl;have f2:=bf.cell 2 rfl;have f3:=bf.cell 3 rfl;have f4:=bf.cell 4 rfl;have f5:=bf.cell 5 rfl;have f6:=bf.cell 6 rfl;have fl:=bf.lt;have x0:=bx.cell 0 rfl;have x1:=bx.cell 1 rfl;have x2:=bx.cell 2 rfl;have x3:=bx.cell 3 rfl;have x4:=bx.cell 4 rfl;have x5:=bx.cell 5 rfl;have x6:=bx.cell 6 rfl;have x7:=bx.cell 7 rfl;have x8:=bx.cell 8 rfl;have x9:=bx.cell 9 rfl;have xl:=bx.lt;have h0:=bh.cell 0 rfl;have hlh:=bh.lt
 rcases hre with⟨h1,h2⟩|⟨h1,h2⟩
 ·have HB:Hid (r=9):=by show r=9;rw[HT.out,hz,h2];rfl
  go_wp2_with fail
  go_ret
  exact⟨by rw[HB.out];rfl,hb1⟩
 ·have HB:Hid (r=zM bi):=by show r=_;rw[HT.out,hz,h2,HBI.out];rfl
  go_wp2_with fail
  refine(HI.out _ hb1).mono ?_;rintro e w2 ⟨rfl,hq2⟩
  cases bi with
  |false=>
   go_wp2_with fail
   go_ret
   exact⟨by rw[HB.out];rfl,za hb1 hq2⟩
  |true=>
   go_wp2_with fail
   go_ret
   exact⟨by rw[HB.out];rfl,za hb1 hq2⟩
theorem ad4(cs:List Cls)(f:Fun)(x:Ins)(AH AV AC AI:Option Addr)(cH cV cC cI:Nat)(w:World)(H:Hid (TyH w cs f x AH AV AI cH))(hn:Hid (NoKw cs))(hk:x.op=5∨x.op=13) :
  Calls Tryz.prog 271 #[.agg #[.slice AH cs.length cH],.agg #[.string f.cls,.string f.name,.bool f.static,.int .i64 f.nparams,.slice AV f.vars.length cV,.string f.result,.slice AC f.code.length cC],.agg #[.int .i64 x.op,.int .i64 x.dst,.int .i64 x.a,.int .i64 x.b,.int .i64 x.n,.string x.cls,.string x.name,.slice AI x.args.length cI,.int .i64 x.jmp,.int .i64 x.hnd]] w fun e w'=>e = .returned (.int .i64 (insT cs f.vars f.result x))∧Below w.heap.size w w':=by
 rcases hk with h|h
 ·exact afU cs f x AH AV AC AI cH cV cC cI w H hn h
 ·cases hz:(x.a == -1) with
  |true=>exact ad2 cs f x AH AV AC AI cH cV cC cI w H hn h hz
  |false=>exact ad3 cs f x AH AV AC AI cH cV cC cI w H hn h hz
end Go.Proofs.YtmhdambkchlilaaGreatDoor
