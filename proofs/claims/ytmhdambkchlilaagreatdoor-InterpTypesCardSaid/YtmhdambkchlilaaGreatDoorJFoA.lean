/- Chapter 15: steps in memory; the answer's SameObs at equal steps; the answer's Raises, Def. -/
import Derived.Test.YtmhdambkchlilaaGreatDoorJMa
namespace Go.Proofs.YtmhdambkchlilaaGreatDoor
open Go.RowKit
set_option linter.unusedVariables false
set_option maxHeartbeats 1000000
def Lay.ob:Lay Obv:=
 {size:=5,rep:=fun w o vs=>∃(A:Option Addr) (c:Nat),vs=[.int .i64 (o.fn:Int),.int .i64 (o.at_:Int),.int .i64 (o.no:Int),.int .i64 o.call,.slice A o.vals.length c]∧o.vals.length≤c∧Sl Lay.vl w A o.vals,
  len:=fun⟨A,c,e,_⟩=>by rw[e];rfl,
  mono:=fun hb ⟨A,c,e,h1,h2⟩=>⟨A,c,e,h1,h2.mono hb⟩}
theorem Sl.vl_at{w:World}{A:Option Addr}{l:List Vl}(h:Sl Lay.vl w A l){i:Nat}(hi:i<l.length):∃b o,A=some ⟨b,o,none⟩∧b<w.heap.size∧w.cell? ⟨b,o+i*3,none⟩=some (.int .i64 l[i].1)∧w.cell? ⟨b,o+i*3+1,none⟩=some (.int .i64 l[i].2.1)∧w.cell? ⟨b,o+i*3+2,none⟩=some (.int .i64 l[i].2.2):=by
 obtain⟨b,o,vs,e,hlt,hr,hc⟩:=h i l[i] (List.getElem?_eq_getElem hi);have hr':vs=zI l[i]:=hr;subst hr';exact⟨b,o,e,hlt,hc 0 _ rfl,hc 1 _ rfl,hc 2 _ rfl⟩
theorem Sl.ob_at{w:World}{A:Option Addr}{l:List Obv}(h:Sl Lay.ob w A l){i:Nat}(hi:i<l.length):∃(b o:Nat) (B:Option Addr) (c:Nat),A=some ⟨b,o,none⟩∧b<w.heap.size∧w.cell? ⟨b,o+i*5,none⟩=some (.int .i64 (l[i].fn:Int))∧w.cell? ⟨b,o+i*5+1,none⟩=some (.int .i64 (l[i].at_:Int))∧w.cell? ⟨b,o+i*5+2,none⟩=some (.int .i64 (l[i].no:Int))∧w.cell? ⟨b,o+i*5+3,none⟩=some (.int .i64 l[i].call)∧w.cell? ⟨b,o+i*5+4,none⟩=some (.slice B l[i].vals.length c)∧l[i].vals.length≤c∧Sl Lay.vl w B l[i].vals:=by
 obtain⟨b,o,vs,e,hlt,hr,hc⟩:=h i l[i] (List.getElem?_eq_getElem hi);obtain⟨B,c,rfl,h1,h2⟩:=hr;exact⟨b,o,B,c,e,hlt,hc 0 _ rfl,hc 1 _ rfl,hc 2 _ rfl,hc 3 _ rfl,hc 4 _ rfl,h1,h2⟩
theorem kQ(a b c d e f:Int)(w:World):(binOp .neq 63 (.agg #[.int .i64 a,.int .i64 b,.int .i64 c]) (.agg #[.int .i64 d,.int .i64 e,.int .i64 f])).run Tryz.prog w = .ok (.bool (!(a==d&&b==e&&c==f))) w:=by
 by_cases h1:a=d<;>by_cases h2:b=e<;>by_cases h3:c=f<;>simp[go_sem,h1,h2,h3]
theorem jG(x:Ins)(AI:Option Addr)(cI:Nat)(w:World)(b:Bool)(hb:b=(x.op==9||x.op==10||x.op==14||x.op==15)) :
  Calls Tryz.prog 98 #[.agg #[.int .i64 x.op,.int .i64 x.dst,.int .i64 x.a,.int .i64 x.b,.int .i64 x.n,.string x.cls,.string x.name,.slice AI x.args.length cI,.int .i64 x.jmp,.int .i64 x.hnd]] w fun e w'=>e = .returned (.bool b)∧Below w.heap.size w w':=by
 have key:∀W,Calls Tryz.prog 165 #[.agg #[.int .i64 x.op,.int .i64 x.dst,.int .i64 x.a,.int .i64 x.b,.int .i64 x.n,.string x.cls,.string x.name,.slice AI x.args.length cI,.int .i64 x.jmp,.int .i64 x.hnd]] W fun e w'=>e = .returned (.bool b)∧Below W.heap.size W w':=by
  intro W
  go_enter Tryz.func165,Tryz.ntmps165
  go_upto_region 1 with fail
  generalize hW:World.alloc _ _=W1 at *
  have hb1:Below W.heap.size W W1:=by rw[←hW];exact(by repeat(first|assumption|exact v9r|apply zc|apply zd|apply zg|apply ze|apply zi))
  have bx:Box W1 W.heap.size [.int .i64 x.op,.int .i64 x.dst,.int .i64 x.a,.int .i64 x.b,.int .i64 x.n,.string x.cls,.string x.name,.slice AI x.args.length cI,.int .i64 x.jmp,.int .i64 x.hnd] 59:=by rw[←hW];exact(by repeat(first|(refine Box.at ?_;(simp;done))|apply Box.drew|apply Box.alloc|assumption))
  clear hW;have x0:=bx.cell 0 rfl;have xl:=bx.lt
  cases h1:(x.op==9) with
  |true=>
   have hB:Hid (b=true):=by show b=true;rw[hb,h1];rfl
   clear hb
   go_wp2_with fail
   go_ret
   exact⟨by rw[hB.out];rfl,hb1⟩
  |false=>
  cases h2:(x.op==10) with
  |true=>
   have hB:Hid (b=true):=by show b=true;rw[hb,h1,h2];rfl
   clear hb
   go_wp2_with fail
   go_ret
   exact⟨by rw[hB.out];rfl,hb1⟩
  |false=>
  cases h3:(x.op==14) with
  |true=>
   have hB:Hid (b=true):=by show b=true;rw[hb,h1,h2,h3];rfl
   clear hb
   go_wp2_with fail
   go_ret
   exact⟨by rw[hB.out];rfl,hb1⟩
  |false=>
  cases h4:(x.op==15) with
  |true=>
   have hB:Hid (b=true):=by show b=true;rw[hb,h1,h2,h3,h4];rfl
   clear hb
   go_wp2_with fail
   go_ret
   exact⟨by rw[hB.out];rfl,hb1⟩
  |false=>
   have hB:Hid (b=false):=by show b=false;rw[hb,h1,h2,h3,h4];rfl
   clear hb
   go_wp2_with fail
   go_ret
   exact⟨by rw[hB.out];rfl,hb1⟩
 clear hb;have key:=v9h key
 go_enter Tryz.func98,Tryz.ntmps98
 go_upto_region 1 with fail
 generalize hW:World.alloc _ _=W1 at *
 have hb1:Below w.heap.size w W1:=by rw[←hW];exact(by repeat(first|assumption|exact v9r|apply zc|apply zd|apply zg|apply ze|apply zi))
 have bx:Box W1 w.heap.size [.int .i64 x.op,.int .i64 x.dst,.int .i64 x.a,.int .i64 x.b,.int .i64 x.n,.string x.cls,.string x.name,.slice AI x.args.length cI,.int .i64 x.jmp,.int .i64 x.hnd] 59:=by rw[←hW];exact(by repeat(first|(refine Box.at ?_;(simp;done))|apply Box.drew|apply Box.alloc|assumption))
 clear hW;have x0:=bx.cell 0 rfl;have x1:=bx.cell 1 rfl;have x2:=bx.cell 2 rfl;have x3:=bx.cell 3 rfl;have x4:=bx.cell 4 rfl;have x5:=bx.cell 5 rfl;have x6:=bx.cell 6 rfl;have x7:=bx.cell 7 rfl;have x8:=bx.cell 8 rfl;have x9:=bx.cell 9 rfl;have xl:=bx.lt
 go_wp2_with fail
 refine(key.out _).mono ?_;rintro e w2 ⟨rfl,hb2⟩
 go_wp2_with fail
 go_ret
 exact⟨rfl,za hb1 hb2⟩
theorem kW(x:Ins)(AI:Option Addr)(cI:Nat)(w:World) :
  Calls Tryz.prog 23 #[.agg #[.int .i64 x.op,.int .i64 x.dst,.int .i64 x.a,.int .i64 x.b,.int .i64 x.n,.string x.cls,.string x.name,.slice AI x.args.length cI,.int .i64 x.jmp,.int .i64 x.hnd]] w fun e w'=>e = .returned (.int .i64 (defP x))∧Below w.heap.size w w':=by
 have key:=v9h (fun W=>afM x AI cI W);obtain⟨d,hd⟩:∃d,Hid (d=defP x):=⟨_,v9h rfl⟩
 have hd2:Hid (d=if zp x.op 100=true then x.dst else -1):=hd;rw[←hd2.out] at key;rw[←hd.out]
 go_enter Tryz.func23,Tryz.ntmps23
 go_upto_region 1 with fail
 generalize hW:World.alloc _ _=W1 at *
 have hb1:Below w.heap.size w W1:=by rw[←hW];exact(by repeat(first|assumption|exact v9r|apply zc|apply zd|apply zg|apply ze|apply zi))
 have bx:Box W1 w.heap.size [.int .i64 x.op,.int .i64 x.dst,.int .i64 x.a,.int .i64 x.b,.int .i64 x.n,.string x.cls,.string x.name,.slice AI x.args.length cI,.int .i64 x.jmp,.int .i64 x.hnd] 59:=by rw[←hW];exact(by repeat(first|(refine Box.at ?_;(simp;done))|apply Box.drew|apply Box.alloc|assumption))
 clear hW;have x0:=bx.cell 0 rfl;have x1:=bx.cell 1 rfl;have x2:=bx.cell 2 rfl;have x3:=bx.cell 3 rfl;have x4:=bx.cell 4 rfl;have x5:=bx.cell 5 rfl;have x6:=bx.cell 6 rfl;have x7:=bx.cell 7 rfl;have x8:=bx.cell 8 rfl;have x9:=bx.cell 9 rfl;have xl:=bx.lt
 go_wp2_with fail
 refine(key.out _).mono ?_;rintro e w2 ⟨rfl,hb2⟩
 go_wp2_with fail
 go_ret
 exact⟨rfl,za hb1 hb2⟩
end Go.Proofs.YtmhdambkchlilaaGreatDoor
