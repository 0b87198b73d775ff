/- Chapter 10: the data of class hierarchies, and how they are laid. Units, functions, instructions, and how they are laid. Chapter 10: the data of class hierarchies within the reach. Units, functions, instructions: within the reach. Chapter 42: rules, protocols, policies as data. -/
import Derived.Test.YtmhdambkchlilaaGreatDoorProg
import Derived.Test.YtmhdambkchlilaaGreatDoorJGa
namespace Go.Proofs.YtmhdambkchlilaaGreatDoor
open Go.RowKit
set_option linter.unusedVariables false
structure Fld where
 name:ByteArray
 typ:ByteArray
def qM(x:Fld):List Value:=[.string x.name,.string x.typ]
theorem aeo:yk qM 2:=⟨fun _=>rfl,fun _ u hu=>by simp[qM] at hu;rcases hu with rfl|rfl<;>rfl⟩
def Lay.fld:Lay Fld:=Lay.plain 2 qM fun _=>rfl
theorem Sl.fld_at{w:World}{A:Option Addr}{l:List Fld}(h:Sl Lay.fld w A l){i:Nat}(hi:i<l.length):∃(b o:Nat),A=some ⟨b,o,none⟩∧b<w.heap.size∧w.cell? ⟨b,o+i*2,none⟩=some (.string l[i].name)∧w.cell? ⟨b,o+i*2+1,none⟩=some (.string l[i].typ):=by
 obtain⟨b,o,vs,e,hlt,hr,hc⟩:=h i l[i] (List.getElem?_eq_getElem hi);have hr':vs=qM l[i]:=hr;subst hr';exact⟨b,o,e,hlt,hc 0 _ rfl,hc 1 _ rfl⟩
structure Sg where
 name:ByteArray
 static:Bool
 params:List ByteArray
 result:ByteArray
def Lay.sg:Lay Sg:=
 {size:=4,rep:=fun w x vs=>∃(A2:Option Addr) (c2:Nat),vs=[.string x.name,.bool x.static,.slice A2 x.params.length c2,.string x.result]∧x.params.length≤c2∧Sl Lay.str w A2 x.params,
  len:=fun⟨A2,c2,e,hc2,hs2⟩=>by rw[e];rfl,
  mono:=fun hb ⟨A2,c2,e,hc2,hs2⟩=>⟨A2,c2,e,hc2,hs2.mono hb⟩}
theorem Sl.sg_at{w:World}{A:Option Addr}{l:List Sg}(h:Sl Lay.sg w A l){i:Nat}(hi:i<l.length):∃(b o:Nat) (A2:Option Addr) (c2:Nat),A=some ⟨b,o,none⟩∧b<w.heap.size∧w.cell? ⟨b,o+i*4,none⟩=some (.string l[i].name)∧w.cell? ⟨b,o+i*4+1,none⟩=some (.bool l[i].static)∧w.cell? ⟨b,o+i*4+2,none⟩=some (.slice A2 l[i].params.length c2)∧w.cell? ⟨b,o+i*4+3,none⟩=some (.string l[i].result)∧l[i].params.length≤c2∧Sl Lay.str w A2 l[i].params:=by
 obtain⟨b,o,vs,e,hlt,hr,hc⟩:=h i l[i] (List.getElem?_eq_getElem hi);obtain⟨A2,c2,rfl,hc2,hs2⟩:=hr;exact⟨b,o,A2,c2,e,hlt,hc 0 _ rfl,hc 1 _ rfl,hc 2 _ rfl,hc 3 _ rfl,hc2,hs2⟩
structure Cls where
 name:ByteArray
 super:ByteArray
 fields:List Fld
 methods:List Sg
def Lay.cls:Lay Cls:=
 {size:=4,rep:=fun w x vs=>∃(A2:Option Addr) (c2:Nat) (A3:Option Addr) (c3:Nat),vs=[.string x.name,.string x.super,.slice A2 x.fields.length c2,.slice A3 x.methods.length c3]∧x.fields.length≤c2∧Sl Lay.fld w A2 x.fields∧x.methods.length≤c3∧Sl Lay.sg w A3 x.methods,
  len:=fun⟨A2,c2,A3,c3,e,hc2,hs2,hc3,hs3⟩=>by rw[e];rfl,
  mono:=fun hb ⟨A2,c2,A3,c3,e,hc2,hs2,hc3,hs3⟩=>⟨A2,c2,A3,c3,e,hc2,hs2.mono hb,hc3,hs3.mono hb⟩}
theorem Sl.cls_at{w:World}{A:Option Addr}{l:List Cls}(h:Sl Lay.cls w A l){i:Nat}(hi:i<l.length):∃(b o:Nat) (A2:Option Addr) (c2:Nat) (A3:Option Addr) (c3:Nat),A=some ⟨b,o,none⟩∧b<w.heap.size∧w.cell? ⟨b,o+i*4,none⟩=some (.string l[i].name)∧w.cell? ⟨b,o+i*4+1,none⟩=some (.string l[i].super)∧w.cell? ⟨b,o+i*4+2,none⟩=some (.slice A2 l[i].fields.length c2)∧w.cell? ⟨b,o+i*4+3,none⟩=some (.slice A3 l[i].methods.length c3)∧l[i].fields.length≤c2∧Sl Lay.fld w A2 l[i].fields∧l[i].methods.length≤c3∧Sl Lay.sg w A3 l[i].methods:=by
 obtain⟨b,o,vs,e,hlt,hr,hc⟩:=h i l[i] (List.getElem?_eq_getElem hi);obtain⟨A2,c2,A3,c3,rfl,hc2,hs2,hc3,hs3⟩:=hr;exact⟨b,o,A2,c2,A3,c3,e,hlt,hc 0 _ rfl,hc 1 _ rfl,hc 2 _ rfl,hc 3 _ rfl,hc2,hs2,hc3,hs3⟩
structure Hi where
 classes:List Cls
def Lay.hi:Lay Hi:=
 {size:=1,rep:=fun w x vs=>∃(A0:Option Addr) (c0:Nat),vs=[.slice A0 x.classes.length c0]∧x.classes.length≤c0∧Sl Lay.cls w A0 x.classes,
  len:=fun⟨A0,c0,e,hc0,hs0⟩=>by rw[e];rfl,
  mono:=fun hb ⟨A0,c0,e,hc0,hs0⟩=>⟨A0,c0,e,hc0,hs0.mono hb⟩}
structure Ins where
 op:Int
 dst:Int
 a:Int
 b:Int
 n:Int
 cls:ByteArray
 name:ByteArray
 args:List Int
 jmp:Int
 hnd:Int
def Lay.ins:Lay Ins:=
 {size:=10,rep:=fun w x vs=>∃(A7:Option Addr) (c7:Nat),vs=[.int .i64 x.op,.int .i64 x.dst,.int .i64 x.a,.int .i64 x.b,.int .i64 x.n,.string x.cls,.string x.name,.slice A7 x.args.length c7,.int .i64 x.jmp,.int .i64 x.hnd]∧x.args.length≤c7∧Sl Lay.int w A7 x.args,
  len:=fun⟨A7,c7,e,hc7,hs7⟩=>by rw[e];rfl,
  mono:=fun hb ⟨A7,c7,e,hc7,hs7⟩=>⟨A7,c7,e,hc7,hs7.mono hb⟩}
theorem Sl.ins_at{w:World}{A:Option Addr}{l:List Ins}(h:Sl Lay.ins w A l){i:Nat}(hi:i<l.length):∃(b o:Nat) (A7:Option Addr) (c7:Nat),A=some ⟨b,o,none⟩∧b<w.heap.size∧w.cell? ⟨b,o+i*10,none⟩=some (.int .i64 l[i].op)∧w.cell? ⟨b,o+i*10+1,none⟩=some (.int .i64 l[i].dst)∧w.cell? ⟨b,o+i*10+2,none⟩=some (.int .i64 l[i].a)∧w.cell? ⟨b,o+i*10+3,none⟩=some (.int .i64 l[i].b)∧w.cell? ⟨b,o+i*10+4,none⟩=some (.int .i64 l[i].n)∧w.cell? ⟨b,o+i*10+5,none⟩=some (.string l[i].cls)∧w.cell? ⟨b,o+i*10+6,none⟩=some (.string l[i].name)∧w.cell? ⟨b,o+i*10+7,none⟩=some (.slice A7 l[i].args.length c7)∧w.cell? ⟨b,o+i*10+8,none⟩=some (.int .i64 l[i].jmp)∧w.cell? ⟨b,o+i*10+9,none⟩=some (.int .i64 l[i].hnd)∧l[i].args.length≤c7∧Sl Lay.int w A7 l[i].args:=by
 obtain⟨b,o,vs,e,hlt,hr,hc⟩:=h i l[i] (List.getElem?_eq_getElem hi);obtain⟨A7,c7,rfl,hc7,hs7⟩:=hr;exact⟨b,o,A7,c7,e,hlt,hc 0 _ rfl,hc 1 _ rfl,hc 2 _ rfl,hc 3 _ rfl,hc 4 _ rfl,hc 5 _ rfl,hc 6 _ rfl,hc 7 _ rfl,hc 8 _ rfl,hc 9 _ rfl,hc7,hs7⟩
structure Fun where
 cls:ByteArray
 name:ByteArray
 static:Bool
 nparams:Int
 vars:List Fld
 result:ByteArray
 code:List Ins
def Lay.fun:Lay Fun:=
 {size:=7,rep:=fun w x vs=>∃(A4:Option Addr) (c4:Nat) (A6:Option Addr) (c6:Nat),vs=[.string x.cls,.string x.name,.bool x.static,.int .i64 x.nparams,.slice A4 x.vars.length c4,.string x.result,.slice A6 x.code.length c6]∧x.vars.length≤c4∧Sl Lay.fld w A4 x.vars∧x.code.length≤c6∧Sl Lay.ins w A6 x.code,
  len:=fun⟨A4,c4,A6,c6,e,hc4,hs4,hc6,hs6⟩=>by rw[e];rfl,
  mono:=fun hb ⟨A4,c4,A6,c6,e,hc4,hs4,hc6,hs6⟩=>⟨A4,c4,A6,c6,e,hc4,hs4.mono hb,hc6,hs6.mono hb⟩}
theorem Sl.fun_at{w:World}{A:Option Addr}{l:List Fun}(h:Sl Lay.fun w A l){i:Nat}(hi:i<l.length):∃(b o:Nat) (A4:Option Addr) (c4:Nat) (A6:Option Addr) (c6:Nat),A=some ⟨b,o,none⟩∧b<w.heap.size∧w.cell? ⟨b,o+i*7,none⟩=some (.string l[i].cls)∧w.cell? ⟨b,o+i*7+1,none⟩=some (.string l[i].name)∧w.cell? ⟨b,o+i*7+2,none⟩=some (.bool l[i].static)∧w.cell? ⟨b,o+i*7+3,none⟩=some (.int .i64 l[i].nparams)∧w.cell? ⟨b,o+i*7+4,none⟩=some (.slice A4 l[i].vars.length c4)∧w.cell? ⟨b,o+i*7+5,none⟩=some (.string l[i].result)∧w.cell? ⟨b,o+i*7+6,none⟩=some (.slice A6 l[i].code.length c6)∧l[i].vars.length≤c4∧Sl Lay.fld w A4 l[i].vars∧l[i].code.length≤c6∧Sl Lay.ins w A6 l[i].code:=by
 obtain⟨b,o,vs,e,hlt,hr,hc⟩:=h i l[i] (List.getElem?_eq_getElem hi);obtain⟨A4,c4,A6,c6,rfl,hc4,hs4,hc6,hs6⟩:=hr;exact⟨b,o,A4,c4,A6,c6,e,hlt,hc 0 _ rfl,hc 1 _ rfl,hc 2 _ rfl,hc 3 _ rfl,hc 4 _ rfl,hc 5 _ rfl,hc 6 _ rfl,hc4,hs4,hc6,hs6⟩
structure Unt where
 classes:List Cls
 funcs:List Fun
 main:Int
def Lay.unt:Lay Unt:=
 {size:=3,rep:=fun w x vs=>∃(A0:Option Addr) (c0:Nat) (A1:Option Addr) (c1:Nat),vs=[.slice A0 x.classes.length c0,.slice A1 x.funcs.length c1,.int .i64 x.main]∧x.classes.length≤c0∧Sl Lay.cls w A0 x.classes∧x.funcs.length≤c1∧Sl Lay.fun w A1 x.funcs,
  len:=fun⟨A0,c0,A1,c1,e,hc0,hs0,hc1,hs1⟩=>by rw[e];rfl,
  mono:=fun hb ⟨A0,c0,A1,c1,e,hc0,hs0,hc1,hs1⟩=>⟨A0,c0,A1,c1,e,hc0,hs0.mono hb,hc1,hs1.mono hb⟩}
def Fld.OkW(x:Fld):Prop:=(x.name.size≤maxLen)∧(x.typ.size≤maxLen)
theorem aco:zw Tryz.prog 61 Lay.fld Fld.OkW:=
 (zw.struct (L:=Lay.str.and (Lay.str.and Lay.unit)) Tryz.underlying61 (by kernel_rfl) (zD.cons rfl (by kernel_rfl) (zw.str Tryz.underlying9) (zD.cons rfl (by kernel_rfl) (zw.str Tryz.underlying9) zD.nil))).turn (fun x=>⟨x.1,x.2.1⟩)
  (by
    rintro w ⟨x0,x1,u⟩ vs ⟨us0,ts0,rfl,h0,us1,ts1,rfl,h1,hu⟩;obtain rfl:us0=[.string x0]:=h0;obtain rfl:us1=[.string x1]:=h1;obtain rfl:ts1=[]:=hu
    rfl)
  (by rintro⟨x0,x1,u⟩ ⟨o0,o1,hu⟩;exact⟨o0,o1⟩)
def Sg.OkW(x:Sg):Prop:=(x.name.size≤maxLen)∧(True)∧(x.params.length*Tryz.prog.bytesOf 9≤reachBytes∧x.params.length≤maxLen∧∀y∈x.params,y.size≤maxLen)∧(x.result.size≤maxLen)
theorem ag8:zw Tryz.prog 36 Lay.sg Sg.OkW:=
 (zw.struct (L:=Lay.str.and (Lay.bool.and ((Lay.str).slice.and (Lay.str.and Lay.unit)))) Tryz.underlying36 (by kernel_rfl) (zD.cons rfl (by kernel_rfl) (zw.str Tryz.underlying9) (zD.cons rfl (by kernel_rfl) (zw.bool Tryz.underlying4) (zD.cons rfl (by kernel_rfl) (zw.slice Tryz.underlying34 (by kernel_rfl) (by decide) (zw.str Tryz.underlying9)) (zD.cons rfl (by kernel_rfl) (zw.str Tryz.underlying9) zD.nil))))).turn (fun x=>⟨x.1,x.2.1,x.2.2.1,x.2.2.2.1⟩)
  (by
    rintro w ⟨x0,x1,x2,x3,u⟩ vs ⟨us0,ts0,rfl,h0,us1,ts1,rfl,h1,us2,ts2,rfl,⟨A2,c2,rfl,hc2,hs2⟩,us3,ts3,rfl,h3,hu⟩;obtain rfl:us0=[.string x0]:=h0;obtain rfl:us1=[.bool x1]:=h1;obtain rfl:us3=[.string x3]:=h3;obtain rfl:ts3=[]:=hu;exact⟨A2,c2,rfl,hc2,hs2⟩)
  (by rintro⟨x0,x1,x2,x3,u⟩ ⟨o0,o1,o2,o3,hu⟩;exact⟨o0,o1,o2,o3⟩)
def Cls.OkW(x:Cls):Prop:=(x.name.size≤maxLen)∧(x.super.size≤maxLen)∧(x.fields.length*Tryz.prog.bytesOf 61≤reachBytes∧x.fields.length≤maxLen∧∀y∈x.fields,y.OkW)∧(x.methods.length*Tryz.prog.bytesOf 36≤reachBytes∧x.methods.length≤maxLen∧∀y∈x.methods,y.OkW)
theorem agb:zw Tryz.prog 94 Lay.cls Cls.OkW:=
 (zw.struct (L:=Lay.str.and (Lay.str.and ((Lay.fld).slice.and ((Lay.sg).slice.and Lay.unit)))) Tryz.underlying94 (by kernel_rfl) (zD.cons rfl (by kernel_rfl) (zw.str Tryz.underlying9) (zD.cons rfl (by kernel_rfl) (zw.str Tryz.underlying9) (zD.cons rfl (by kernel_rfl) (zw.slice Tryz.underlying39 (by kernel_rfl) (by decide) aco) (zD.cons rfl (by kernel_rfl) (zw.slice Tryz.underlying92 (by kernel_rfl) (by decide) ag8) zD.nil))))).turn (fun x=>⟨x.1,x.2.1,x.2.2.1,x.2.2.2.1⟩)
  (by
    rintro w ⟨x0,x1,x2,x3,u⟩ vs ⟨us0,ts0,rfl,h0,us1,ts1,rfl,h1,us2,ts2,rfl,⟨A2,c2,rfl,hc2,hs2⟩,us3,ts3,rfl,⟨A3,c3,rfl,hc3,hs3⟩,hu⟩;obtain rfl:us0=[.string x0]:=h0;obtain rfl:us1=[.string x1]:=h1;obtain rfl:ts3=[]:=hu;exact⟨A2,c2,A3,c3,rfl,hc2,hs2,hc3,hs3⟩)
  (by rintro⟨x0,x1,x2,x3,u⟩ ⟨o0,o1,o2,o3,hu⟩;exact⟨o0,o1,o2,o3⟩)
def Hi.OkW(x:Hi):Prop:=(x.classes.length*Tryz.prog.bytesOf 94≤reachBytes∧x.classes.length≤maxLen∧∀y∈x.classes,y.OkW)
theorem ag9:zw Tryz.prog 29 Lay.hi Hi.OkW:=
 (zw.struct (L:=(Lay.cls).slice.and Lay.unit) Tryz.underlying29 (by kernel_rfl) (zD.cons rfl (by kernel_rfl) (zw.slice Tryz.underlying27 (by kernel_rfl) (by decide) agb) zD.nil)).turn (fun x=>⟨x.1⟩)
  (by
    rintro w ⟨x0,u⟩ vs ⟨us0,ts0,rfl,⟨A0,c0,rfl,hc0,hs0⟩,hu⟩;obtain rfl:ts0=[]:=hu;exact⟨A0,c0,rfl,hc0,hs0⟩)
  (by rintro⟨x0,u⟩ ⟨o0,hu⟩;exact o0)
def Ins.OkW(x:Ins):Prop:=(I64 x.op)∧(I64 x.dst)∧(I64 x.a)∧(I64 x.b)∧(I64 x.n)∧(x.cls.size≤maxLen)∧(x.name.size≤maxLen)∧(x.args.length*Tryz.prog.bytesOf 3≤reachBytes∧x.args.length≤maxLen∧∀y∈x.args,I64 y)∧(I64 x.jmp)∧(I64 x.hnd)
theorem agc:zw Tryz.prog 59 Lay.ins Ins.OkW:=
 (zw.struct (L:=Lay.int.and (Lay.int.and (Lay.int.and (Lay.int.and (Lay.int.and (Lay.str.and (Lay.str.and ((Lay.int).slice.and (Lay.int.and (Lay.int.and Lay.unit)))))))))) Tryz.underlying59 (by kernel_rfl) (zD.cons rfl (by kernel_rfl) (zw.int Tryz.underlying3) (zD.cons rfl (by kernel_rfl) (zw.int Tryz.underlying3) (zD.cons rfl (by kernel_rfl) (zw.int Tryz.underlying3) (zD.cons rfl (by kernel_rfl) (zw.int Tryz.underlying3) (zD.cons rfl (by kernel_rfl) (zw.int Tryz.underlying2) (zD.cons rfl (by kernel_rfl) (zw.str Tryz.underlying9) (zD.cons rfl (by kernel_rfl) (zw.str Tryz.underlying9) (zD.cons rfl (by kernel_rfl) (zw.slice Tryz.underlying57 (by kernel_rfl) (by decide) (zw.int Tryz.underlying3)) (zD.cons rfl (by kernel_rfl) (zw.int Tryz.underlying3) (zD.cons rfl (by kernel_rfl) (zw.int Tryz.underlying3) zD.nil))))))))))).turn (fun x=>⟨x.1,x.2.1,x.2.2.1,x.2.2.2.1,x.2.2.2.2.1,x.2.2.2.2.2.1,x.2.2.2.2.2.2.1,x.2.2.2.2.2.2.2.1,x.2.2.2.2.2.2.2.2.1,x.2.2.2.2.2.2.2.2.2.1⟩)
  (by
    rintro w ⟨x0,x1,x2,x3,x4,x5,x6,x7,x8,x9,u⟩ vs ⟨us0,ts0,rfl,h0,us1,ts1,rfl,h1,us2,ts2,rfl,h2,us3,ts3,rfl,h3,us4,ts4,rfl,h4,us5,ts5,rfl,h5,us6,ts6,rfl,h6,us7,ts7,rfl,⟨A7,c7,rfl,hc7,hs7⟩,us8,ts8,rfl,h8,us9,ts9,rfl,h9,hu⟩;obtain rfl:us0=[.int .i64 x0]:=h0;obtain rfl:us1=[.int .i64 x1]:=h1;obtain rfl:us2=[.int .i64 x2]:=h2;obtain rfl:us3=[.int .i64 x3]:=h3;obtain rfl:us4=[.int .i64 x4]:=h4;obtain rfl:us5=[.string x5]:=h5;obtain rfl:us6=[.string x6]:=h6;obtain rfl:us8=[.int .i64 x8]:=h8;obtain rfl:us9=[.int .i64 x9]:=h9;obtain rfl:ts9=[]:=hu;exact⟨A7,c7,rfl,hc7,hs7⟩)
  (by rintro⟨x0,x1,x2,x3,x4,x5,x6,x7,x8,x9,u⟩ ⟨o0,o1,o2,o3,o4,o5,o6,o7,o8,o9,hu⟩;exact⟨o0,o1,o2,o3,o4,o5,o6,o7,o8,o9⟩)
def Fun.OkW(x:Fun):Prop:=(x.cls.size≤maxLen)∧(x.name.size≤maxLen)∧(True)∧(I64 x.nparams)∧(x.vars.length*Tryz.prog.bytesOf 61≤reachBytes∧x.vars.length≤maxLen∧∀y∈x.vars,y.OkW)∧(x.result.size≤maxLen)∧(x.code.length*Tryz.prog.bytesOf 59≤reachBytes∧x.code.length≤maxLen∧∀y∈x.code,y.OkW)
theorem agd:zw Tryz.prog 42 Lay.fun Fun.OkW:=
 (zw.struct (L:=Lay.str.and (Lay.str.and (Lay.bool.and (Lay.int.and ((Lay.fld).slice.and (Lay.str.and ((Lay.ins).slice.and Lay.unit))))))) Tryz.underlying42 (by kernel_rfl) (zD.cons rfl (by kernel_rfl) (zw.str Tryz.underlying9) (zD.cons rfl (by kernel_rfl) (zw.str Tryz.underlying9) (zD.cons rfl (by kernel_rfl) (zw.bool Tryz.underlying4) (zD.cons rfl (by kernel_rfl) (zw.int Tryz.underlying3) (zD.cons rfl (by kernel_rfl) (zw.slice Tryz.underlying39 (by kernel_rfl) (by decide) aco) (zD.cons rfl (by kernel_rfl) (zw.str Tryz.underlying9) (zD.cons rfl (by kernel_rfl) (zw.slice Tryz.underlying40 (by kernel_rfl) (by decide) agc) zD.nil)))))))).turn (fun x=>⟨x.1,x.2.1,x.2.2.1,x.2.2.2.1,x.2.2.2.2.1,x.2.2.2.2.2.1,x.2.2.2.2.2.2.1⟩)
  (by
    rintro w ⟨x0,x1,x2,x3,x4,x5,x6,u⟩ vs ⟨us0,ts0,rfl,h0,us1,ts1,rfl,h1,us2,ts2,rfl,h2,us3,ts3,rfl,h3,us4,ts4,rfl,⟨A4,c4,rfl,hc4,hs4⟩,us5,ts5,rfl,h5,us6,ts6,rfl,⟨A6,c6,rfl,hc6,hs6⟩,hu⟩;obtain rfl:us0=[.string x0]:=h0;obtain rfl:us1=[.string x1]:=h1;obtain rfl:us2=[.bool x2]:=h2;obtain rfl:us3=[.int .i64 x3]:=h3;obtain rfl:us5=[.string x5]:=h5;obtain rfl:ts6=[]:=hu;exact⟨A4,c4,A6,c6,rfl,hc4,hs4,hc6,hs6⟩)
  (by rintro⟨x0,x1,x2,x3,x4,x5,x6,u⟩ ⟨o0,o1,o2,o3,o4,o5,o6,hu⟩;exact⟨o0,o1,o2,o3,o4,o5,o6⟩)
def Unt.OkW(x:Unt):Prop:=(x.classes.length*Tryz.prog.bytesOf 94≤reachBytes∧x.classes.length≤maxLen∧∀y∈x.classes,y.OkW)∧(x.funcs.length*Tryz.prog.bytesOf 42≤reachBytes∧x.funcs.length≤maxLen∧∀y∈x.funcs,y.OkW)∧(I64 x.main)
theorem acp:zw Tryz.prog 32 Lay.unt Unt.OkW:=
 (zw.struct (L:=Lay.hi.and ((Lay.fun).slice.and (Lay.int.and Lay.unit))) Tryz.underlying32 (by kernel_rfl) (zD.cons rfl (by kernel_rfl) ag9 (zD.cons rfl (by kernel_rfl) (zw.slice Tryz.underlying30 (by kernel_rfl) (by decide) agd) (zD.cons rfl (by kernel_rfl) (zw.int Tryz.underlying3) zD.nil)))).turn (fun x=>⟨x.1.classes,x.2.1,x.2.2.1⟩)
  (by
    rintro w ⟨x0,x1,x2,u⟩ vs ⟨us0,ts0,rfl,⟨A0,c0,rfl,hc0,hs0⟩,us1,ts1,rfl,⟨A1,c1,rfl,hc1,hs1⟩,us2,ts2,rfl,h2,hu⟩;obtain rfl:us2=[.int .i64 x2]:=h2;obtain rfl:ts2=[]:=hu;exact⟨A0,c0,A1,c1,rfl,hc0,hs0,hc1,hs1⟩)
  (by rintro⟨x0,x1,x2,u⟩ ⟨o0,o1,o2,hu⟩;exact⟨o0,o1,o2⟩)
end Go.Proofs.YtmhdambkchlilaaGreatDoor
