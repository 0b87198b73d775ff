/- Chapter 15: the machine's maps: sites, objects, fields. Chapter 15: initial, binary, read of package interp (for any unit). Chapter 15: 'copy' of values into a row of the call's own; the frames in memory. Chapter 15: enter of package interp (for any unit). -/
import Derived.DeepKeys4
import Derived.Laws.CopyRow
import Derived.Test.YtmhdambkchlilaaGreatDoorJGa
import Derived.Test.YtmhdambkchlilaaGreatDoorJMa
namespace Go.Proofs.YtmhdambkchlilaaGreatDoor
open Go.RowKit
set_option linter.unusedVariables false
set_option maxRecDepth 100000
set_option maxHeartbeats 4000000
def plcV(p:Int×Int):Value:= .agg #[.int .i64 p.1,.int .i64 p.2]
def adr(p:Int×Int):Prop:=qL p.1∧qL p.2
def plcL(p:Int×Int):Lit:= .string (keyBytes [.int .i64 p.1,.int .i64 p.2])
theorem acU:Maps.Keyed Tryz.prog 103:=Maps.Keyed.of_law (deep_law_laid (m:=3) (by kernel_rfl) (by omega) (of_decide_eq_true (by kernel_rfl)) (by kernel_rfl) (by kernel_rfl))
theorem acf(p:Int×Int)(h:adr p):keyOf Tryz.prog 103 (plcV p)=some (plcL p):=by
 obtain⟨a,b⟩:=p;obtain⟨wa,wb⟩:=h;unfold keyOf plcV plcL;simp only[Tryz.underlying103];have hk:Tryz.prog.keyType 103=true:=by kernel_rfl
 have hc:Tryz.prog.cellsOf 103=2:=by kernel_rfl
 have hi:Tryz.prog.cellsOf 3=1:=by kernel_rfl
 have hs:∃m,Tryz.prog.types.size=m+1:=⟨Tryz.prog.types.size-1,by
  have:0<Tryz.prog.types.size:=of_decide_eq_true (by kernel_rfl)
  omega⟩
 obtain⟨m,hm⟩:=hs;have wa':(Lit.int .i64 a).wf=true:=wa;have wb':(Lit.int .i64 b).wf=true:=wb;rw[if_pos (by simp[hk,Value.formed,Tryz.underlying103,hc]),hm];unfold Program.keyLits;simp only[Tryz.underlying103,Value.cells];rw[if_pos (by simp[hc])]
 simp[hi,Program.keyLits,Tryz.underlying3,wa',wb']
theorem ahC(x y:Int×Int)(hx:adr x)(hy:adr y)(h:plcL x=plcL y):x=y:=by
 have h1:=acf x hx;rw[h] at h1;have h2:=acU.inj h1 (acf y hy);obtain⟨a,b⟩:=x;obtain⟨c,d⟩:=y;unfold plcV at h2
 simp at h2
 rw[h2.1,h2.2]
def intR:Value→Option (DataW Unit×List MemPlace)
 |.int .i64 a=>some (.lit (.int .i64 a),[])
 |_=>none
theorem kP:kX Tryz.prog 97 103 3 plcV adr plcL (fun y:Int=> .int .i64 y) intR (fun y=> .lit (.int .i64 y)) 0:=
 {under:=Tryz.underlying97,keyed:=acU,key:=acf,linj:=ahC,val:=fun y=>rfl,
  inv:=fun v y ps h=>by
   unfold intR at h
   split at h
   ·injection h with h
    injection h with h _
    injection h with h
    injection h with _ h
    rw[h]
   ·cases h
  zeros:=fun w=>by kernel_rfl}
def objV(p:ByteArray×Option Nat):Value:= .agg #[.string p.1,.map p.2]
def optI:Option Nat→Int
 |none=> -1
 |some b=>(b:Int)
theorem ahD{a b:Option Nat}(h:optI a=optI b):a=b:=by
 cases a<;>cases b<;>simp[optI] at h ⊢<;>omega
def objD(p:ByteArray×Option Nat):DataW Unit:= .agg [.lit (.string p.1.data.toList),.lit (.int .i64 (optI p.2))]
def objR(v:Value):Option (DataW Unit×List MemPlace):=
 match v with
 |.agg cs=>match cs.toList with
  |[.string s,.map o]=>some (objD (s,o),[])
  |_=>none
 |_=>none
theorem ahE(v:Value)(y:ByteArray×Option Nat)(ps:List MemPlace)(h:objR v=some (objD y,ps)):v=objV y:=by
 unfold objR at h
 split at h
 ·rename_i cs
  split at h
  ·rename_i s o hc
   injection h with h
   injection h with h _
   unfold objD at h
   simp at h
   obtain⟨h1,h2⟩:=h;have e1:s=y.1:=ByteArray.ext h1;have e2:o=y.2:=ahD h2;have e3:cs=#[.string s,.map o]:=Array.toList_inj.1 (by rw[hc]);rw[e3,e1,e2]
   rfl
  ·cases h
 ·cases h
theorem kE:kX Tryz.prog 98 2 177 (fun x:Int=> .int .i64 x) qL (fun x=> .int .i64 x) objV objR objD (ByteArray.empty,none):=
 {under:=Tryz.underlying98,keyed:=Maps.int_keyed Tryz.underlying2,key:=fun x hx=>Maps.keyOf_int_mk Tryz.underlying2 hx,linj:=fun x y _ _ h=>by injection h,val:=fun y=>rfl,
  inv:=ahE,zeros:=fun w=>by kernel_rfl}
def vlV(v:Vl):Value:= .agg #[.int .i64 v.1,.int .i64 v.2.1,.int .i64 v.2.2]
def vlD(v:Vl):DataW Unit:= .agg [.lit (.int .i64 v.1),.lit (.int .i64 v.2.1),.lit (.int .i64 v.2.2)]
def vlR(v:Value):Option (DataW Unit×List MemPlace):=
 match v with
 |.agg cs=>match cs.toList with
  |[.int .i64 a,.int .i64 b,.int .i64 c]=>some (vlD (a,b,c),[])
  |_=>none
 |_=>none
theorem aiJ(v:Value)(y:Vl)(ps:List MemPlace)(h:vlR v=some (vlD y,ps)):v=vlV y:=by
 unfold vlR at h
 split at h
 ·rename_i cs
  split at h
  ·rename_i a b c hc
   injection h with h
   injection h with h _
   unfold vlD at h
   simp at h
   obtain⟨h1,h2,h3⟩:=h;have e3:cs=#[.int .i64 a,.int .i64 b,.int .i64 c]:=Array.toList_inj.1 (by rw[hc]);rw[e3,h1,h2,h3]
   rfl
  ·cases h
 ·cases h
theorem qI:kX Tryz.prog 175 9 63 (fun x:ByteArray=> .string x) zG (fun x=> .string x.data.toList) vlV vlR vlD (0,0,0):=
 {under:=Tryz.underlying175,keyed:=Maps.string_keyed Tryz.underlying9,key:=fun x hx=>WideMaps.keyOf_string_mk Tryz.underlying9 hx,linj:=fun x y _ _ h=>by
   injection h with h
   exact ByteArray.ext (Array.toList_inj.1 h),
  val:=fun y=>rfl,inv:=aiJ,zeros:=fun w=>by kernel_rfl}
theorem xo(t:ByteArray)(w:World):Calls Tryz.prog 158 #[.string t] w fun e w'=>e = .returned (vlV (iniV t))∧Below w.heap.size w w':=by
 obtain⟨b,hb⟩:∃b,Hid (b=zu t):=⟨_,v9h rfl⟩
 have HV:Hid (iniV t=if b=true then(1,0,0) else(2,0,0)):=by show _=_;rw[hb.out];rfl
 have hb2:(t.toList==[105,110,116])=b:=by rw[hb.out];rfl
 clear hb
 cases b with
 |true=>
  rw[HV.out,if_pos rfl,show vlV (1,0,0) = .agg #[.int .i64 1,.int .i64 0,.int .i64 0] from rfl];clear HV
  go_enter Tryz.func158,Tryz.ntmps158
  go_upto_region 1 with fail
  generalize hW:World.alloc _ _=W1 at *
  have hb1:Below w.heap.size w W1:=by rw[←hW];exact(by repeat(first|assumption|exact v9r|apply zc|apply zd|apply zg|apply ze|apply zi))
  have br:Box W1 w.heap.size [.int .i64 0,.int .i64 0,.int .i64 0] 63:=by rw[←hW];exact Box.new _ _ _
  clear hW;have HN:=v9h (jm 0 W1)
  go_wp2_with fail
  refine HN.out.mono ?_;rintro e w2 ⟨rfl,hb2⟩;have br2:=br.mono hb2;have hbw:=za hb1 hb2;clear HN hb2 br hb1;have y0:=br2.cell 0 rfl;have y1:=br2.cell 1 rfl;have y2:=br2.cell 2 rfl;have yf:=fun i=>br2.free i
  have yl:=br2.lt
  go_wp2_with fail
  clear y0 y1 y2 yf yl;obtain⟨bz,hgz⟩:=br2.store3 (.int .i64 1) (.int .i64 0) (.int .i64 0);have hbz:=hbw.grown hgz hbw.size (fun k hk=>by injection hk with hk;omega);generalize World.setCell _ _ _=wz at *
  have y0:=bz.cell 0 rfl;have y1:=bz.cell 1 rfl;have y2:=bz.cell 2 rfl;refine bodyPost_ret (v:= .agg #[.int .i64 1,.int .i64 0,.int .i64 0]) (by simp[results,Tryz.results158,go_sem,y0,y1,y2]) rfl ?_;exact⟨rfl,hbz⟩
 |false=>
  rw[HV.out,if_neg (by decide),show vlV (2,0,0) = .agg #[.int .i64 2,.int .i64 0,.int .i64 0] from rfl];clear HV
  go_enter Tryz.func158,Tryz.ntmps158
  go_upto_region 1 with fail
  generalize hW:World.alloc _ _=W1 at *
  have hb1:Below w.heap.size w W1:=by rw[←hW];exact(by repeat(first|assumption|exact v9r|apply zc|apply zd|apply zg|apply ze|apply zi))
  have br2:Box W1 w.heap.size [.int .i64 0,.int .i64 0,.int .i64 0] 63:=by rw[←hW];exact Box.new _ _ _
  clear hW;have y0:=br2.cell 0 rfl;have y1:=br2.cell 1 rfl;have y2:=br2.cell 2 rfl;have yf:=fun i=>br2.free i
  have yl:=br2.lt
  go_wp2_with fail
  clear y0 y1 y2 yf yl;obtain⟨bz,hgz⟩:=br2.store3 (.int .i64 2) (.int .i64 0) (.int .i64 0);have hbz:=hb1.grown hgz hb1.size (fun k hk=>by injection hk with hk;omega);generalize World.setCell _ _ _=wz at *
  have y0:=bz.cell 0 rfl;have y1:=bz.cell 1 rfl;have y2:=bz.cell 2 rfl;refine bodyPost_ret (v:= .agg #[.int .i64 2,.int .i64 0,.int .i64 0]) (by simp[results,Tryz.results158,go_sem,y0,y1,y2]) rfl ?_;exact⟨rfl,hbz⟩
theorem aiK(a b c d e f:Int)(w:World):(binOp .eql 63 (.agg #[.int .i64 a,.int .i64 b,.int .i64 c]) (.agg #[.int .i64 d,.int .i64 e,.int .i64 f])).run Tryz.prog w = .ok (.bool (a==d&&b==e&&c==f)) w:=by
 by_cases h1:a=d<;>by_cases h2:b=e<;>by_cases h3:c=f<;>simp[go_sem,h1,h2,h3]
theorem af2(M:Value)(a b:Vl)(op:Int)(w:World):Calls Tryz.prog 163 #[M,vlV a,vlV b,.int .i64 op] w fun e w'=>e = .returned (vlV (binV a b op))∧Below w.heap.size w w':=by
 obtain⟨a1,a2,a3⟩:=a;obtain⟨b1,b2,b3⟩:=b;have hd:vlV (a1,a2,a3) = .agg #[.int .i64 a1,.int .i64 a2,.int .i64 a3]:=rfl;have hd2:vlV (b1,b2,b3) = .agg #[.int .i64 b1,.int .i64 b2,.int .i64 b3]:=rfl;rw[hd,hd2];clear hd hd2
 cases h1:(a1 != 1) with
 |true=>
  have hn1:¬a1=1:=fun h=>by rw[h] at h1;exact absurd h1 (by decide)
  obtain⟨q,hq⟩:∃q,(a1==b1&&a2==b2&&a3==b3)=q:=⟨_,rfl⟩
  have HV:Hid (vlV (binV (a1,a2,a3) (b1,b2,b3) op) = .agg #[.int .i64 1,.int .i64 (if q then 1 else 0),.int .i64 0]):=by
   show _=_;unfold binV;rw[if_neg hn1]
   have:((a1,a2,a3):Vl)=(b1,b2,b3)↔q=true:=by
    rw[←hq]
    simp[and_assoc]
   by_cases hqq:q=true
   ·rw[if_pos (this.2 hqq),hqq];rfl
   ·rw[if_neg (fun h=>hqq (this.1 h))];simp at hqq;rw[hqq];rfl
  rw[HV.out];have hve:=fun W=>aiK a1 a2 a3 b1 b2 b3 W
  rw[hq] at hve;have HT:=v9h (fun W=>kC q W);have HN:=v9h (fun W=>jm (if q then 1 else 0) W);obtain⟨t,ht⟩:∃t:Int,t=if q then 1 else 0:=⟨_,rfl⟩
  rw[←ht] at HT HN ⊢;clear hn1 hq HV ht
  go_enter Tryz.func163,Tryz.ntmps163
  go_upto_region 1 with fail
  generalize hW:World.alloc (World.alloc (World.alloc _ _) _) _=W1 at *
  have hb1:Below w.heap.size w W1:=by rw[←hW];exact(by repeat(first|assumption|exact v9r|apply zc|apply zd|apply zg|apply ze|apply zi))
  have b1x:Box W1 w.heap.size [.int .i64 a1,.int .i64 a2,.int .i64 a3] 63:=by rw[←hW];exact((Box.new _ _ _).alloc _).alloc _
  have b2x:Box W1 (w.heap.size+1) [.int .i64 b1,.int .i64 b2,.int .i64 b3] 63:=by rw[←hW];exact(Box.at (w:=w.alloc _) (by simp)).alloc _
  have brx:Box W1 (w.heap.size+2) [.int .i64 0,.int .i64 0,.int .i64 0] 63:=by rw[←hW];refine Box.at (w:=(w.alloc _).alloc _) ?_;simp
  clear hW;have p0:=b1x.cell 0 rfl;have p1:=b1x.cell 1 rfl;have p2:=b1x.cell 2 rfl;have pl:=b1x.lt;have q0:=b2x.cell 0 rfl;have q1:=b2x.cell 1 rfl;have q2:=b2x.cell 2 rfl;have ql:=b2x.lt
  go_wp2_with fail
  refine(HT.out _).mono ?_;rintro e w2 ⟨rfl,rfl⟩
  go_wp2_with fail
  refine(HN.out _).mono ?_;rintro e w3 ⟨rfl,hb3⟩;clear p0 p1 p2 pl q0 q1 q2 ql hve HT HN b1x b2x;have brz:=brx.mono hb3;have hbw:=za hb1 hb3;have y0:=brz.cell 0 rfl;have y1:=brz.cell 1 rfl;have y2:=brz.cell 2 rfl;have yf:=fun i=>brz.free i
  have yl:=brz.lt
  go_wp2_with fail
  clear y0 y1 y2 yf yl;obtain⟨bz,hgz⟩:=brz.store3 (.int .i64 1) (.int .i64 t) (.int .i64 0);have hbz:=hbw.grown hgz hbw.size (fun k hk=>by injection hk with hk;omega);generalize World.setCell _ _ _=wz at *
  have y0:=bz.cell 0 rfl;have y1:=bz.cell 1 rfl;have y2:=bz.cell 2 rfl;refine bodyPost_ret (v:= .agg #[.int .i64 1,.int .i64 t,.int .i64 0]) (by simp[results,Tryz.results163,go_sem,y0,y1,y2]) rfl ?_;exact⟨rfl,hbz⟩
 |false=>
  have e1:a1=1:=by simpa[bne] using h1
  have HV:Hid (vlV (binV (a1,a2,a3) (b1,b2,b3) op) = .agg #[.int .i64 1,.int .i64 (binP op a2 b2).1,.int .i64 0]):=by
   show _=_;unfold binV;rw[if_pos e1]
   rfl
  rw[HV.out];have HB:=v9h (fun W=>afc op a2 b2 W);obtain⟨t,t2,ht⟩:∃t t2:Int,(binP op a2 b2)=(t,t2):=⟨_,_,rfl⟩
  rw[ht] at HB ⊢;have HN:=v9h (fun W=>jm t W);clear HV ht e1
  go_enter Tryz.func163,Tryz.ntmps163
  go_upto_region 1 with fail
  generalize hW:World.alloc (World.alloc (World.alloc _ _) _) _=W1 at *
  have hb1:Below w.heap.size w W1:=by rw[←hW];exact(by repeat(first|assumption|exact v9r|apply zc|apply zd|apply zg|apply ze|apply zi))
  have b1x:Box W1 w.heap.size [.int .i64 a1,.int .i64 a2,.int .i64 a3] 63:=by rw[←hW];exact((Box.new _ _ _).alloc _).alloc _
  have b2x:Box W1 (w.heap.size+1) [.int .i64 b1,.int .i64 b2,.int .i64 b3] 63:=by rw[←hW];exact(Box.at (w:=w.alloc _) (by simp)).alloc _
  have brx:Box W1 (w.heap.size+2) [.int .i64 0,.int .i64 0,.int .i64 0] 63:=by rw[←hW];refine Box.at (w:=(w.alloc _).alloc _) ?_;simp
  clear hW;have p0:=b1x.cell 0 rfl;have p1:=b1x.cell 1 rfl;have pl:=b1x.lt;have q1:=b2x.cell 1 rfl;have ql:=b2x.lt
  go_wp2_with fail
  refine(HB.out _).mono ?_;rintro e w2 ⟨rfl,rfl⟩
  go_wp2_with fail
  refine(HN.out _).mono ?_;rintro e w3 ⟨rfl,hb3⟩;clear p0 p1 pl q1 ql HB HN b1x b2x;have brz:=brx.mono hb3;have hbw:=za hb1 hb3;have y0:=brz.cell 0 rfl;have y1:=brz.cell 1 rfl;have y2:=brz.cell 2 rfl;have yf:=fun i=>brz.free i
  have yl:=brz.lt
  go_wp2_with fail
  clear y0 y1 y2 yf yl;obtain⟨bz,hgz⟩:=brz.store3 (.int .i64 1) (.int .i64 t) (.int .i64 0);have hbz:=hbw.grown hgz hbw.size (fun k hk=>by injection hk with hk;omega);generalize World.setCell _ _ _=wz at *
  have y0:=bz.cell 0 rfl;have y1:=bz.cell 1 rfl;have y2:=bz.cell 2 rfl;refine bodyPost_ret (v:= .agg #[.int .i64 1,.int .i64 t,.int .i64 0]) (by simp[results,Tryz.results163,go_sem,y0,y1,y2]) rfl ?_;exact⟨rfl,hbz⟩
theorem ajl(fs:List Fun)(AF:Option Addr)(cF:Nat)(w:World)(gm gF o g lo i k:Nat)(vals:List Vl)(hi:i<fs.length)(hs:Sl Lay.fun w AF fs)(hm:gm<w.heap.size)(h1:w.cell? ⟨gm,1,none⟩=some (.slice AF fs.length cF))
  (hF:gF<w.heap.size) (f0:w.cell? ⟨gF,o,none⟩=some (.int .i64 (i:Nat))) (f4:w.cell? ⟨gF,o+4,none⟩=some (.slice (some ⟨g,0,none⟩) vals.length vals.length)) (hV:Own zI 3 lo 63 w (.slice (some ⟨g,0,none⟩) vals.length vals.length) vals)
  (hk:k<vals.length) (hkv:k<fs[i].vars.length) :
  Calls Tryz.prog 90 #[.pointer (some ⟨gm,0,none⟩),.pointer (some ⟨gF,o,none⟩),.int .i64 (k:Nat)] w fun e w'=>e = .returned (vlV (rdV fs[i] vals (k:Int)))∧Below w.heap.size w w':=by
 obtain⟨b,oF,A4,c4,A6,c6,rfl,hb,-,-,-,-,e4,-,-,hc4,hs4,-,-⟩:=hs.fun_at hi
 obtain⟨b3,o3,rfl,hb3,-,t1⟩:∃b o,A4=some ⟨b,o,none⟩∧b<w.heap.size∧True∧w.cell? ⟨b,o+k*2+1,none⟩=some (.string fs[i].vars[k].typ):=by
  obtain⟨b,o,e,h1,h2,h3⟩:=hs4.fld_at hkv;exact⟨b,o,e,h1,trivial,h3⟩
 have v0:=Own.cellOf yc hV rfl hk (j:=0) (u:= .int .i64 vals[k].1) rfl;have v1:=Own.cellOf yc hV rfl hk (j:=1) (u:= .int .i64 vals[k].2.1) rfl;have v2:=Own.cellOf yc hV rfl hk (j:=2) (u:= .int .i64 vals[k].2.2) rfl;rw[Nat.add_zero] at v0;have hgl:=hV.ltOf.2
 have HR:Hid (rdV fs[i] vals (k:Int)=if vals[k].1=0 then iniV fs[i].vars[k].typ else vals[k]):=by
  show _=_;unfold rdV adp tyOf;rw[Int.toNat_natCast,List.getElem?_eq_getElem hk,List.getElem?_eq_getElem hkv]
  rfl
 rw[HR.out];clear HR hV hs4 hs hc4;have hiI:(i:Int)<(fs.length:Int):=by omega
 have hkI:(k:Int)<(vals.length:Int):=by omega
 have hkvI:(k:Int)<(fs[i].vars.length:Int):=by omega
 obtain⟨ty,hty⟩:∃ty,ty=fs[i].vars[k].typ:=⟨_,rfl⟩
 rw[←hty] at t1 ⊢;obtain⟨nv,hnv⟩:∃nv,nv=fs[i].vars.length:=⟨_,rfl⟩
 rw[←hnv] at e4 hkvI;clear hty hnv hkv;generalize vals[k]=x at *
 obtain⟨x1,x2,x3⟩:=x
 cases hx:(x1==0) with
 |false=>
  have hx0:¬x1=0:=fun h=>by rw[h] at hx;exact absurd hx (by decide)
  rw[if_neg (show ¬((x1,x2,x3):Vl).1=0 from hx0),show vlV (x1,x2,x3) = .agg #[.int .i64 x1,.int .i64 x2,.int .i64 x3] from rfl];clear hx0;have HI:=v9h (fun W=>xo ty W)
  go_enter Tryz.func90,Tryz.ntmps90
  go_upto_region 1 with fail
  generalize hW:World.alloc _ _=W1 at *
  have hb1:Below w.heap.size w W1:=by rw[←hW];exact(by repeat(first|assumption|exact v9r|apply zc|apply zd|apply zg|apply ze|apply zi))
  have br:Box W1 w.heap.size [.int .i64 0,.int .i64 0,.int .i64 0] 63:=by rw[←hW];exact Box.new _ _ _
  clear hW;replace h1:=keptC h1 hm hb1;replace f0:=keptC f0 hF hb1;replace f4:=keptC f4 hF hb1;replace e4:=keptC e4 hb hb1;replace t1:=keptC t1 hb3 hb1;replace v0:=keptC v0 hgl hb1;replace v1:=keptC v1 hgl hb1;replace v2:=keptC v2 hgl hb1;replace hm:=Nat.lt_of_lt_of_le hm hb1.size;replace hF:=Nat.lt_of_lt_of_le hF hb1.size;replace hb:=Nat.lt_of_lt_of_le hb hb1.size;replace hb3:=Nat.lt_of_lt_of_le hb3 hb1.size;replace hgl:=Nat.lt_of_lt_of_le hgl hb1.size;have y0:=br.cell 0 rfl;have y1:=br.cell 1 rfl;have y2:=br.cell 2 rfl;have yf:=fun i=>br.free i
  have yl:=br.lt
  go_wp2_with fail
  clear y0 y1 y2 yf yl h1 f0 f4 e4 t1 v0 v1 v2;obtain⟨bz,hgz⟩:=br.store3 (.int .i64 x1) (.int .i64 x2) (.int .i64 x3);have hbz:=hb1.grown hgz hb1.size (fun k hk=>by injection hk with hk;omega);generalize World.setCell _ _ _=wz at *
  have y0:=bz.cell 0 rfl;have y1:=bz.cell 1 rfl;have y2:=bz.cell 2 rfl;refine bodyPost_ret (v:= .agg #[.int .i64 x1,.int .i64 x2,.int .i64 x3]) (by simp[results,Tryz.results90,go_sem,y0,y1,y2]) rfl ?_;exact⟨rfl,hbz⟩
 |true=>
  have hx0:x1=0:=by simpa using hx
  rw[if_pos (show((x1,x2,x3):Vl).1=0 from hx0)];clear hx0;have HI:=v9h (fun W=>xo ty W);obtain⟨z,hz⟩:∃z,z=iniV ty:=⟨_,rfl⟩
  rw[←hz] at HI ⊢;obtain⟨z1,z2,z3⟩:=z;have hzz:vlV (z1,z2,z3) = .agg #[.int .i64 z1,.int .i64 z2,.int .i64 z3]:=rfl;rw[hzz] at HI ⊢;clear hz hzz
  go_enter Tryz.func90,Tryz.ntmps90
  go_upto_region 1 with fail
  generalize hW:World.alloc _ _=W1 at *
  have hb1:Below w.heap.size w W1:=by rw[←hW];exact(by repeat(first|assumption|exact v9r|apply zc|apply zd|apply zg|apply ze|apply zi))
  have br:Box W1 w.heap.size [.int .i64 0,.int .i64 0,.int .i64 0] 63:=by rw[←hW];exact Box.new _ _ _
  clear hW;replace h1:=keptC h1 hm hb1;replace f0:=keptC f0 hF hb1;replace f4:=keptC f4 hF hb1;replace e4:=keptC e4 hb hb1;replace t1:=keptC t1 hb3 hb1;replace v0:=keptC v0 hgl hb1;replace v1:=keptC v1 hgl hb1;replace v2:=keptC v2 hgl hb1;replace hm:=Nat.lt_of_lt_of_le hm hb1.size;replace hF:=Nat.lt_of_lt_of_le hF hb1.size;replace hb:=Nat.lt_of_lt_of_le hb hb1.size;replace hb3:=Nat.lt_of_lt_of_le hb3 hb1.size;replace hgl:=Nat.lt_of_lt_of_le hgl hb1.size
  go_upto_region 2 with fail
  refine zt 17 (by kernel_rfl) (by kernel_rfl) ?_;replace hb1:=hb1.drew;replace br:=br.drew;replace h1:=keptC h1 hm (zd (v9r));replace f0:=keptC f0 hF (zd (v9r));replace e4:=keptC e4 hb (zd (v9r));replace t1:=keptC t1 hb3 (zd (v9r));replace hm:gm<W1.drew.heap.size:=hm;replace hF:gF<W1.drew.heap.size:=hF;replace hb:b<W1.drew.heap.size:=hb;replace hb3:b3<W1.drew.heap.size:=hb3;clear f4 v0 v1 v2 hgl;generalize W1.drew=W2 at *
  refine RZ.chunkN (f:=1) [0,1,2,3,4,5,6,7,8,9,10,11,12,13,14,15] (by kernel_rfl) ?_
  ((simp only[zo,List.filterMap,List.getElem?_toArray,List.getElem?_cons_zero,List.getElem?_cons_succ]);(repeat(go_big_quiet_step (fail)));refine wpQuiet_nil ?_)
  refine RZ.single 16 rfl (by kernel_rfl) (by omega) ?_;intro K hK
  go_wp2_with fail
  refine(HI.out _).mono ?_;rintro e W3 ⟨rfl,hb3'⟩
  go_wp2_with fail
  refine hK _ _ hb3' ?_;clear hK
  (refine RZ.tail (by kernel_rfl) ?_;(simp only[List.drop_succ_cons,List.drop_zero]))
  have br3:=br.mono hb3';have hbw:=za hb1 hb3';clear h1 f0 e4 t1 hb3' br hb1;have y0:=br3.cell 0 rfl;have y1:=br3.cell 1 rfl;have y2:=br3.cell 2 rfl;have yf:=fun i=>br3.free i
  have yl:=br3.lt
  go_wp2_with fail
  clear y0 y1 y2 yf yl;obtain⟨bz,hgz⟩:=br3.store3 (.int .i64 z1) (.int .i64 z2) (.int .i64 z3);have hbz:=hbw.grown hgz hbw.size (fun k hk=>by injection hk with hk;omega);generalize World.setCell _ _ _=wz at *
  have y0:=bz.cell 0 rfl;have y1:=bz.cell 1 rfl;have y2:=bz.cell 2 rfl;refine bodyPost_ret (v:= .agg #[.int .i64 z1,.int .i64 z2,.int .i64 z3]) (by simp[results,Tryz.results90,go_sem,y0,y1,y2]) rfl ?_;exact⟨rfl,hbz⟩
theorem adk{P:Program}(w:World)(dT sT ty elem:TypeId)(g dLen dCap sz:Nat)(a:Addr)(sLen sCap:Nat)(cur:Array Value)(t:TypeId)(cs:List Value)
  (hu:P.underlying dT=some (.slice elem)) (hs:(P.info? elem).map (·.size)=some sz)
  (hg:w.heap[g]? = some (.cells cur t (0,0))) (hn:cs.length=Nat.min sLen dLen*sz)
  (hsrc:∀j v,cs[j]? = some v→w.cell? (a.add j)=some v) (hfit:cs.length≤cur.size) (h1:∀v∈cs,v.oneCell'=true) :
  (Builtin.copy_ #[dT,sT] ty #[.slice (some ⟨g,0,none⟩) dLen dCap,.slice (some a) sLen sCap]).run P w =
   .ok (goInt (Nat.min sLen dLen)) (w.setRow g (cs++cur.toList.drop cs.length).toArray):=by
 have hl:=run_loadCells_list (P:=P) w a cs hsrc;have hst:=run_storeCells_at P g 0 t cs 0 cur w hg (by simpa using hfit) h1
 cases hq:P.info? elem with
 |none=>simp[hq] at hs
 |some i=>
  have hi:i.size=sz:=by simpa[hq] using hs
  simp[Builtin.copy_,run_underlying hu,Builtin.lenOf,Builtin.firstCells,sizeOf,typeInfo,hq,hi,←hn,hl,hst]
theorem acg(l:List Vl):(l.flatMap zI).length=l.length*3:=by
 induction l with
 |nil=>rfl
 |cons x l ih=>rw[List.flatMap_cons,List.length_append,ih,yc.len,List.length_cons];omega
theorem aiL(l:List Vl)(k:Nat):(l.flatMap zI).drop (k*3)=(l.drop k).flatMap zI:=by
 induction k generalizing l with
 |zero=>simp
 |succ k ih=>
  cases l with
  |nil=>simp
  |cons x l=>
   rw[List.flatMap_cons,List.drop_succ_cons,←ih l,show(k+1)*3=(zI x).length+k*3 by rw[yc.len];omega,List.drop_append,List.drop_of_length_le (by omega),List.nil_append]
   congr 1
   omega
theorem aeX{lo g n cA:Nat}{w:World}{AA:Option Addr}{l0 xs:List Vl}(hO:Own zI 3 lo 63 w (.slice (some ⟨g,0,none⟩) n n) l0)(hn:l0.length=n)(hS:Sl Lay.vl w AA xs)(hx:xs.length≤n)(h0:AA=none→cA=0) :
  ∃(w':World) (v:Value),(Builtin.copy_ #[52,52] 3 #[.slice (some ⟨g,0,none⟩) n n,.slice AA xs.length cA]).run Tryz.prog w = .ok v w'∧Own zI 3 lo 63 w' (.slice (some ⟨g,0,none⟩) n n) (xs++l0.drop xs.length)∧w.grownBy w' (some g):=by
 have hsz:(Tryz.prog.info? 63).map (·.size)=some 3:=by kernel_rfl
 cases AA with
 |none=>
  obtain rfl:=hS.none_nil;obtain rfl:=h0 rfl;exact⟨w,_,Go.Proofs.YtmhdambkchlilaaGreatDoor.run_copy_nil w _ _ _ 63 _ _ _ Tryz.underlying52 (by kernel_rfl),by simpa using hO,⟨rfl,rfl,rfl,Nat.le_refl _,fun _ _ _=>rfl⟩⟩
 |some ad=>
  obtain⟨hl,h⟩:=hO
  rcases h with⟨h1,_⟩|⟨g',cap,cur,hv,hb,hh,hnc,hcm,hcs,htk⟩
  ·cases h1
  ·injection hv with hv1 hv2 hv3
   injection hv1 with hv1
   injection hv1 with hv1 _ _
   subst hv1;have hcap:cap=n:=hv3.symm;subst hcap
   have hcl:cur.toList=l0.flatMap zI:=by
    rw[←htk,List.take_of_length_le];rw[Array.length_toList,hcs,hn];exact Nat.le_refl _
   have hnw:=hS.news (fun x vs h=>h) rfl yc (by decide);have hlx:=acg xs;have hfit:(xs.flatMap zI).length≤cur.size:=by rw[hlx,hcs];exact Nat.mul_le_mul_right 3 hx
   refine⟨_,_,adk w _ _ _ 63 g cap cap 3 ad xs.length cA cur _ (xs.flatMap zI) Tryz.underlying52 hsz hh (by rw[hlx,show Nat.min xs.length cap=xs.length from Nat.min_eq_left hx]) hnw hfit (fun v hv=>by
    obtain⟨x,_,hx⟩:=List.mem_flatMap.1 hv;exact yc.one x v hx),?_,⟨rfl,rfl,rfl,by simp[World.setRow],fun k _ hk=>setRow_other w g k _ (fun e=>hk (by simp[e]))⟩⟩
   have hlen:(xs++l0.drop xs.length).length=cap:=by rw[List.length_append,List.length_drop];omega
   refine⟨?_,Or.inr ⟨g,cap,_,by rw[hlen],hb,setRow_heap w g cur _ _ _ hh,by rw[hlen];exact Nat.le_refl _,hcm,?_,?_⟩⟩
   ·rw[acg]
   ·have hcl3:cur.toList.length=cap*3:=by rw[Array.length_toList,hcs]
    rw[List.size_toArray,List.length_append,List.length_drop,hlx,hcl3];have:=Nat.mul_le_mul_right 3 hx
    omega
   ·rw[hlen]
    rw[hcl,hlx,aiL,←List.flatMap_append];show List.take (cap*3) ((xs++l0.drop xs.length).flatMap zI)=_;rw[List.take_of_length_le];rw[acg,hlen];exact Nat.le_refl _
def yS(f:Frm)(g:Nat):RFr:=⟨f.fn,f.at_,f.no,f.call,some ⟨g,0,none⟩,f.vals.length,f.vals.length,f.exc⟩
structure zy(w:World)(lo:Nat)(vF:Value)(frs:List Frm)(gs:List Nat):Prop where
 len:gs.length=frs.length
 row:Own jb 8 lo 167 w vF (List.zipWith yS frs gs).reverse
 vals:∀(i:Nat) (f:Frm) (g:Nat),frs[i]? = some f→gs[i]? = some g→Own zI 3 lo 63 w (.slice (some ⟨g,0,none⟩) f.vals.length f.vals.length) f.vals
 nod:gs.Nodup
section
variable {w w':World} {lo:Nat} {vF:Value} {frs r:List Frm} {gs q:List Nat} {f:Frm} {g:Nat}
theorem zy.nil:zy w lo (.slice none 0 0) [] []:=⟨rfl,Own.nil,fun i f g h=>(by cases h),List.nodup_nil⟩
theorem zy.mono(h:zy w lo vF frs gs)(hb:Below w.heap.size w w'):zy w' lo vF frs gs:=⟨h.len,h.row.mono hb,fun i f g h1 h2=>(h.vals i f g h1 h2).mono hb,h.nod⟩
theorem zy.keptTyI{row:Option Nat}{t:TypeId}(h:zy w lo vF frs gs)(hr:qs w row t)(h1:167≠t)(h2:63≠t)(hg:w.grownBy w' row):zy w' lo vF frs gs:=
 ⟨h.len,h.row.keptTyI hr h1 hg,fun i f g e1 e2=>(h.vals i f g e1 e2).keptTyI hr h2 hg,h.nod⟩
theorem zy.keptVal(h:zy w lo vF frs gs){b:Nat}(hb:b∉gs)(hr:qs w (some b) 63)(hg:w.grownBy w' (some b)):zy w' lo vF frs gs:=
 ⟨h.len,h.row.keptTyI hr (by decide) hg,fun i f g e1 e2=>(h.vals i f g e1 e2).kept hg (fun k hk hv=>by
  injection hk with hk
  subst hk
  simp[Value.ownBlock] at hv
  subst hv;exact hb (List.mem_of_getElem? e2)),h.nod⟩
theorem je(h:zy w lo vF frs gs):(List.zipWith yS frs gs).reverse.length=frs.length:=by rw[List.length_reverse,List.length_zipWith,h.len];omega
theorem aff(h:zy w lo vF (f::r) (g::q)):∃hi:r.length<(List.zipWith yS (f::r) (g::q)).reverse.length,(List.zipWith yS (f::r) (g::q)).reverse[r.length]=yS f g:=by
 have hl:=je h;refine⟨by rw[hl,List.length_cons];omega,?_⟩;have hq:q.length=r.length:=by have:=h.len;simpa using this
 simp only[List.zipWith_cons_cons,List.reverse_cons];rw[List.getElem_append_right (by rw[List.length_reverse,List.length_zipWith];omega)]
 simp[List.length_zipWith,hq]
theorem zy.form(h:zy w lo vF (f::r) gs):∃gF cF,vF = .slice (some ⟨gF,0,none⟩) (r.length+1) cF:=by
 obtain⟨gF,cF,e⟩:=h.row.someOf (by rw[je h];simp);exact⟨gF,cF,by rw[e,je h];rfl⟩
theorem zy.gsForm(h:zy w lo vF (f::r) gs):∃g q,gs=g::q∧q.length=r.length:=by
 cases gs with
 |nil=>have:=h.len;simp at this
 |cons g q=>exact⟨g,q,rfl,by have:=h.len;simpa using this⟩
theorem zy.cell{gF cF:Nat}(h:zy w lo (.slice (some ⟨gF,0,none⟩) (r.length+1) cF) (f::r) (g::q)){j:Nat}{u:Value}(hu:(jb (yS f g))[j]? = some u):w.cell? ⟨gF,r.length*8+j,none⟩=some u:=by
 obtain⟨hi,e⟩:=aff h;exact Own.cellOf qn h.row (by rw[je h];rfl) hi (by rw[e];exact hu)
theorem zy.ltF{gF n cF:Nat}(h:zy w lo (.slice (some ⟨gF,0,none⟩) n cF) frs gs):lo≤gF∧gF<w.heap.size:=World.ownsRow.lt h.row gF rfl
theorem zy.freeF{gF cF:Nat}(h:zy w lo (.slice (some ⟨gF,0,none⟩) (r.length+1) cF) (f::r) (g::q))(i:Nat):w.frozen? ⟨gF,i,none⟩=false:=Own.freeOf h.row (by rw[je h];rfl) i
theorem zy.top(h:zy w lo vF (f::r) (g::q)):Own zI 3 lo 63 w (.slice (some ⟨g,0,none⟩) f.vals.length f.vals.length) f.vals:=h.vals 0 f g rfl rfl
theorem zy.setCell{gF cF:Nat}(h:zy w lo (.slice (some ⟨gF,0,none⟩) (r.length+1) cF) (f::r) (g::q)){j:Nat}(hj:j<8)(u:Value){f':Frm}(hv:f'.vals=f.vals)(hc:jb (yS f' g)=(jb (yS f g)).set j u) :
  zy (w.setCell ⟨gF,r.length*8+j,none⟩ u) lo (.slice (some ⟨gF,0,none⟩) (r.length+1) cF) (f'::r) (g::q):=by
 obtain⟨hi,e⟩:=aff h;have hrow:=Own.setAt qn h.row (by rw[je h];rfl) hi hj u (yS f' g) (by rw[e];exact hc);have hgr:=zq w gF (r.length*8+j) u;have hq:q.length=r.length:=by have:=h.len;simpa using this
 have hl:(List.zipWith yS (f::r) (g::q)).reverse.set r.length (yS f' g)=(List.zipWith yS (f'::r) (g::q)).reverse:=by
  simp only[List.zipWith_cons_cons,List.reverse_cons];rw[List.set_append_right _ _ (by rw[List.length_reverse,List.length_zipWith];omega)]
  simp[List.length_zipWith,hq]
 rw[hl] at hrow;refine⟨h.len,hrow,fun i x y e1 e2=>?_,h.nod⟩;have hk:∀(x:Frm) (y:Nat),Own zI 3 lo 63 w (.slice (some ⟨y,0,none⟩) x.vals.length x.vals.length) x.vals→Own zI 3 lo 63 (w.setCell ⟨gF,r.length*8+j,none⟩ u) (.slice (some ⟨y,0,none⟩) x.vals.length x.vals.length) x.vals:=fun x y ho=>ho.keptTyI h.row.rowTyI (by decide) hgr
 cases i with
 |zero=>
  have e1':f'=x:=by injection e1
  have e2':g=y:=by injection e2
  subst e1' e2';have:=hk f g h.top;rw[←hv] at this;exact this
 |succ i=>exact hk x y (h.vals (i+1) x y e1 e2)
theorem zy.setVals(h:zy w lo vF (f::r) (g::q))(hg:w.grownBy w' (some g)){vs:List Vl}(hl:vs.length=f.vals.length)(ho:Own zI 3 lo 63 w' (.slice (some ⟨g,0,none⟩) f.vals.length f.vals.length) vs):zy w' lo vF ({ f with vals:=vs}::r) (g::q):=by
 have hr:qs w (some g) 63:=by have:=h.top.rowTyI;exact this
 refine⟨h.len,?_,fun i x y e1 e2=>?_,h.nod⟩
 ·have e:List.zipWith yS ({ f with vals:=vs}::r) (g::q)=List.zipWith yS (f::r) (g::q):=by
   simp only[List.zipWith_cons_cons]
   congr 1
   unfold yS
   simp[hl]
  rw[e];exact h.row.keptTyI hr (by decide) hg
 ·cases i with
  |zero=>
   have e1':{ f with vals:=vs}=x:=by injection e1
   have e2':g=y:=by injection e2
   subst e1' e2';show Own zI 3 lo 63 w' (.slice (some ⟨g,0,none⟩) vs.length vs.length) vs;rw[hl];exact ho
  |succ i=>
   have e2':q[i]? = some y:=e2
   have hne:g≠y:=fun e=>by
    have:=h.nod;rw[List.nodup_cons] at this;exact this.1 (by rw[e];exact List.mem_of_getElem? e2')
   refine(h.vals (i+1) x y e1 e2).kept hg (fun k hk hv=>?_);injection hk with hk
   simp[Value.ownBlock] at hv
   omega
theorem zy.push{w2:World}{vF2:Value}(h:zy w lo vF frs gs)(hr:Own jb 8 lo 167 w2 vF2 ((List.zipWith yS frs gs).reverse++[yS f g]))(hk:∀(x:Frm) (y:Nat),Own zI 3 lo 63 w (.slice (some ⟨y,0,none⟩) x.vals.length x.vals.length) x.vals→Own zI 3 lo 63 w2 (.slice (some ⟨y,0,none⟩) x.vals.length x.vals.length) x.vals)
  (ho:Own zI 3 lo 63 w2 (.slice (some ⟨g,0,none⟩) f.vals.length f.vals.length) f.vals) (hn:g∉gs):zy w2 lo vF2 (f::frs) (g::gs):=by
 refine⟨by rw[List.length_cons,List.length_cons,h.len],by simp only[List.zipWith_cons_cons,List.reverse_cons];exact hr,fun i x y e1 e2=>?_,List.nodup_cons.2 ⟨hn,h.nod⟩⟩
 cases i with
 |zero=>
  have e1':f=x:=by injection e1
  have e2':g=y:=by injection e2
  subst e1' e2';exact ho
 |succ i=>exact hk x y (h.vals i x y e1 e2)
end
def ObR(w:World)(lo:Nat)(gs:List Nat)(r:ROb)(o:Obv):Prop:=∃(A:Option Addr) (c:Nat),r=⟨o.fn,o.at_,o.no,o.call,A,o.vals.length,c⟩∧Own zI 3 lo 63 w (.slice A o.vals.length c) o.vals∧∀b,(Value.slice A o.vals.length c).ownBlock=some b→b∉gs
structure zN(w:World)(lo:Nat)(vO:Value)(obs:List Obv)(gs:List Nat):Prop where
 raws:∃rs:List ROb,Own kN 5 lo 54 w vO rs∧rs.length=obs.length∧∀(i:Nat) (r:ROb) (o:Obv),rs[i]? = some r→obs[i]? = some o→ObR w lo gs r o
section
variable {w w':World} {lo:Nat} {vO:Value} {obs:List Obv} {gs:List Nat}
theorem zN.nil:zN w lo (.slice none 0 0) [] gs:=⟨[],Own.nil,rfl,fun i r o h=>by cases h⟩
theorem ObR.mono{r:ROb}{o:Obv}(h:ObR w lo gs r o)(hb:Below w.heap.size w w'):ObR w' lo gs r o:=by
 obtain⟨A,c,e,h1,h2⟩:=h;exact⟨A,c,e,h1.mono hb,h2⟩
theorem zN.mono(h:zN w lo vO obs gs)(hb:Below w.heap.size w w'):zN w' lo vO obs gs:=by
 obtain⟨rs,h1,h2,h3⟩:=h.raws;exact⟨rs,h1.mono hb,h2,fun i r o e1 e2=>(h3 i r o e1 e2).mono hb⟩
theorem zN.keptTyI{row:Option Nat}{t:TypeId}(h:zN w lo vO obs gs)(hr:qs w row t)(h1:54≠t)(h2:63≠t)(hg:w.grownBy w' row):zN w' lo vO obs gs:=by
 obtain⟨rs,k1,k2,k3⟩:=h.raws;refine⟨rs,k1.keptTyI hr h1 hg,k2,fun i r o e1 e2=>?_⟩;obtain⟨A,c,e,o1,o2⟩:=k3 i r o e1 e2;exact⟨A,c,e,o1.keptTyI hr h2 hg,o2⟩
theorem zN.keptVal(h:zN w lo vO obs gs){g:Nat}(hm:g∈gs)(hr:qs w (some g) 63)(hg:w.grownBy w' (some g)):zN w' lo vO obs gs:=by
 obtain⟨rs,k1,k2,k3⟩:=h.raws;refine⟨rs,k1.keptTyI hr (by decide) hg,k2,fun i r o e1 e2=>?_⟩;obtain⟨A,c,e,o1,o2⟩:=k3 i r o e1 e2;refine⟨A,c,e,o1.kept hg (fun k hk hv=>?_),o2⟩;injection hk with hk
 subst hk;exact o2 g hv hm
theorem zN.blocks{gs':List Nat}(h:zN w lo vO obs gs)(hs:∀b∈gs',b∈gs∨w.heap.size≤b):zN w lo vO obs gs':=by
 obtain⟨rs,k1,k2,k3⟩:=h.raws;refine⟨rs,k1,k2,fun i r o e1 e2=>?_⟩;obtain⟨A,c,e,o1,o2⟩:=k3 i r o e1 e2;refine⟨A,c,e,o1,fun b hb hm=>?_⟩
 rcases hs b hm with h1|h1
 ·exact o2 b hb h1
 ·have:=(World.ownsRow.lt o1 b hb).2
  omega
theorem zN.snoc{w2:World}{vO2:Value}{r:ROb}{o:Obv}{rs:List ROb}(hO:Own kN 5 lo 54 w2 vO2 (rs++[r]))(hl:rs.length=obs.length)(hk:∀(i:Nat) (r:ROb) (o:Obv),rs[i]? = some r→obs[i]? = some o→ObR w2 lo gs r o)(hr:ObR w2 lo gs r o):zN w2 lo vO2 (obs++[o]) gs:=by
 refine⟨rs++[r],hO,by rw[List.length_append,List.length_append,hl];rfl,fun i x y e1 e2=>?_⟩
 by_cases hi:i<rs.length
 ·rw[List.getElem?_append_left hi] at e1
  rw[List.getElem?_append_left (by omega)] at e2;exact hk i x y e1 e2
 ·rw[List.getElem?_append_right (by omega)] at e1
  rw[List.getElem?_append_right (by omega)] at e2;have h0:i-rs.length=0:=by have:=(List.getElem?_eq_some_iff.1 e1).1;simp at this;omega
  rw[h0] at e1;rw[show i-obs.length=0 by omega] at e2;injection e1 with e1
  injection e2 with e2
  subst e1 e2;exact hr
end
structure KpM(lo:Nat)(ts:List TypeId)(w w':World):Prop where
 os:w'.os=w.os
 tape:w'.tape=w.tape
 output:w'.output=w.output
 size:w.heap.size≤w'.heap.size
 blk:∀(b:Nat) (cs:Array Value) (t:TypeId) (fr:Nat×Nat),w.heap[b]? = some (Obj.cells cs t fr)→t∉ts→w'.heap[b]? = some (Obj.cells cs t fr)
 maps:∀(b:Nat) (es:Array MapEntry) (c:Nat),w.heap[b]? = some (Obj.map es c)→w'.heap[b]? = some (Obj.map es c)
 low:∀(b:Nat) (o:Obj),b<lo→w.heap[b]? = some o→w'.heap[b]? = some o
theorem KpM.refl(lo:Nat)(ts:List TypeId)(w:World):KpM lo ts w w:=⟨rfl,rfl,rfl,Nat.le_refl _,fun _ _ _ _ h _=>h,fun _ _ _ h=>h,fun _ _ _ h=>h⟩
theorem KpM.trans{lo:Nat}{ts:List TypeId}{a b c:World}(h:KpM lo ts a b)(k:KpM lo ts b c):KpM lo ts a c:=⟨k.os.trans h.os,k.tape.trans h.tape,k.output.trans h.output,Nat.le_trans h.size k.size,fun _ _ _ _ e h1=>k.blk _ _ _ _ (h.blk _ _ _ _ e h1) h1,fun _ _ _ e=>k.maps _ _ _ (h.maps _ _ _ e),fun _ _ l e=>k.low _ _ l (h.low _ _ l e)⟩
theorem KpM.below{lo:Nat}{ts:List TypeId}{w w':World}(h:Below w.heap.size w w'):KpM lo ts w w':=⟨h.os,h.tape,h.output,h.size,fun b _ _ _ e _=>(h.block b (Array.getElem?_eq_some_iff.1 e).1).trans e,fun b _ _ e=>(h.block b (Array.getElem?_eq_some_iff.1 e).1).trans e,fun b _ _ e=>(h.block b (Array.getElem?_eq_some_iff.1 e).1).trans e⟩
theorem KpM.row{lo:Nat}{ts:List TypeId}{w w':World}{row:Option Nat}{t:TypeId}(h:w.grownBy w' row)(hr:qs w row t)(ht:t∈ts)(hl:∀k,row=some k→lo≤k):KpM lo ts w w':=
 ⟨h.os,h.tape,h.output,h.size,fun b cs t' fr e h1=>(h.block b (Array.getElem?_eq_some_iff.1 e).1 (fun hb=>by
  obtain⟨cs2,fr2,e2⟩:=hr b hb.symm;rw[e] at e2;injection e2 with e2
  injection e2 with _ e2 _
  rw[e2] at h1;exact h1 ht)).trans e,fun b es c e=>(h.block b (Array.getElem?_eq_some_iff.1 e).1 (fun hb=>by
  obtain⟨cs2,fr2,e2⟩:=hr b hb.symm;rw[e] at e2
  cases e2)).trans e,fun b o l e=>(h.block b (Array.getElem?_eq_some_iff.1 e).1 (fun hb=>by have:=hl b hb.symm;omega)).trans e⟩
theorem KpM.new{lo:Nat}{ts:List TypeId}{w W W':World}{b:Nat}(h:KpM lo ts w W)(hg:W.grownBy W' (some b))(hb:w.heap.size≤b):KpM lo ts w W':=
 ⟨hg.os.trans h.os,hg.tape.trans h.tape,hg.output.trans h.output,Nat.le_trans h.size hg.size,fun k cs t fr e h1=>by
  have hk:=(Array.getElem?_eq_some_iff.1 e).1;have e1:=h.blk k cs t fr e h1;exact(hg.block k (Array.getElem?_eq_some_iff.1 e1).1 (by intro hh;injection hh with hh;omega)).trans e1,fun k es c e=>by
  have hk:=(Array.getElem?_eq_some_iff.1 e).1;have e1:=h.maps k es c e;exact(hg.block k (Array.getElem?_eq_some_iff.1 e1).1 (by intro hh;injection hh with hh;omega)).trans e1,fun k o l e=>by
  have hk:=(Array.getElem?_eq_some_iff.1 e).1;have e1:=h.low k o l e;exact(hg.block k (Array.getElem?_eq_some_iff.1 e1).1 (by intro hh;injection hh with hh;omega)).trans e1⟩
theorem KpM.toBelow{lo:Nat}{ts:List TypeId}{w w':World}(h:KpM lo ts w w')(hl:lo≤w.heap.size):Below lo w w':=⟨h.os,h.tape,h.output,h.size,fun b hb=>by
 have hb2:b<w.heap.size:=by omega
 rw[Array.getElem?_eq_getElem hb2];exact h.low b _ hb (Array.getElem?_eq_getElem hb2)⟩
theorem Own.keptM{α:Type}{cells:α→List Value}{size base:Nat}{e:TypeId}{lo:Nat}{ts:List TypeId}{w w':World}{v:Value}{l:List α}(h:Own cells size base e w v l)(hk:KpM lo ts w w')(h1:e∉ts):Own cells size base e w' v l:=by
 refine⟨h.1,?_⟩
 rcases h.2 with h2|⟨g,cap,cur,hv,hb,hh,h3⟩
 ·exact Or.inl h2
 ·exact Or.inr ⟨g,cap,cur,hv,hb,hk.blk _ _ _ _ hh h1,h3⟩
theorem Box.keptM{lo:Nat}{ts:List TypeId}{w w':World}{b:Nat}{cs:List Value}{t:TypeId}(h:Box w b cs t)(hk:KpM lo ts w w')(h1:t∉ts):Box w' b cs t:=hk.blk _ _ _ _ h h1
theorem zN.keptM{ts:List TypeId}{w w':World}{lo lo':Nat}{vO:Value}{obs:List Obv}{gs:List Nat}(h:zN w lo vO obs gs)(hk:KpM lo' ts w w')(h1:54∉ts)(h2:63∉ts):zN w' lo vO obs gs:=by
 obtain⟨rs,k1,k2,k3⟩:=h.raws;refine⟨rs,k1.keptM hk h1,k2,fun i r o e1 e2=>?_⟩;obtain⟨A,c,e,o1,o2⟩:=k3 i r o e1 e2;exact⟨A,c,e,o1.keptM hk h2,o2⟩
theorem MapE.keptM{α β:Type}{P:Program}{t k e:TypeId}{κ:α→Value}{okk:α→Prop}{lit:α→Lit}{ν:β→Value}{R:Value→Option (DataW Unit×List MemPlace)}{dat:β→DataW Unit}{zero:β}{T:kX P t k e κ okk lit ν R dat zero}{lo:Nat}{ts:List TypeId}{w w':World}{b n:Nat}{f:α→Option β}(h:MapE T w b n f)(hk:KpM lo ts w w'):MapE T w' b n f:=by
 obtain⟨D,h1,⟨es,clock,hh,F,hs,hD⟩,h3⟩:=h;exact⟨D,h1,⟨es,clock,hk.maps _ _ _ hh,F,hs,hD⟩,h3⟩
theorem zy.lts{w:World}{lo:Nat}{vF:Value}{frs:List Frm}{gs:List Nat}(h:zy w lo vF frs gs):∀y∈gs,y<w.heap.size:=fun y hy=>by
 obtain⟨i,hi,rfl⟩:=List.getElem_of_mem hy;have hi2:i<frs.length:=by rw[←h.len];exact hi
 exact(h.vals i _ _ (List.getElem?_eq_getElem hi2) (List.getElem?_eq_getElem hi)).ltOf.2
structure EntS(gm:Nat)(vF:Value)(mk:Int)(w:World):Prop where
 f:w.cell? ⟨gm,6,none⟩=some vF
 m:w.cell? ⟨gm,7,none⟩=some (.int .i64 mk)
theorem EntS.of{w:World}{gm:Nat}{t:TypeId}{c0 c1 c2 c3 c4 c5 c8 c9 vF:Value}{mk:Int}(h:Box w gm [c0,c1,c2,c3,c4,c5,vF,.int .i64 mk,c8,c9] t):EntS gm vF mk w:=⟨h.cell 6 rfl,h.cell 7 rfl⟩
def frN(k mk:Nat)(call:Int)(vs:List Vl):Frm:=⟨k,0,mk,call,vs,(0,0,0)⟩
def ah3(w:World)(lo gm:Nat)(c0 c1 c2 c3 c4 c5 c8 c9:Value)(frs:List Frm)(gs:List Nat)(mk k:Nat)(call:Int)(vs:List Vl)(w':World):Prop:=∃(vF:Value) (g:Nat),Box w' gm [c0,c1,c2,c3,c4,c5,vF,.int .i64 ((mk+1:Nat):Int),c8,c9] 101∧zy w' lo vF (frN k mk call vs::frs) (g::gs)∧w.heap.size≤g∧KpM lo [101,167] w w'
theorem aau(w:World)(lo gm:Nat)(fs:List Fun)(AF:Option Addr)(cF:Nat)(c0 c2 c3 c4 c5 c8 c9 vF:Value)(frs:List Frm)(gs:List Nat)(mk k:Nat)(call:Int)(AA:Option Addr)(cA:Nat)(xs:List Vl)
  (bm:Box w gm [c0,.slice AF fs.length cF,c2,c3,c4,c5,vF,.int .i64 (mk:Int),c8,c9] 101) (hlo:lo≤w.heap.size) (sf:Sl Lay.fun w AF fs) (hk:k<fs.length) (hvl:fs[k].vars.length≤256) (hF:zy w lo vF frs gs) (hfl:frs.length≤64) (hS:Sl Lay.vl w AA xs) (hx:xs.length≤fs[k].vars.length) (hA0:AA=none→cA=0) (hmk:mk≤100000) (hgm:lo≤gm) :
  Calls Tryz.prog 44 #[.pointer (some ⟨gm,0,none⟩),.int .i64 (k:Int),.int .i64 call,.slice AA xs.length cA] w fun e w'=>e = .returned (.tuple #[])∧ah3 w lo gm c0 (.slice AF fs.length cF) c2 c3 c4 c5 c8 c9 frs gs mk k call (xs++List.replicate (fs[k].vars.length-xs.length) (0,0,0)) w':=by
 obtain⟨b,oF,A4,c4',A6,c6,hAF,hb,-,-,-,-,e4,-,-,hc4,-,-,-⟩:=sf.fun_at hk;obtain⟨n,hn⟩:∃n,n=fs[k].vars.length:=⟨_,rfl⟩
 rw[←hn] at e4 hvl hx ⊢;clear hn hc4;subst hAF;have hmk1:∀W,(Instr.makeSlice 52 (.int .i64 (n:Nat)) (.int .i64 (n:Nat))).run Tryz.prog W = .ok (.slice (some ⟨W.heap.size,0,none⟩) n n) (W.alloc (.cells (madeCells (Value.agg #[.int .i64 0,.int .i64 0,.int .i64 0]).cells (n*3)) 63)):=fun W=>aaq.make .i64 .i64 n (by omega) (by omega) W
 have hkI:(k:Int)<(fs.length:Int):=by omega
 have q1:=bm.cell 1 rfl;have ql:=bm.lt
 go_enter Tryz.func44,Tryz.ntmps44
 go_upto_region 1 with fail
 generalize hW:World.alloc _ _=W1 at *
 have hb1:Below w.heap.size w W1:=by rw[←hW];exact(by repeat(first|assumption|exact v9r|apply zc|apply zd|apply zg|apply ze|apply zi))
 have bv1:Own zI 3 lo 63 W1 (.slice (some ⟨w.heap.size,0,none⟩) n n) (List.replicate n (0,0,0)):=by rw[←hW];exact Own.madeAll (cells:=zI) (size:=3) (.agg #[.int .i64 0,.int .i64 0,.int .i64 0]) (0,0,0) w n rfl rfl (by decide) hlo (by unfold maxLen;omega)
 clear hW hmk1 q1 ql e4 hb;obtain⟨W2,v2,hcr,bv2,hg2⟩:=aeX (cA:=cA) bv1 (by simp) (hS.mono hb1) hx hA0;have hgn:w.heap.size∉gs:=fun h=>by have:=hF.lts _ h;omega
 have hr2:qs W1 (some w.heap.size) 63:=by have:=bv1.rowTyI;exact this
 have bm2:=(bm.mono hb1).keptTyI hr2 (by decide) hg2;have hF2:=(hF.mono hb1).keptVal hgn hr2 hg2;have hK2:KpM lo [101,167] w W2:=(KpM.below hb1).new hg2 (Nat.le_refl _);have hlo2:lo≤W2.heap.size:=Nat.le_trans hlo (Nat.le_trans hb1.size hg2.size);have hz2:w.heap.size<W2.heap.size:=Nat.lt_of_lt_of_le bv1.ltOf.2 hg2.size;clear hr2 hg2 bm hF bv1 hb1 hS
 go_wp2_with fail
 all_goals
  go_upto_region 2 with fail
  clear hcr;have bm3:=bm2.drew;have hF3:=hF2.mono (zd (v9r));have bv3:Own zI 3 lo 63 W2.drew (.slice (some ⟨w.heap.size,0,none⟩) n n) _:=bv2.mono (zd (v9r));have hK3:KpM lo [101,167] w W2.drew:=hK2.trans (KpM.below (zd (v9r)));have hlo3:lo≤W2.drew.heap.size:=hlo2;have hz3:w.heap.size<W2.drew.heap.size:=hz2;refine ji (S:=EntS gm vF (mk:Int)) 15 (by kernel_rfl) (EntS.of bm3) (by kernel_rfl) ?_;clear bm2 hF2 bv2 hK2 hlo2 hz2;generalize W2.drew=W3 at *
  have hsome:Nonempty (Held (EntS gm vF (mk:Int))):=⟨⟨W3,EntS.of bm3⟩⟩
  refine RC.chunkN (f:=2) [0,1,2,3,4,5,6,7,8,9,10,11,12] (by kernel_rfl) ?_;have hq0:=fun(x:Held (EntS gm vF (mk:Int)))=>x.h.f
  have hq1:=fun(x:Held (EntS gm vF (mk:Int)))=>x.h.m
  ((simp only[zo,List.filterMap,List.getElem?_toArray,List.getElem?_cons_zero,List.getElem?_cons_succ]);(repeat(go_big_quiet_step (fail)));refine wpQuiet_nil ?_)
  refine RC.single 13 rfl (by kernel_rfl) (by omega) ?_;clear hq0 hq1;intro K hK
  go_wp2_with fail
  have hb34:Below W3.heap.size W3 (W3.alloc (.cells #[.int .i64 (k:Int),.int .i64 0,.int .i64 (mk:Int),.int .i64 call,.slice (some ⟨w.heap.size,0,none⟩) n n,.int .i64 0,.int .i64 0,.int .i64 0] 167)):=zc (v9r);have bm4:=bm3.mono hb34;have hF4:=hF3.mono hb34;have bv4:=bv3.mono hb34;have hK4:=hK3.trans (KpM.below hb34);have bn:Box (W3.alloc (.cells #[.int .i64 (k:Int),.int .i64 0,.int .i64 (mk:Int),.int .i64 call,.slice (some ⟨w.heap.size,0,none⟩) n n,.int .i64 0,.int .i64 0,.int .i64 0] 167)) W3.heap.size [.int .i64 (k:Int),.int .i64 0,.int .i64 (mk:Int),.int .i64 call,.slice (some ⟨w.heap.size,0,none⟩) n n,.int .i64 0,.int .i64 0,.int .i64 0] 167:=Box.new _ _ _;refine hK _ _ (EntS.of bm4) ?_;clear hK K bm3 hF3 bv3 hK3;refine RC.single 14 rfl (by kernel_rfl) (by omega) ?_;intro K hK;have hlo4:lo≤(W3.alloc (.cells #[.int .i64 (k:Int),.int .i64 0,.int .i64 (mk:Int),.int .i64 call,.slice (some ⟨w.heap.size,0,none⟩) n n,.int .i64 0,.int .i64 0,.int .i64 0] 167)).heap.size:=Nat.le_trans hlo3 hb34.size;clear hb34;generalize World.alloc _ _=W4 at *
  generalize hvs:xs++(List.replicate n ((0,0,0):Vl)).drop xs.length=vs at *
  have hvl2:vs.length=n:=by rw[←hvs,List.length_append,List.length_drop,List.length_replicate];omega
  have hrl:=je hF4;refine zF ai9 qn rfl (.tmp 27) (.tmp 36) rfl lo _ _ rfl hF4.row (yS (frN k mk call vs) w.heap.size) _ _ rfl (fun j u hj=>bn.cell j (by rw[←hvl2] at *;exact hj)) (by rw[hrl];unfold maxLen;omega) (by rw[hrl];omega) hlo4 ?_;intro v5 w5 ho5 hc5 hg5;have hrw:=hF4.row.rowTyI;have bm5:=bm4.keptTyI hrw (by decide) hg5;have bv5:=bv4.keptTyI hrw (by decide) hg5;have hK5:=hK4.trans (KpM.row (ts:=[101,167]) hg5 hrw (by simp) (fun k e=>(World.ownsRow.lt hF4.row k e).1))
  have hF5:zy w5 lo v5 (frN k mk call vs::frs) (w.heap.size::gs):=hF4.push ho5 (fun x y ho=>ho.keptTyI hrw (by decide) hg5) (by
   show Own zI 3 lo 63 w5 (.slice (some ⟨w.heap.size,0,none⟩) vs.length vs.length) vs;rw[hvl2];exact bv5) hgn
  obtain⟨gF,c5',rfl⟩:=hF5.form;clear hrw bm4 bv4 hK4 hF4 hg5 hc5 ho5 bn bv5 hlo4 hrl
  go_wp2_with fail
  refine hK _ _ (EntS.of bm5) ?_;clear hK K hsome;refine RC.tail (by kernel_rfl) ?_;simp only[List.drop_succ_cons,List.drop_zero];have q6:=bm5.cell 6 rfl;have qf:=fun i=>bm5.free i
  have ql:=bm5.lt
  go_upto_region 3 with fail
  have hg6:=zq w5 gm 6 (.slice (some ⟨gF,0,none⟩) (frs.length+1) c5');have bm6:=bm5.set 6 (.slice (some ⟨gF,0,none⟩) (frs.length+1) c5');have hF6:=hF5.keptTyI bm5.rowTyI (by decide) (by decide) hg6;have hK6:=hK5.trans (KpM.row (ts:=[101,167]) hg6 bm5.rowTyI (by simp) (fun k e=>by injection e with e;omega));clear q6 qf ql bm5 hF5 hK5 hg6;generalize World.setCell _ _ _=w6 at *
  have q7:=bm6.cell 7 rfl;have qf:=fun i=>bm6.free i
  have ql:=bm6.lt
  go_wp2_with fail
  refine bodyPost_end (results_none rfl _ _ _) rfl ?_;have hg7:=zq w6 gm 7 (.int .i64 ((mk:Int)+1));have hvs':xs++List.replicate (n-xs.length) ((0,0,0):Vl)=vs:=by rw[←hvs,List.drop_replicate]
  rw[hvs'];have bm7:=bm6.set 7 (.int .i64 ((mk:Int)+1));exact⟨rfl,_,w.heap.size,bm7,hF6.keptTyI bm6.rowTyI (by decide) (by decide) hg7,Nat.le_refl _,hK6.trans (KpM.row (ts:=[101,167]) hg7 bm6.rowTyI (by simp) (fun k e=>by injection e with e;omega))⟩
end Go.Proofs.YtmhdambkchlilaaGreatDoor
