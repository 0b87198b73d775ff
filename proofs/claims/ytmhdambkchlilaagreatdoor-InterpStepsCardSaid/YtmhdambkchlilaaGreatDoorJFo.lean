/- Chapter 15: the answer's SameObs and Same at equal data. Chapter 13: the answer's Next at an instruction of a valid function. Chapter 15: the law's moves, for steps that follow. Chapter 15: the law's follows, for executions whose steps follow. -/
import Derived.Test.YtmhdambkchlilaaGreatDoorJFoA
import Derived.Test.YtmhdambkchlilaaGreatDoorJGb
namespace Go.Proofs.YtmhdambkchlilaaGreatDoor
open Go.RowKit
set_option linter.unusedVariables false
set_option maxRecDepth 100000
set_option maxHeartbeats 4000000
theorem abT(a1 a2 a3 a4:Int)(vs:List Vl)(A B:Option Addr)(c d:Nat)(w:World)(hl:vs.length≤8796093022208)(hA:Sl Lay.vl w A vs)(hB:Sl Lay.vl w B vs) :
  Calls Tryz.prog 18 #[.agg #[.int .i64 a1,.int .i64 a2,.int .i64 a3,.int .i64 a4,.slice A vs.length c],.agg #[.int .i64 a1,.int .i64 a2,.int .i64 a3,.int .i64 a4,.slice B vs.length d]] w fun e w'=>e = .returned (.bool true)∧Below w.heap.size w w':=by
 go_enter Tryz.func18,Tryz.ntmps18
 go_upto_region 1 with fail
 generalize hW:World.alloc (World.alloc _ _) _=W1 at *
 have hb1:Below w.heap.size w W1:=by rw[←hW];exact(by repeat(first|assumption|exact v9r|apply zc|apply zd|apply zg|apply ze|apply zi))
 have b1:Box W1 w.heap.size [.int .i64 a1,.int .i64 a2,.int .i64 a3,.int .i64 a4,.slice A vs.length c] 54:=by rw[←hW];exact(Box.new _ _ _).alloc _
 have b2:Box W1 (w.heap.size+1) [.int .i64 a1,.int .i64 a2,.int .i64 a3,.int .i64 a4,.slice B vs.length d] 54:=by rw[←hW];exact Box.at (w:=w.alloc _) (by simp)
 clear hW;have p0:=b1.cell 0 rfl;have p1:=b1.cell 1 rfl;have p2:=b1.cell 2 rfl;have p3:=b1.cell 3 rfl;have p4:=b1.cell 4 rfl;have pl:=b1.lt;have q0:=b2.cell 0 rfl;have q1:=b2.cell 1 rfl;have q2:=b2.cell 2 rfl;have q3:=b2.cell 3 rfl;have q4:=b2.cell 4 rfl;have ql:=b2.lt;have n1:(a1 != a1)=false:=by simp
 have n2:(a2 != a2)=false:=by simp
 have n3:(a3 != a3)=false:=by simp
 have n4:(a4 != a4)=false:=by simp
 go_wp2_with fail
 clear p0 p1 p2 p3 p4 pl q0 q1 q2 q3 q4 ql n1 n2 n3 n4
 go_loopw [5] (fun i wr=>∃k:Nat,k≤vs.length∧i = .int .i64 k∧Below W1.heap.size W1 wr) (fun i _=>vs.length-(intOf i).toNat)
 case atStart=>exact⟨0,Nat.zero_le _,rfl,v9r⟩
 case round=>
  obtain⟨k,hk,rfl,hbr⟩:=hrel;have hbw:=za hb1 hbr;have b1r:=b1.mono hbr;have b2r:=b2.mono hbr;have p4:=b1r.cell 4 rfl;have pl:=b1r.lt;have q4:=b2r.cell 4 rfl;have ql:=b2r.lt
  by_cases hlt:k<vs.length
  ·obtain⟨bA,oA,rfl,hbA,x0,x1,x2⟩:=(hA.mono hbw).vl_at hlt
   obtain⟨bB,oB,rfl,hbB,y0,y1,y2⟩:=(hB.mono hbw).vl_at hlt;have hvn:=fun W=>kQ vs[k].1 vs[k].2.1 vs[k].2.2 vs[k].1 vs[k].2.1 vs[k].2.2 W
   simp only[beq_self_eq_true,Bool.and_self,Bool.not_true] at hvn;generalize vs[k]=v at *
   go_upto_region 6 with fail
   refine zm (by kernel_rfl) (by kernel_rfl) ?_
   repeat(go_big_quiet_step (fail))
   refine wpQuiet_nil ?_;rintro _ ⟨z,rfl⟩
   go_wp2_with fail
   go_roundw
   case rel=>exact⟨k+1,by omega,by go_num,za hbr z.h⟩
   case measure=>simp[intOf];omega
  ·obtain rfl:k=vs.length:=by omega
   go_wp2_with fail
   go_ret
   exact⟨rfl,hbw⟩
theorem ag2(en:Int)(l:List Obv)(A B:Option Addr)(c d:Nat)(w:World)(hl:l.length≤8796093022208)(hv:∀o∈l,o.vals.length≤8796093022208)(hA:Sl Lay.ob w A l)(hB:Sl Lay.ob w B l) :
  Calls Tryz.prog 17 #[.agg #[.int .i64 en,.slice A l.length c],.agg #[.int .i64 en,.slice B l.length d]] w fun e w'=>e = .returned (.bool true)∧Below w.heap.size w w':=by
 go_enter Tryz.func17,Tryz.ntmps17
 go_upto_region 1 with fail
 generalize hW:World.alloc (World.alloc _ _) _=W1 at *
 have hb1:Below w.heap.size w W1:=by rw[←hW];exact(by repeat(first|assumption|exact v9r|apply zc|apply zd|apply zg|apply ze|apply zi))
 have b1:Box W1 w.heap.size [.int .i64 en,.slice A l.length c] 47:=by rw[←hW];exact(Box.new _ _ _).alloc _
 have b2:Box W1 (w.heap.size+1) [.int .i64 en,.slice B l.length d] 47:=by rw[←hW];exact Box.at (w:=w.alloc _) (by simp)
 clear hW;have p0:=b1.cell 0 rfl;have p1:=b1.cell 1 rfl;have pl:=b1.lt;have q0:=b2.cell 0 rfl;have q1:=b2.cell 1 rfl;have ql:=b2.lt;have n1:(en != en)=false:=by simp
 go_wp2_with fail
 clear p0 p1 pl q0 q1 ql n1
 go_loopw [5] (fun i wr=>∃k:Nat,k≤l.length∧i = .int .i64 k∧Below W1.heap.size W1 wr) (fun i _=>l.length-(intOf i).toNat)
 case atStart=>exact⟨0,Nat.zero_le _,rfl,v9r⟩
 case round=>
  obtain⟨k,hk,rfl,hbr⟩:=hrel;have hbw:=za hb1 hbr;have b1r:=b1.mono hbr;have b2r:=b2.mono hbr;have p1:=b1r.cell 1 rfl;have pl:=b1r.lt;have q1:=b2r.cell 1 rfl;have ql:=b2r.lt
  by_cases hlt:k<l.length
  ·obtain⟨bA,oA,A4,c4,rfl,hbA,x0,x1,x2,x3,x4,-,hsA⟩:=(hA.mono hbw).ob_at hlt
   obtain⟨bB,oB,B4,d4,rfl,hbB,y0,y1,y2,y3,y4,-,hsB⟩:=(hB.mono hbw).ob_at hlt;have hvl:=hv _ (List.getElem_mem hlt);have HC:=v9h (fun(x:zk wr)=>abT (l[k].fn:Int) (l[k].at_:Int) (l[k].no:Int) l[k].call l[k].vals A4 B4 c4 d4 x.W hvl (hsA.later x) (hsB.later x));generalize l[k]=o at *
   go_upto_region 6 with fail
   refine zm (by kernel_rfl) (by kernel_rfl) ?_
   repeat(go_big_quiet_step ((go_at_call 18;exact Calls.later (HC.out _))))
   refine wpQuiet_nil ?_;rintro _ ⟨z,rfl⟩
   go_wp2_with fail
   go_roundw
   case rel=>exact⟨k+1,by omega,by go_num,za hbr z.h⟩
   case measure=>simp[intOf];omega
  ·obtain rfl:k=l.length:=by omega
   go_wp2_with fail
   go_ret
   exact⟨rfl,hbw⟩
def aib(F:Fun)(i:Nat)(w':World)(e:Ending):Prop:=∃(A:Option Addr) (c:Nat) (L:List Int),e = .returned (.slice A L.length c)∧L.length≤c∧L.length≤2∧Sl Lay.int w' A L∧∀j:Nat,jg F i j→(j:Int)∈L
theorem acj(w:World)(a:Int):Sl Lay.int (w.alloc (.cells #[.int .i64 a] 3)) (some ⟨w.heap.size,0,none⟩) [a]:=
 (jE (L:=Lay.int) (n:=1) (c:=1) (Own.lit (cells:=yh) (size:=1) (base:=0) (e:=3) w #[.int .i64 a] [a] (Nat.zero_le _) (by simp[maxLen]) rfl rfl) rfl (fun _=>rfl)).2
theorem ai1(w:World)(a b:Int):Sl Lay.int (w.alloc (.cells #[.int .i64 a,.int .i64 b] 3)) (some ⟨w.heap.size,0,none⟩) [a,b]:=
 (jE (L:=Lay.int) (n:=2) (c:=2) (Own.lit (cells:=yh) (size:=1) (base:=0) (e:=3) w #[.int .i64 a,.int .i64 b] [a,b] (Nat.zero_le _) (by simp[maxLen]) rfl rfl) rfl (fun _=>rfl)).2
theorem ag3(f:Fun)(AV AC:Option Addr)(cV cC:Nat)(i:Nat)(w:World)(hi:i<f.code.length)(hl:f.code.length≤1024)(hs:Sl Lay.ins w AC f.code)(hn:(zh f i).op≠12→(zh f i).op≠13→(zh f i).op≠14→i+1<f.code.length)(hj:(zh f i).op=11∨(zh f i).op=12→0≤(zh f i).jmp∧(zh f i).jmp<f.code.length) :
  Calls Tryz.prog 164 #[.agg #[.string f.cls,.string f.name,.bool f.static,.int .i64 f.nparams,.slice AV f.vars.length cV,.string f.result,.slice AC f.code.length cC],.int .i64 (i:Nat)] w fun e w'=>aib f i w' e∧Below w.heap.size w w':=by
 have HN:Hid (∀j:Nat,jg f i j→((zh f i).op≠12∧(zh f i).op≠13∧(zh f i).op≠14∧j=i+1)∨(((zh f i).op=11∨(zh f i).op=12)∧(zh f i).jmp=(j:Int))):=fun j h=>h
 obtain⟨b,o,AI,cI,rfl,hb,i0,i1,i2,i3,i4,i5,i6,i7,i8,i9,hcI,hsI⟩:=hs.ins_at hi;rw[zQ hi] at hn hj HN;have HF:Hid (∀(L:List Int),(∀j:Nat,((f.code[i].op≠12∧f.code[i].op≠13∧f.code[i].op≠14∧j=i+1)∨((f.code[i].op=11∨f.code[i].op=12)∧f.code[i].jmp=(j:Int)))→(j:Int)∈L)→∀j:Nat,jg f i j→(j:Int)∈L):=fun L h j hp=>h j (HN.out j hp)
 clear HN;generalize f.code[i]=x at *
 have hiI:¬(i:Int)<0:=by omega
 have hiJ:¬(i:Int)≥(f.code.length:Int):=by omega
 have hiL:(i:Int)<(f.code.length:Int):=by omega
 go_enter Tryz.func164,Tryz.ntmps164
 go_upto_region 1 with fail
 generalize hW:World.alloc _ _=W1 at *
 have hb1:Below w.heap.size w W1:=by rw[←hW];exact(by repeat(first|assumption|exact v9r|apply zc|apply zd|apply zg|apply ze|apply zi))
 have bf:Box W1 w.heap.size [.string f.cls,.string f.name,.bool f.static,.int .i64 f.nparams,.slice AV f.vars.length cV,.string f.result,.slice (some ⟨b,o,none⟩) f.code.length cC] 42:=by rw[←hW];exact Box.new _ _ _
 clear hW;have f6:=bf.cell 6 rfl;have fl:=bf.lt;replace i0:=keptC i0 hb hb1;replace i1:=keptC i1 hb hb1;replace i2:=keptC i2 hb hb1;replace i3:=keptC i3 hb hb1;replace i4:=keptC i4 hb hb1;replace i5:=keptC i5 hb hb1;replace i6:=keptC i6 hb hb1;replace i7:=keptC i7 hb hb1;replace i8:=keptC i8 hb hb1;replace i9:=keptC i9 hb hb1;replace hb:=Nat.lt_of_lt_of_le hb hb1.size
 go_upto_region 5 with fail
 generalize hW:World.alloc _ _=W2 at *
 have hb12:Below W1.heap.size W1 W2:=by rw[←hW];exact(by repeat(first|assumption|exact v9r|apply zc|apply zd|apply zg|apply ze|apply zi))
 have bx:Box W2 W1.heap.size [.int .i64 x.op,.int .i64 x.dst,.int .i64 x.a,.int .i64 x.b,.int .i64 x.n,.string x.cls,.string x.name,.slice AI x.args.length cI,.int .i64 x.jmp,.int .i64 x.hnd] 59:=by rw[←hW];exact Box.new _ _ _
 clear hW i0 i1 i2 i3 i4 i5 i6 i7 i8 i9 hb f6 fl hiI hiJ hiL hcI;have hb2:=za hb1 hb12;have y0:=bx.cell 0 rfl;have y8:=bx.cell 8 rfl;have yl:=bx.lt;clear hb1 hb12 bf
 cases h13:(x.op==13) with
 |true=>
  have e13:x.op=13:=eq_of_beq h13;have HE:Hid (∀j:Nat,jg f i j→(j:Int)∈([]:List Int)):=HF.out [] (fun j h=>by rcases h with h|h<;>omega);clear HF hn hj e13
  go_wp2_with fail
  go_ret
  exact⟨⟨none,0,[],rfl,Nat.le_refl _,by simp,Sl.nil,HE.out⟩,hb2⟩
 |false=>
 cases h14:(x.op==14) with
 |true=>
  have e14:x.op=14:=eq_of_beq h14;have HE:Hid (∀j:Nat,jg f i j→(j:Int)∈([]:List Int)):=HF.out [] (fun j h=>by rcases h with h|h<;>omega);clear HF hn hj e14
  go_wp2_with fail
  go_ret
  exact⟨⟨none,0,[],rfl,Nat.le_refl _,by simp,Sl.nil,HE.out⟩,hb2⟩
 |false=>
 have n13:x.op≠13:=fun h=>by rw[h] at h13;exact absurd h13 (by decide)
 have n14:x.op≠14:=fun h=>by rw[h] at h14;exact absurd h14 (by decide)
 cases h12:(x.op==12) with
 |true=>
  have e12:x.op=12:=eq_of_beq h12;obtain⟨j0,j1⟩:=hj (Or.inr e12);have HE:Hid (∀j:Nat,jg f i j→(j:Int)∈([x.jmp]:List Int)):=HF.out [x.jmp] (fun j h=>by rcases h with h|h<;>(rw[List.mem_singleton];omega));have h11:(x.op==11)=false:=by rw[e12];rfl
  have hg0:x.jmp≥0:=j0;clear HF hn hj e12 n13 n14;have hz:=acj W2 x.jmp;have hbz:Below w.heap.size w (W2.alloc (.cells #[.int .i64 x.jmp] 3)):=zc hb2
  go_wp2_with fail
  go_ret
  exact⟨⟨_,1,[x.jmp],rfl,by simp,by simp,hz,HE.out⟩,hbz⟩
 |false=>
 have n12:x.op≠12:=fun h=>by rw[h] at h12;exact absurd h12 (by decide)
 have hnx:=hn n12 n13 n14
 cases h11:(x.op==11) with
 |false=>
  have n11:x.op≠11:=fun h=>by rw[h] at h11;exact absurd h11 (by decide)
  have HE:Hid (∀j:Nat,jg f i j→(j:Int)∈([(i:Int)+1]:List Int)):=HF.out [(i:Int)+1] (fun j h=>by rcases h with h|h<;>(rw[List.mem_singleton];omega));have hnI:¬((i:Int)+1≥(f.code.length:Int)):=by omega
  clear HF hn hj n11 n12 n13 n14;have hz:=acj W2 ((i:Int)+1);have hbz:Below w.heap.size w (W2.alloc (.cells #[.int .i64 ((i:Int)+1)] 3)):=zc hb2
  go_wp2_with fail
  go_ret
  exact⟨⟨_,1,[(i:Int)+1],rfl,by simp,by simp,hz,HE.out⟩,hbz⟩
 |true=>
  have e11:x.op=11:=eq_of_beq h11;obtain⟨j0,j1⟩:=hj (Or.inl e11);have hg0:x.jmp≥0:=j0;have hnI:¬((i:Int)+1≥(f.code.length:Int)):=by omega
  have hall:∀L:List Int,(i:Int)+1∈L→x.jmp∈L→Hid (∀j:Nat,jg f i j→(j:Int)∈L):=fun L h1 h2=>HF.out L (fun j h=>by
   rcases h with⟨_,_,_,h⟩|⟨_,h⟩
   ·rw[h];exact h1
   ·rw[←h];exact h2)
  clear HF hn hj e11 n12 n13 n14;have hz1:=acj W2 x.jmp;have hz3:(W2.alloc (.cells #[.int .i64 x.jmp] 3)).cell? ⟨W2.heap.size,0,none⟩=some (.int .i64 x.jmp):=(Box.new W2 [.int .i64 x.jmp] 3).cell 0 rfl;have hz4:W2.heap.size<(W2.alloc (.cells #[.int .i64 x.jmp] 3)).heap.size:=by simp
  have hbz:Below w.heap.size w (W2.alloc (.cells #[.int .i64 x.jmp] 3)):=zc hb2;have esz:(W2.alloc (.cells #[.int .i64 x.jmp] 3)).heap.size=W2.heap.size+1:=by simp
  by_cases c1:x.jmp=(i:Int)+1
  ·have q1:(x.jmp==(i:Int)+1)=true:=by rw[c1];simp
   have HE:=hall [x.jmp] (by rw[c1];simp) (by simp);clear hall c1
   go_wp2_with fail
   go_ret
   exact⟨⟨_,1,[x.jmp],rfl,by simp,by simp,hz1,HE.out⟩,hbz⟩
  ·have q1:(x.jmp==(i:Int)+1)=false:=by rw[beq_eq_false_iff_ne];exact c1
   by_cases c2:x.jmp<(i:Int)+1
   ·have HE:=hall [x.jmp,(i:Int)+1] (by simp) (by simp)
    clear hall c1;have hz2:=ai1 (W2.alloc (.cells #[.int .i64 x.jmp] 3)) x.jmp ((i:Int)+1);rw[esz] at hz2;have hbz2:Below w.heap.size w ((W2.alloc (.cells #[.int .i64 x.jmp] 3)).alloc (.cells #[.int .i64 x.jmp,.int .i64 ((i:Int)+1)] 3)):=zc hbz
    go_wp2_with fail
    go_ret
    exact⟨⟨_,2,[x.jmp,(i:Int)+1],rfl,by simp,by simp,hz2,HE.out⟩,hbz2⟩
   ·have HE:=hall [(i:Int)+1,x.jmp] (by simp) (by simp)
    clear hall c1;have ho:Own yh 1 w.heap.size 3 ((W2.alloc (.cells #[.int .i64 x.jmp] 3)).alloc (.cells #[.int .i64 ((i:Int)+1)] 3)) (.slice (some ⟨(W2.alloc (.cells #[.int .i64 x.jmp] 3)).heap.size,0,none⟩) 1 1) [(i:Int)+1]:=Own.lit _ #[.int .i64 ((i:Int)+1)] [(i:Int)+1] hbz.size (by simp[maxLen]) rfl rfl;rw[esz] at ho;have hbz2:Below w.heap.size w ((W2.alloc (.cells #[.int .i64 x.jmp] 3)).alloc (.cells #[.int .i64 ((i:Int)+1)] 3)):=zc hbz;obtain⟨v',w',hrun,ho',hb',hg',hsz'⟩:=qX (L:=Lay.int) jT qa 57 ho (c:=1) (fun x vs h=>h) rfl (hz1.mono (zc (v9r))) (by simp[maxLen]) (by simp) hbz2.size
    go_wp2_with (at_builtin;refine yJ rfl (.tmp 97) (.tmp 98) 57 rfl rfl rfl hrun ?_)
    go_ret
    obtain⟨A,c,rfl⟩:=ho'.sliceOf;obtain⟨hle,hsl⟩:=jE (L:=Lay.int) ho' rfl (fun _=>rfl);exact⟨⟨A,c,[(i:Int)+1,x.jmp],rfl,hle,by simp,hsl,HE.out⟩,hbz2.trans hb'⟩
theorem aeY(f:Fun)(AV AC:Option Addr)(cV cC:Nat)(i:Nat)(w:World)(hi:i<f.code.length)(hl:f.code.length≤1024)(hs:Sl Lay.ins w AC f.code)(hn:(zh f i).op≠12→(zh f i).op≠13→(zh f i).op≠14→i+1<f.code.length)(hj:(zh f i).op=11∨(zh f i).op=12→0≤(zh f i).jmp∧(zh f i).jmp<f.code.length) :
  Calls Tryz.prog 97 #[.agg #[.string f.cls,.string f.name,.bool f.static,.int .i64 f.nparams,.slice AV f.vars.length cV,.string f.result,.slice AC f.code.length cC],.int .i64 (i:Nat)] w fun e w'=>aib f i w' e∧Below w.heap.size w w':=by
 have key:=v9h (fun(W:World) (h:Below w.heap.size w W)=>ag3 f AV AC cV cC i W hi hl (hs.mono h) hn hj);clear hi hl hs hn hj
 go_enter Tryz.func97,Tryz.ntmps97
 go_upto_region 1 with fail
 generalize hW:World.alloc _ _=W1 at *
 have hb1:Below w.heap.size w W1:=by rw[←hW];exact(by repeat(first|assumption|exact v9r|apply zc|apply zd|apply zg|apply ze|apply zi))
 have bf:Box W1 w.heap.size [.string f.cls,.string f.name,.bool f.static,.int .i64 f.nparams,.slice AV f.vars.length cV,.string f.result,.slice AC f.code.length cC] 42:=by rw[←hW];exact Box.new _ _ _
 clear hW;have f0:=bf.cell 0 rfl;have f1:=bf.cell 1 rfl;have f2:=bf.cell 2 rfl;have f3:=bf.cell 3 rfl;have f4:=bf.cell 4 rfl;have f5:=bf.cell 5 rfl;have f6:=bf.cell 6 rfl;have fl:=bf.lt
 go_wp2_with fail
 refine(key.out _ hb1).mono ?_;rintro e w2 ⟨⟨A,c,L,rfl,h1,h2,h3,h4⟩,hb2⟩
 go_wp2_with fail
 go_ret
 exact⟨⟨A,c,L,rfl,h1,h2,h3,h4⟩,za hb1 hb2⟩
def inI(l:List Int)(x:Int):Bool:=l.any fun y=>y==x
theorem ai2{l:List Int}{x:Int}(h:x∈l):inI l x=true:=List.any_eq_true.2 ⟨x,h,by simp⟩
def nbV(a b:Vl):Bool:= !(a.1==b.1&&a.2.1==b.2.1&&a.2.2==b.2.2)
theorem ag4{a b:Vl}(h:a=b):nbV a b=false:=by subst h;unfold nbV;simp
theorem ahY{l:List Int}{x:Int}{k:Nat}(hk:k<l.length):inI (l.take (k+1)) x=(inI (l.take k) x||(l[k]==x)):=by
 unfold inI;rw[List.take_succ_eq_append_getElem hk,List.any_append]
 simp
theorem ai3(f:Fun)(AV AC:Option Addr)(cV cC:Nat)(p o:Obv)(AP AO:Option Addr)(cP cO:Nat)(w:World)(hi:p.at_<f.code.length)(hl:f.code.length≤1024)(hs:Sl Lay.ins w AC f.code)
  (hn:(zh f p.at_).op≠12→(zh f p.at_).op≠13→(zh f p.at_).op≠14→p.at_+1<f.code.length) (hj:(zh f p.at_).op=11∨(zh f p.at_).op=12→0≤(zh f p.at_).jmp∧(zh f p.at_).jmp<f.code.length)
  (hP:Sl Lay.vl w AP p.vals) (hO:Sl Lay.vl w AO o.vals) (hle:o.vals.length=p.vals.length) (hv8:o.vals.length≤8796093022208)
  (hto:jg f p.at_ o.at_∨adq f p.at_ o.at_) (hva:∀i:Nat,o.vals[i]? = p.vals[i]?∨((i:Int)=defP (zh f p.at_)∧jg f p.at_ o.at_)) :
  Calls Tryz.prog 47 #[.agg #[.string f.cls,.string f.name,.bool f.static,.int .i64 f.nparams,.slice AV f.vars.length cV,.string f.result,.slice AC f.code.length cC],.agg #[.int .i64 (p.fn:Int),.int .i64 (p.at_:Int),.int .i64 (p.no:Int),.int .i64 p.call,.slice AP p.vals.length cP],.agg #[.int .i64 (o.fn:Int),.int .i64 (o.at_:Int),.int .i64 (o.no:Int),.int .i64 o.call,.slice AO o.vals.length cO]] w fun e w'=>e = .returned (.bool true)∧Below w.heap.size w w':=by
 have HNX:=v9h (fun(W:World) (h:Below w.heap.size w W)=>aeY f AV AC cV cC p.at_ W hi hl (hs.mono h) hn hj);obtain⟨bI,oI,AI,cI,rfl,hbI,i0,i1,i2,i3,i4,i5,i6,i7,i8,i9,hcI,hsI⟩:=hs.ins_at hi;have HLE:=v9h hle;clear hle;have HTO:=v9h hto;have HVA:=v9h hva;have hxe:zh f p.at_=f.code[p.at_]:=zQ hi
 have HRS:Hid (adq f p.at_ o.at_→((f.code[p.at_].op==9||f.code[p.at_].op==10||f.code[p.at_].op==14||f.code[p.at_].op==15)=true∧(f.code[p.at_].hnd==(o.at_:Int))=true)):=fun h=>by
  unfold adq at h;rw[hxe] at h;obtain⟨h1,h2⟩:=h;refine⟨?_,by rw[h2];simp⟩
  rcases h1 with h|h|h|h<;>(rw[h];rfl)
 have HDF:Hid (defP (zh f p.at_)=defP f.code[p.at_]):=by show _=_;rw[hxe]
 clear hto hva hn hj hl hxe;generalize f.code[p.at_]=x at *
 have hiI:(p.at_:Int)<(f.code.length:Int):=by omega
 go_enter Tryz.func47,Tryz.ntmps47
 go_upto_region 1 with fail
 generalize hW:World.alloc (World.alloc (World.alloc _ _) _) _=W1 at *
 have hb1:Below w.heap.size w W1:=by rw[←hW];exact(by repeat(first|assumption|exact v9r|apply zc|apply zd|apply zg|apply ze|apply zi))
 have bf:Box W1 w.heap.size [.string f.cls,.string f.name,.bool f.static,.int .i64 f.nparams,.slice AV f.vars.length cV,.string f.result,.slice (some ⟨bI,oI,none⟩) f.code.length cC] 42:=by rw[←hW];exact((Box.new _ _ _).alloc _).alloc _
 have bp:Box W1 (w.heap.size+1) [.int .i64 (p.fn:Int),.int .i64 (p.at_:Int),.int .i64 (p.no:Int),.int .i64 p.call,.slice AP p.vals.length cP] 54:=by rw[←hW];exact Box.alloc (w:=(w.alloc _).alloc _) (Box.at (w:=w.alloc _) (by simp)) _
 have bo:Box W1 (w.heap.size+2) [.int .i64 (o.fn:Int),.int .i64 (o.at_:Int),.int .i64 (o.no:Int),.int .i64 o.call,.slice AO o.vals.length cO] 54:=by rw[←hW];refine Box.at (w:=(w.alloc _).alloc _) ?_;simp
 clear hW;have f6:=bf.cell 6 rfl;have fl:=bf.lt;have p1:=bp.cell 1 rfl;have pl:=bp.lt;replace i0:=keptC i0 hbI hb1;replace i1:=keptC i1 hbI hb1;replace i2:=keptC i2 hbI hb1;replace i3:=keptC i3 hbI hb1;replace i4:=keptC i4 hbI hb1;replace i5:=keptC i5 hbI hb1;replace i6:=keptC i6 hbI hb1;replace i7:=keptC i7 hbI hb1;replace i8:=keptC i8 hbI hb1;replace i9:=keptC i9 hbI hb1;replace hbI:=Nat.lt_of_lt_of_le hbI hb1.size
 go_upto_region 2 with fail
 generalize hW:World.alloc _ _=W2 at *
 have hb12:Below W1.heap.size W1 W2:=by rw[←hW];exact(by repeat(first|assumption|exact v9r|apply zc|apply zd|apply zg|apply ze|apply zi))
 have bx2:Box W2 W1.heap.size [.int .i64 x.op,.int .i64 x.dst,.int .i64 x.a,.int .i64 x.b,.int .i64 x.n,.string x.cls,.string x.name,.slice AI x.args.length cI,.int .i64 x.jmp,.int .i64 x.hnd] 59:=by rw[←hW];exact Box.new _ _ _
 clear hW i0 i1 i2 i3 i4 i5 i6 i7 i8 i9 hbI f6 fl p1 pl;have hb2:=za hb1 hb12;have bf2:=bf.mono hb12;have bp2:=bp.mono hb12;have bo2:=bo.mono hb12;clear bf bp bo hb12;have f0:=bf2.cell 0 rfl;have f1:=bf2.cell 1 rfl;have f2:=bf2.cell 2 rfl;have f3:=bf2.cell 3 rfl;have f4:=bf2.cell 4 rfl;have f5:=bf2.cell 5 rfl;have f6:=bf2.cell 6 rfl;have fl:=bf2.lt;have p1:=bp2.cell 1 rfl;have pl:=bp2.lt
 go_wp2_with fail
 refine(HNX.out _ hb2).mono ?_;rintro e W3 ⟨⟨AL,cL,L,rfl,hLc,hL2,hsL,hLn⟩,hb23⟩;have hb3:=za hb2 hb23;have bp3:=bp2.mono hb23;have bo3:=bo2.mono hb23;have bx3:=bx2.mono hb23;have HLN:=v9h hLn;clear hLn HNX f0 f1 f2 f3 f4 f5 f6 fl p1 pl bf2 bp2 bo2 bx2 hb23 hLc
 go_wp2_with fail
 go_loopw [9,10] (fun q i wr=>∃k:Nat,k≤L.length∧i = .int .i64 k∧q = .bool (inI (L.take k) (o.at_:Int))∧Below W3.heap.size W3 wr) (fun _ i _=>L.length-(intOf i).toNat)
 case atStart=>exact⟨0,Nat.zero_le _,rfl,rfl,v9r⟩
 case round=>
  obtain⟨k,hk,rfl,rfl,hbr⟩:=hrel;have bor:=bo3.mono hbr;have o1:=bor.cell 1 rfl;have ol:=bor.lt
  by_cases hlt:k<L.length
  ·have HS:=v9h (@ahY L (o.at_:Int) k hlt)
   obtain⟨bL,oL,rfl,hbL,l0⟩:=(hsL.mono hbr).int_at hlt;generalize L[k]=y at *
   generalize inI (L.take k) (o.at_:Int)=q at *
   have hkI:(k:Int)<(L.length:Int):=by omega
   cases q with
   |true=>
    go_upto_region 7 with fail
    refine zm (by kernel_rfl) (by kernel_rfl) ?_
    repeat(go_big_quiet_step (fail))
    refine wpQuiet_nil ?_;rintro _ ⟨z,rfl⟩
    go_wp2_with fail
    go_roundw
    case rel=>exact⟨k+1,by omega,by go_num,by rw[HS.out];rfl,za hbr z.h⟩
    case measure=>simp[intOf];omega
   |false=>
    obtain⟨c,hc⟩:∃c,(y==(o.at_:Int))=c:=⟨_,rfl⟩
    rw[hc] at HS
    cases c<;>
    ·go_upto_region 7 with fail
     refine zm (by kernel_rfl) (by kernel_rfl) ?_
     repeat(go_big_quiet_step (fail))
     refine wpQuiet_nil ?_;rintro _ ⟨z,rfl⟩
     go_wp2_with fail
     go_roundw
     case rel=>exact⟨k+1,by omega,by go_num,by rw[HS.out];rfl,za hbr z.h⟩
     case measure=>simp[intOf];omega
  ·obtain rfl:k=L.length:=by omega
   rw[List.take_length];have hbw:=za hb3 hbr;have bpr:=bp3.mono hbr;have bxr:=bx3.mono hbr;have x0:=bxr.cell 0 rfl;have x1:=bxr.cell 1 rfl;have x2:=bxr.cell 2 rfl;have x3:=bxr.cell 3 rfl;have x4:=bxr.cell 4 rfl;have x5:=bxr.cell 5 rfl;have x6:=bxr.cell 6 rfl;have x7:=bxr.cell 7 rfl;have x8:=bxr.cell 8 rfl;have x9:=bxr.cell 9 rfl;have xl:=bxr.lt;obtain⟨b2,hb2⟩:∃b2,(x.op==9||x.op==10||x.op==14||x.op==15)=b2:=⟨_,rfl⟩
   cases hbb:inI L (o.at_:Int) with
   |false=>
    have hnn:¬jg f p.at_ o.at_:=fun h=>by rw[ai2 (HLN.out _ h)] at hbb;cases hbb
    obtain⟨r1,r2⟩:=HRS.out (HTO.out.resolve_left hnn);rw[hb2] at r1;subst r1
    have HEQ:Hid (∀k (h1:k<o.vals.length) (h2:k<p.vals.length),nbV o.vals[k] p.vals[k]=false):=fun k h1 h2=>by
     rcases HVA.out k with h|⟨_,h⟩
     ·rw[List.getElem?_eq_getElem h1,List.getElem?_eq_getElem h2] at h
      exact ag4 (Option.some.inj h)
     ·exact absurd h hnn
    clear hnn HVA HRS HTO;have HR:=v9h (fun W=>jG x AI cI W true (by rw[hb2]))
    go_wp2_with fail
    refine(HR.out _).mono ?_;rintro e wx ⟨rfl,hbx'⟩;have hbx:=za hbw hbx';have bpx:=bpr.mono hbx';have box:=bor.mono hbx';have bxx:=bxr.mono hbx';clear HR hbx' o1 ol x0 x1 x2 x3 x4 x5 x6 x7 x8 xl;have o1:=box.cell 1 rfl;have ol:=box.lt;have x9:=bxx.cell 9 rfl;have xl:=bxx.lt
    go_wp2_with fail
    clear x9 xl;clear o1 ol
    go_loopw [12] (fun i wq=>∃k:Nat,k≤o.vals.length∧i = .int .i64 k∧Below wx.heap.size wx wq) (fun i _=>o.vals.length-(intOf i).toNat)
    case atStart=>exact⟨0,Nat.zero_le _,rfl,by first|exact v9r|assumption⟩
    case round=>
     obtain⟨k,hk,rfl,hbq⟩:=hrel;have hbz:=za hbx hbq;have bpq:=bpx.mono hbq;have boq:=box.mono hbq;have bxq:=bxx.mono hbq;have p4:=bpq.cell 4 rfl;have pl:=bpq.lt;have o4:=boq.cell 4 rfl;have ol:=boq.lt
     by_cases hlt:k<o.vals.length
     ·have hlt2:k<p.vals.length:=by rw[←HLE.out];exact hlt
      have hltI:(k:Int)<(p.vals.length:Int):=by omega
      obtain⟨bP,oP,hAPe,hbP,v0,v1,v2⟩:=(hP.mono hbz).vl_at hlt2;obtain⟨bO,oO,hAOe,hbO,u0,u1,u2⟩:=(hO.mono hbz).vl_at hlt;rw[hAPe] at p4;rw[hAOe] at o4;have HQ:=HEQ.out k hlt hlt2;have hvn:∀W,(binOp .neq 63 (.agg #[.int .i64 o.vals[k].1,.int .i64 o.vals[k].2.1,.int .i64 o.vals[k].2.2]) (.agg #[.int .i64 p.vals[k].1,.int .i64 p.vals[k].2.1,.int .i64 p.vals[k].2.2])).run Tryz.prog W = .ok (.bool (nbV o.vals[k] p.vals[k])) W:=fun W=>kQ _ _ _ _ _ _ W
      generalize nbV o.vals[k] p.vals[k]=nb at *
      generalize o.vals[k]=ov at *
      generalize p.vals[k]=pv at *
      cases nb with
      |false=>
       clear HQ
       go_upto_region 14 with fail
       refine zm (by kernel_rfl) (by kernel_rfl) ?_
       repeat(go_big_quiet_step (fail))
       refine wpQuiet_nil ?_;rintro _ ⟨z,rfl⟩
       go_wp2_with fail
       go_roundw
       case rel=>exact⟨k+1,by omega,by go_num,za hbq z.h⟩
       case measure=>simp[intOf];omega
      |true=>
       exact absurd HQ (by simp)
     ·obtain rfl:k=o.vals.length:=by omega
      go_wp2_with fail
      go_ret
      exact⟨rfl,hbz⟩
   |true=>
    have HEQ:Hid (∀k (h1:k<o.vals.length) (h2:k<p.vals.length),nbV o.vals[k] p.vals[k]=false∨(k:Int)=defP x):=fun k h1 h2=>by
     rcases HVA.out k with h|⟨h,_⟩
     ·rw[List.getElem?_eq_getElem h1,List.getElem?_eq_getElem h2] at h
      exact Or.inl (ag4 (Option.some.inj h))
     ·exact Or.inr (by rw[h,HDF.out])
    clear HVA HRS HTO
    cases b2 with
    |false=>
     have HR:=v9h (fun W=>jG x AI cI W false (by rw[hb2]))
     go_wp2_with fail
     refine(HR.out _).mono ?_;rintro e wx ⟨rfl,hbx'⟩;have hbx:=za hbw hbx';have bpx:=bpr.mono hbx';have box:=bor.mono hbx';have bxx:=bxr.mono hbx';clear HR hbx' o1 ol x0 x1 x2 x3 x4 x5 x6 x7 x8 xl;have o1:=box.cell 1 rfl;have ol:=box.lt;have x9:=bxx.cell 9 rfl;have xl:=bxx.lt
     go_wp2_with fail
     clear x9 xl;clear o1 ol
     go_loopw [12] (fun i wq=>∃k:Nat,k≤o.vals.length∧i = .int .i64 k∧Below wx.heap.size wx wq) (fun i _=>o.vals.length-(intOf i).toNat)
     case atStart=>exact⟨0,Nat.zero_le _,rfl,by first|exact v9r|assumption⟩
     case round=>
      obtain⟨k,hk,rfl,hbq⟩:=hrel;have hbz:=za hbx hbq;have bpq:=bpx.mono hbq;have boq:=box.mono hbq;have bxq:=bxx.mono hbq;have p4:=bpq.cell 4 rfl;have pl:=bpq.lt;have o4:=boq.cell 4 rfl;have ol:=boq.lt
      by_cases hlt:k<o.vals.length
      ·have hlt2:k<p.vals.length:=by rw[←HLE.out];exact hlt
       have hltI:(k:Int)<(p.vals.length:Int):=by omega
       obtain⟨bP,oP,hAPe,hbP,v0,v1,v2⟩:=(hP.mono hbz).vl_at hlt2;obtain⟨bO,oO,hAOe,hbO,u0,u1,u2⟩:=(hO.mono hbz).vl_at hlt;rw[hAPe] at p4;rw[hAOe] at o4;have HQ:=HEQ.out k hlt hlt2;have hvn:∀W,(binOp .neq 63 (.agg #[.int .i64 o.vals[k].1,.int .i64 o.vals[k].2.1,.int .i64 o.vals[k].2.2]) (.agg #[.int .i64 p.vals[k].1,.int .i64 p.vals[k].2.1,.int .i64 p.vals[k].2.2])).run Tryz.prog W = .ok (.bool (nbV o.vals[k] p.vals[k])) W:=fun W=>kQ _ _ _ _ _ _ W
       generalize nbV o.vals[k] p.vals[k]=nb at *
       generalize o.vals[k]=ov at *
       generalize p.vals[k]=pv at *
       cases nb with
       |false=>
        clear HQ
        go_upto_region 14 with fail
        refine zm (by kernel_rfl) (by kernel_rfl) ?_
        repeat(go_big_quiet_step (fail))
        refine wpQuiet_nil ?_;rintro _ ⟨z,rfl⟩
        go_wp2_with fail
        go_roundw
        case rel=>exact⟨k+1,by omega,by go_num,za hbq z.h⟩
        case measure=>simp[intOf];omega
       |true=>
        have hkd:(k:Int)=defP x:=by
         rcases HQ with h|h
         ·cases h
         ·exact h
        have HD:Hid (∀W,Calls Tryz.prog 23 #[.agg #[.int .i64 x.op,.int .i64 x.dst,.int .i64 x.a,.int .i64 x.b,.int .i64 x.n,.string x.cls,.string x.name,.slice AI x.args.length cI,.int .i64 x.jmp,.int .i64 x.hnd]] W fun e w'=>e = .returned (.int .i64 (k:Int))∧Below W.heap.size W w'):=fun W=>by
         have:=kW x AI cI W;rw[←hkd] at this;exact this
        clear hkd HQ;have hkk:((k:Int) != (k:Int))=false:=by simp
        have x0:=bxq.cell 0 rfl;have x1:=bxq.cell 1 rfl;have x2:=bxq.cell 2 rfl;have x3:=bxq.cell 3 rfl;have x4:=bxq.cell 4 rfl;have x5:=bxq.cell 5 rfl;have x6:=bxq.cell 6 rfl;have x7:=bxq.cell 7 rfl;have x8:=bxq.cell 8 rfl;have x9:=bxq.cell 9 rfl;have xl:=bxq.lt
        go_upto_region 14 with fail
        refine zm (by kernel_rfl) (by kernel_rfl) ?_
        repeat(go_big_quiet_step ((go_at_call 23;exact Calls.later (HD.out _))))
        refine wpQuiet_nil ?_;rintro _ ⟨z,rfl⟩
        go_wp2_with fail
        go_roundw
        case rel=>exact⟨k+1,by omega,by go_num,za hbq z.h⟩
        case measure=>simp[intOf];omega
      ·obtain rfl:k=o.vals.length:=by omega
       go_wp2_with fail
       go_ret
       exact⟨rfl,hbz⟩
    |true=>
     obtain⟨c2,hc2⟩:∃c2,(x.hnd==(o.at_:Int))=c2:=⟨_,rfl⟩
     cases c2 with
     |false=>
      have HR:=v9h (fun W=>jG x AI cI W true (by rw[hb2]))
      go_wp2_with fail
      refine(HR.out _).mono ?_;rintro e wx ⟨rfl,hbx'⟩;have hbx:=za hbw hbx';have bpx:=bpr.mono hbx';have box:=bor.mono hbx';have bxx:=bxr.mono hbx';clear HR hbx' o1 ol x0 x1 x2 x3 x4 x5 x6 x7 x8 xl;have o1:=box.cell 1 rfl;have ol:=box.lt;have x9:=bxx.cell 9 rfl;have xl:=bxx.lt
      go_wp2_with fail
      clear x9 xl;clear o1 ol
      go_loopw [12] (fun i wq=>∃k:Nat,k≤o.vals.length∧i = .int .i64 k∧Below wx.heap.size wx wq) (fun i _=>o.vals.length-(intOf i).toNat)
      case atStart=>exact⟨0,Nat.zero_le _,rfl,by first|exact v9r|assumption⟩
      case round=>
       obtain⟨k,hk,rfl,hbq⟩:=hrel;have hbz:=za hbx hbq;have bpq:=bpx.mono hbq;have boq:=box.mono hbq;have bxq:=bxx.mono hbq;have p4:=bpq.cell 4 rfl;have pl:=bpq.lt;have o4:=boq.cell 4 rfl;have ol:=boq.lt
       by_cases hlt:k<o.vals.length
       ·have hlt2:k<p.vals.length:=by rw[←HLE.out];exact hlt
        have hltI:(k:Int)<(p.vals.length:Int):=by omega
        obtain⟨bP,oP,hAPe,hbP,v0,v1,v2⟩:=(hP.mono hbz).vl_at hlt2;obtain⟨bO,oO,hAOe,hbO,u0,u1,u2⟩:=(hO.mono hbz).vl_at hlt;rw[hAPe] at p4;rw[hAOe] at o4;have HQ:=HEQ.out k hlt hlt2;have hvn:∀W,(binOp .neq 63 (.agg #[.int .i64 o.vals[k].1,.int .i64 o.vals[k].2.1,.int .i64 o.vals[k].2.2]) (.agg #[.int .i64 p.vals[k].1,.int .i64 p.vals[k].2.1,.int .i64 p.vals[k].2.2])).run Tryz.prog W = .ok (.bool (nbV o.vals[k] p.vals[k])) W:=fun W=>kQ _ _ _ _ _ _ W
        generalize nbV o.vals[k] p.vals[k]=nb at *
        generalize o.vals[k]=ov at *
        generalize p.vals[k]=pv at *
        cases nb with
        |false=>
         clear HQ
         go_upto_region 14 with fail
         refine zm (by kernel_rfl) (by kernel_rfl) ?_
         repeat(go_big_quiet_step (fail))
         refine wpQuiet_nil ?_;rintro _ ⟨z,rfl⟩
         go_wp2_with fail
         go_roundw
         case rel=>exact⟨k+1,by omega,by go_num,za hbq z.h⟩
         case measure=>simp[intOf];omega
        |true=>
         have hkd:(k:Int)=defP x:=by
          rcases HQ with h|h
          ·cases h
          ·exact h
         have HD:Hid (∀W,Calls Tryz.prog 23 #[.agg #[.int .i64 x.op,.int .i64 x.dst,.int .i64 x.a,.int .i64 x.b,.int .i64 x.n,.string x.cls,.string x.name,.slice AI x.args.length cI,.int .i64 x.jmp,.int .i64 x.hnd]] W fun e w'=>e = .returned (.int .i64 (k:Int))∧Below W.heap.size W w'):=fun W=>by
          have:=kW x AI cI W;rw[←hkd] at this;exact this
         clear hkd HQ;have hkk:((k:Int) != (k:Int))=false:=by simp
         have x0:=bxq.cell 0 rfl;have x1:=bxq.cell 1 rfl;have x2:=bxq.cell 2 rfl;have x3:=bxq.cell 3 rfl;have x4:=bxq.cell 4 rfl;have x5:=bxq.cell 5 rfl;have x6:=bxq.cell 6 rfl;have x7:=bxq.cell 7 rfl;have x8:=bxq.cell 8 rfl;have x9:=bxq.cell 9 rfl;have xl:=bxq.lt
         go_upto_region 14 with fail
         refine zm (by kernel_rfl) (by kernel_rfl) ?_
         repeat(go_big_quiet_step ((go_at_call 23;exact Calls.later (HD.out _))))
         refine wpQuiet_nil ?_;rintro _ ⟨z,rfl⟩
         go_wp2_with fail
         go_roundw
         case rel=>exact⟨k+1,by omega,by go_num,za hbq z.h⟩
         case measure=>simp[intOf];omega
       ·obtain rfl:k=o.vals.length:=by omega
        go_wp2_with fail
        go_ret
        exact⟨rfl,hbz⟩
     |true=>
      have HR:=v9h (fun W=>jG x AI cI W true (by rw[hb2]))
      go_wp2_with fail
      refine(HR.out _).mono ?_;rintro e wx ⟨rfl,hbx'⟩;have hbx:=za hbw hbx';have bpx:=bpr.mono hbx';have box:=bor.mono hbx';have bxx:=bxr.mono hbx';clear HR hbx' o1 ol x0 x1 x2 x3 x4 x5 x6 x7 x8 xl;have o1:=box.cell 1 rfl;have ol:=box.lt;have x9:=bxx.cell 9 rfl;have xl:=bxx.lt
      go_wp2_with fail
      clear x9 xl;clear o1 ol
      go_loopw [12] (fun i wq=>∃k:Nat,k≤o.vals.length∧i = .int .i64 k∧Below wx.heap.size wx wq) (fun i _=>o.vals.length-(intOf i).toNat)
      case atStart=>exact⟨0,Nat.zero_le _,rfl,by first|exact v9r|assumption⟩
      case round=>
       obtain⟨k,hk,rfl,hbq⟩:=hrel;have hbz:=za hbx hbq;have bpq:=bpx.mono hbq;have boq:=box.mono hbq;have bxq:=bxx.mono hbq;have p4:=bpq.cell 4 rfl;have pl:=bpq.lt;have o4:=boq.cell 4 rfl;have ol:=boq.lt
       by_cases hlt:k<o.vals.length
       ·have hlt2:k<p.vals.length:=by rw[←HLE.out];exact hlt
        have hltI:(k:Int)<(p.vals.length:Int):=by omega
        obtain⟨bP,oP,hAPe,hbP,v0,v1,v2⟩:=(hP.mono hbz).vl_at hlt2;obtain⟨bO,oO,hAOe,hbO,u0,u1,u2⟩:=(hO.mono hbz).vl_at hlt;rw[hAPe] at p4;rw[hAOe] at o4;have HQ:=HEQ.out k hlt hlt2;have hvn:∀W,(binOp .neq 63 (.agg #[.int .i64 o.vals[k].1,.int .i64 o.vals[k].2.1,.int .i64 o.vals[k].2.2]) (.agg #[.int .i64 p.vals[k].1,.int .i64 p.vals[k].2.1,.int .i64 p.vals[k].2.2])).run Tryz.prog W = .ok (.bool (nbV o.vals[k] p.vals[k])) W:=fun W=>kQ _ _ _ _ _ _ W
        generalize nbV o.vals[k] p.vals[k]=nb at *
        generalize o.vals[k]=ov at *
        generalize p.vals[k]=pv at *
        cases nb with
        |false=>
         clear HQ
         go_upto_region 14 with fail
         refine zm (by kernel_rfl) (by kernel_rfl) ?_
         repeat(go_big_quiet_step (fail))
         refine wpQuiet_nil ?_;rintro _ ⟨z,rfl⟩
         go_wp2_with fail
         go_roundw
         case rel=>exact⟨k+1,by omega,by go_num,za hbq z.h⟩
         case measure=>simp[intOf];omega
        |true=>
         have hkd:(k:Int)=defP x:=by
          rcases HQ with h|h
          ·cases h
          ·exact h
         have HD:Hid (∀W,Calls Tryz.prog 23 #[.agg #[.int .i64 x.op,.int .i64 x.dst,.int .i64 x.a,.int .i64 x.b,.int .i64 x.n,.string x.cls,.string x.name,.slice AI x.args.length cI,.int .i64 x.jmp,.int .i64 x.hnd]] W fun e w'=>e = .returned (.int .i64 (k:Int))∧Below W.heap.size W w'):=fun W=>by
          have:=kW x AI cI W;rw[←hkd] at this;exact this
         clear hkd HQ;have hkk:((k:Int) != (k:Int))=false:=by simp
         have x0:=bxq.cell 0 rfl;have x1:=bxq.cell 1 rfl;have x2:=bxq.cell 2 rfl;have x3:=bxq.cell 3 rfl;have x4:=bxq.cell 4 rfl;have x5:=bxq.cell 5 rfl;have x6:=bxq.cell 6 rfl;have x7:=bxq.cell 7 rfl;have x8:=bxq.cell 8 rfl;have x9:=bxq.cell 9 rfl;have xl:=bxq.lt
         go_upto_region 14 with fail
         refine zm (by kernel_rfl) (by kernel_rfl) ?_
         repeat(go_big_quiet_step ((go_at_call 23;exact Calls.later (HD.out _))))
         refine wpQuiet_nil ?_;rintro _ ⟨z,rfl⟩
         go_wp2_with fail
         go_roundw
         case rel=>exact⟨k+1,by omega,by go_num,za hbq z.h⟩
         case measure=>simp[intOf];omega
       ·obtain rfl:k=o.vals.length:=by omega
        go_wp2_with fail
        go_ret
        exact⟨rfl,hbz⟩
theorem ag5(u:Unt)(A0 A1:Option Addr)(c0 c1:Nat)(en:Int)(l:List Obv)(AX:Option Addr)(cX:Nat)(i:Nat)(w:World)(H:UV u)(HR:Hid (UnR w u A0 A1 c0))(hl:l.length≤1000000)(hX:Sl Lay.ob w AX l)(ha:AllF u l)(hi:i<l.length) :
  Calls Tryz.prog 19 #[.agg #[.slice A0 u.classes.length c0,.slice A1 u.funcs.length c1,.int .i64 u.main],.agg #[.int .i64 en,.slice AX l.length cX],.int .i64 (i:Nat)] w fun e w'=>e = .returned (.bool true)∧Below w.heap.size w w':=by
 obtain⟨hfol,hob⟩:=ha i l[i] (List.getElem?_eq_getElem hi);have hti:(l.take i).length=i:=by rw[List.length_take];omega
 have HPL:Hid (∀(n:Nat) (hn:n<l.length),ObT u l[n]):=fun n hn=>(ha n l[n] (List.getElem?_eq_getElem hn)).2
 obtain⟨bX,oX,AO,cO,hAX,hbX,x0,x1,x2,x3,x4,hcO,hsO⟩:=hX.ob_at hi;obtain⟨o,ho⟩:∃o,o=l[i]:=⟨_,rfl⟩
 rw[←ho] at hfol hob x0 x1 x2 x3 x4 hcO hsO;have hfn:=hob.fn;have hat:=hob.at_;have hlen:=hob.len;rw[zv hfn] at hat hlen;obtain⟨bF,oF,AV,cV,AC,cC,hA1,hbF,e0,e1,e2,e3,e4,e5,e6,-,-,-,hsC⟩:=HR.out.hf.fun_at hfn;obtain⟨f,hf⟩:∃f,f=u.funcs[o.fn]:=⟨_,rfl⟩
 rw[←hf] at hat hlen e0 e1 e2 e3 e4 e5 e6 hsC;have hff:zb u o.fn=f:=by rw[zv hfn,hf]
 obtain⟨pm,-,hFV⟩:=qA H.u hfn;rw[hff] at hFV
 have HMV:Hid (∀(p:Obv) (AP:Option Addr) (cP:Nat) (W:World),Below w.heap.size w W→ObT u p→p.fn=o.fn→MovP u p o.at_ o.vals→Sl Lay.vl W AP p.vals→Calls Tryz.prog 47 #[.agg #[.string f.cls,.string f.name,.bool f.static,.int .i64 f.nparams,.slice AV f.vars.length cV,.string f.result,.slice AC f.code.length cC],.agg #[.int .i64 (p.fn:Int),.int .i64 (p.at_:Int),.int .i64 (p.no:Int),.int .i64 p.call,.slice AP p.vals.length cP],.agg #[.int .i64 (o.fn:Int),.int .i64 (o.at_:Int),.int .i64 (o.no:Int),.int .i64 o.call,.slice AO o.vals.length cO]] W fun e w'=>e = .returned (.bool true)∧Below W.heap.size W w'):=fun p AP cP W hb hp hpf hm hsP=>by
  have hpa:=hp.at_;have hpl:=hp.len;have hC:=jz H.u hp.fn hp.at_;obtain⟨m1,m2⟩:=hm;rw[hpf,hff] at hpa hpl m1 m2;have h1:=hC.next;have h2:=hC.jump;rw[hpf,hff] at h1 h2;have hvl:f.vars.length≤256:=hFV.vl;exact ai3 f AV AC cV cC p o AP AO cP cO W hpa hFV.cl1 (hsC.mono hb) (fun a b c=>(h1 a b c).1) (fun a=>⟨(h2 a).1,(h2 a).2.1⟩) hsP (hsO.mono hb) (by rw[hlen,hpl]) (by rw[hlen];omega) m1 m2
 have HFO:=v9h hfol
 have HKE:Hid (∀W,Below w.heap.size w W→(bF<W.heap.size∧bX<W.heap.size)∧W.cell? ⟨bF,oF+o.fn*7,none⟩=some (.string f.cls)∧W.cell? ⟨bF,oF+o.fn*7+1,none⟩=some (.string f.name)∧W.cell? ⟨bF,oF+o.fn*7+2,none⟩=some (.bool f.static)∧W.cell? ⟨bF,oF+o.fn*7+3,none⟩=some (.int .i64 f.nparams)∧W.cell? ⟨bF,oF+o.fn*7+4,none⟩=some (.slice AV f.vars.length cV)∧W.cell? ⟨bF,oF+o.fn*7+5,none⟩=some (.string f.result)∧W.cell? ⟨bF,oF+o.fn*7+6,none⟩=some (.slice AC f.code.length cC)):=fun W h=>
  ⟨⟨Nat.lt_of_lt_of_le hbF h.size,Nat.lt_of_lt_of_le hbX h.size⟩,keptC e0 hbF h,keptC e1 hbF h,keptC e2 hbF h,keptC e3 hbF h,keptC e4 hbF h,keptC e5 hbF h,keptC e6 hbF h⟩
 have HM0:Hid (0≤u.main∧(u.main.toNat:Int)=u.main):=⟨H.u.m0,by have:=H.u.m0;omega⟩
 clear hfol hff hFV hsC hsO ha hob HR H pm e0 e1 e2 e3 e4 e5 e6 hbF hcO;subst hA1;have hiI:(i:Int)<(l.length:Int):=by omega
 have g1:¬(o.fn:Int)<0:=by omega
 have g2:¬(o.fn:Int)≥(u.funcs.length:Int):=by omega
 have g2':(o.fn:Int)<(u.funcs.length:Int):=by omega
 have g3:¬(o.at_:Int)<0:=by omega
 have g4:¬(o.at_:Int)≥(f.code.length:Int):=by omega
 have HLN:=v9h hlen;have g5:(o.vals.length != f.vars.length)=false:=by rw[hlen];simp
 have g5':((o.vals.length:Int) != (f.vars.length:Int))=false:=by rw[hlen];simp
 clear hlen hf ho;have hX0:=hX;rw[hAX] at hX
 go_enter Tryz.func19,Tryz.ntmps19
 go_upto_region 1 with fail
 generalize hW:World.alloc (World.alloc _ _) _=W1 at *
 have hb1:Below w.heap.size w W1:=by rw[←hW];exact(by repeat(first|assumption|exact v9r|apply zc|apply zd|apply zg|apply ze|apply zi))
 have bu:Box W1 w.heap.size [.slice A0 u.classes.length c0,.slice (some ⟨bF,oF,none⟩) u.funcs.length c1,.int .i64 u.main] 32:=by rw[←hW];exact(Box.new _ _ _).alloc _
 have be:Box W1 (w.heap.size+1) [.int .i64 en,.slice (some ⟨bX,oX,none⟩) l.length cX] 47:=by rw[←hW];exact Box.at (w:=w.alloc _) (by simp)
 clear hW;have x1':=be.cell 1 rfl;have xl:=be.lt;replace x0:=keptC x0 hbX hb1;replace x1:=keptC x1 hbX hb1;replace x2:=keptC x2 hbX hb1;replace x3:=keptC x3 hbX hb1;replace x4:=keptC x4 hbX hb1;replace hbX:=Nat.lt_of_lt_of_le hbX hb1.size
 go_upto_region 2 with fail
 generalize hW:World.alloc _ _=W2 at *
 have hb12:Below W1.heap.size W1 W2:=by rw[←hW];exact(by repeat(first|assumption|exact v9r|apply zc|apply zd|apply zg|apply ze|apply zi))
 have bo:Box W2 W1.heap.size [.int .i64 (o.fn:Int),.int .i64 (o.at_:Int),.int .i64 (o.no:Int),.int .i64 o.call,.slice AO o.vals.length cO] 54:=by rw[←hW];exact Box.new _ _ _
 clear hW x0 x1 x2 x3 x4 hbX x1' xl;have hb2:=za hb1 hb12;have bu2:=bu.mono hb12;have be2:=be.mono hb12;clear bu be hb12;obtain⟨⟨hbF,hbX⟩,e0,e1,e2,e3,e4,e5,e6⟩:=HKE.out _ hb2;have o0:=bo.cell 0 rfl;have o1:=bo.cell 1 rfl;have o2:=bo.cell 2 rfl;have o3:=bo.cell 3 rfl;have o4:=bo.cell 4 rfl;have ol:=bo.lt;have u1:=bu2.cell 1 rfl;have u2:=bu2.cell 2 rfl;have ul:=bu2.lt;refine zm (by kernel_rfl) (by kernel_rfl) ?_
 repeat(go_big_quiet_step (fail))
 refine wpQuiet_nil ?_;rintro _ ⟨z,rfl⟩;have hz:=z.h;have hb3:=za hb2 hz;have bo3:=bo.mono hz;have bu3:=bu2.mono hz;have be3:=be2.mono hz;clear hbF hbX e0 e1 e2 e3 e4 e5 e6 o0 o1 o2 o3 o4 ol u1 u2 ul bo bu2 be2 hz g1 g2 g3 g4 g5 g5';generalize z.W=W3 at *
 clear z;have o0:=bo3.cell 0 rfl;have o1:=bo3.cell 1 rfl;have o2:=bo3.cell 2 rfl;have o3:=bo3.cell 3 rfl;have ol:=bo3.lt;have u2:=bu3.cell 2 rfl;have ul:=bu3.lt
 cases i with
 |zero=>
  obtain⟨m1,m2,m3,m4⟩:=HFO.out.main rfl;have k1:((o.fn:Int)==u.main)=true:=by rw[m1,HM0.out.2];simp
  have k2:((o.at_:Int)==0)=true:=by rw[m2];rfl
  have k3:((o.no:Int)==0)=true:=by rw[m3];rfl
  have k4:(o.call == -1)=true:=by rw[m4];rfl
  clear m1 m2 m3 m4
  go_wp2_with fail
  go_ret
  exact⟨rfl,hb3⟩
 |succ j=>
  obtain⟨q1,q2⟩:=HFO.out.call;rw[hti] at q2;have k0:((j+1:Nat):Int)≠0:=by omega
  have k0':(((j+1:Nat):Int)==0)=false:=by rw[beq_eq_false_iff_ne];exact k0
  have k1:¬o.call < -1:=by omega
  have k2:¬o.call≥((j+1:Nat):Int):=by omega
  go_wp2_with fail
  clear o0 o1 o2 o3 ol u2 ul k0 k0' k1 k2
  go_loopw [8] (fun v wr=>∃n:Nat,n≤j+1∧v = .int .i64 ((n:Int)-1)∧Hid (ys (l.take (j+1)) o.no=ys (l.take n) o.no)∧Below W3.heap.size W3 wr) (fun v _=>(intOf v+1).toNat)
  case atStart=>exact⟨j+1,Nat.le_refl _,by go_num,rfl,v9r⟩
  case round=>
   obtain⟨n,hn,rfl,HLO,hbr⟩:=hrel;have hbw:=za hb3 hbr;have bor:=bo3.mono hbr;have bur:=bu3.mono hbr;have ber:=be3.mono hbr;have o0:=bor.cell 0 rfl;have o1:=bor.cell 1 rfl;have o2:=bor.cell 2 rfl;have o3:=bor.cell 3 rfl;have o4:=bor.cell 4 rfl;have ol:=bor.lt;have u1:=bur.cell 1 rfl;have ul:=bur.lt;have b1:=ber.cell 1 rfl;have bl:=ber.lt
   cases n with
   |zero=>
    obtain⟨n1,n2⟩:=HFO.out.new (by rw[HLO.out];rfl);rw[hti] at n2;have k1:((o.at_:Int)==0)=true:=by rw[n1];rfl
    have k2:(o.call==((j+1:Nat):Int)-1)=true:=by rw[n2];simp
    have k2':(o.call==(j:Int))=true:=by rw[n2,beq_iff_eq];omega
    have k3:¬(((0:Nat):Int)-1≥0):=by omega
    go_wp2_with fail
    go_ret
    exact⟨rfl,hbw⟩
   |succ n=>
    have hnl:n<l.length:=by omega
    have k0:((n+1:Nat):Int)-1=(n:Int):=by omega
    have k1:(n:Int)≥0:=by omega
    have k2:(n:Int)<(l.length:Int):=by omega
    have hLS:ys (l.take (n+1)) o.no=if l[n].no=o.no then some l[n] else ys (l.take n) o.no:=by rw[List.take_succ_eq_append_getElem hnl,aa1]
    have HPT:=v9h (HPL.out n hnl);obtain⟨bP,oP,AP,cP,hAP,hbP,y0,y1,y2,y3,y4,hcP,hsP⟩:=(hX.mono hbw).ob_at hnl;injection hAP with hAP
    injection hAP with hA1 hA2
    subst hA1 hA2;have HLS:=v9h hLS;clear hLS hcP;generalize l[n]=p at *
    rw[k0]
    go_upto_region 12 with fail
    generalize hW:World.alloc _ _=W4 at *
    have hb4r:Below wr.heap.size wr W4:=by rw[←hW];exact zc (v9r)
    have bp:Box W4 wr.heap.size [.int .i64 (p.fn:Int),.int .i64 (p.at_:Int),.int .i64 (p.no:Int),.int .i64 p.call,.slice AP p.vals.length cP] 54:=by rw[←hW];exact Box.new _ _ _
    clear hW o0 o1 o2 o3 o4 ol u1 ul b1 bl y0 y1 y2 y3 y4 hbP k0 k1 k2;have hb4:=za hbw hb4r;have hbr4:=za hbr hb4r;have bo4:=bor.mono hb4r;have bu4:=bur.mono hb4r;have be4:=ber.mono hb4r;have hsP4:=hsP.mono hb4r;clear hsP bor bur ber hb4r;have o0:=bo4.cell 0 rfl;have o1:=bo4.cell 1 rfl;have o2:=bo4.cell 2 rfl;have o3:=bo4.cell 3 rfl;have o4:=bo4.cell 4 rfl;have ol:=bo4.lt;have u1:=bu4.cell 1 rfl;have ul:=bu4.lt;have p0:=bp.cell 0 rfl;have p1:=bp.cell 1 rfl;have p2:=bp.cell 2 rfl;have p3:=bp.cell 3 rfl;have p4:=bp.cell 4 rfl;have pl:=bp.lt
    by_cases hno:p.no=o.no
    ·obtain⟨q1,q2,q3⟩:=HFO.out.old p (by rw[HLO.out,HLS.out,if_pos hno])
     have HC:=v9h (fun(x:zk W4)=>HMV.out p AP cP x.W (za hb4 x.h) HPT.out q1 q3 (hsP4.later x));have k1:((p.no:Int) != (o.no:Int))=false:=by rw[hno];simp
     have k2:((p.fn:Int) != (o.fn:Int))=false:=by rw[q1];simp
     have k3:(p.call != o.call)=false:=by rw[q2];simp
     clear q1 q2 q3 HLS HLO HPT hno hsP4;obtain⟨⟨hbF,hbX⟩,e0,e1,e2,e3,e4,e5,e6⟩:=HKE.out _ hb4
     go_upto_region 15 with fail
     refine zm (by kernel_rfl) (by kernel_rfl) ?_
     repeat(go_big_quiet_step ((go_at_call 47;exact Calls.later (HC.out _))))
     refine wpQuiet_nil ?_;rintro _ ⟨z,rfl⟩
     go_wp2_with fail
     go_ret
     exact⟨rfl,za hb4 z.h⟩
    ·have k1:((p.no:Int) != (o.no:Int))=true:=by
      have:¬(p.no:Int)=(o.no:Int):=by omega
      simp[bne,this]
     have HLO2:Hid (ys (l.take (j+1)) o.no=ys (l.take n) o.no):=by show _=_;rw[HLO.out,HLS.out,if_neg hno]
     clear HLS HLO HPT hno hsP4
     go_wp2_with fail
     go_roundw
     case rel=>exact⟨n,by omega,by go_num,HLO2,hbr4⟩
     case measure=>simp[intOf]
end Go.Proofs.YtmhdambkchlilaaGreatDoor
