/- Chapter 15: interp.Run on a unit without an error is the plain machine: the map of sites, the start. Chapter 15: interp.Run on a unit without an error is the plain machine (for any unit). Chapter 15: interp.Run hands back an error: of the unit, of the input's length, of the number of steps. Chapter 15: the law's awake, by the walk of Run at any unit. -/
import Derived.Test.YtmhdambkchlilaaGreatDoorJMf
import Derived.Test.YtmhdambkchlilaaGreatDoorJFoA
import Derived.Test.YtmhdambkchlilaaGreatDoorJIz
namespace Go.Proofs.YtmhdambkchlilaaGreatDoor
open Go.RowKit
set_option linter.unusedVariables false
set_option maxRecDepth 100000
set_option maxHeartbeats 16000000
section
variable {u:Unt} {i j:Nat}
theorem aa3(hj:j<(zb u i).code.length):siteNo u i (j+1)=siteNo u i j+if(zh (zb u i) j).op=6 then 1 else 0:=by
 unfold siteNo;rw[List.take_succ_eq_append_getElem hj,List.countP_append,zQ hj,List.countP_singleton];unfold jx
 by_cases h:(zb u i).code[j].op=6
 ·rw[if_pos h,if_pos (by rw[decide_eq_true h])];omega
 ·rw[if_neg h,if_neg (by rw[decide_eq_false h];decide)];omega
theorem af6(hi:i<u.funcs.length):siteNo u (i+1) 0=siteNo u i (zb u i).code.length:=by
 unfold siteNo;rw[List.take_succ_eq_append_getElem hi,List.flatMap_append,List.countP_append,List.take_zero,List.take_length,←zv hi]
 simp
theorem aek:∀{l:List Fun},(∀f∈l,f.code.length≤1024)→(l.flatMap (·.code)).length≤1024*l.length
 |[],_=>by simp
 |f::l,h=>by
  rw[List.flatMap_cons,List.length_append,List.length_cons];have h1:=h f (by simp);have h2:=aek (l:=l) (fun x hx=>h x (by simp[hx]))
  omega
theorem acW(h:∀f∈u.funcs,f.code.length≤1024)(hi:i≤256)(hj:j≤1024):siteNo u i j≤300000:=by
 unfold siteNo;have h1:=List.countP_le_length (p:=jx) (l:=(u.funcs.take i).flatMap (·.code));have h2:=List.countP_le_length (p:=jx) (l:=(zb u i).code.take j);have h3:=aek (l:=u.funcs.take i) (fun f hf=>h f (List.mem_of_mem_take hf));have h4:(u.funcs.take i).length≤i:=by rw[List.length_take];omega
 have h5:((zb u i).code.take j).length≤j:=by rw[List.length_take];omega
 omega
def sitF(u:Unt)(i j:Nat)(p:Int×Int):Option Int:=
 if 0≤p.1∧0≤p.2∧p.1.toNat<u.funcs.length∧p.2.toNat<(zb u p.1.toNat).code.length∧(zh (zb u p.1.toNat) p.2.toNat).op=6∧(p.1.toNat<i∨(p.1.toNat=i∧p.2.toNat<j)) then some (siteNo u p.1.toNat p.2.toNat:Int) else none
theorem agW:sitF u 0 0=fun _=>none:=by
 funext p
 unfold sitF;rw[if_neg (fun h=>by have:=h.2.2.2.2.2;omega)]
theorem agX:sitF u i j ((i:Int),(j:Int))=none:=by
 unfold sitF;rw[if_neg (fun h=>by have:=h.2.2.2.2.2;simp only[Int.toNat_natCast] at this;omega)]
theorem agY(hi:i<u.funcs.length)(hj:j<(zb u i).code.length)(h6:(zh (zb u i) j).op=6):putF (sitF u i j) ((i:Int),(j:Int)) (siteNo u i j:Int)=sitF u i (j+1):=by
 funext p
 unfold putF
 by_cases e:p=((i:Int),(j:Int))
 ·subst e
  rw[if_pos rfl];unfold sitF;simp only[Int.toNat_natCast];rw[if_pos ⟨by omega,by omega,hi,hj,h6,Or.inr ⟨trivial,by omega⟩⟩]
 ·rw[if_neg e]
  unfold sitF;obtain⟨a,b⟩:=p
  by_cases h:0≤a∧0≤b
  ·have hne:¬(a.toNat=i∧b.toNat=j):=fun hh=>e (by
    have e1:a=(i:Int):=by omega
    have e2:b=(j:Int):=by omega
    rw[e1,e2])
   have hiff:(a.toNat<i∨(a.toNat=i∧b.toNat<j))↔(a.toNat<i∨(a.toNat=i∧b.toNat<j+1)):=by omega
   simp only[hiff]
  ·rw[if_neg (fun hh=>h ⟨hh.1,hh.2.1⟩),if_neg (fun hh=>h ⟨hh.1,hh.2.1⟩)]
theorem agZ(h6:(zh (zb u i) j).op≠6):sitF u i j=sitF u i (j+1):=by
 funext p
 unfold sitF;obtain⟨a,b⟩:=p
 by_cases h:a.toNat=i∧b.toNat=j
 ·obtain⟨h1,h2⟩:=h
  rw[if_neg (fun hh=>by have:=hh.2.2.2.2.1;rw[show((a,b):Int×Int).1.toNat=i from h1,show((a,b):Int×Int).2.toNat=j from h2] at this;exact h6 this),if_neg (fun hh=>by have:=hh.2.2.2.2.1;rw[show((a,b):Int×Int).1.toNat=i from h1,show((a,b):Int×Int).2.toNat=j from h2] at this;exact h6 this)]
 ·have hiff:(a.toNat<i∨(a.toNat=i∧b.toNat<j))↔(a.toNat<i∨(a.toNat=i∧b.toNat<j+1)):=by omega
  simp only[hiff]
theorem ahS:sitF u i (zb u i).code.length=sitF u (i+1) 0:=by
 funext p
 unfold sitF;obtain⟨a,b⟩:=p
 by_cases h:a.toNat=i
 ·by_cases hb:b.toNat<(zb u i).code.length
  ·have hiff:(a.toNat<i∨(a.toNat=i∧b.toNat<(zb u i).code.length))↔(a.toNat<i+1∨(a.toNat=i+1∧b.toNat<0)):=by omega
   simp only[hiff]
  ·rw[if_neg (fun hh=>hb (by have:=hh.2.2.2.1;rw[show((a,b):Int×Int).1.toNat=i from h] at this;exact this)),if_neg (fun hh=>hb (by have:=hh.2.2.2.1;rw[show((a,b):Int×Int).1.toNat=i from h] at this;exact this))]
 ·have hiff:(a.toNat<i∨(a.toNat=i∧b.toNat<(zb u i).code.length))↔(a.toNat<i+1∨(a.toNat=i+1∧b.toNat<0)):=by omega
  simp only[hiff]
end
theorem ahT{u:Unt}{w:World}{b n:Nat}(h:MapE kP w b n (sitF u u.funcs.length 0)):jF u w b:=by
 refine⟨n,_,h,fun i k hi hk h6=>?_⟩;unfold sitF;simp only[Int.toNat_natCast];rw[if_pos ⟨by omega,by omega,hi,hk,h6,Or.inl hi⟩]
structure RunI(u:Unt)(w2 w:World)(AC AF:Option Addr)(cC cF:Nat)(vI:Value)(n:Nat)(f:Int×Int→Option Int):Prop where
 hw:Below w2.heap.size w2 w
 bm:Box w (w2.heap.size+2) [.slice AC u.classes.length cC,.slice AF u.funcs.length cF,.int .i64 u.main,vI,.map (some w2.heap.size),.map (some (w2.heap.size+1)),.slice none 0 0,.int .i64 0,.slice none 0 0,.int .i64 0] 101
 si:MapE kP w w2.heap.size n f
 ob:MapE kE w (w2.heap.size+1) 0 (fun _=>none)
section
variable {u:Unt} {w2 w w':World} {AC AF:Option Addr} {cC cF:Nat} {vI:Value} {n:Nat} {f:Int×Int→Option Int}
theorem RunI.mono(H:RunI u w2 w AC AF cC cF vI n f)(hb:Below w.heap.size w w'):RunI u w2 w' AC AF cC cF vI n f:=⟨za H.hw hb,H.bm.mono hb,H.si.mono hb,H.ob.mono hb⟩
theorem RunI.set(H:RunI u w2 w AC AF cC cF vI n f){n':Nat}{f':Int×Int→Option Int}(h:MapE kP w' w2.heap.size n' f')(hg:w.grownBy w' (some w2.heap.size)):RunI u w2 w' AC AF cC cF vI n' f':=
 ⟨H.hw.trans (aas hg H.hw.size (fun k hk=>by injection hk with hk;omega)),H.bm.keptC (KpC.map hg (fun _ _ _=>H.si.noCells)),h,H.ob.kept hg (fun e=>by injection e with e;omega)⟩
end
theorem ym{c:Prop}[Decidable c]{a b:Mch}{n:Nat}(ha:a.inp.length≤n)(hb:b.inp.length≤n):(if c then a else b).inp.length≤n:=by
 by_cases h:c
 ·rw[if_pos h];exact ha
 ·rw[if_neg h];exact hb
theorem ael{u:Unt}{m:Mch}{F:Fun}{f:Frm}{x:Ins}:(yO u m F f x).inp.length≤m.inp.length:=ym (Nat.le_refl _) (Nat.le_refl _)
theorem ag0{u:Unt}{m:Mch}{F:Fun}{f:Frm}{r:List Frm}{x:Ins}:(kD u m F f r x).inp.length≤m.inp.length:=by
 cases r<;>exact Nat.le_refl _
theorem ahU{m:Mch}:m.inp.tail.length≤m.inp.length:=by rw[List.length_tail];omega
theorem ahV{u:Unt}{m:Mch}{f:Frm}{r:List Frm}:(zS u m f r).inp.length≤m.inp.length:=
 ym (Nat.le_refl _) <| ym (Nat.le_refl _) <| ym (Nat.le_refl _) <| ym (Nat.le_refl _) <| ym (Nat.le_refl _) <| ym ahU <| ym (Nat.le_refl _) <|
 ym (ym (Nat.le_refl _) (Nat.le_refl _)) <| ym (ym (Nat.le_refl _) (Nat.le_refl _)) <| ym (ym ael (Nat.le_refl _)) <| ym ael <| ym (Nat.le_refl _) <| ym (Nat.le_refl _) <|
 ym ag0 <| ym (ym (Nat.le_refl _) (Nat.le_refl _)) <| ym (ym (Nat.le_refl _) (Nat.le_refl _)) (Nat.le_refl _)
theorem zN.sl{w:World}{lo:Nat}{vO:Value}{obs:List Obv}{gs:List Nat}(h:zN w lo vO obs gs):∃(A:Option Addr) (c:Nat),vO = .slice A obs.length c∧obs.length≤c∧Sl Lay.ob w A obs:=by
 obtain⟨rs,k1,k2,k3⟩:=h.raws
 cases hrs:rs with
 |nil=>
  have h0:obs=[]:=by rw[hrs] at k2;exact List.eq_nil_of_length_eq_zero k2.symm
  subst h0 hrs;obtain⟨A,c,rfl⟩:=k1.sliceOf;exact⟨A,c,rfl,Nat.zero_le _,Sl.nil⟩
 |cons r0 rs'=>
  have hne:0<rs.length:=by rw[hrs];simp
  obtain⟨g,c,rfl⟩:=k1.someOf hne;have hcap:=Own.capLe k1 rfl;rw[k2] at hcap ⊢;refine⟨_,_,rfl,hcap,fun i x hx=>?_⟩;have hi:i<rs.length:=by rw[k2];exact(List.getElem?_eq_some_iff.1 hx).1
  obtain⟨A,c',e,o1,_⟩:=k3 i rs[i] x (List.getElem?_eq_getElem hi) hx;refine⟨g,0,kN rs[i],rfl,k1.ltOf.2,⟨A,c',by rw[e];rfl,?_⟩,fun j v hj=>?_⟩
  ·have:=jE (L:=Lay.vl) o1 rfl (fun _=>rfl)
   exact⟨this.1,this.2⟩
  ·have:=Own.cellOf abE k1 rfl hi hj
   show w.cell? ⟨g,0+i*5+j,none⟩=some v;rw[Nat.zero_add];exact this
def abR(gm:Nat)(w:World):Nat:=match w.cell? ⟨gm,8,none⟩ with
 |some (.slice _ n _)=>n
 |_=>0
def ah9(u:Unt)(W2:World)(AC AF:Option Addr)(cC cF S:Nat)(M:Mch)(wr:World):Prop:=∃(k:Nat) (m:Mch),MNx u W2 (W2.heap.size+2) AC AF cC cF W2.heap.size (W2.heap.size+1) k m wr∧Inv u m∧m.obs.length=k∧k≤S∧M=runM u (S-k) m∧m.inp.length≤1000∧m.en≠4
def aia(m:Mch)(w':World)(e:Ending):Prop:=∃(A:Option Addr) (c:Nat),e = .returned (.tuple #[.agg #[.int .i64 m.en,.slice A m.obs.length c],.int .i64 0])∧m.obs.length≤c∧Sl Lay.ob w' A m.obs
theorem ag1(u:Unt)(w:World)(AC AF:Option Addr)(cC cF:Nat)(H:Hid (UnH w u AC AF cC))(hch:(chkE u).2.2=0)(AI:Option Addr)(cI:Nat)(l:List Int)(hcI:l.length≤cI)(hsI:Sl Lay.int w AI l)(hlI:l.length≤1000)(S:Nat)(hS:S≤5000) :
  Calls Tryz.prog 16 #[.agg #[.slice AC u.classes.length cC,.slice AF u.funcs.length cF,.int .i64 u.main],.slice AI l.length cI,.int .i64 (S:Int)] w fun e w'=>aia (runM u S (yD u l)) w' e∧Below w.heap.size w w':=by
 have HU:=UV.of hch
 have HCK:Hid (∀W,Below w.heap.size w W→Calls Tryz.prog 43 #[.agg #[.slice AC u.classes.length cC,.slice AF u.funcs.length cF,.int .i64 u.main]] W fun e w'=>e = .returned (.tuple #[.int .i64 (chkE u).1,.int .i64 (chkE u).2.1,.int .i64 0])∧Below W.heap.size W w'):=fun W h=>by
  have:=ky u AC AF cC cF W (v9h (H.out.mono h));rw[show tri (chkE u) = .returned (.tuple #[.int .i64 (chkE u).1,.int .i64 (chkE u).2.1,.int .i64 (chkE u).2.2]) from rfl,hch] at this;exact this
 obtain⟨e1,he1⟩:∃x,x=(chkE u).1:=⟨_,rfl⟩
 obtain⟨e2,he2⟩:∃x,x=(chkE u).2.1:=⟨_,rfl⟩
 rw[←he1,←he2] at HCK;clear he1 he2 hch;have hm0:=HU.u.m0;have hm1:=HU.u.m1;have hfl:=HU.u.hfl
 have hcode:Hid (∀i,i<u.funcs.length→(zb u i).code.length≤1024∧(zb u i).vars.length≤256):=fun i hi=>by
  obtain⟨p,_,hF⟩:=qA HU.u hi;exact⟨hF.cl1,hF.vl⟩
 have hcode2:Hid (∀f∈u.funcs,f.code.length≤1024):=fun f hf=>by
  obtain⟨i,hi,rfl⟩:=List.getElem_of_mem hf;have:=(hcode.out i hi).1;rwa[zv hi] at this
 obtain⟨mn,hmn⟩:∃mn:Nat,u.main=(mn:Int):=⟨u.main.toNat,by omega⟩
 have hmnl:mn<u.funcs.length:=by omega
 have hstart:Hid (yD u l=⟨l,[],[frN mn 0 (-1) (List.replicate (zb u mn).vars.length (0,0,0))],1,[],0⟩):=by
  show _=_;unfold yD frN;rw[hmn,Int.toNat_natCast]
 obtain⟨M,hM⟩:∃M,Hid (M=runM u S (yD u l)):=⟨_,v9h rfl⟩
 rw[←hM.out];have hinv0:Hid (Inv u (yD u l)):=Inv.start HU l
 obtain⟨bF,oF,rfl⟩:∃b o,AF=some ⟨b,o,none⟩:=by
  obtain⟨b,o,_,_,_,_,e,_⟩:=H.out.hf.fun_at hmnl;exact⟨b,o,e⟩
 rw[hmn] at HCK ⊢;replace HU:=v9h HU
 go_enter Tryz.func16,Tryz.ntmps16
 go_upto_region 1 with fail
 generalize hW:World.alloc (World.alloc _ _) _=W1 at *
 have hb1:Below w.heap.size w W1:=by rw[←hW];exact(by repeat(first|assumption|exact v9r|apply zc|apply zd|apply zg|apply ze|apply zi))
 have bu1:Box W1 w.heap.size [.slice AC u.classes.length cC,.slice (some ⟨bF,oF,none⟩) u.funcs.length cF,.int .i64 (mn:Int)] 32:=by rw[←hW];exact(Box.new _ _ _).alloc _
 have br1:Box W1 (w.heap.size+1) [.int .i64 0,.slice none 0 0] 47:=by rw[←hW];exact Box.at (w:=w.alloc _) (by simp)
 clear hW;have u0:=bu1.cell 0 rfl;have u1:=bu1.cell 1 rfl;have u2:=bu1.cell 2 rfl;have ul:=bu1.lt;have hlI2:¬(1000:Int)<(l.length:Int):=by omega
 have hS0:¬(S:Int)<0:=by omega
 have hS1:¬(5000:Int)<(S:Int):=by omega
 go_wp2_with fail
 refine(HCK.out _ hb1).mono ?_;rintro e W2 ⟨rfl,hb12⟩;have hb2:=za hb1 hb12;have bu2:=bu1.mono hb12;have br2:=br1.mono hb12;clear u0 u1 u2 ul HCK bu1 br1 hb1 hb12;have u0:=bu2.cell 0 rfl;have u1:=bu2.cell 1 rfl;have u2:=bu2.cell 2 rfl;have ul:=bu2.lt;have hmk1:=qO (P:=Tryz.prog) 97 103 3 Tryz.underlying97;have hmk2:=qO (P:=Tryz.prog) 98 2 177 Tryz.underlying98
 go_upto_region 9 with fail
 clear hmk1 hmk2;generalize hW:World.alloc _ _=W3 at *
 have hb23:Below W2.heap.size W2 W3:=by rw[←hW];exact(by repeat(first|assumption|exact v9r|apply zc|apply zd|apply zg|apply ze|apply zi))
 have hI3:RunI u W2 W3 AC (some ⟨bF,oF,none⟩) cC cF (.slice AI l.length cI) 0 (fun _=>none):=by
  rw[←hW];refine⟨(by repeat(first|assumption|exact v9r|apply zc|apply zd|apply zg|apply ze|apply zi)),?_,?_,?_⟩
  ·rw[hmn];exact Box.at (by simp)
  ·exact((MapE.made kP W2).alloc _).alloc _
  ·have h:=MapE.made kE (W2.alloc (.map #[] 0))
   rw[show(W2.alloc (.map #[] 0)).heap.size=W2.heap.size+1 by simp] at h;exact h.alloc _
 have bu3:=bu2.mono hb23;have hsf:Hid (∀W,Below W2.heap.size W2 W→Sl Lay.fun W (some ⟨bF,oF,none⟩) u.funcs):=fun W h=>H.out.hf.mono (za hb2 h)
 clear hW u0 u1 u2 ul hb23;have u1:=bu3.cell 1 rfl;have ul:=bu3.lt
 go_wp2_with fail
 clear u1 ul
 go_loopw [46] (fun v wr=>∃i:Nat,i≤u.funcs.length∧v = .int .i64 i∧RunI u W2 wr AC (some ⟨bF,oF,none⟩) cC cF (.slice AI l.length cI) (siteNo u i 0) (sitF u i 0)) (fun v _=>u.funcs.length-(intOf v).toNat)
 case atStart=>exact⟨0,Nat.zero_le _,rfl,by rw[agW];exact hI3⟩
 case round=>
  obtain⟨i,hi,rfl,hI⟩:=hrel;clear hI3 bu3;obtain⟨wo,rfl⟩:∃wo:World,wo=wr:=⟨_,rfl⟩
  by_cases hlt:i<u.funcs.length
  ·have hltI:(i:Int)<(u.funcs.length:Int):=by omega
   obtain⟨b',o',A4,c4,A6,c6,hAF,hb,d0,d1,d2,d3,d4,d5,d6,-,-,hc6,hs6⟩:=(hsf.out W2 (v9r)).fun_at hlt;injection hAF with hAF
   injection hAF with h1 h2 _
   subst h1 h2;have hF1:Hid (u.funcs[i]=zb u i):=(zv hlt).symm;have hcl:=(hcode.out i hlt).1;rw[hF1.out] at d0 d1 d2 d3 d4 d5 d6 hc6 hs6;obtain⟨F,hF⟩:∃F,Hid (F=zb u i):=⟨_,v9h rfl⟩
   rw[←hF.out] at d0 d1 d2 d3 d4 d5 d6 hc6 hs6 hcl;replace hs6:=v9h hs6;replace d0:=keptC d0 hb hI.hw;replace d1:=keptC d1 hb hI.hw;replace d2:=keptC d2 hb hI.hw;replace d3:=keptC d3 hb hI.hw;replace d4:=keptC d4 hb hI.hw;replace d5:=keptC d5 hb hI.hw;replace d6:=keptC d6 hb hI.hw;replace hb:=Nat.lt_of_lt_of_le hb hI.hw.size
   go_upto_region 12 with fail
   clear hb d0 d1 d2 d3 d4 d5 d6;generalize hW:World.alloc _ _=W4 at *
   have hb4:Below wo.heap.size wo W4:=by rw[←hW];exact(by repeat(first|assumption|exact v9r|apply zc|apply zd|apply zg|apply ze|apply zi))
   have bf:Box W4 wo.heap.size [.string F.cls,.string F.name,.bool F.static,.int .i64 F.nparams,.slice A4 F.vars.length c4,.string F.result,.slice A6 F.code.length c6] 42:=by rw[←hW];exact Box.new _ _ _
   clear hW;have hI4:=hI.mono hb4;have y6:=bf.cell 6 rfl;have yl:=bf.lt;clear hI hb4
   go_wp2_with fail
   clear y6 yl bf
   go_loopw [54] (fun v wr=>∃j:Nat,j≤F.code.length∧v = .int .i64 j∧RunI u W2 wr AC (some ⟨bF,oF,none⟩) cC cF (.slice AI l.length cI) (siteNo u i j) (sitF u i j)) (fun v _=>F.code.length-(intOf v).toNat)
   case atStart=>exact⟨0,Nat.zero_le _,rfl,hI4⟩
   case round=>
    obtain⟨j,hj,rfl,hJ⟩:=hrel;clear hI4
    by_cases hjl:j<F.code.length
    ·have hjI:(j:Int)<(F.code.length:Int):=by omega
     have hJ2:Hid (j<(zb u i).code.length):=by show _<_;rw[←hF.out];exact hjl
     obtain⟨b2,o2,A7,c7,hA6,hb2',i0,i1,i2,i3,i4,i5,i6,i7,i8,i9,-,-⟩:=hs6.out.ins_at hjl;subst hA6;obtain⟨x,hx⟩:∃x,Hid (x=F.code[j]):=⟨_,v9h rfl⟩
     rw[←hx.out] at i0 i1 i2 i3 i4 i5 i6 i7 i8 i9;have hxi:Hid (zh (zb u i) j=x):=by show _=_;rw[hx.out,←hF.out,zQ hjl]
     replace i0:=keptC i0 hb2' hJ.hw;replace i1:=keptC i1 hb2' hJ.hw;replace i2:=keptC i2 hb2' hJ.hw;replace i3:=keptC i3 hb2' hJ.hw;replace i4:=keptC i4 hb2' hJ.hw;replace i5:=keptC i5 hb2' hJ.hw;replace i6:=keptC i6 hb2' hJ.hw;replace i7:=keptC i7 hb2' hJ.hw;replace i8:=keptC i8 hb2' hJ.hw;replace i9:=keptC i9 hb2' hJ.hw;replace hb2':=Nat.lt_of_lt_of_le hb2' hJ.hw.size
     go_upto_region 15 with fail
     clear hb2' i0 i1 i2 i3 i4 i5 i6 i7 i8 i9;generalize hW:World.alloc _ _=W5 at *
     have hb5:Below wr.heap.size wr W5:=by rw[←hW];exact(by repeat(first|assumption|exact v9r|apply zc|apply zd|apply zg|apply ze|apply zi))
     have bi:Box W5 wr.heap.size [.int .i64 x.op,.int .i64 x.dst,.int .i64 x.a,.int .i64 x.b,.int .i64 x.n,.string x.cls,.string x.name,.slice A7 x.args.length c7,.int .i64 x.jmp,.int .i64 x.hnd] 59:=by rw[←hW];exact Box.new _ _ _
     clear hW;have hJ5:=hJ.mono hb5;clear hJ hb5;have y0:=bi.cell 0 rfl;have yl:=bi.lt;obtain⟨b6,hb6⟩:∃b,(x.op==6)=b:=⟨_,rfl⟩
     cases b6 with
     |false=>
      have hn6:Hid ((zh (zb u i) j).op≠6):=by show _≠_;rw[hxi.out];simpa using hb6
      go_wp2_with fail
      refine⟨⟨j+1,by omega,by simp,?_⟩,?_⟩
      ·rw[aa3 hJ2.out,if_neg hn6.out,Nat.add_zero,←agZ hn6.out]
       exact hJ5
      ·simp[intOf];omega
     |true=>
      have h6:Hid ((zh (zb u i) j).op=6):=by show _=_;rw[hxi.out];simpa using hb6
      go_upto_region 16 with fail
      clear y0 yl bi;refine zt 12 (by kernel_rfl) (by kernel_rfl) ?_;have hJ6:=hJ5.mono (zd (v9r));clear hJ5;generalize W5.drew=W6 at *
      have hln:=fun(z:zk W6) ty=>(hJ6.si.later z).len ty
      have q4:=hJ6.bm.cell 4 rfl;have ql:=hJ6.bm.lt;refine RZ.chunkN (f:=0) [0,1,2,3,4,5,6,7,8,9,10,11] (by kernel_rfl) ?_
      ((simp only[zo,List.filterMap,List.getElem?_toArray,List.getElem?_cons_zero,List.getElem?_cons_succ]);(repeat(go_big_quiet_step (fail)));refine wpQuiet_nil ?_)
      (refine RZ.tail (by kernel_rfl) ?_;(simp only[List.drop_succ_cons,List.drop_zero]))
      clear hln q4 ql;have hsn:=acW (u:=u) (i:=i) (j:=j) hcode2.out (by omega) (by omega)
      go_upto_region 17 with(at_mapUpdate;refine kf kP rfl (.tmp 65) (.tmp 68) (.tmp 73) rfl W2.heap.size (siteNo u i j) (sitF u i j) rfl hJ6.si (by unfold maxLen;omega) ((i:Int),(j:Int)) (siteNo u i j:Int) rfl rfl ⟨yY (by omega) (by omega),yY (by omega) (by omega)⟩ ?_;intro W7 hm7 hg7)
      rw[abd];rw[agX,agY hlt hJ2.out h6.out] at hm7;have hJ7:=hJ6.set hm7 hg7;clear hJ6 hm7 hg7
      go_wp2_with fail
      refine⟨⟨j+1,by omega,by simp,?_⟩,?_⟩
      ·rw[aa3 hJ2.out,if_pos h6.out]
       exact hJ7
      ·simp[intOf];omega
    ·have hje:j=F.code.length:=by omega
     subst hje;have hjI:¬((F.code.length:Int)<(F.code.length:Int)):=by omega
     go_wp2_with fail
     refine⟨⟨i+1,by omega,by simp,?_⟩,?_⟩
     ·rw[af6 hlt,←ahS,←hF.out]
      exact hJ
     ·simp[intOf];omega
  ·have hie:i=u.funcs.length:=by omega
   subst hie;have hltI:¬((u.funcs.length:Int)<(u.funcs.length:Int)):=by omega
   have hvl:=(hcode.out mn hmnl).2;have hvl2:(u.funcs[mn]).vars.length≤256:=by rw[←zv hmnl];exact hvl
   have HEN:=v9h (aau wo W2.heap.size (W2.heap.size+2) u.funcs (some ⟨bF,oF,none⟩) cF _ _ _ _ _ _ _ (.slice none 0 0) [] [] 0 mn (-1) none 0 [] hI.bm hI.hw.size (hsf.out _ hI.hw) hmnl hvl2 zy.nil (by simp) Sl.nil (Nat.zero_le _) (fun _=>rfl) (by omega) (by omega));have u2:=(bu2.mono hI.hw).cell 2 rfl;have ul:=(bu2.mono hI.hw).lt
   go_wp2_with fail
   refine HEN.out.mono ?_;rintro e W8 ⟨rfl,vF8,g8,hbm8,hF8,hg8,hK8⟩;clear HEN u2 ul
   have H8:MSt u W2 W8 (W2.heap.size+2) AC (some ⟨bF,oF,none⟩) cC cF (.slice AI l.length cI) vF8 (.slice none 0 0) W2.heap.size (W2.heap.size+1) 0 (yD u l) [g8] []:=by
    rw[hstart.out]
    refine⟨H.out.mono hb2,hI.hw.trans (hK8.toBelow hI.hw.size),by omega,hbm8,?_,zN.nil,⟨rfl,⟨fun _=>none,hI.ob.keptM hK8,fun k o b e=>(by cases e),fun _ _=>rfl⟩,fun k o b e=>(by cases e),by simp⟩,(ahT hI.si).keptM hK8,⟨AI,cI,rfl,hcI,hsI.mono hb2⟩,by simp,fun b hb=>by
     rcases List.mem_cons.1 hb with rfl|hb
     ·exact Nat.le_refl _
     ·rw[List.mem_singleton.1 hb];omega,Nat.le_refl _,Nat.le_refl _⟩
    rw[zv hmnl];exact hF8
   have hR0:ah9 u W2 AC (some ⟨bF,oF,none⟩) cC cF S M W8:=⟨0,yD u l,⟨_,_,_,_,_,H8⟩,hinv0,by rw[hstart.out];rfl,Nat.zero_le _,hM.out,by rw[hstart.out];exact hlI,by rw[hstart.out];show(0:Int)≠4;decide⟩
   clear H8 hbm8 hF8 hg8 hK8 hI hcode hcode2 hstart hinv0 hM hvl hvl2 hltI
   go_wp2_with fail
   go_loopw [83] (fun v wr=>ah9 u W2 AC (some ⟨bF,oF,none⟩) cC cF S M wr) (fun v wr=>S-abR (W2.heap.size+2) wr)
   case atStart=>exact hR0
   case round=>
    clear hR0;obtain⟨k,m,⟨vI,vF,vO,gs,bs,HM⟩,hinv,rfl,hkS,hrun,hin,h4⟩:=hrel;replace hrun:=v9h hrun;replace hinv:=v9h hinv;obtain⟨AO,cO,hvO,-,-⟩:=HM.ob.sl;subst hvO;have q9:=HM.bm.cell 9 rfl;have q8:=HM.bm.cell 8 rfl;have ql:=HM.bm.lt
    by_cases hen:m.en=0
    ·have hln:abR (W2.heap.size+2) wr=m.obs.length:=by unfold abR;rw[q8]
     by_cases hks:m.obs.length=S
     ·have hMe:Hid (M={ m with en:=4}):=by
       show M=_;rw[hrun.out,hks,Nat.sub_self];show(if m.en=0 then{ m with en:=4} else m)=_;rw[if_pos hen]
      have hksI:(((m.obs.length:Nat):Int)==(S:Int))=true:=by rw[hks];simp
      have henI:(m.en==0)=true:=by rw[hen];rfl
      replace hen:=v9h hen;replace hks:=v9h hks;have qf:=fun i=>HM.bm.free i
      go_upto_region 25 with fail
      refine zt 9 (by kernel_rfl) (by kernel_rfl) ?_;clear q9 q8 ql qf;replace HM:MSt u W2 _ (W2.heap.size+2) AC (some ⟨bF,oF,none⟩) cC cF vI vF (.slice AO m.obs.length cO) W2.heap.size (W2.heap.size+1) m.obs.length { m with en:=4} gs bs:=(HM.setEn 4).mono (zd (v9r));generalize World.drew _=W12 at *
      have q9:=HM.bm.cell 9 rfl;have q8:=HM.bm.cell 8 rfl;have ql:=HM.bm.lt;have br:=br2.mono HM.hw;refine RZ.chunkN (f:=0) [0,1,2,3,4,5,6,7,8] (by kernel_rfl) ?_
      ((simp only[zo,List.filterMap,List.getElem?_toArray,List.getElem?_cons_zero,List.getElem?_cons_succ]);(repeat(go_big_quiet_step (fail)));refine wpQuiet_nil ?_)
      (refine RZ.tail (by kernel_rfl) ?_;(simp only[List.drop_succ_cons,List.drop_zero]))
      have y0:=br.cell 0 rfl;have y1:=br.cell 1 rfl;have yf:=fun i=>br.free i
      have yl:=br.lt
      go_wp2_with fail
      clear y0 y1 yf yl q9 q8 ql;obtain⟨bz,hgz⟩:=br.store2 (.int .i64 4) (.slice AO m.obs.length cO);have hO:=HM.ob.keptTyI br.rowTyI (by decide) (by decide) hgz;have hb12:Below w.heap.size w W12:=za hb2 HM.hw;have hbz:=hb12.grown hgz hb12.size (fun k hk=>by injection hk with hk;omega);generalize World.setCell _ _ _=wz at *
      have y0:=bz.cell 0 rfl;have y1:=bz.cell 1 rfl;refine bodyPost_ret (v:= .tuple #[.agg #[.int .i64 4,.slice AO m.obs.length cO],.int .i64 0]) (by simp[results,Tryz.results16,go_sem,y0,y1]) rfl ?_;obtain⟨A',c',e',hc',hs'⟩:=hO.sl;injection e' with e1 e2 e3
      subst e1 e3;refine⟨?_,hbz⟩;rw[hMe.out];exact⟨_,_,rfl,hc',hs'⟩
     ·obtain⟨f,r,hf⟩:∃f r,m.frs=f::r:=by
       cases hq:m.frs with
       |nil=>exact absurd hq (hinv.out.wt.some_ hen)
       |cons f r=>exact⟨f,r,rfl⟩
      have hksI:(((m.obs.length:Nat):Int)==(S:Int))=false:=by rw[beq_eq_false_iff_ne];omega
      have henI:(m.en==0)=true:=by rw[hen];rfl
      have hwt:=hinv.out.wt;have hTf:=hwt.frs f (by rw[hf];simp);have hfr:=HM.fr;rw[hf] at hfr;have hrl:r.length≤64:=by have:=hwt.cnt;rw[hf,List.length_cons] at this;omega
      have hvl:f.vals.length≤256:=by
       rw[hTf.len];obtain⟨p,_,hF⟩:=qA HU.out.u hTf.fn;exact hF.vl
      have HRC:=v9h (af3 wr W2.heap.size (W2.heap.size+2) _ _ _ _ _ _ _ _ _ vF f r gs m.obs HM.bm HM.hw.size hfr HM.ob hrl (by omega) hvl (by omega));have hrnd:=v9h (hinv.out.round HU.out hen)
      have hrun2:Hid (M=runM u (S-(m.obs.length+1)) (jy u (recM m))):=by
       show M=_;rw[hrun.out,show S-m.obs.length=(S-(m.obs.length+1))+1 by omega];show(if m.en=0 then runM u (S-(m.obs.length+1)) (jy u (recM m)) else m)=_;rw[if_pos hen]
      have hf1:Hid ((recM m).frs=f::r):=by show _=_;exact aaN.1.trans hf
      have he1:Hid ((recM m).en=0):=by show _=_;exact aaN.2.trans hen
      have hrq:=v9h (acd hf);clear hwt hTf hvl hrun h4;replace hen:=v9h hen;replace hf:=v9h hf
      go_wp2_with fail
      refine HRC.out.mono ?_;rintro e W4 ⟨rfl,vO4,hbm4,hF4,hO4,hK4⟩
      have H4:MSt u W2 W4 (W2.heap.size+2) AC (some ⟨bF,oF,none⟩) cC cF vI vF vO4 W2.heap.size (W2.heap.size+1) m.obs.length (recM m) gs bs:=by
       rw[hrq.out];exact HM.turn hK4 (Nat.le_refl _) hbm4 (by show zy W4 _ _ m.frs gs;rw[hf.out];exact hF4) hO4 rfl rfl HM.md
      have hol:(recM m).obs.length≤10000:=by rw[hrq.out];show(m.obs++[obOf f]).length≤_;rw[List.length_append,List.length_singleton];omega
      have hin4:(recM m).inp.length≤1000:=by rw[hrq.out];exact hin
      have HST:=v9h (ahR u HU.out W2 W4 (W2.heap.size+2) AC (some ⟨bF,oF,none⟩) cC cF vI vF vO4 W2.heap.size (W2.heap.size+1) m.obs.length (recM m) gs bs H4 hinv.out.wt.recd f r hf1.out he1.out (by omega) hol hin4);clear HRC hbm4 hF4 hO4 hK4 HM q9 q8 ql hfr
      go_wp2_with fail
      refine HST.out.mono ?_;rintro e W5 ⟨rfl,H5⟩;have hs5:zS u (recM m) f r=jy u (recM m):=by unfold jy;rw[hf1.out]
      rw[hs5] at H5;obtain⟨hi5,⟨o5,ho5⟩,h45⟩:=hrnd.out;have hl5:(jy u (recM m)).obs.length=m.obs.length+1:=by rw[ho5,List.length_append,List.length_singleton]
      have hlen5:abR (W2.heap.size+2) W5=m.obs.length+1:=by
       obtain⟨vI5,vF5,vO5,gs5,bs5,H5'⟩:=H5;obtain⟨A5,c5,e5,-,-⟩:=H5'.ob.sl;have q8:=H5'.bm.cell 8 rfl;unfold abR;rw[q8,e5];exact hl5
      go_wp2_with fail
      refine⟨⟨m.obs.length+1,jy u (recM m),H5,hi5,hl5,by omega,hrun2.out,?_,h45⟩,?_⟩
      ·rw[←hs5]
       exact Nat.le_trans ahV hin4
      ·rw[hlen5,hln]
       omega
    ·have hMe:Hid (M=m):=by
      show M=_;rw[hrun.out]
      cases S-m.obs.length with
      |zero=>show(if m.en=0 then{ m with en:=4} else m)=m;rw[if_neg hen]
      |succ n=>show(if m.en=0 then _ else m)=m;rw[if_neg hen]
     have henI:(m.en==0)=false:=by rw[beq_eq_false_iff_ne];exact hen
     go_upto_region 25 with fail
     refine zt 9 (by kernel_rfl) (by kernel_rfl) ?_;clear q9 q8 ql;replace HM:=HM.mono (zd (v9r));generalize wr.drew=W12 at *
     have q9:=HM.bm.cell 9 rfl;have q8:=HM.bm.cell 8 rfl;have ql:=HM.bm.lt;have br:=br2.mono HM.hw;refine RZ.chunkN (f:=0) [0,1,2,3,4,5,6,7,8] (by kernel_rfl) ?_
     ((simp only[zo,List.filterMap,List.getElem?_toArray,List.getElem?_cons_zero,List.getElem?_cons_succ]);(repeat(go_big_quiet_step (fail)));refine wpQuiet_nil ?_)
     (refine RZ.tail (by kernel_rfl) ?_;(simp only[List.drop_succ_cons,List.drop_zero]))
     have y0:=br.cell 0 rfl;have y1:=br.cell 1 rfl;have yf:=fun i=>br.free i
     have yl:=br.lt
     go_wp2_with fail
     clear y0 y1 yf yl q9 q8 ql;obtain⟨bz,hgz⟩:=br.store2 (.int .i64 m.en) (.slice AO m.obs.length cO);have hO:=HM.ob.keptTyI br.rowTyI (by decide) (by decide) hgz;have hb12:Below w.heap.size w W12:=za hb2 HM.hw;have hbz:=hb12.grown hgz hb12.size (fun k hk=>by injection hk with hk;omega);generalize World.setCell _ _ _=wz at *
     have y0:=bz.cell 0 rfl;have y1:=bz.cell 1 rfl;refine bodyPost_ret (v:= .tuple #[.agg #[.int .i64 m.en,.slice AO m.obs.length cO],.int .i64 0]) (by simp[results,Tryz.results16,go_sem,y0,y1]) rfl ?_;obtain⟨A',c',e',hc',hs'⟩:=hO.sl;injection e' with e1 e2 e3
     subst e1 e3;refine⟨?_,hbz⟩;rw[hMe.out];exact⟨_,_,rfl,hc',hs'⟩
def abS(e:Ending):Prop:=∃n:Int,n≠0∧e = .returned (.tuple #[.agg #[.int .i64 0,.slice none 0 0],.int .i64 n])
theorem aiU(u:Unt)(w:World)(AC AF:Option Addr)(cC cF:Nat)(H:Hid (UnH w u AC AF cC))(AI:Option Addr)(cI n:Nat)(S:Int)(hch:(chkE u).2.2≠0) :
  Calls Tryz.prog 16 #[.agg #[.slice AC u.classes.length cC,.slice AF u.funcs.length cF,.int .i64 u.main],.slice AI n cI,.int .i64 S] w fun e w'=>abS e∧Below w.heap.size w w':=by
 have HCK:Hid (∀W,Below w.heap.size w W→Calls Tryz.prog 43 #[.agg #[.slice AC u.classes.length cC,.slice AF u.funcs.length cF,.int .i64 u.main]] W fun e w'=>e = .returned (.tuple #[.int .i64 (chkE u).1,.int .i64 (chkE u).2.1,.int .i64 (chkE u).2.2])∧Below W.heap.size W w'):=fun W h=>ky u AC AF cC cF W (v9h (H.out.mono h))
 obtain⟨⟨e1,e2,e3⟩,hce⟩:∃x,x=chkE u:=⟨_,rfl⟩
 rw[←hce] at HCK hch;replace HCK:Hid (∀W,Below w.heap.size w W→Calls Tryz.prog 43 #[.agg #[.slice AC u.classes.length cC,.slice AF u.funcs.length cF,.int .i64 u.main]] W fun e w'=>e = .returned (.tuple #[.int .i64 e1,.int .i64 e2,.int .i64 e3])∧Below W.heap.size W w'):=HCK;replace hch:e3≠0:=hch;clear H hce;have t1:(e3 != 0)=true:=by rw[bne_iff_ne];exact hch
 go_enter Tryz.func16,Tryz.ntmps16
 go_upto_region 1 with fail
 generalize hW:World.alloc (World.alloc _ _) _=W1 at *
 have hb1:Below w.heap.size w W1:=by rw[←hW];exact(by repeat(first|assumption|exact v9r|apply zc|apply zd|apply zg|apply ze|apply zi))
 have bu1:Box W1 w.heap.size [.slice AC u.classes.length cC,.slice AF u.funcs.length cF,.int .i64 u.main] 32:=by rw[←hW];exact(Box.new _ _ _).alloc _
 have br1:Box W1 (w.heap.size+1) [.int .i64 0,.slice none 0 0] 47:=by rw[←hW];exact Box.at (w:=w.alloc _) (by simp)
 clear hW;have u0:=bu1.cell 0 rfl;have u1:=bu1.cell 1 rfl;have u2:=bu1.cell 2 rfl;have ul:=bu1.lt
 go_wp2_with fail
 refine(HCK.out _ hb1).mono ?_;rintro e W2 ⟨rfl,hb12⟩;have hb2:=za hb1 hb12;have br2:=br1.mono hb12;clear u0 u1 u2 ul HCK bu1 br1 hb1 hb12;have y0:=br2.cell 0 rfl;have y1:=br2.cell 1 rfl;have yf:=fun i=>br2.free i
 have yl:=br2.lt
 go_wp2_with fail
 clear y0 y1 yf yl;obtain⟨bz,hgz⟩:=br2.store2 (.int .i64 0) (.slice none 0 0);have hbz:=hb2.grown hgz hb2.size (fun k hk=>by injection hk with hk;omega);generalize World.setCell _ _ _=wz at *
 have y0:=bz.cell 0 rfl;have y1:=bz.cell 1 rfl;refine bodyPost_ret (v:= .tuple #[.agg #[.int .i64 0,.slice none 0 0],.int .i64 e3]) (by simp[results,Tryz.results16,go_sem,y0,y1]) rfl ?_;exact⟨⟨_,hch,rfl⟩,hbz⟩
theorem ahW(u:Unt)(w:World)(AC AF:Option Addr)(cC cF:Nat)(H:Hid (UnH w u AC AF cC))(AI:Option Addr)(cI n:Nat)(S:Int)(hch:(chkE u).2.2=0)(hl:1000<n) :
  Calls Tryz.prog 16 #[.agg #[.slice AC u.classes.length cC,.slice AF u.funcs.length cF,.int .i64 u.main],.slice AI n cI,.int .i64 S] w fun e w'=>abS e∧Below w.heap.size w w':=by
 have HCK:Hid (∀W,Below w.heap.size w W→Calls Tryz.prog 43 #[.agg #[.slice AC u.classes.length cC,.slice AF u.funcs.length cF,.int .i64 u.main]] W fun e w'=>e = .returned (.tuple #[.int .i64 (chkE u).1,.int .i64 (chkE u).2.1,.int .i64 (chkE u).2.2])∧Below W.heap.size W w'):=fun W h=>ky u AC AF cC cF W (v9h (H.out.mono h))
 obtain⟨⟨e1,e2,e3⟩,hce⟩:∃x,x=chkE u:=⟨_,rfl⟩
 rw[←hce] at HCK hch;replace HCK:Hid (∀W,Below w.heap.size w W→Calls Tryz.prog 43 #[.agg #[.slice AC u.classes.length cC,.slice AF u.funcs.length cF,.int .i64 u.main]] W fun e w'=>e = .returned (.tuple #[.int .i64 e1,.int .i64 e2,.int .i64 e3])∧Below W.heap.size W w'):=HCK;replace hch:e3=0:=hch;clear H hce;subst hch;have t1:(1000:Int)<(n:Int):=by omega
 go_enter Tryz.func16,Tryz.ntmps16
 go_upto_region 1 with fail
 generalize hW:World.alloc (World.alloc _ _) _=W1 at *
 have hb1:Below w.heap.size w W1:=by rw[←hW];exact(by repeat(first|assumption|exact v9r|apply zc|apply zd|apply zg|apply ze|apply zi))
 have bu1:Box W1 w.heap.size [.slice AC u.classes.length cC,.slice AF u.funcs.length cF,.int .i64 u.main] 32:=by rw[←hW];exact(Box.new _ _ _).alloc _
 have br1:Box W1 (w.heap.size+1) [.int .i64 0,.slice none 0 0] 47:=by rw[←hW];exact Box.at (w:=w.alloc _) (by simp)
 clear hW;have u0:=bu1.cell 0 rfl;have u1:=bu1.cell 1 rfl;have u2:=bu1.cell 2 rfl;have ul:=bu1.lt
 go_wp2_with fail
 refine(HCK.out _ hb1).mono ?_;rintro e W2 ⟨rfl,hb12⟩;have hb2:=za hb1 hb12;have br2:=br1.mono hb12;clear u0 u1 u2 ul HCK bu1 br1 hb1 hb12;have y0:=br2.cell 0 rfl;have y1:=br2.cell 1 rfl;have yf:=fun i=>br2.free i
 have yl:=br2.lt
 go_wp2_with fail
 clear y0 y1 yf yl;obtain⟨bz,hgz⟩:=br2.store2 (.int .i64 0) (.slice none 0 0);have hbz:=hb2.grown hgz hb2.size (fun k hk=>by injection hk with hk;omega);generalize World.setCell _ _ _=wz at *
 have y0:=bz.cell 0 rfl;have y1:=bz.cell 1 rfl;refine bodyPost_ret (v:= .tuple #[.agg #[.int .i64 0,.slice none 0 0],.int .i64 3]) (by simp[results,Tryz.results16,go_sem,y0,y1]) rfl ?_;exact⟨⟨_,by decide,rfl⟩,hbz⟩
theorem aiV(u:Unt)(w:World)(AC AF:Option Addr)(cC cF:Nat)(H:Hid (UnH w u AC AF cC))(AI:Option Addr)(cI n:Nat)(S:Int)(hch:(chkE u).2.2=0)(hl:n≤1000)(hS:S<0) :
  Calls Tryz.prog 16 #[.agg #[.slice AC u.classes.length cC,.slice AF u.funcs.length cF,.int .i64 u.main],.slice AI n cI,.int .i64 S] w fun e w'=>abS e∧Below w.heap.size w w':=by
 have HCK:Hid (∀W,Below w.heap.size w W→Calls Tryz.prog 43 #[.agg #[.slice AC u.classes.length cC,.slice AF u.funcs.length cF,.int .i64 u.main]] W fun e w'=>e = .returned (.tuple #[.int .i64 (chkE u).1,.int .i64 (chkE u).2.1,.int .i64 (chkE u).2.2])∧Below W.heap.size W w'):=fun W h=>ky u AC AF cC cF W (v9h (H.out.mono h))
 obtain⟨⟨e1,e2,e3⟩,hce⟩:∃x,x=chkE u:=⟨_,rfl⟩
 rw[←hce] at HCK hch;replace HCK:Hid (∀W,Below w.heap.size w W→Calls Tryz.prog 43 #[.agg #[.slice AC u.classes.length cC,.slice AF u.funcs.length cF,.int .i64 u.main]] W fun e w'=>e = .returned (.tuple #[.int .i64 e1,.int .i64 e2,.int .i64 e3])∧Below W.heap.size W w'):=HCK;replace hch:e3=0:=hch;clear H hce;subst hch;have t1:¬(1000:Int)<(n:Int):=by omega
 go_enter Tryz.func16,Tryz.ntmps16
 go_upto_region 1 with fail
 generalize hW:World.alloc (World.alloc _ _) _=W1 at *
 have hb1:Below w.heap.size w W1:=by rw[←hW];exact(by repeat(first|assumption|exact v9r|apply zc|apply zd|apply zg|apply ze|apply zi))
 have bu1:Box W1 w.heap.size [.slice AC u.classes.length cC,.slice AF u.funcs.length cF,.int .i64 u.main] 32:=by rw[←hW];exact(Box.new _ _ _).alloc _
 have br1:Box W1 (w.heap.size+1) [.int .i64 0,.slice none 0 0] 47:=by rw[←hW];exact Box.at (w:=w.alloc _) (by simp)
 clear hW;have u0:=bu1.cell 0 rfl;have u1:=bu1.cell 1 rfl;have u2:=bu1.cell 2 rfl;have ul:=bu1.lt
 go_wp2_with fail
 refine(HCK.out _ hb1).mono ?_;rintro e W2 ⟨rfl,hb12⟩;have hb2:=za hb1 hb12;have br2:=br1.mono hb12;clear u0 u1 u2 ul HCK bu1 br1 hb1 hb12;have y0:=br2.cell 0 rfl;have y1:=br2.cell 1 rfl;have yf:=fun i=>br2.free i
 have yl:=br2.lt
 go_wp2_with fail
 clear y0 y1 yf yl;obtain⟨bz,hgz⟩:=br2.store2 (.int .i64 0) (.slice none 0 0);have hbz:=hb2.grown hgz hb2.size (fun k hk=>by injection hk with hk;omega);generalize World.setCell _ _ _=wz at *
 have y0:=bz.cell 0 rfl;have y1:=bz.cell 1 rfl;refine bodyPost_ret (v:= .tuple #[.agg #[.int .i64 0,.slice none 0 0],.int .i64 4]) (by simp[results,Tryz.results16,go_sem,y0,y1]) rfl ?_;exact⟨⟨_,by decide,rfl⟩,hbz⟩
theorem aiW(u:Unt)(w:World)(AC AF:Option Addr)(cC cF:Nat)(H:Hid (UnH w u AC AF cC))(AI:Option Addr)(cI n:Nat)(S:Int)(hch:(chkE u).2.2=0)(hl:n≤1000)(hS:5000<S) :
  Calls Tryz.prog 16 #[.agg #[.slice AC u.classes.length cC,.slice AF u.funcs.length cF,.int .i64 u.main],.slice AI n cI,.int .i64 S] w fun e w'=>abS e∧Below w.heap.size w w':=by
 have HCK:Hid (∀W,Below w.heap.size w W→Calls Tryz.prog 43 #[.agg #[.slice AC u.classes.length cC,.slice AF u.funcs.length cF,.int .i64 u.main]] W fun e w'=>e = .returned (.tuple #[.int .i64 (chkE u).1,.int .i64 (chkE u).2.1,.int .i64 (chkE u).2.2])∧Below W.heap.size W w'):=fun W h=>ky u AC AF cC cF W (v9h (H.out.mono h))
 obtain⟨⟨e1,e2,e3⟩,hce⟩:∃x,x=chkE u:=⟨_,rfl⟩
 rw[←hce] at HCK hch;replace HCK:Hid (∀W,Below w.heap.size w W→Calls Tryz.prog 43 #[.agg #[.slice AC u.classes.length cC,.slice AF u.funcs.length cF,.int .i64 u.main]] W fun e w'=>e = .returned (.tuple #[.int .i64 e1,.int .i64 e2,.int .i64 e3])∧Below W.heap.size W w'):=HCK;replace hch:e3=0:=hch;clear H hce;subst hch;have t1:¬(1000:Int)<(n:Int):=by omega
 have t2:¬S<0:=by omega
 go_enter Tryz.func16,Tryz.ntmps16
 go_upto_region 1 with fail
 generalize hW:World.alloc (World.alloc _ _) _=W1 at *
 have hb1:Below w.heap.size w W1:=by rw[←hW];exact(by repeat(first|assumption|exact v9r|apply zc|apply zd|apply zg|apply ze|apply zi))
 have bu1:Box W1 w.heap.size [.slice AC u.classes.length cC,.slice AF u.funcs.length cF,.int .i64 u.main] 32:=by rw[←hW];exact(Box.new _ _ _).alloc _
 have br1:Box W1 (w.heap.size+1) [.int .i64 0,.slice none 0 0] 47:=by rw[←hW];exact Box.at (w:=w.alloc _) (by simp)
 clear hW;have u0:=bu1.cell 0 rfl;have u1:=bu1.cell 1 rfl;have u2:=bu1.cell 2 rfl;have ul:=bu1.lt
 go_wp2_with fail
 refine(HCK.out _ hb1).mono ?_;rintro e W2 ⟨rfl,hb12⟩;have hb2:=za hb1 hb12;have br2:=br1.mono hb12;clear u0 u1 u2 ul HCK bu1 br1 hb1 hb12;have y0:=br2.cell 0 rfl;have y1:=br2.cell 1 rfl;have yf:=fun i=>br2.free i
 have yl:=br2.lt
 go_wp2_with fail
 clear y0 y1 yf yl;obtain⟨bz,hgz⟩:=br2.store2 (.int .i64 0) (.slice none 0 0);have hbz:=hb2.grown hgz hb2.size (fun k hk=>by injection hk with hk;omega);generalize World.setCell _ _ _=wz at *
 have y0:=bz.cell 0 rfl;have y1:=bz.cell 1 rfl;refine bodyPost_ret (v:= .tuple #[.agg #[.int .i64 0,.slice none 0 0],.int .i64 4]) (by simp[results,Tryz.results16,go_sem,y0,y1]) rfl ?_;exact⟨⟨_,by decide,rfl⟩,hbz⟩
theorem ajp:(runM untV 9 (yD untV [7])).en=1:=by kernel_rfl
theorem afh:(runM untV 9 (yD untV [7])).obs=[⟨0,0,0,-1,[(0,0,0)]⟩,⟨0,1,0,-1,[(1,7,0)]⟩]:=by kernel_rfl
theorem ahX(w:World)(AC:Option Addr)(cC:Nat)(AF:Option Addr)(cF:Nat)(gi:Nat)(H:Hid (UnH w untV AC AF cC))(hgi:gi<w.heap.size)(hi:w.cell? ⟨gi,0,none⟩=some (.int .i64 7)) :
  Calls Tryz.prog 16 #[.agg #[.slice AC 1 cC,.slice AF 1 cF,.int .i64 0],.slice (some ⟨gi,0,none⟩) 1 1,.int .i64 9] w fun e w'=>(∃(A:Option Addr) (c:Nat),e = .returned (.tuple #[.agg #[.int .i64 1,.slice A 2 c],.int .i64 0])∧Sl Lay.ob w' A [⟨0,0,0,-1,[(0,0,0)]⟩,⟨0,1,0,-1,[(1,7,0)]⟩])∧Below w.heap.size w w':=by
 have hs:Sl Lay.int w (some ⟨gi,0,none⟩) [7]:=fun i x hx=>by
  cases i with
  |zero=>
   injection hx with hx
   subst hx
   exact⟨gi,0,[.int .i64 7],rfl,hgi,rfl,fun j v hj=>by
    cases j with
    |zero=>injection hj with hj;subst hj;exact hi
    |succ j=>cases hj⟩
  |succ i=>cases hx
 have:=ag1 untV w AC AF cC cF H (by rw[aef]) (some ⟨gi,0,none⟩) 1 [7] (by decide) hs (by decide) 9 (by decide);refine(this:Calls Tryz.prog 16 #[.agg #[.slice AC 1 cC,.slice AF 1 cF,.int .i64 0],.slice (some ⟨gi,0,none⟩) 1 1,.int .i64 9] w _).mono (fun e w' h=>⟨?_,h.2⟩);obtain⟨⟨A,c,he,hc,hS⟩,_⟩:=h;rw[ajp,afh] at he;rw[afh] at hS;exact⟨A,c,he,hS⟩
theorem aa4(w:World)(hfx:Hid (yw w))(hkw:Hid (KwX w)):Calls Tryz.prog 12 #[] w fun e w'=>e = .returned (.bool true)∧Below w.heap.size w w':=by
 have HU:Hid (∀(W:World) (AC AF:Option Addr) (cC:Nat),Below w.heap.size w W→1≤cC→Sl Lay.cls W AC untV.classes→Sl Lay.fun W AF untV.funcs→UnH W untV AC AF cC):=fun W AC AF cC h hc hs hf=>
  ⟨by decide,hc,hs,aed,acP,hf,by decide,aee,hfx.out.mono h,hkw.out.mono h⟩
 clear hfx hkw
 go_enter Tryz.func12,Tryz.ntmps12
 go_wp2_with fail
 refine(af0 _).mono ?_;rintro e w1 ⟨⟨AC,AF,cC,cF,rfl,hcC,hcF,hsC,hsF⟩,hb1⟩
 go_upto_region 2 with fail
 generalize hW:World.alloc _ _=W2 at *
 have hb12:Below w1.heap.size w1 W2:=by rw[←hW];exact zc (v9r)
 have bu:Box W2 w1.heap.size [.slice AC 1 cC,.slice AF 1 cF,.int .i64 0] 32:=by rw[←hW];exact Box.new _ _ _
 clear hW;have hb2:=za hb1 hb12;have u0:=bu.cell 0 rfl;have u1:=bu.cell 1 rfl;have u2:=bu.cell 2 rfl;have ul:=bu.lt;have HR:=v9h (ahX (W2.alloc (.cells #[.int .i64 7] 2)) AC cC AF cF W2.heap.size (v9h (HU.out _ _ _ _ (zc hb2) hcC (hsC.mono (zc hb12)) (hsF.mono (zc hb12)))) (by simp) ((Box.new W2 [.int .i64 7] 2).cell 0 rfl))
 go_wp2_with fail
 refine HR.out.mono ?_;rintro e w3 ⟨⟨AO,cO,rfl,hO⟩,hb3⟩;obtain⟨gO,oO,AK,cK,hAO,-,-,-,-,-,-,-,-⟩:=hO.ob_at (i:=1) (by decide);subst hAO;have hb3':=za (zc hb2) hb3;clear HR u0 u1 u2 ul HU hsC hsF bu hb12 hb3
 go_upto_region 3 with fail
 generalize hW:World.alloc w3 _=W4 at *
 have hb34:Below w3.heap.size w3 W4:=by rw[←hW];exact zc (v9r)
 have bx:Box W4 w3.heap.size [.int .i64 1,.slice (some ⟨gO,oO,none⟩) 2 cO] 47:=by rw[←hW];exact Box.new _ _ _
 clear hW;have hb4:=za hb3' hb34;replace hO:=hO.mono hb34;have x0:=bx.cell 0 rfl;have x1:=bx.cell 1 rfl;have xl:=bx.lt;obtain⟨gO2,oO2,AK2,cK2,hAO2,ol,-,-,-,-,o4,-,hK⟩:=hO.ob_at (i:=1) (by decide);injection hAO2 with hAO2
 injection hAO2 with h1 h2 _
 subst h1 h2;obtain⟨gk,ok_,hAK,kl,-,k1,-⟩:=hK.vl_at (i:=0) (by decide);subst hAK;replace o4:W4.cell? ⟨gO,oO+9,none⟩=some (.slice (some ⟨gk,ok_,none⟩) 1 cK2):=o4;replace k1:W4.cell? ⟨gk,ok_+1,none⟩=some (.int .i64 7):=k1
 have HB:Hid (∀W,Calls Tryz.prog 10 #[.int .i64 3,.int .i64 6,.int .i64 7] W fun e w'=>e = .returned (.tuple #[.int .i64 42,.int .i64 0])∧W=w'):=fun W=>by
  have:=afc 3 6 7 W;rw[show binP 3 6 7=(42,0) by kernel_rfl] at this;exact this
 clear hO hK hb34 bx
 go_wp2_with fail
 refine(HB.out _).mono ?_;rintro e w5 ⟨rfl,rfl⟩
 go_wp2_with fail
 go_ret
 exact⟨rfl,hb4⟩
end Go.Proofs.YtmhdambkchlilaaGreatDoor
