/- Chapter 15: the statement about types of values, walked (for any unit, any input). -/
import Derived.Test.YtmhdambkchlilaaGreatDoorJRxR
namespace Go.Proofs.YtmhdambkchlilaaGreatDoor
open Go.RowKit
set_option linter.unusedVariables false
set_option maxRecDepth 100000
set_option maxHeartbeats 16000000
def siL(u:Unt)(i j:Nat):List ByteArray:=((((u.funcs.take i).flatMap (·.code))++(zb u i).code.take j).filter jx).map (·.cls)
section
variable {u:Unt} {i j:Nat}
theorem aiX(h:∀f∈u.funcs,f.code.length≤1024)(hi:i≤256)(hj:j≤1024):(siL u i j).length≤300000:=by
 have:=acW (u:=u) h hi hj;unfold siL;rw[List.length_map,←List.countP_eq_length_filter,List.countP_append];exact this
theorem aiY(hj:j<(zb u i).code.length)(h:(zh (zb u i) j).op=6):siL u i (j+1)=siL u i j++[(zh (zb u i) j).cls]:=by
 unfold siL;rw[List.take_succ_eq_append_getElem hj,←List.append_assoc,List.filter_append,List.map_append,←zQ hj];have e:jx (zh (zb u i) j)=true:=by unfold jx;rw[decide_eq_true h]
 rw[List.filter_cons,if_pos e]
 rfl
theorem ajq(hj:j<(zb u i).code.length)(h:(zh (zb u i) j).op≠6):siL u i (j+1)=siL u i j:=by
 unfold siL;rw[List.take_succ_eq_append_getElem hj,←List.append_assoc,List.filter_append,List.map_append,←zQ hj];have e:jx (zh (zb u i) j)=false:=by unfold jx;rw[decide_eq_false h]
 rw[List.filter_cons,if_neg (by rw[e];decide)]
 simp
theorem aiZ(hi:i<u.funcs.length):siL u (i+1) 0=siL u i (zb u i).code.length:=by
 unfold siL;rw[List.take_succ_eq_append_getElem hi,List.flatMap_append,List.take_zero,List.take_length,←zv hi]
 simp
theorem ai0:siL u u.funcs.length 0=yg u:=by
 unfold siL yg;rw[List.take_length,List.take_zero,List.append_nil]
end
theorem abe(u:Unt)(AC AF:Option Addr)(cC cF:Nat)(AI:Option Addr)(cI:Nat)(l:List Int)(w:World)(H:Hid (UnR w u AC AF cC))(hcI:l.length≤cI)(hsI:Sl Lay.int w AI l)(hfx:Hid (yw w))(hkw:Hid (KwX w)) :
  Calls Tryz.prog 6 #[.agg #[.slice AC u.classes.length cC,.slice AF u.funcs.length cF,.int .i64 u.main],.slice AI l.length cI] w fun e w'=>e = .returned (.bool true)∧Below w.heap.size w w':=by
 have HAW:Hid (∀W,Below w.heap.size w W→Calls Tryz.prog 12 #[] W fun e w'=>e = .returned (.bool true)∧Below W.heap.size W w'):=fun W h=>aa4 W (v9h (hfx.out.mono h)) (v9h (hkw.out.mono h))
 have HRUN:Hid (∀W,Below w.heap.size w W→Calls Tryz.prog 16 #[.agg #[.slice AC u.classes.length cC,.slice AF u.funcs.length cF,.int .i64 u.main],.slice AI l.length cI,.int .i64 200] W fun e w'=>aaP u l 200 w' e∧Below W.heap.size W w'):=fun W h=>
  afi u W AC AF cC cF (v9h (by have k:=H.out;exact(⟨k.hl,k.hcc,k.hs,k.hok,k.hlk,k.hf,k.hfl,k.hfo,hfx.out,hkw.out⟩:UnH w u AC AF cC).mono h)) AI cI l hcI (hsI.mono h) 200
 have HSUB:Hid (∀W,Below w.heap.size w W→∀a b,Calls Tryz.prog 20 #[.agg #[.slice AC u.classes.length cC],.string a,.string b] W fun e w'=>e = .returned (.bool (hasS (zx u.classes a) b))∧Below W.heap.size W w'):=fun W h a b=>abG AC cC u.classes a b W H.out.hl (H.out.hs.mono h)
 have hsf:Hid (Sl Lay.fun w AF u.funcs):=H.out.hf;clear hfx hkw H hsI hcI
 go_enter Tryz.func6,Tryz.ntmps6
 go_upto_region 1 with fail
 generalize hW:World.alloc _ _=W1 at *
 have hb1:Below w.heap.size w W1:=by rw[←hW];exact(by repeat(first|assumption|exact v9r|apply zc|apply zd|apply zg|apply ze|apply zi))
 have bu:Box W1 w.heap.size [.slice AC u.classes.length cC,.slice AF u.funcs.length cF,.int .i64 u.main] 32:=by rw[←hW];exact Box.new _ _ _
 clear hW;have u0:=bu.cell 0 rfl;have u1:=bu.cell 1 rfl;have u2:=bu.cell 2 rfl;have ul:=bu.lt
 go_wp2_with fail
 refine(HRUN.out _ hb1).mono ?_;rintro e W2 ⟨hR,hq⟩;have hb2:=za hb1 hq;have bu2:=bu.mono hq;clear hq u0 u1 u2 ul bu hb1 HRUN;obtain⟨M,hM⟩:∃M,Hid (M=runM u (200:Int).toNat (yD u l)):=⟨_,v9h rfl⟩
 unfold aaP at hR;rw[←hM.out] at hR
 rcases hR with⟨n,hn,rfl⟩|⟨hch,-,A,c,rfl,hc,hS⟩
 ·have hn':(n != 0)=true:=by rw[bne_iff_ne];exact hn
  go_upto_region 3 with fail
  generalize hW:World.alloc _ _=W3 at *
  have hb23:Below W2.heap.size W2 W3:=by rw[←hW];exact(by repeat(first|assumption|exact v9r|apply zc|apply zd|apply zg|apply ze|apply zi))
  clear hW;have hb3:=za hb2 hb23
  go_wp2_with fail
  refine(HAW.out _ hb3).mono ?_;rintro e w4 ⟨rfl,hq⟩
  go_wp2_with fail
  go_ret
  exact⟨rfl,za hb3 hq⟩
 ·have HU:=UV.of hch
  have HALL:Hid (AllF u M.obs):=by
   show AllF u M.obs;rw[hM.out];exact(xZ HU _ (yD u l) (Inv.start HU l)).1
  have hML:M.obs.length≤200:=by
   rw[hM.out];have:=(ace HU 0 200 (yD u l) (Inv.start HU l) (by show(0:Int)≠4;decide)).2.1;exact this
  clear hM;have hm0:=HU.u.m0;have hm1:=HU.u.m1;have hfl:=HU.u.hfl
  have hcode:Hid (∀i,i<u.funcs.length→(zb u i).code.length≤1024∧(zb u i).vars.length≤256):=fun i hi=>by
   obtain⟨p,_,hF⟩:=qA HU.u hi;exact⟨hF.cl1,hF.vl⟩
  have hcode2:Hid (∀f∈u.funcs,f.code.length≤1024):=fun f hf=>by
   obtain⟨i,hi,rfl⟩:=List.getElem_of_mem hf;have:=(hcode.out i hi).1;rwa[zv hi] at this
  obtain⟨bF,oF,hAF⟩:∃b o,AF=some ⟨b,o,none⟩:=by
   obtain⟨b,o,_,_,_,_,e,_⟩:=hsf.out.fun_at (i:=u.main.toNat) (by omega);exact⟨b,o,e⟩
  subst hAF;replace HU:=v9h HU;clear hch
  go_upto_region 2 with fail
  generalize hW:World.alloc _ _=W3 at *
  have hb23:Below W2.heap.size W2 W3:=by rw[←hW];exact(by repeat(first|assumption|exact v9r|apply zc|apply zd|apply zg|apply ze|apply zi))
  have be:Box W3 W2.heap.size [.int .i64 M.en,.slice A M.obs.length c] 47:=by rw[←hW];exact Box.new _ _ _
  clear hW;have hb3:=za hb2 hb23;have bu3:=bu2.mono hb23;have hS3:=hS.mono hb23;clear hb2 hb23 bu2 hS
  go_upto_region 6 with fail
  go_loopw [7,8] (fun v7 v8 wr=>∃i:Nat,i≤u.funcs.length∧v8 = .int .i64 i∧Own yd 1 W3.heap.size 9 wr v7 (siL u i 0)∧Below W3.heap.size W3 wr) (fun _ v8 _=>u.funcs.length-(intOf v8).toNat)
  case atStart=>exact⟨0,Nat.zero_le _,rfl,Own.nil,v9r⟩
  case round=>
   obtain⟨i,hi,rfl,hO,hbr⟩:=hrel;obtain⟨wo,rfl⟩:∃wo:World,wo=wr:=⟨_,rfl⟩
   have u1:=(bu3.mono hbr).cell 1 rfl;have ul:=(bu3.mono hbr).lt
   by_cases hlt:i<u.funcs.length
   ·have hltI:(i:Int)<(u.funcs.length:Int):=by omega
    obtain⟨b',o',A4,c4,A6,c6,hAF,hb,-,-,-,-,-,-,d6,-,-,hc6,hs6⟩:=hsf.out.fun_at hlt;injection hAF with hAF
    injection hAF with h1 h2 _
    subst h1 h2;have hcl:=(hcode.out i hlt).1;have hF1:Hid (u.funcs[i]=zb u i):=(zv hlt).symm;rw[hF1.out] at d6 hc6 hs6;obtain⟨F,hF⟩:∃F,Hid (F=zb u i):=⟨_,v9h rfl⟩
    rw[←hF.out] at d6 hc6 hs6 hcl;replace hs6:=v9h hs6;have D6:Hid (∀W,Below W3.heap.size W3 W→bF<W.heap.size∧W.cell? ⟨bF,oF+i*7+6,none⟩=some (.slice A6 F.code.length c6)):=fun W h=>⟨Nat.lt_of_lt_of_le hb (za hb3 h).size,keptC d6 hb (za hb3 h)⟩
    clear d6 hb
    go_upto_region 9 with fail
    clear u1 ul
    go_loopw [7,9] (fun v7 v9 wr=>∃j:Nat,j≤F.code.length∧v9 = .int .i64 j∧Own yd 1 W3.heap.size 9 wr v7 (siL u i j)∧Below W3.heap.size W3 wr) (fun _ v9 _=>F.code.length-(intOf v9).toNat)
    case atStart=>exact⟨0,Nat.zero_le _,rfl,hO,hbr⟩
    case round=>
     clear hO hbr;obtain⟨j,hj,rfl,hO,hbr⟩:=hrel;have u1:=(bu3.mono hbr).cell 1 rfl;have ul:=(bu3.mono hbr).lt;obtain⟨hb,d6⟩:=D6.out _ hbr
     by_cases hjl:j<F.code.length
     ·have hjI:(j:Int)<(F.code.length:Int):=by omega
      have hJ2:Hid (j<(zb u i).code.length):=by show _<_;rw[←hF.out];exact hjl
      obtain⟨b2,o2,A7,c7,hA6,hb2',i0,-,-,-,-,i5,-,-,-,-,-,-⟩:=hs6.out.ins_at hjl;subst hA6;obtain⟨x,hx⟩:∃x,Hid (x=F.code[j]):=⟨_,v9h rfl⟩
      rw[←hx.out] at i0 i5;have hxi:Hid (zh (zb u i) j=x):=by show _=_;rw[hx.out,←hF.out,zQ hjl]
      replace i0:=keptC i0 hb2' (za hb3 hbr);replace i5:=keptC i5 hb2' (za hb3 hbr);replace hb2':=Nat.lt_of_lt_of_le hb2' (za hb3 hbr).size;obtain⟨b6,hb6⟩:∃b,(x.op==6)=b:=⟨_,rfl⟩
      cases b6 with
      |false=>
       have hn6:Hid ((zh (zb u i) j).op≠6):=by show _≠_;rw[hxi.out];simpa using hb6
       go_wp2_with fail
       refine⟨⟨j+1,by omega,by simp,?_,hbr⟩,?_⟩
       ·rw[ajq hJ2.out hn6.out]
        exact hO
       ·simp[intOf];omega
      |true=>
       have h6:Hid ((zh (zb u i) j).op=6):=by show _=_;rw[hxi.out];simpa using hb6
       have hsl:=aiX (u:=u) (i:=i) (j:=j) hcode2.out (by omega) (by omega)
       go_wp2_with (at_builtin;refine zF ks yA rfl (.tmp 53) (.tmp 64) rfl W3.heap.size _ (siL u i j) rfl (hO.alloc _) x.cls _ _ rfl (zY _ _ _) (by unfold maxLen;omega) (by omega) (by have:=hbr.size;simp;omega) ?_;intro v4 W4 hO4 hb4 hg4)
       refine⟨⟨j+1,by omega,by simp,?_,(hbr.trans ((zc (v9r)).mono hbr.size)).trans hb4⟩,?_⟩
       ·rw[aiY hJ2.out h6.out,hxi.out]
        exact hO4
       ·simp[intOf];omega
     ·have hje:j=F.code.length:=by omega
      subst hje;have hjI:¬((F.code.length:Int)<(F.code.length:Int)):=by omega
      go_wp2_with fail
      refine⟨⟨i+1,by omega,by simp,?_,hbr⟩,?_⟩
      ·rw[aiZ hlt,←hF.out]
       exact hO
      ·simp[intOf];omega
   ·have hie:i=u.funcs.length:=by omega
    subst hie;have hltI:¬((u.funcs.length:Int)<(u.funcs.length:Int)):=by omega
    rw[ai0] at hO
    go_upto_region 14 with fail
    have hvb:Hid (∀i,i<u.funcs.length→(zb u i).vars.length≤256):=fun i hi=>(hcode.out i hi).2
    clear u1 ul hcode hcode2 hltI;obtain⟨AS,cS,rfl⟩:=hO.sliceOf;have HSS:Hid (Sl Lay.str wo AS (yg u)):=(jE (L:=Lay.str) hO rfl (fun _=>rfl)).2;have bu5:=bu3.mono hbr;have be5:=be.mono hbr;have HS5:=v9h (hS3.mono hbr);have hb5:=za hb3 hbr;clear hO hbr hb3 bu3 be hS3
    go_loopw [10] (fun v wr=>∃n:Nat,n≤M.obs.length∧v = .int .i64 n∧Below wo.heap.size wo wr) (fun v _=>M.obs.length-(intOf v).toNat)
    case atStart=>exact⟨0,Nat.zero_le _,rfl,v9r⟩
    case round=>
     obtain⟨n,hn,rfl,hbr⟩:=hrel;have e1:=(be5.mono hbr).cell 1 rfl;have el:=(be5.mono hbr).lt;have hbw:=za hb5 hbr
     by_cases hnl:n<M.obs.length
     ·have hnI:(n:Int)<(M.obs.length:Int):=by omega
      obtain⟨bX,oX,AO,cO,hAX,hbX,x0,x1,x2,x3,x4,hcO,hsO⟩:=(HS5.out.mono hbr).ob_at hnl;subst hAX;have hob:=(HALL.out n M.obs[n] (List.getElem?_eq_getElem hnl)).2;obtain⟨o,ho⟩:∃o,o=M.obs[n]:=⟨_,rfl⟩
      rw[←ho] at hob x0 x1 x2 x3 x4 hcO hsO;clear ho;have hfn:=hob.fn;have hlen:=hob.len;have hvs:=v9h hob.vals;obtain⟨b',o',A4,c4,A6,c6,hAF,hb,-,-,-,-,d4,-,-,-,hs4,-,-⟩:=hsf.out.fun_at hfn;injection hAF with hAF
      injection hAF with h1 h2 _
      subst h1 h2;have hF1:Hid (u.funcs[o.fn]=zb u o.fn):=(zv hfn).symm;rw[hF1.out] at d4 hs4;obtain⟨F,hF⟩:∃F,Hid (F=zb u o.fn):=⟨_,v9h rfl⟩
      rw[←hF.out] at d4 hs4 hlen
      replace hvs:Hid (∀(i:Nat) (v:Vl) (t:Fld),o.vals[i]? = some v→F.vars[i]? = some t→VS u v t.typ):=by
       show ∀(i:Nat) (v:Vl) (t:Fld),o.vals[i]? = some v→F.vars[i]? = some t→VS u v t.typ;rw[hF.out];exact hvs.out
      replace hs4:=v9h hs4;have D4:Hid (∀W,Below w.heap.size w W→bF<W.heap.size∧W.cell? ⟨bF,oF+o.fn*7+4,none⟩=some (.slice A4 F.vars.length c4)):=fun W h=>⟨Nat.lt_of_lt_of_le hb h.size,keptC d4 hb h⟩
      have g1:¬(o.fn:Int)<0:=by omega
      have g2:¬(o.fn:Int)≥(u.funcs.length:Int):=by omega
      have g2':(o.fn:Int)<(u.funcs.length:Int):=by omega
      have HLN:=v9h hlen;have hvl:o.vals.length≤256:=by rw[hlen,hF.out];exact hvb.out _ hfn
      have g5:(o.vals.length != F.vars.length)=false:=by rw[hlen];simp
      have g5':((o.vals.length:Int) != (F.vars.length:Int))=false:=by rw[hlen];simp
      clear hlen hob d4 hb
      go_upto_region 17 with fail
      clear e1 el x0 x1 x2 x3 x4 hbX;generalize hW:World.alloc _ _=W6 at *
      have hb56:Below wr.heap.size wr W6:=by rw[←hW];exact(by repeat(first|assumption|exact v9r|apply zc|apply zd|apply zg|apply ze|apply zi))
      have bo:Box W6 wr.heap.size [.int .i64 (o.fn:Int),.int .i64 (o.at_:Int),.int .i64 (o.no:Int),.int .i64 o.call,.slice AO o.vals.length cO] 54:=by rw[←hW];exact Box.new _ _ _
      clear hW;have hb6:=za hbw hb56;have hbo6:=za hbr hb56;have hsO6:=v9h (hsO.mono hb56);have bu6:=bu5.mono hbo6;obtain⟨hb,d4⟩:=D4.out _ hb6;have o0:=bo.cell 0 rfl;have o4:=bo.cell 4 rfl;have ol:=bo.lt;have u1:=bu6.cell 1 rfl;have ul:=bu6.lt;clear hsO hbr hbw hb56;refine zm (by kernel_rfl) (by kernel_rfl) ?_
      repeat(go_big_quiet_step (fail))
      refine wpQuiet_nil ?_;rintro _ ⟨z,rfl⟩;have hz:=z.h;have bo7:=bo.mono hz;have bu7:=bu6.mono hz;have hb7:=za hb6 hz;have hbo7:=za hbo6 hz;have hsO7:=v9h (hsO6.out.mono hz);clear hb d4 o0 o4 ol u1 ul hz bo bu6 hb6 hbo6 hsO6 g1 g2 g5 g5';generalize z.W=W7 at *
      go_wp2_with fail
      go_loopw [12] (fun v wr=>∃i:Nat,i≤o.vals.length∧v = .int .i64 i∧Below W7.heap.size W7 wr) (fun v _=>o.vals.length-(intOf v).toNat)
      case atStart=>exact⟨0,Nat.zero_le _,rfl,v9r⟩
      case round=>
       obtain⟨i,hi,rfl,hbi⟩:=hrel;have hbi2:=za hb7 hbi;have o0:=(bo7.mono hbi).cell 0 rfl;have o4:=(bo7.mono hbi).cell 4 rfl;have ol:=(bo7.mono hbi).lt
       by_cases hil:i<o.vals.length
       ·have hilI:(i:Int)<(o.vals.length:Int):=by omega
        have hiv:i<F.vars.length:=by have:=HLN.out;omega
        have hivI:(i:Int)<(F.vars.length:Int):=by omega
        have hv:=hvs.out i o.vals[i] F.vars[i] (List.getElem?_eq_getElem hil) (List.getElem?_eq_getElem hiv);obtain⟨bV,oV,hAO,hbV,v0,v1,v2⟩:=(hsO7.out.mono hbi).vl_at hil;subst hAO;obtain⟨b3,o3,hA4,hb3,t0,t1⟩:=(hs4.out.mono hbi2).fld_at hiv;subst hA4;obtain⟨⟨a1,a2,a3⟩,hav⟩:∃v,v=o.vals[i]:=⟨_,rfl⟩
        obtain⟨t,htv⟩:∃t,t=F.vars[i].typ:=⟨_,rfl⟩
        rw[←hav] at hv v0 v1 v2;rw[←htv] at hv t1;clear hav htv;replace v0:wr.cell? ⟨bV,oV+i*3,none⟩=some (.int .i64 a1):=v0;replace v1:wr.cell? ⟨bV,oV+i*3+1,none⟩=some (.int .i64 a2):=v1;replace v2:wr.cell? ⟨bV,oV+i*3+2,none⟩=some (.int .i64 a3):=v2;obtain⟨hb,d4⟩:=D4.out _ hbi2;have u1:=(bu7.mono hbi).cell 1 rfl;have ul:=(bu7.mono hbi).lt
        go_upto_region 24 with fail
        clear o0 o4 ol v0 v1 v2 hbV t0 t1 hb3 hb d4 u1 ul;generalize hW:World.alloc _ _=W8 at *
        have hb8:Below wr.heap.size wr W8:=by rw[←hW];exact(by repeat(first|assumption|exact v9r|apply zc|apply zd|apply zg|apply ze|apply zi))
        have bv:Box W8 wr.heap.size [.int .i64 a1,.int .i64 a2,.int .i64 a3] 63:=by rw[←hW];exact Box.new _ _ _
        clear hW;have hbi8:=za hbi hb8;have hb8w:=za hb7 hbi8;clear hb8 hbi hbi2
        rcases hv with hv|⟨hv1,hv2⟩|⟨hv1,hv2,hv3⟩|⟨hv1,s,hv2,cc,hv3,hv4⟩
        ·injection hv with hv1 hv2
         injection hv2 with hv2 hv3
         subst hv1 hv2 hv3;have hnq:=kQ 0 0 0 0 0 0;have hnq2:(!((0:Int)==0&&(0:Int)==0&&(0:Int)==0))=false:=rfl;have z0:=bv.cell 0 rfl;have z1:=bv.cell 1 rfl;have z2:=bv.cell 2 rfl;have zl:=bv.lt
         go_upto_region 26 with fail
         refine zm (by kernel_rfl) (by kernel_rfl) ?_
         repeat(go_big_quiet_step (fail))
         refine wpQuiet_nil ?_;rintro _ ⟨z,rfl⟩;have hz:=za hbi8 z.h;clear z0 z1 z2 zl bv hb8w;generalize z.W=W9 at *
         go_wp2_with fail
         exact⟨⟨i+1,by omega,by simp,hz⟩,by simp[intOf];omega⟩
        ·replace hv1:a1=1:=hv1
         subst hv1;have ht:(t.toList==[105,110,116])=true:=hv2;have ht':(t.toList != [105,110,116])=false:=by rw[bne,ht];rfl
         clear hv2;have z0:=bv.cell 0 rfl;have z1:=bv.cell 1 rfl;have z2:=bv.cell 2 rfl;have zl:=bv.lt
         go_upto_region 26 with fail
         refine zm (by kernel_rfl) (by kernel_rfl) ?_
         repeat(go_big_quiet_step (fail))
         refine wpQuiet_nil ?_;rintro _ ⟨z,rfl⟩;have hz:=za hbi8 z.h;clear z0 z1 z2 zl bv hb8w;generalize z.W=W9 at *
         go_wp2_with fail
         exact⟨⟨i+1,by omega,by simp,hz⟩,by simp[intOf];omega⟩
        ·replace hv1:a1=2:=hv1
         replace hv2:a2=0:=hv2;subst hv1 hv2;have ht:(t.toList==[105,110,116])=false:=hv3;have ht':(t.toList != [105,110,116])=true:=by rw[bne,ht];rfl
         clear hv3;have z0:=bv.cell 0 rfl;have z1:=bv.cell 1 rfl;have z2:=bv.cell 2 rfl;have zl:=bv.lt
         go_upto_region 26 with fail
         refine zm (by kernel_rfl) (by kernel_rfl) ?_
         repeat(go_big_quiet_step (fail))
         refine wpQuiet_nil ?_;rintro _ ⟨z,rfl⟩;have hz:=za hbi8 z.h;clear z0 z1 z2 zl bv hb8w;generalize z.W=W9 at *
         go_wp2_with fail
         exact⟨⟨i+1,by omega,by simp,hz⟩,by simp[intOf];omega⟩
        ·replace hv1:a1=3:=hv1
         replace hv2:a3=(s:Int):=hv2;subst hv1 hv2;have z0:=bv.cell 0 rfl;have z1:=bv.cell 1 rfl;have z2:=bv.cell 2 rfl;have zl:=bv.lt
         go_upto_region 26 with fail
         obtain⟨hss,hse⟩:=List.getElem?_eq_some_iff.1 hv3;have hsI:(s:Int)<((yg u).length:Int):=by omega
         have hsn:¬(s:Int)<0:=by omega
         have hsn':¬(s:Int)≥((yg u).length:Int):=by omega
         have hbo8:=za hbo7 hbi8;obtain⟨b9,o9,hAS,hb9,s9⟩:=(HSS.out.mono hbo8).str_at hss;rw[hse] at s9;clear hse hv3 hss
         have HQ:Hid (∀W,Below W8.heap.size W8 W→Calls Tryz.prog 20 #[.agg #[.slice AC u.classes.length cC],.string cc,.string t] W fun e w'=>e = .returned (.bool true)∧Below W.heap.size W w'):=fun W h=>by
          have:=HSUB.out W (za hb8w h) cc t;rw[hv4] at this;exact this
         subst hAS;have u0:=(bu7.mono hbi8).cell 0 rfl;have ul:=(bu7.mono hbi8).lt;refine zm (by kernel_rfl) (by kernel_rfl) ?_
         repeat(go_big_quiet_step ((go_at_call 20;exact Calls.later (HQ.out _ (by repeat(first|exact v9r|apply ze))))))
         refine wpQuiet_nil ?_;rintro _ ⟨z,rfl⟩;have hz:=za hbi8 z.h;clear z0 z1 z2 zl bv hb8w u0 ul s9 hb9;generalize z.W=W9 at *
         go_wp2_with fail
         exact⟨⟨i+1,by omega,by simp,hz⟩,by simp[intOf];omega⟩
       ·have hie2:i=o.vals.length:=by omega
        have hilI:¬((i:Int)<(o.vals.length:Int)):=by omega
        go_wp2_with fail
        refine⟨⟨n+1,by omega,by simp,za hbo7 hbi⟩,?_⟩
        simp[intOf];omega
     ·have hnI:¬((n:Int)<(M.obs.length:Int)):=by omega
      go_wp2_with fail
      refine(HAW.out _ hbw).mono ?_;rintro e w6 ⟨rfl,hq⟩
      go_wp2_with fail
      go_ret
      exact⟨rfl,za hbw hq⟩
end Go.Proofs.YtmhdambkchlilaaGreatDoor
