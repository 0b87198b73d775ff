/- Chapter 13: Check: the function, the instruction and the error of a unit. Chapter 13: what holds in a unit without an error (plain). -/
import Derived.Test.YtmhdambkchlilaaGreatDoorJUo
namespace Go.Proofs.YtmhdambkchlilaaGreatDoor
open Go.RowKit
set_option linter.unusedVariables false
set_option maxRecDepth 100000
set_option maxHeartbeats 2000000
theorem aba(cs:List Cls):(mthL cs).length=mthN cs:=by
 induction cs with
 |nil=>rfl
 |cons c r ih=>unfold mthL at *;rw[List.flatMap_cons,List.length_append,ih,mthN,List.length_map]
theorem ab3{cs:List Cls}{j q:Nat}(hj:j<cs.length)(hq:q<cs[j].methods.length):(mthL cs)[mthN (cs.take j)+q]? = some (cs[j].name,cs[j].methods[q]):=by
 induction cs generalizing j with
 |nil=>simp at hj
 |cons c r ih=>
  unfold mthL at *
  rw[List.flatMap_cons]
  cases j with
  |zero=>
   simp only[List.getElem_cons_zero] at hq ⊢;rw[List.take_zero,mthN,Nat.zero_add,List.getElem?_append_left (by rw[List.length_map];exact hq),List.getElem?_map,List.getElem?_eq_getElem hq]
   rfl
  |succ j=>
   simp only[List.getElem_cons_succ] at hq ⊢;rw[List.take_succ_cons,mthN,List.getElem?_append_right (by rw[List.length_map];omega),List.length_map];have:=ih (j:=j) (by simpa using hj) hq;rw[←this]
   congr 1
   omega
theorem aih{cs:List Cls}{j q:Nat}(hj:j<cs.length)(hq:q<cs[j].methods.length):mthN (cs.take j)+q<mthN cs:=by
 have:=ab3 hj hq;rw[←aba cs];exact(List.getElem?_eq_some_iff.1 this).1
theorem abB{fs:List Fun}{k:Nat}(hk:k<fs.length):qw (fs.take (k+1))=qw (fs.take k)+newN fs[k].code:=by
 induction fs generalizing k with
 |nil=>simp at hk
 |cons f r ih=>
  cases k with
  |zero=>simp[qw]
  |succ k=>
   have:=ih (k:=k) (by simpa using hk);rw[List.take_succ_cons,List.take_succ_cons,qw,qw,this,List.getElem_cons_succ]
   omega
theorem acH{code:List Ins}{i:Nat}(hi:i<code.length):newN (code.take (i+1))=newN (code.take i)+if code[i].op==6 then 1 else 0:=by
 unfold newN;rw[List.take_succ_eq_append_getElem hi,List.countP_append,List.countP_singleton]
 cases h:(code[i].op==6) with
 |true=>
      have:code[i].op=6:=by simpa using h
      simp[this]
 |false=>
       have:code[i].op≠6:=by simpa using h
       simp[this]
theorem adR{u:Unt}{k:Nat}{p:ByteArray×Sg}(hk:k<u.funcs.length)(hp:(mthL u.classes)[k]? = some p):fcF u k=fcE u.classes p.1 p.2 u.funcs[k]:=by
 unfold fcF;rw[hp,List.getElem?_eq_getElem hk]
theorem kM{cs:List Cls}{cl:ByteArray}{m:Sg}{f:Fun}(h:funE cs cl m f≠0):fcE cs cl m f=(-1,funE cs cl m f):=by unfold fcE;rw[if_pos h]
theorem ae2{cs:List Cls}{cl:ByteArray}{m:Sg}{f:Fun}(h:funE cs cl m f=0){i:Nat}(h0:frst (insF cs f) i=0)(hi:insF cs f i≠0)(hl:i<f.code.length):fcE cs cl m f=((i:Int),insF cs f i):=by
 unfold fcE;rw[if_neg (by simpa using h),aak h0 hi hl]
theorem agt{cs:List Cls}{cl:ByteArray}{m:Sg}{f:Fun}(h:funE cs cl m f=0)(h0:frst (insF cs f) f.code.length=0):fcE cs cl m f=(0,0):=by
 unfold fcE;rw[if_neg (by simpa using h),xG h0]
theorem abb{u:Unt}(h:uniE u=0){k:Nat}(h0:frst (fun k=>(fcF u k).2) k=0)(hk:(fcF u k).2≠0)(hl:k<u.funcs.length):chkE u=((k:Int),(fcF u k).1,(fcF u k).2):=by
 unfold chkE;rw[if_neg (by simpa using h),aak h0 hk hl]
theorem adS{u:Unt}(h:uniE u=0)(h0:frst (fun k=>(fcF u k).2) u.funcs.length=0):chkE u=if 1024<qw u.funcs then(-1,-1,3) else(0,0,0):=by
 unfold chkE;rw[if_neg (by simpa using h),xG h0]
theorem aao{cs:List Cls}{cl:ByteArray}{m:Sg}{f:Fun}(h:funE cs cl m f=0):belB cl m f=true∧f.vars.length≤256∧f.code.length≤1024∧(∀i (hi:i<f.vars.length),vrE cs f.static i f.vars[i]=0)∧0<f.code.length:=by
 unfold funE at h
 split at h
 ·cases h
 rename_i h1
 split at h
 ·cases h
 rename_i h2
 split at h
 ·rename_i h3;exact absurd h h3
 rename_i h3
 split at h
 ·cases h
 rename_i h4
 refine⟨by simpa using h1,by omega,by omega,fun i hi=>?_,by omega⟩;rw[←adA hi];exact kU (by simpa using h3) i hi
theorem kI{u:Unt}(h:uniE u=0):(yn u.classes).2=0∧u.funcs.length≤256∧u.funcs.length=mthN u.classes∧0≤u.main∧u.main<u.funcs.length∧∃f,u.funcs[u.main.toNat]? = some f∧xa f=true:=by
 unfold uniE at h
 split at h
 ·rename_i h1;exact absurd h h1
 rename_i h1
 split at h
 ·cases h
 rename_i h2
 split at h
 ·cases h
 rename_i h3
 split at h
 ·cases h
 rename_i h4
 split at h
 ·rename_i f hf
  split at h
  ·rename_i hm;exact⟨by simpa using h1,by omega,by omega,by omega,by omega,f,hf,hm⟩
  ·cases h
 ·cases h
def tri(q:Int×Int×Int):Ending:= .returned (.tuple #[.int .i64 q.1,.int .i64 q.2.1,.int .i64 q.2.2])
theorem ky(u:Unt)(A0 A1:Option Addr)(c0 c1:Nat)(w:World)(H:Hid (UnH w u A0 A1 c0)) :
  Calls Tryz.prog 43 #[.agg #[.slice A0 u.classes.length c0,.slice A1 u.funcs.length c1,.int .i64 u.main]] w fun e w'=>e=tri (chkE u)∧Below w.heap.size w w':=by
 obtain⟨r,HR⟩:∃r,Hid (r=chkE u):=⟨_,v9h rfl⟩
 rw[←HR.out]
 go_enter Tryz.func43,Tryz.ntmps43
 go_upto_region 1 with fail
 generalize hW:World.alloc _ _=W1 at *
 have hb1:Below w.heap.size w W1:=by rw[←hW];exact(by repeat(first|assumption|exact v9r|apply zc|apply zd|apply zg|apply ze|apply zi))
 have bu:Box W1 w.heap.size [.slice A0 u.classes.length c0,.slice A1 u.funcs.length c1,.int .i64 u.main] 32:=by rw[←hW];exact(by repeat(first|(refine Box.at ?_;(simp;done))|apply Box.drew|apply Box.alloc|assumption))
 clear hW;have u0:=bu.cell 0 rfl;have u1:=bu.cell 1 rfl;have u2:=bu.cell 2 rfl;have ul:=bu.lt
 go_wp2_with fail
 refine(adc u A0 A1 c0 c1 _ (v9h (H.out.mono hb1))).mono ?_;rintro e w2 ⟨rfl,hq2⟩;have hb2:=za hb1 hq2;have bu2:=bu.mono hq2;clear u0 u1 u2 ul bu hq2
 by_cases he:uniE u≠0
 ·have HB:Hid (r=(-1,-1,uniE u)):=by show r=_;rw[HR.out];unfold chkE;rw[if_pos he]
  have he':(uniE u != 0)=true:=by simpa using he
  clear he
  go_wp2_with fail
  go_ret3
  exact⟨by rw[HB.out];rfl,hb2⟩
 replace he:uniE u=0:=Classical.not_not.1 he;have HU:=v9h he;obtain⟨hh0,hf256,hfm,_,_,_⟩:=kI he;obtain⟨h64,hcls⟩:=qp hh0;have HCL:=v9h hcls;have HFM:=v9h hfm;have he':(uniE u != 0)=false:=by simpa using he
 clear he hcls hh0 hfm;have u0:=bu2.cell 0 rfl;have ul:=bu2.lt
 go_wp2_with fail
 clear u0 ul he'
 go_loopw [6,7,25] (fun v6 v7 i wr=>∃j n s:Nat,j≤u.classes.length∧i = .int .i64 j∧v6 = .int .i64 n∧v7 = .int .i64 s∧n≤256∧s≤1024*n∧Hid (n=mthN (u.classes.take j))∧Hid (s=qw (u.funcs.take n))∧Hid (frst (fun k=>(fcF u k).2) n=0)∧Below w2.heap.size w2 wr) (fun _ _ i _=>u.classes.length-(intOf i).toNat)
 case atStart=>exact⟨0,0,0,Nat.zero_le _,rfl,rfl,rfl,by omega,by omega,v9h rfl,v9h rfl,v9h rfl,v9r⟩
 case round=>
  obtain⟨j,n0,s0,hj,rfl,rfl,rfl,hn0,hs0,HN0,HS0,HF0,hbw⟩:=hrel;have hbw3:=za hb2 hbw;have bu3:=bu2.mono hbw
  by_cases hlt:j<u.classes.length
  ·obtain⟨b0,o,A2,cc2,A3,cc3,hA,hb,d0,d1,d2,d3,hc2,hs2,hc3,hs3⟩:=(H.out.hs.mono hbw3).cls_at hlt
   subst hA;have HPC:=v9h (qQ (HCL.out j hlt));have hm16:=HPC.out.1.2;have HMT:=v9h (@xc u.classes j hlt);have HMA:=v9h (@ab3 u.classes j · hlt);have HML:=v9h (@aih u.classes j · hlt);generalize u.classes[j]=c at *
   go_upto_region 8 with fail
   generalize hW:World.alloc _ _=W4 at *
   have h34:Below wr.heap.size wr W4:=by rw[←hW];exact zc (v9r)
   have bc:Box W4 wr.heap.size [.string c.name,.string c.super,.slice A2 c.fields.length cc2,.slice A3 c.methods.length cc3] 94:=by rw[←hW];exact(by repeat(first|(refine Box.at ?_;(simp;done))|apply Box.drew|apply Box.alloc|assumption))
   clear hW d0 d1 d2 d3 hb;have hbw4:=za hbw3 h34;have hb24:=za hbw h34;have bu4:=bu3.mono h34;have hs3':=hs3.mono h34;have c3:=bc.cell 3 rfl;have cl:=bc.lt
   go_wp2_with fail
   clear c3 cl
   go_loopw [6,7,32] (fun v6 v7 i wz=>∃q n s:Nat,q≤c.methods.length∧i = .int .i64 q∧v6 = .int .i64 n∧v7 = .int .i64 s∧n≤256∧s≤1024*n∧Hid (n=n0+q)∧Hid (s=qw (u.funcs.take n))∧Hid (frst (fun k=>(fcF u k).2) n=0)∧Below W4.heap.size W4 wz) (fun _ _ i _=>c.methods.length-(intOf i).toNat)
   case atStart=>exact⟨0,n0,s0,Nat.zero_le _,rfl,rfl,rfl,hn0,hs0,v9h rfl,HS0,HF0,v9r⟩
   case round=>
    obtain⟨q,n,s,hq,rfl,rfl,rfl,hn,hs,HN,HS,HF,hbz⟩:=hrel;have hbw5:=za hbw4 hbz;have bu5:=bu4.mono hbz;have bc5:=bc.mono hbz
    by_cases hqt:q<c.methods.length
    ·have hnl:n<u.funcs.length:=by
      have h1:=HML.out q hqt;have h2:=HN.out;have h3:=HN0.out;have h4:=HFM.out
      omega
     have hp6:=(jt (HPC.out.2.2.2.2.2.2 q hqt)).2.2.1
     have HFC:Hid (fcF u n=fcE u.classes c.name c.methods[q] u.funcs[n]):=by
      show _=_;rw[adR hnl (p:=(c.name,c.methods[q])) (by rw[HN.out,HN0.out];exact HMA.out q hqt)]
     have HSN:=v9h (abB hnl);have hfok:=v9h (H.out.hfo _ (List.getElem_mem hnl));obtain⟨bM,oM,A4,cc4,hA,hbM,m0,m1,m2,m3,hc4,hs4⟩:=(hs3'.mono hbz).sg_at hqt;subst hA;obtain⟨bF,oF,A5,cc5,A6,cc6,hA,hbF,d0,d1,d2,d3,d4,d5,d6,hc5,hs5,hc6,hs6⟩:=(H.out.hf.mono hbw5).fun_at hnl;subst hA;have hnI:(n:Int)<u.funcs.length:=by omega
     generalize c.methods[q]=m at *
     generalize u.funcs[n]=f at *
     have u1:=bu5.cell 1 rfl;have ul:=bu5.lt
     go_upto_region 12 with fail
     generalize hW:World.alloc _ _=W6 at *
     have h56:Below wr.heap.size wr W6:=by rw[←hW];exact zc (zc (v9r))
     have bm:Box W6 wr.heap.size [.string m.name,.bool m.static,.slice A4 m.params.length cc4,.string m.result] 36:=by rw[←hW];exact(by repeat(first|(refine Box.at ?_;(simp;done))|apply Box.drew|apply Box.alloc|assumption))
     have bf:Box W6 (wr.heap.size+1) [.string f.cls,.string f.name,.bool f.static,.int .i64 f.nparams,.slice A5 f.vars.length cc5,.string f.result,.slice A6 f.code.length cc6] 42:=by rw[←hW];exact(by repeat(first|(refine Box.at ?_;(simp;done))|apply Box.drew|apply Box.alloc|assumption))
     clear hW d0 d1 d2 d3 d4 d5 d6 m0 m1 m2 m3 u1 ul hbM hbF;have hbw6:=za hbw5 h56;have bu6:=bu5.mono h56;have bc6:=bc5.mono h56
     have HFN:Hid (∀W,Below W6.heap.size W6 W→FnH W u.classes f (some ⟨b0,o,none⟩) A5 A6 c0):=fun W h=>by
      have hWW:=za hbw6 h;have h5:=za h56 h;exact⟨H.out.hl,H.out.hcc,H.out.hs.mono hWW,H.out.hok,H.out.hlk,hs5.mono h5,hfok.out.hvl,hfok.out.hvo,hs6.mono h5,hfok.out.hcl,hfok.out.hio,hfok.out.hxr,H.out.hfx.mono hWW,H.out.hkw.mono hWW⟩
     have u0:=bu6.cell 0 rfl;have ul:=bu6.lt;have c0':=bc6.cell 0 rfl;have cl:=bc6.lt;have m0:=bm.cell 0 rfl;have m1:=bm.cell 1 rfl;have m2:=bm.cell 2 rfl;have m3:=bm.cell 3 rfl;have ml:=bm.lt;have f0:=bf.cell 0 rfl;have f1:=bf.cell 1 rfl;have f2:=bf.cell 2 rfl;have f3:=bf.cell 3 rfl;have f4:=bf.cell 4 rfl;have f5:=bf.cell 5 rfl;have f6:=bf.cell 6 rfl;have fl:=bf.lt
     go_wp2_with fail
     refine(adb u.classes c.name m f (some ⟨b0,o,none⟩) A4 A5 A6 c0 cc4 cc5 cc6 _ (v9h (HFN.out _ (v9r))) (hs4.mono h56) (by omega)).mono ?_;rintro e w7 ⟨rfl,hq7⟩;have hbw7:=za hbw6 hq7;have bu7:=bu6.mono hq7;have bf7:=bf.mono hq7;have hz7:=za (za hbz h56) hq7;clear u0 ul c0' cl m0 m1 m2 m3 ml f0 f1 f2 f3 f4 f5 f6 fl bm bf bu6
     by_cases hfe:funE u.classes c.name m f≠0
     ·have HB:Hid (r=((n:Int),-1,funE u.classes c.name m f)):=by
       show r=_;have h1:=kM hfe;rw[HR.out,abb HU.out HF.out (by rw[HFC.out,h1];exact hfe) hnl,HFC.out,h1]
      have hfe':(funE u.classes c.name m f != 0)=true:=by simpa using hfe
      clear hfe
      go_wp2_with fail
      go_ret3
      exact⟨by rw[HB.out];rfl,hbw7⟩
     replace hfe:funE u.classes c.name m f=0:=Classical.not_not.1 hfe;have HFE:=v9h hfe;have hcode:=(aao hfe).2.2.1;have hfe':(funE u.classes c.name m f != 0)=false:=by simpa using hfe
     clear hfe;have f6:=bf7.cell 6 rfl;have fl:=bf7.lt
     go_wp2_with fail
     clear f6 fl hfe'
     go_loopw [7,14,55] (fun v7 _ i wy=>∃p s1:Nat,p≤f.code.length∧i = .int .i64 p∧v7 = .int .i64 s1∧s1≤1024*n+p∧Hid (s1=s+newN (f.code.take p))∧Hid (frst (insF u.classes f) p=0)∧Below w7.heap.size w7 wy) (fun _ _ i _=>f.code.length-(intOf i).toNat)
     case atStart=>exact⟨0,s,Nat.zero_le _,rfl,rfl,by omega,v9h rfl,v9h rfl,v9r⟩
     case round=>
      obtain⟨p,s1,hp,rfl,rfl,hs1,HS1,HI,hby⟩:=hrel;have hbw8:=za hbw7 hby;have bu8:=bu7.mono hby;have bf8:=bf7.mono hby;have h68:=za hq7 hby
      by_cases hpt:p<f.code.length
      ·have u0:=bu8.cell 0 rfl
       have ul:=bu8.lt;have f0:=bf8.cell 0 rfl;have f1:=bf8.cell 1 rfl;have f2:=bf8.cell 2 rfl;have f3:=bf8.cell 3 rfl;have f4:=bf8.cell 4 rfl;have f5:=bf8.cell 5 rfl;have f6:=bf8.cell 6 rfl;have fl:=bf8.lt
       go_wp2_with fail
       refine(ab1 u.classes f (some ⟨b0,o,none⟩) A5 A6 c0 cc5 cc6 p _ (v9h (HFN.out _ h68)) hpt).mono ?_;rintro e w9 ⟨rfl,hq9⟩;have hbw9:=za hbw8 hq9;have bf9:=bf8.mono hq9;have HIF:=v9h (abY (cs:=u.classes) hpt);clear u0 ul f0 f1 f2 f3 f4 f5 f6 fl
       by_cases hie:insE u.classes f.vars f.result f.code p f.code[p]≠0
       ·have HB:Hid (r=((n:Int),(p:Int),insE u.classes f.vars f.result f.code p f.code[p])):=by
         show r=_;have h1:=ae2 HFE.out HI.out (by rw[HIF.out];exact hie) hpt;rw[HIF.out] at h1;rw[HR.out,abb HU.out HF.out (by rw[HFC.out,h1];exact hie) hnl,HFC.out,h1]
        have hie':(insE u.classes f.vars f.result f.code p f.code[p] != 0)=true:=by simpa using hie
        clear hie
        go_wp2_with fail
        go_ret3
        exact⟨by rw[HB.out];rfl,hbw9⟩
       replace hie:insE u.classes f.vars f.result f.code p f.code[p]=0:=Classical.not_not.1 hie;have HI2:Hid (frst (insF u.classes f) (p+1)=0):=yz HI.out (by rw[HIF.out];exact hie);have hie':(insE u.classes f.vars f.result f.code p f.code[p] != 0)=false:=by simpa using hie
       have HNT:=v9h (acH hpt);clear hie HIF;obtain⟨bI,oI,A7,cc7,hA,hbI,d0,_⟩:=((hs6.mono h56).mono (za h68 hq9)).ins_at hpt;subst hA;have f6:=bf9.cell 6 rfl;have fl:=bf9.lt
       cases h6:(f.code[p].op==6) with
       |true=>
        have HS2:Hid (s1+1=s+newN (f.code.take (p+1))):=by show _=_;rw[HNT.out,h6,HS1.out,if_pos rfl];omega
        clear HNT
        go_wp2_with fail
        go_roundw
        case rel=>exact⟨p+1,s1+1,by omega,by go_num,by go_num,by omega,HS2,HI2,za hby hq9⟩
        case measure=>simp[intOf];omega
       |false=>
        have HS2:Hid (s1=s+newN (f.code.take (p+1))):=by show _=_;rw[HNT.out,h6,HS1.out,if_neg (by simp)];omega
        clear HNT
        go_wp2_with fail
        go_roundw
        case rel=>exact⟨p+1,s1,by omega,by go_num,rfl,by omega,HS2,HI2,za hby hq9⟩
        case measure=>simp[intOf];omega
      ·have hpe:p=f.code.length:=by omega
       have HF2:Hid (frst (fun k=>(fcF u k).2) (n+1)=0):=yz HF.out (by
        have h1:=HI.out;rw[hpe] at h1;rw[HFC.out,agt HFE.out h1])
       have HS2:Hid (s1=qw (u.funcs.take (n+1))):=by show _=_;rw[HSN.out,HS1.out,HS.out,hpe,List.take_length]
       have HN2:Hid (n+1=n0+(q+1)):=by show _=_;rw[HN.out];omega
       clear hpe
       go_wp2_with fail
       go_roundw
       case rel=>exact⟨q+1,n+1,s1,by omega,by go_num,by go_num,rfl,by omega,by omega,HN2,HS2,HF2,za hz7 hby⟩
       case measure=>simp[intOf];omega
    ·have hqe:q=c.methods.length:=by omega
     have HN2:Hid (n=mthN (u.classes.take (j+1))):=by show _=_;rw[HMT.out,HN.out,HN0.out,hqe]
     clear hqe
     go_wp2_with fail
     go_roundw
     case rel=>exact⟨j+1,n,s,by omega,by go_num,rfl,rfl,hn,hs,HN2,HS,HF,za hb24 hbz⟩
     case measure=>simp[intOf];omega
  ·have hje:j=u.classes.length:=by omega
   have hn2:n0=u.funcs.length:=by
    have h1:=HN0.out;rw[List.take_of_length_le (by omega)] at h1;rw[h1,HFM.out]
   have HE:Hid (r=if 1024<qw u.funcs then(-1,-1,3) else(0,0,0)):=by
    show r=_;have h1:=HF0.out;rw[hn2] at h1;rw[HR.out,adS HU.out h1]
   have HS2:Hid (qw u.funcs=s0):=by
    show _=_;have h1:=HS0.out;rw[List.take_of_length_le (by omega)] at h1;exact h1.symm
   clear hje hn2 HS0 HF0 HN0
   by_cases h1024:1024<s0
   ·have HB:Hid (r=(-1,-1,3)):=by show r=_;rw[HE.out,if_pos (by rw[HS2.out];exact h1024)]
    go_wp2_with fail
    go_ret3
    exact⟨by rw[HB.out];rfl,hbw3⟩
   ·have HB:Hid (r=(0,0,0)):=by show r=_;rw[HE.out,if_neg (by rw[HS2.out];exact h1024)]
    go_wp2_with fail
    go_ret3
    exact⟨by rw[HB.out];rfl,hbw3⟩
theorem yR{s:ByteArray}(h:zC s=true):0<s.size∧s.size≤32:=by
 unfold zC at h;simp only[Bool.and_eq_true,decide_eq_true_eq] at h;exact⟨h.1.1.1.1,h.1.1.1.2⟩
theorem abC{α:Type}{p:α→Bool}{l:List α}(h:0≤idxI p l):∃x∈l,p x=true:=by
 unfold idxI at h
 cases hq:l.findIdx? p with
 |none=>rw[hq] at h;simp at h
 |some i=>
  obtain⟨hi,h1,_⟩:=List.findIdx?_eq_some_iff_getElem.1 hq;exact⟨l[i],List.getElem_mem hi,h1⟩
theorem acI{cs:List Cls}{s:ByteArray}(h:0≤fnd cs s):∃c∈cs,c.name=s:=by
 obtain⟨c,hc,hp⟩:=abC h;exact⟨c,hc,zO.1 hp⟩
theorem abD{cs:List Cls}{n:ByteArray}:∀{l:List Int},(ya cs n l).2.2=true→∃c∈cs,∃f∈c.fields,f.name=n
 |[],h=>by cases h
 |j::r,h=>by
  unfold ya at h
  split at h
  ·rename_i h0
   unfold fIdx at h0
   cases hj:cs[j.toNat]? with
   |none=>rw[hj] at h0;simp at h0
   |some c=>
    rw[hj] at h0;obtain⟨f,hf,hp⟩:=abC h0;exact⟨c,List.mem_of_getElem? hj,f,hf,zO.1 hp⟩
  ·exact abD h
theorem aap{cs:List Cls}{s m:ByteArray}{g:Sg}(h:sgAt cs (zU cs s m)=some g):(∃c∈cs,g∈c.methods)∧g.name=m:=by
 refine⟨adC h,?_⟩
 rcases kT (cs:=cs) (m:=m) (qj (yb cs s).2).1 with h1|⟨j,k,hj,hk,h1,_,h3⟩
 ·have h2:zU cs s m=(-1,-1):=h1
  rw[h2] at h;cases h
 ·have h2:zU cs s m=((j:Int),(k:Int)):=h1
  rw[h2] at h;unfold sgAt at h;rw[if_neg (by show ¬(j:Int)<0;omega)] at h;simp only[Int.toNat_natCast,List.getElem?_eq_getElem hj,Option.bind_some] at h;rw[List.getElem?_eq_getElem hk] at h;injection h with h
  subst h
  have h4:cs[j].methods.findIdx? (isSg m)=some k:=by
   unfold idxI at h3
   cases hq:cs[j].methods.findIdx? (isSg m) with
   |none=>rw[hq] at h3;simp at h3
   |some i=>rw[hq] at h3;have h3:(i:Int)=k:=h3;rw[show i=k by omega]
  obtain⟨_,h5,_⟩:=List.findIdx?_eq_some_iff_getElem.1 h4;exact zO.1 h5
theorem agu{cs:List Cls}{x:Ins}{g:Sg}(h:qv cs x=some g):(∃c∈cs,g∈c.methods)∧g.name=x.name∧0≤fnd cs x.cls∧g.static=true:=by
 refine⟨acC h,?_⟩;unfold qv at h
 split at h
 ·cases h
 rename_i h0
 cases hx:cs[(fnd cs x.cls).toNat]? with
 |none=>rw[hx] at h;cases h
 |some c=>
  rw[hx] at h;simp only at h
  split at h
  ·cases h
  rename_i h1
  split at h
  ·rename_i m hm
   split at h
   ·rename_i hs
    injection h with h;subst h
    refine⟨?_,by omega,hs⟩
    have h3:c.methods.findIdx? (isSg x.name)=some (idxI (isSg x.name) c.methods).toNat:=by
     unfold idxI at h1 ⊢
     cases hq:c.methods.findIdx? (isSg x.name) with
     |none=>rw[hq] at h1;simp at h1
     |some i=>simp
    obtain⟨hi,h5,_⟩:=List.findIdx?_eq_some_iff_getElem.1 h3;rw[List.getElem?_eq_getElem hi] at hm;injection hm with hm
    rw[hm] at h5;exact zO.1 h5
   ·cases h
  ·cases h
structure ClsV(cs:List Cls)(i:Nat)(c:Cls):Prop where
 name:zC c.name=true
 first:fnd cs c.name=i
 sup:c.super.toList.isEmpty=false→0≤fnd cs c.super
 fl:c.fields.length≤16
 ml:c.methods.length≤16
 fields:∀f∈c.fields,zC f.name=true∧isTy cs f.typ=true
 methods:∀m∈c.methods,zC m.name=true∧m.params.length≤6∧(∀p∈m.params,isTy cs p=true)∧(m.result.toList.isEmpty||isTy cs m.result)=true
theorem ae3{cs:List Cls}{i:Nat}{c:Cls}(h:clsE cs i c=0):ClsV cs i c:=by
 obtain⟨⟨h1,h2⟩,h3,h4,h5,h6,h7,h8⟩:=qQ h;refine⟨h3,h4,h5,h1,h2,fun f hf=>?_,fun m hm=>?_⟩
 ·obtain⟨k,hk,rfl⟩:=List.getElem_of_mem hf
  have:=h7 k hk;unfold fldE at this
  split at this
  ·cases this
  rename_i g1
  split at this
  ·cases this
  rename_i g2
  exact⟨by simpa using g1,by simpa using g2⟩
 ·obtain⟨k,hk,rfl⟩:=List.getElem_of_mem hm
  obtain⟨g1,_,g3,g4,g5,_⟩:=jt (h8 k hk);exact⟨g1,g3,fun p hp=>List.all_eq_true.1 g4 p hp,g5⟩
structure InsV(cs:List Cls)(f:Fun)(i:Nat)(x:Ins):Prop where
 kind:zT x=false
 zero:zE x=true
 range:yL f.vars.length f.code x=true
 ctl:ctlB f.code i x=true
 typ:insT cs f.vars f.result x=0
theorem aii{cs:List Cls}{f:Fun}{i:Nat}{x:Ins}(h:insE cs f.vars f.result f.code i x=0):InsV cs f i x:=by
 rw[aa8] at h
 split at h
 ·cases h
 rename_i h1
 split at h
 ·cases h
 rename_i h2
 split at h
 ·cases h
 rename_i h3
 split at h
 ·cases h
 rename_i h4
 exact⟨by simpa using h1,by simpa using h2,by simpa using h3,by simpa using h4,h⟩
structure FunV(cs:List Cls)(cl:ByteArray)(m:Sg)(f:Fun):Prop where
 bel:belB cl m f=true
 vl:f.vars.length≤256
 cl0:0<f.code.length
 cl1:f.code.length≤1024
 vars:∀i (hi:i<f.vars.length),vrE cs f.static i f.vars[i]=0
 code:∀i (hi:i<f.code.length),InsV cs f i f.code[i]
theorem aij{cs:List Cls}{cl:ByteArray}{m:Sg}{f:Fun}(h:(fcE cs cl m f).2=0):FunV cs cl m f:=by
 have h0:funE cs cl m f=0:=by
  rcases Classical.em (funE cs cl m f=0) with h1|h1
  ·exact h1
  ·rw[kM h1] at h;exact absurd h h1
 obtain⟨h1,h2,h3,h4,h5⟩:=aao h0;refine⟨h1,h2,h5,h3,h4,fun i hi=>?_⟩;unfold fcE at h;rw[if_neg (by simpa using h0)] at h
 split at h
 ·rename_i k hk
  have:=List.find?_some (by unfold jB at hk;exact hk);simp only[decide_eq_true_eq] at this;exact absurd h this
 ·rename_i hn
  have:=aan hn i hi;rw[abY hi] at this;exact aii this
structure UntV(u:Unt):Prop where
 hcl:u.classes.length≤64
 cls:∀i (hi:i<u.classes.length),ClsV u.classes i u.classes[i]
 hfl:u.funcs.length≤256
 hlen:u.funcs.length=mthN u.classes
 m0:0≤u.main
 m1:u.main<u.funcs.length
 main:∃f,u.funcs[u.main.toNat]? = some f∧xa f=true
 fn:∀k (hk:k<u.funcs.length),∃p,(mthL u.classes)[k]? = some p∧FunV u.classes p.1 p.2 u.funcs[k]
 sites:qw u.funcs≤1024
theorem aik{u:Unt}(h:(chkE u).2.2=0):UntV u:=by
 have hu:uniE u=0:=by
  rcases Classical.em (uniE u=0) with h1|h1
  ·exact h1
  ·unfold chkE at h;rw[if_pos h1] at h;exact absurd h h1
 obtain⟨h1,h2,h3,h4,h5,h6⟩:=kI hu;obtain⟨h7,h8⟩:=qp h1;unfold chkE at h;rw[if_neg (by simpa using hu)] at h
 split at h
 ·rename_i k hk
  have:=List.find?_some (by unfold jB at hk;exact hk);simp only[decide_eq_true_eq] at this;exact absurd h this
 ·rename_i hn
  refine⟨h7,fun i hi=>ae3 (h8 i hi),h2,h3,h4,h5,h6,fun k hk=>?_,?_⟩
  ·have hkl:k<(mthL u.classes).length:=by rw[aba];omega
   have h9:=aan hn k hk;refine⟨(mthL u.classes)[k],List.getElem?_eq_getElem hkl,?_⟩;rw[adR hk (List.getElem?_eq_getElem hkl)] at h9;exact aij h9
  ·split at h
   ·cases h
   ·omega
theorem adT{cs:List Cls}{p:ByteArray×Sg}(h:p∈mthL cs):∃c∈cs,p.1=c.name∧p.2∈c.methods:=by
 unfold mthL at h;obtain⟨c,hc,hp⟩:=List.mem_flatMap.1 h;obtain⟨m,hm,rfl⟩:=List.mem_map.1 hp;exact⟨c,hc,rfl,hm⟩
theorem UntV.clsName{u:Unt}(H:UntV u){c:Cls}(hc:c∈u.classes):zC c.name=true:=by
 obtain⟨i,hi,rfl⟩:=List.getElem_of_mem hc;exact(H.cls i hi).name
theorem UntV.fnd{u:Unt}(H:UntV u){s:ByteArray}(h:0≤fnd u.classes s):zC s=true:=by
 obtain⟨c,hc,rfl⟩:=acI h;exact H.clsName hc
theorem UntV.ty{u:Unt}(H:UntV u){s:ByteArray}(h:isTy u.classes s=true):0<s.size∧s.size≤32:=by
 unfold isTy at h;rw[Bool.or_eq_true] at h
 rcases h with h|h
 ·have:s.toList.length=3:=by rw[beq_iff_eq] at h;rw[h];rfl
  rw[ByteArray.toList_eq] at this;rw[Array.length_toList] at this;have h2:s.data.size=s.size:=rfl
  omega
 ·exact yR (H.fnd (of_decide_eq_true h))
theorem abc{cs:List Cls}{vars:List Fld}{res:ByteArray}{x:Ins}(h:x.op=6∨x.op=15):insT cs vars res x=if fnd cs x.cls<0 then 6 else zM (zB cs x.cls (tyOf vars x.dst)):=by
 rcases h with h|h<;>simp[insT,h]
theorem jX{cs:List Cls}{vars:List Fld}{res:ByteArray}{x:Ins}(h:x.op=7∨x.op=8):insT cs vars res x=qg cs vars x:=by
 rcases h with h|h<;>simp[insT,h]
def adl(cs:List Cls)(vars:List Fld)(x:Ins):Int:=if !zW cs (tyOf vars x.a) || !((tyOf vars x.a).toList==x.cls.toList) then 8 else match sgAt cs (zU cs x.cls x.name) with
  |none=>6
  |some g=>if g.static then 6 else yN cs vars x g
theorem acJ{cs:List Cls}{vars:List Fld}{res:ByteArray}{x:Ins}(h:x.op=9):insT cs vars res x=adl cs vars x:=by
 unfold adl
 simp[insT,h]<;>rfl
def adm(cs:List Cls)(vars:List Fld)(x:Ins):Int:=match qv cs x with
  |none=>6
  |some g=>yN cs vars x g
theorem acK{cs:List Cls}{vars:List Fld}{res:ByteArray}{x:Ins}(h:x.op=10):insT cs vars res x=adm cs vars x:=by
 unfold adm
 simp[insT,h]<;>rfl
theorem kz{cs:List Cls}{vars:List Fld}{x:Ins}(h:qg cs vars x=0):zW cs (tyOf vars x.a)=true∧(zz cs (tyOf vars x.a) x.name).2.2=true:=by
 cases h1:zW cs (tyOf vars x.a) with
 |false=>rw[acA h1] at h;cases h
 |true=>
  cases h2:(zz cs (tyOf vars x.a) x.name).2.2 with
  |false=>rw[acB h1 h2] at h;cases h
  |true=>exact⟨rfl,rfl⟩
theorem adU{cs:List Cls}{vars:List Fld}{x:Ins}(h:adl cs vars x=0):zW cs (tyOf vars x.a)=true∧tyOf vars x.a=x.cls∧∃g,sgAt cs (zU cs x.cls x.name)=some g∧g.static=false∧yN cs vars x g=0:=by
 unfold adl at h
 split at h
 ·cases h
 rename_i h1
 rw[Bool.or_eq_true] at h1
 have h2:zW cs (tyOf vars x.a)=true:=by
  cases hq:zW cs (tyOf vars x.a) with
  |true=>rfl
  |false=>rw[hq] at h1;exact absurd (Or.inl rfl) h1
 have h3:((tyOf vars x.a).toList==x.cls.toList)=true:=by
  cases hq:((tyOf vars x.a).toList==x.cls.toList) with
  |true=>rfl
  |false=>rw[hq] at h1;exact absurd (Or.inr rfl) h1
 split at h
 ·cases h
 ·rename_i g hg
  split at h
  ·cases h
  ·rename_i hs
   exact⟨h2,zO.1 h3,g,hg,by simpa using hs,h⟩
theorem adV{cs:List Cls}{vars:List Fld}{x:Ins}(h:adm cs vars x=0):∃g,qv cs x=some g∧yN cs vars x g=0:=by
 unfold adm at h
 split at h
 ·cases h
 ·rename_i g hg;exact⟨g,hg,h⟩
theorem UntV.ins{u:Unt}(H:UntV u){f:Fun}{i:Nat}{x:Ins}(hx:InsV u.classes f i x):x.cls.size≤32∧x.name.size≤32∧x.args.length≤6:=by
 have hk:zH x.op=true:=by
  cases h:zH x.op with
  |true=>rfl
  |false=>have:=hx.kind;unfold zT at this;rw[h] at this;cases this
 have hz:=hx.zero;have ht:=hx.typ;unfold zE at hz;simp only[Bool.and_eq_true,Bool.or_eq_true] at hz;obtain⟨⟨⟨⟨_,hzc⟩,hzm⟩,hza⟩,_⟩:=hz
 have he:∀s:ByteArray,s.toList.isEmpty=true→s.size≤32:=fun s h=>by
  rw[List.isEmpty_iff] at h;have:s.toList.length=0:=by rw[h];rfl
  rw[ByteArray.toList_eq,Array.length_toList] at this;have h2:s.data.size=s.size:=rfl
  omega
 have hm:∀g:Sg,(∃c∈u.classes,g∈c.methods)→g.name.size≤32∧g.params.length≤6:=fun g ⟨c,hc,hg⟩=>by
  obtain⟨j,hj,rfl⟩:=List.getElem_of_mem hc;have:=(H.cls j hj).methods g hg;exact⟨(yR this.1).2,this.2.1⟩
 have hca:∀g:Sg,yN u.classes f.vars x g=0→x.args.length=g.params.length:=fun g h=>by
  rcases Classical.em (x.args.length=g.params.length) with h1|h1
  ·exact h1
  ·rw[acy h1] at h;cases h
 unfold zH at hk;simp only[Bool.and_eq_true,decide_eq_true_eq] at hk;have hc0:zp x.op 99=false→x.cls.size≤32:=fun h=>by rw[h] at hzc;exact he _ (by simpa using hzc)
 have hm0:zp x.op 109=false→x.name.size≤32:=fun h=>by rw[h] at hzm;exact he _ (by simpa using hzm)
 have ha0:zp x.op 42=false→x.args.length≤6:=fun h=>by
  rw[h] at hza;have:((x.args.length:Int)==0)=true:=by simpa using hza
  rw[beq_iff_eq] at this;omega
 have hop:x.op=0∨x.op=1∨x.op=2∨x.op=3∨x.op=4∨x.op=5∨x.op=11∨x.op=12∨x.op=13∨x.op=14∨x.op=16∨x.op=6∨x.op=15∨x.op=7∨x.op=8∨x.op=9∨x.op=10:=by omega
 rcases hop with h|h|h|h|h|h|h|h|h|h|h|h|h|h|h|h|h
 iterate 11 exact⟨hc0 (by rw[h];rfl),hm0 (by rw[h];rfl),ha0 (by rw[h];rfl)⟩
 iterate 2
  refine⟨?_,hm0 (by rw[h];rfl),ha0 (by rw[h];rfl)⟩;rw[abc (by omega)] at ht
  split at ht
  ·cases ht
  ·exact(yR (H.fnd (by omega))).2
 iterate 2
  refine⟨hc0 (by rw[h];rfl),?_,ha0 (by rw[h];rfl)⟩;rw[jX (by omega)] at ht;obtain⟨c,hc,g,hg,hn⟩:=abD (kz ht).2;obtain⟨j,hj,rfl⟩:=List.getElem_of_mem hc;rw[←hn];exact(yR ((H.cls j hj).fields g hg).1).2
 ·rw[acJ h] at ht
  obtain⟨h1,h2,g,hg,_,hce⟩:=adU ht;obtain⟨h3,h4⟩:=aap hg;obtain⟨h5,h6⟩:=hm g h3;rw[h2] at h1;refine⟨(yR (H.fnd ?_)).2,by rw[←h4];exact h5,by rw[hca g hce];exact h6⟩;unfold zW at h1;simp only[Bool.and_eq_true,decide_eq_true_eq] at h1;exact h1.2
 ·rw[acK h] at ht
  obtain⟨g,hg,hce⟩:=adV ht;obtain⟨h3,h4,h7,_⟩:=agu hg;obtain⟨h5,h6⟩:=hm g h3;exact⟨(yR (H.fnd h7)).2,by rw[←h4];exact h5,by rw[hca g hce];exact h6⟩
theorem UntV.kindOp{u:Unt}{f:Fun}{i:Nat}{x:Ins}(hx:InsV u.classes f i x):0≤x.op∧x.op<17∧(x.op=4→1≤x.n∧x.n≤5):=by
 have h:=hx.kind;unfold zT zH at h;simp only[Bool.or_eq_false_iff,Bool.not_eq_false',Bool.and_eq_true,decide_eq_true_eq] at h;refine⟨h.1.1,h.1.2,fun h4=>?_⟩;have:=h.2;rw[h4] at this
 simp at this
 omega
theorem UntV.fun{u:Unt}(H:UntV u){k:Nat}(hk:k<u.funcs.length):u.funcs[k].cls.size≤32∧u.funcs[k].name.size≤32∧∀v∈u.funcs[k].vars,v.name.size≤32∧v.typ.size≤32:=by
 obtain⟨p,hp,hf⟩:=H.fn k hk;obtain⟨c,hc,h1,h2⟩:=adT (List.mem_of_getElem? hp);have hb:=hf.bel;rw[aa9] at hb;simp only[Bool.and_eq_true] at hb;have he:=hb.1.1.1.1;unfold yo at he;simp only[Bool.and_eq_true] at he;obtain⟨j,hj,rfl⟩:=List.getElem_of_mem hc;have hm:=(H.cls j hj).methods p.2 h2;refine⟨by rw[zO.1 he.1,h1];exact(yR (H.clsName hc)).2,by rw[zO.1 he.2.1];exact(yR hm.1).2,fun v hv=>?_⟩;obtain⟨i,hi,rfl⟩:=List.getElem_of_mem hv;have hv:=hf.vars i hi;rw[ab2] at hv
 split at hv
 ·cases hv
 rename_i g1
 split at hv
 ·cases hv
 rename_i g2
 have hl:∀(s:ByteArray) (l:List UInt8) (n:Nat),(s.toList==l)=true→l.length=n→s.size=n:=fun s l n h hn=>by
  rw[beq_iff_eq] at h;have:s.toList.length=n:=by rw[h,hn]
  rw[ByteArray.toList_eq,Array.length_toList] at this;exact this
 constructor
 ·generalize u.funcs[k].vars[i]=v at *
  unfold vrB1 at g1
  cases hn:qW v.name with
  |true=>
   unfold qW at hn
   split at hn
   ·rename_i h;exact h.1
   ·exact(yR hn).2
  |false=>
   rw[hn] at g1
   cases ht:(v.name.toList==[116,104,105,115]) with
   |true=>have:=hl _ _ 4 ht rfl;omega
   |false=>rw[ht] at g1;exact absurd rfl g1
 ·generalize u.funcs[k].vars[i]=v at *
  unfold vrB2 at g2
  cases hn:(v.typ.toList==[105,110,116]) with
  |true=>have:=hl _ _ 3 hn rfl;omega
  |false=>
   cases ht:(v.typ.toList==[110,117,108,108]) with
   |true=>have:=hl _ _ 4 ht rfl;omega
   |false=>
    rw[hn,ht] at g2;have:¬Go.Proofs.YtmhdambkchlilaaGreatDoor.fnd u.classes v.typ<0:=fun h=>g2 (by rw[decide_eq_true h];rfl)
    exact(yR (H.fnd (by omega))).2
end Go.Proofs.YtmhdambkchlilaaGreatDoor
