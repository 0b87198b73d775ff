/- Chapter 10: the check of a method: what it returns. Chapter 10: the check of a class, and of a hierarchy: what they return. -/
import Derived.Test.YtmhdambkchlilaaGreatDoorJGc
namespace Go.Proofs.YtmhdambkchlilaaGreatDoor
open Go.RowKit
set_option linter.unusedVariables false
set_option maxRecDepth 100000
set_option maxHeartbeats 4000000
theorem abz{cs:List Cls}{T:List Int}{m:Sg}{j:Int}(hj:j∈T){o:Sg}(ho:o∈mths cs j)(hn:(o.name.toList==m.name.toList)=true)(hov:yB m o=false):yq cs T m=true:=by
 unfold yq;exact List.any_eq_true.2 ⟨j,hj,List.any_eq_true.2 ⟨o,ho,by rw[hn,hov];rfl⟩⟩
theorem acD{cs:List Cls}{T:List Int}{m:Sg}(h:∀j∈T,∀o∈mths cs j,(o.name.toList==m.name.toList)=true→yB m o=true):yq cs T m=false:=by
 unfold yq;rw[List.any_eq_false];intro j hj hp;obtain⟨o,ho,hq⟩:=List.any_eq_true.1 hp;rw[Bool.and_eq_true] at hq;rw[h j hj o ho hq.1] at hq;exact absurd hq.2 (by simp)
def abA(cs:List Cls)(T:List Int)(m:Sg):Prop:=∀j∈T,∀o∈mths cs j,(o.name.toList==m.name.toList)=true→yB m o=true
theorem aaX(
           A:Option Addr) (c b bL oL cL:Nat) (cs:List Cls) (i k:Nat) (T:List Int) (w:World) (hl:cs.length≤1000) (hi:i<cs.length) (hk:k<cs[i].methods.length) (hcL:T.length+1≤cL) (hTl:T.length≤1000)
  (hTb:Hid (∀x∈T,0≤x∧x<(cs.length:Int))) (hsL:Sl Lay.int w (some ⟨bL,oL,none⟩) ((i:Int)::T)) (hT:TabV w A c b cs) (hok:Hid (yQ cs)) (hlk:Hid (yp cs)) (hkw:KwX w) :
  Calls Tryz.prog 283 #[.agg #[.slice A cs.length c,.map (some b)],.slice (some ⟨bL,oL,none⟩) (T.length+1) cL,.int .i64 k] w fun e w'=>e = .returned (.int .i64 (mthE cs cs[i].methods T k cs[i].methods[k]))∧Below w.heap.size w w':=by
 obtain⟨r,HR⟩:∃r,Hid (r=mthE cs cs[i].methods T k cs[i].methods[k]):=⟨_,v9h rfl⟩
 rw[←HR.out];have hfl:=(hlk.out _ (List.getElem_mem hi)).2.1;have hpl:=(hlk.out _ (List.getElem_mem hi)).2.2 _ (List.getElem_mem hk);obtain⟨b0,o0,A2,c2,A3,c3,rfl,hb0,d0,d1,d2,d3,hc2,hs2,hc3,hs3⟩:=hT.sl.cls_at hi;obtain⟨b2,o2,Ap,cp,rfl,hb2,f0,f1,f2,f3,hcp,hsp⟩:=hs3.sg_at hk;obtain⟨bx,ox,ex,hbx0,dL0⟩:=hsL.int_at (i:=0) (by simp);simp only[Option.some.injEq,Addr.mk.injEq] at ex;obtain⟨rfl,rfl,_⟩:=ex;have dL0':w.cell? ⟨bL,oL,none⟩=some (.int .i64 i):=dL0;clear dL0;have ho:=(hok.out _ (List.getElem_mem hi)).2.2 _ (List.getElem_mem hk);have HOP:=v9h ho.2.2;obtain⟨ho1,ho2,_⟩:=ho
 go_enter Tryz.func283,Tryz.ntmps283
 go_wp2_with fail
 refine yy 8 (by kernel_rfl) (by kernel_rfl) ?_;refine RW.chunk (f:=1) [0,1,2,3,4,5,6] (by kernel_rfl) ?_
 ((simp only[zo,List.filterMap,List.getElem?_toArray,List.getElem?_cons_zero,List.getElem?_cons_succ]);(repeat(go_big_quiet_step (fail)));refine wpQuiet_nil ?_)
 refine RW.single 7 rfl (by kernel_rfl) (by omega) ?_;intro K hK
 go_wp2_with fail
 refine hK _ _ (zc (v9r)) ?_;clear hK
 (refine RW.tail (by kernel_rfl) ?_;(simp only[List.drop_succ_cons,List.drop_zero]))
 go_wp2_with fail
 generalize hW:World.drew _=W1;have hb1:Below w.heap.size w W1:=by rw[←hW];exact(by repeat(first|assumption|exact v9r|apply zc|apply zd|apply zg|apply ze|apply zi))
 have bt:Box W1 w.heap.size [.slice (some ⟨b0,o0,none⟩) cs.length c,.map (some b)] 155:=by rw[←hW];exact(by repeat(first|(refine Box.at ?_;(simp;done))|apply Box.drew|apply Box.alloc|assumption))
 have bc:Box W1 (w.heap.size+1) [.string cs[i].name,.string cs[i].super,.slice A2 cs[i].fields.length c2,.slice (some ⟨b2,o2,none⟩) cs[i].methods.length c3] 94:=by rw[←hW];exact(by repeat(first|(refine Box.at ?_;(simp;done))|apply Box.drew|apply Box.alloc|assumption))
 have bf:Box W1 (w.heap.size+1+1) [.string cs[i].methods[k].name,.bool cs[i].methods[k].static,.slice Ap cs[i].methods[k].params.length cp,.string cs[i].methods[k].result] 36:=by rw[←hW];exact(by repeat(first|(refine Box.at ?_;(simp;done))|apply Box.drew|apply Box.alloc|assumption))
 clear hW d0 d1 d2 d3 f0 f1 f2 f3 dL0' hbx0;refine(ku cs[i].methods[k].name _ (jJ ho1) (hkw.mono hb1)).mono ?_;rintro e w1 ⟨rfl,rfl⟩
 cases hI:zC cs[i].methods[k].name with
 |false=>
  have HB:Hid (r=5):=by show r=5;rw[HR.out];unfold mthE;rw[hI];rfl
  go_wp2_with fail
  go_ret
  exact⟨by rw[HB.out];rfl,hb1⟩
 |true=>
 have p0:=bc.cell 0 rfl;have p1:=bc.cell 1 rfl;have p2:=bc.cell 2 rfl;have p3:=bc.cell 3 rfl;have pl:=bc.lt;have g0:=bf.cell 0 rfl;have gl:=bf.lt
 go_wp2_with fail
 refine(aai cs[i] A2 _ c2 c3 cs[i].methods[k].name _ (by omega) (hs3.mono hb1)).mono ?_;rintro e w3 ⟨rfl,hb3⟩;have hbw3:=za hb1 hb3;have bt3:=bt.mono hb3;have bf3:=bf.mono hb3;clear p0 p1 p2 p3 pl g0 gl bt bc bf hb3 hb1
 by_cases hlt:idxI (isSg cs[i].methods[k].name) cs[i].methods<k
 ·have HB:Hid (r=7):=by show r=7;rw[HR.out];unfold mthE;rw[hI,if_neg (by simp),if_pos hlt]
  go_wp2_with fail
  go_ret
  exact⟨by rw[HB.out];rfl,hbw3⟩
 have g2:=bf3.cell 2 rfl;have gl:=bf3.lt
 by_cases h6:6<cs[i].methods[k].params.length
 ·have HB:Hid (r=3):=by show r=3;rw[HR.out];unfold mthE;rw[hI,if_neg (by simp),if_neg hlt,if_pos h6]
  go_wp2_with fail
  go_ret
  exact⟨by rw[HB.out];rfl,hbw3⟩
 have HR1:Hid (r=if !cs[i].methods[k].params.all (isTy cs) then 8 else if !(cs[i].methods[k].result.toList.isEmpty||isTy cs cs[i].methods[k].result) then 8 else if yq cs T cs[i].methods[k] then 11 else 0):=by
  show r=_;rw[HR.out];unfold mthE;rw[hI,if_neg (by simp),if_neg hlt,if_neg h6]
 clear hI
 go_wp2_with fail
 go_loopw [44] (fun v wr=>∃q:Nat,q≤cs[i].methods[k].params.length∧v = .int .i64 q∧(∀z (hz:z<q) (hz2:z<cs[i].methods[k].params.length),isTy cs cs[i].methods[k].params[z]=true)∧Below w3.heap.size w3 wr) (fun v _=>cs[i].methods[k].params.length-(intOf v).toNat)
 case atStart=>exact⟨0,Nat.zero_le _,rfl,fun z hz=>by omega,v9r⟩
 case round=>
  clear g2 gl;obtain⟨q,hq,rfl,HP0,hbw⟩:=hrel;have HP:=v9h HP0;clear HP0;have bt4:=bt3.mono hbw;have bf4:=bf3.mono hbw;have hbw4:=za hbw3 hbw;have t0:=bt4.cell 0 rfl;have t1:=bt4.cell 1 rfl;have tl:=bt4.lt
  by_cases hqt:q<cs[i].methods[k].params.length
  ·obtain⟨bq,oq,rfl,hbq,dq⟩:=(hsp.mono hbw4).str_at hqt
   have hoq:=HOP.out _ (List.getElem_mem hqt)
   go_wp2_with fail
   refine(xH _ c b cs cs[i].methods[k].params[q] _ (hT.mono hbw4) hoq).mono ?_;rintro e w5 ⟨rfl,hb5⟩
   cases hY:isTy cs cs[i].methods[k].params[q] with
   |false=>
    have HB:Hid (r=8):=by
     show r=8;rw[HR1.out,if_pos];rw[Bool.not_eq_true',List.all_eq_false];exact⟨_,List.getElem_mem hqt,by rw[hY];simp⟩
    go_wp2_with fail
    go_ret
    exact⟨by rw[HB.out];rfl,za hbw4 hb5⟩
   |true=>
    have HP2:Hid (∀z (hz:z<q+1) (hz2:z<cs[i].methods[k].params.length),isTy cs cs[i].methods[k].params[z]=true):=fun z hz hz2=>by
     by_cases ez:z=q
     ·subst ez;exact hY
     ·exact HP.out z (by omega) hz2
    clear hY
    go_wp2_with fail
    go_roundw
    case rel=>exact⟨q+1,by omega,by go_num,HP2.out,za hbw hb5⟩
    case measure=>simp[intOf];omega
  ·have g3:=bf4.cell 3 rfl
   have gl:=bf4.lt
   have HR2:Hid (r=if !(cs[i].methods[k].result.toList.isEmpty||isTy cs cs[i].methods[k].result) then 8 else if yq cs T cs[i].methods[k] then 11 else 0):=by
    show r=_;rw[HR1.out,if_neg];rw[Bool.not_eq_true',Bool.not_eq_false,List.all_eq_true];intro p hp;obtain⟨z,hz,rfl⟩:=List.getElem_of_mem hp;exact HP.out z (by omega) hz
   cases hre:cs[i].methods[k].result.toList.isEmpty with
   |true=>
    have HR3:Hid (r=if yq cs T cs[i].methods[k] then 11 else 0):=by
     show r=_;rw[HR2.out,hre];rfl
    obtain⟨w5,rfl⟩:∃w5:World,w5=wr:=⟨_,rfl⟩
    have hbw5:=hbw4;have bt5:=bt4;have bf5:=bf4
    rcases Classical.em (cL=1) with hc1|hc1
    all_goals
     go_wp2_with fail
     go_loopw [66] (fun v wr=>∃q:Nat,q≤T.length∧v = .int .i64 q∧abA cs (T.take q) cs[i].methods[k]∧Below w5.heap.size w5 wr) (fun v _=>T.length-(intOf v).toNat)
     case atStart=>exact⟨0,Nat.zero_le _,rfl,fun j hj=>by simp at hj,v9r⟩
     case round=>
      obtain⟨q,hq,rfl,HN0,hbw⟩:=hrel;have HN:=v9h HN0;clear HN0;have bt6:=bt5.mono hbw;have bf6:=bf5.mono hbw;have hbw6:=za hbw5 hbw;have t0:=bt6.cell 0 rfl;have tl:=bt6.lt
      by_cases hqt:q<T.length
      ·first
       |(exfalso;omega)
       |(
         obtain⟨hbq,dq⟩:=afs (hsL.mono hbw6) hqt;have hjb:=hTb.out T[q] (List.getElem_mem hqt);obtain⟨j,hjj⟩:∃j:Nat,T[q]=j:=⟨T[q].toNat,by omega⟩
         have HJ:=v9h hjj;rw[hjj] at dq hjb;clear hjj;have hjl:j<cs.length:=by omega
         have hml:=(hlk.out _ (List.getElem_mem hjl)).2.1;have HPL:=v9h (hlk.out _ (List.getElem_mem hjl)).2.2;obtain⟨b7,o7,A7,c7,A8,c8,e7,hb7,k0,k1,k2,k3,hc7,hs7,hc8,hs8⟩:=hT.sl.cls_at hjl;simp only[Option.some.injEq,Addr.mk.injEq] at e7;obtain⟨rfl,rfl,_⟩:=e7;have k3':=keptC k3 hb7 hbw6;clear k0 k1 k2 k3
         go_wp2_with fail
         clear k3' dq t0 tl;obtain⟨wo,rfl⟩:∃wo:World,wo=wr:=⟨_,rfl⟩
         go_loopw [77] (fun v wr=>∃z:Nat,z≤cs[j].methods.length∧v = .int .i64 z∧(∀y (hy:y<z) (hy2:y<cs[j].methods.length),(cs[j].methods[y].name.toList==cs[i].methods[k].name.toList)=true→yB cs[i].methods[k] cs[j].methods[y]=true)∧Below wo.heap.size wo wr) (fun v _=>cs[j].methods.length-(intOf v).toNat)
         case atStart=>exact⟨0,Nat.zero_le _,rfl,fun y hy=>by omega,v9r⟩
         case round=>
          obtain⟨z,hz,rfl,HM0,hbv⟩:=hrel;have HM:=v9h HM0;clear HM0;have hbw7:=za hbw6 hbv;have bf7:=bf6.mono hbv;have g0:=bf7.cell 0 rfl;have g1:=bf7.cell 1 rfl;have g2:=bf7.cell 2 rfl;have g3:=bf7.cell 3 rfl;have gl:=bf7.lt
          by_cases hzt:z<cs[j].methods.length
          ·obtain⟨b9,o9,A9,c9,e9,hb9,s0,s1,s2,s3,hc9,hs9⟩:=hs8.sg_at hzt
           subst e9;have s0':=keptC s0 hb9 hbw7;have s1':=keptC s1 hb9 hbw7;have s2':=keptC s2 hb9 hbw7;have s3':=keptC s3 hb9 hbw7;clear s0 s1 s2 s3;have hpl9:=HPL.out _ (List.getElem_mem hzt);have hb10:Below wr.heap.size wr (wr.alloc (.cells #[.string cs[j].methods[z].name,.bool cs[j].methods[z].static,.slice A9 cs[j].methods[z].params.length c9,.string cs[j].methods[z].result] 36)):=(by repeat(first|assumption|exact v9r|apply zc|apply zd|apply zg|apply ze|apply zi))
           cases hnm:(cs[j].methods[z].name.toList==cs[i].methods[k].name.toList) with
           |true=>
            go_wp2_with fail
            refine(aae cs[i].methods[k] cs[j].methods[z] Ap A9 cp c9 _ hpl hpl9 (hsp.mono (za hbw7 hb10)) (hs9.mono (za hbw7 hb10))).mono ?_;rintro e w8 ⟨rfl,hb8⟩
            cases hO:yB cs[i].methods[k] cs[j].methods[z] with
            |false=>
             have HB:Hid (r=11):=by
              show r=11;rw[HR3.out,abz (List.getElem_mem hqt) (o:=cs[j].methods[z]) (by rw[HJ.out,jI hjl];exact List.getElem_mem hzt) hnm hO];rfl
             go_wp2_with fail
             go_ret
             exact⟨by rw[HB.out];rfl,za hbw7 (za hb10 hb8)⟩
            |true=>
             have HM2:Hid (∀y (hy:y<z+1) (hy2:y<cs[j].methods.length),(cs[j].methods[y].name.toList==cs[i].methods[k].name.toList)=true→yB cs[i].methods[k] cs[j].methods[y]=true):=fun y hy hy2 h=>by
              by_cases ez:y=z
              ·subst ez;exact hO
              ·exact HM.out y (by omega) hy2 h
             clear hnm hO
             go_wp2_with fail
             go_roundw
             case rel=>exact⟨z+1,by omega,by go_num,HM2.out,za hbv (za hb10 hb8)⟩
             case measure=>simp[intOf];omega
           |false=>
            have HM2:Hid (∀y (hy:y<z+1) (hy2:y<cs[j].methods.length),(cs[j].methods[y].name.toList==cs[i].methods[k].name.toList)=true→yB cs[i].methods[k] cs[j].methods[y]=true):=fun y hy hy2 h=>by
             by_cases ez:y=z
             ·subst ez
              rw[hnm] at h
              cases h
             ·exact HM.out y (by omega) hy2 h
            go_wp2_with fail
            go_roundw
            case rel=>exact⟨z+1,by omega,by go_num,HM2.out,za hbv hb10⟩
            case measure=>simp[intOf];omega
          ·have HX:Hid (abA cs (T.take (q+1)) cs[i].methods[k]):=fun x hx o ho h=>by
            rw[List.take_succ_eq_append_getElem hqt] at hx
            rcases List.mem_append.1 hx with hx|hx
            ·exact HN.out x hx o ho h
            ·simp at hx
             rw[hx,HJ.out,jI hjl] at ho;obtain⟨y,hy,rfl⟩:=List.getElem_of_mem ho;exact HM.out y (by omega) hy h
           go_wp2_with fail
           go_roundw
           case rel=>exact⟨q+1,by omega,by go_num,HX.out,za hbw hbv⟩
           case measure=>simp[intOf];omega)
      ·have HB:Hid (r=0):=by
        have:=HN.out;rw[List.take_of_length_le (by omega)] at this;show r=0;rw[HR3.out,acD this];rfl
       go_wp2_with fail
       go_ret
       exact⟨by rw[HB.out];rfl,hbw6⟩
   |false=>
    go_wp2_with fail
    refine(xH _ c b cs cs[i].methods[k].result _ (hT.mono hbw4) ho2).mono ?_;rintro e w5 ⟨rfl,hb5⟩;have hbw5:=za hbw4 hb5;have bt5:=bt4.mono hb5;have bf5:=bf4.mono hb5
    cases hY:isTy cs cs[i].methods[k].result with
    |false=>
     have HB:Hid (r=8):=by show r=8;rw[HR2.out,hre,hY];rfl
     go_wp2_with fail
     go_ret
     exact⟨by rw[HB.out];rfl,hbw5⟩
    |true=>
     have HR3:Hid (r=if yq cs T cs[i].methods[k] then 11 else 0):=by
      show r=_;rw[HR2.out,hre,hY];rfl
     clear t0 t1 tl g3 gl
     rcases Classical.em (cL=1) with hc1|hc1
     all_goals
      go_wp2_with fail
      go_loopw [66] (fun v wr=>∃q:Nat,q≤T.length∧v = .int .i64 q∧abA cs (T.take q) cs[i].methods[k]∧Below w5.heap.size w5 wr) (fun v _=>T.length-(intOf v).toNat)
      case atStart=>exact⟨0,Nat.zero_le _,rfl,fun j hj=>by simp at hj,v9r⟩
      case round=>
       obtain⟨q,hq,rfl,HN0,hbw⟩:=hrel;have HN:=v9h HN0;clear HN0;have bt6:=bt5.mono hbw;have bf6:=bf5.mono hbw;have hbw6:=za hbw5 hbw;have t0:=bt6.cell 0 rfl;have tl:=bt6.lt
       by_cases hqt:q<T.length
       ·first
        |(exfalso;omega)
        |(
          obtain⟨hbq,dq⟩:=afs (hsL.mono hbw6) hqt;have hjb:=hTb.out T[q] (List.getElem_mem hqt);obtain⟨j,hjj⟩:∃j:Nat,T[q]=j:=⟨T[q].toNat,by omega⟩
          have HJ:=v9h hjj;rw[hjj] at dq hjb;clear hjj;have hjl:j<cs.length:=by omega
          have hml:=(hlk.out _ (List.getElem_mem hjl)).2.1;have HPL:=v9h (hlk.out _ (List.getElem_mem hjl)).2.2;obtain⟨b7,o7,A7,c7,A8,c8,e7,hb7,k0,k1,k2,k3,hc7,hs7,hc8,hs8⟩:=hT.sl.cls_at hjl;simp only[Option.some.injEq,Addr.mk.injEq] at e7;obtain⟨rfl,rfl,_⟩:=e7;have k3':=keptC k3 hb7 hbw6;clear k0 k1 k2 k3
          go_wp2_with fail
          clear k3' dq t0 tl;obtain⟨wo,rfl⟩:∃wo:World,wo=wr:=⟨_,rfl⟩
          go_loopw [77] (fun v wr=>∃z:Nat,z≤cs[j].methods.length∧v = .int .i64 z∧(∀y (hy:y<z) (hy2:y<cs[j].methods.length),(cs[j].methods[y].name.toList==cs[i].methods[k].name.toList)=true→yB cs[i].methods[k] cs[j].methods[y]=true)∧Below wo.heap.size wo wr) (fun v _=>cs[j].methods.length-(intOf v).toNat)
          case atStart=>exact⟨0,Nat.zero_le _,rfl,fun y hy=>by omega,v9r⟩
          case round=>
           obtain⟨z,hz,rfl,HM0,hbv⟩:=hrel;have HM:=v9h HM0;clear HM0;have hbw7:=za hbw6 hbv;have bf7:=bf6.mono hbv;have g0:=bf7.cell 0 rfl;have g1:=bf7.cell 1 rfl;have g2:=bf7.cell 2 rfl;have g3:=bf7.cell 3 rfl;have gl:=bf7.lt
           by_cases hzt:z<cs[j].methods.length
           ·obtain⟨b9,o9,A9,c9,e9,hb9,s0,s1,s2,s3,hc9,hs9⟩:=hs8.sg_at hzt
            subst e9;have s0':=keptC s0 hb9 hbw7;have s1':=keptC s1 hb9 hbw7;have s2':=keptC s2 hb9 hbw7;have s3':=keptC s3 hb9 hbw7;clear s0 s1 s2 s3;have hpl9:=HPL.out _ (List.getElem_mem hzt);have hb10:Below wr.heap.size wr (wr.alloc (.cells #[.string cs[j].methods[z].name,.bool cs[j].methods[z].static,.slice A9 cs[j].methods[z].params.length c9,.string cs[j].methods[z].result] 36)):=(by repeat(first|assumption|exact v9r|apply zc|apply zd|apply zg|apply ze|apply zi))
            cases hnm:(cs[j].methods[z].name.toList==cs[i].methods[k].name.toList) with
            |true=>
             go_wp2_with fail
             refine(aae cs[i].methods[k] cs[j].methods[z] Ap A9 cp c9 _ hpl hpl9 (hsp.mono (za hbw7 hb10)) (hs9.mono (za hbw7 hb10))).mono ?_;rintro e w8 ⟨rfl,hb8⟩
             cases hO:yB cs[i].methods[k] cs[j].methods[z] with
             |false=>
              have HB:Hid (r=11):=by
               show r=11;rw[HR3.out,abz (List.getElem_mem hqt) (o:=cs[j].methods[z]) (by rw[HJ.out,jI hjl];exact List.getElem_mem hzt) hnm hO];rfl
              go_wp2_with fail
              go_ret
              exact⟨by rw[HB.out];rfl,za hbw7 (za hb10 hb8)⟩
             |true=>
              have HM2:Hid (∀y (hy:y<z+1) (hy2:y<cs[j].methods.length),(cs[j].methods[y].name.toList==cs[i].methods[k].name.toList)=true→yB cs[i].methods[k] cs[j].methods[y]=true):=fun y hy hy2 h=>by
               by_cases ez:y=z
               ·subst ez;exact hO
               ·exact HM.out y (by omega) hy2 h
              clear hnm hO
              go_wp2_with fail
              go_roundw
              case rel=>exact⟨z+1,by omega,by go_num,HM2.out,za hbv (za hb10 hb8)⟩
              case measure=>simp[intOf];omega
            |false=>
             have HM2:Hid (∀y (hy:y<z+1) (hy2:y<cs[j].methods.length),(cs[j].methods[y].name.toList==cs[i].methods[k].name.toList)=true→yB cs[i].methods[k] cs[j].methods[y]=true):=fun y hy hy2 h=>by
              by_cases ez:y=z
              ·subst ez
               rw[hnm] at h
               cases h
              ·exact HM.out y (by omega) hy2 h
             go_wp2_with fail
             go_roundw
             case rel=>exact⟨z+1,by omega,by go_num,HM2.out,za hbv hb10⟩
             case measure=>simp[intOf];omega
           ·have HX:Hid (abA cs (T.take (q+1)) cs[i].methods[k]):=fun x hx o ho h=>by
             rw[List.take_succ_eq_append_getElem hqt] at hx
             rcases List.mem_append.1 hx with hx|hx
             ·exact HN.out x hx o ho h
             ·simp at hx
              rw[hx,HJ.out,jI hjl] at ho;obtain⟨y,hy,rfl⟩:=List.getElem_of_mem ho;exact HM.out y (by omega) hy h
            go_wp2_with fail
            go_roundw
            case rel=>exact⟨q+1,by omega,by go_num,HX.out,za hbw hbv⟩
            case measure=>simp[intOf];omega)
       ·have HB:Hid (r=0):=by
         have:=HN.out;rw[List.take_of_length_le (by omega)] at this;show r=0;rw[HR3.out,acD this];rfl
        go_wp2_with fail
        go_ret
        exact⟨by rw[HB.out];rfl,hbw6⟩
def memE(cs:List Cls)(c:Cls)(T:List Int):Int:=
 if 16<c.fields.length∨16<c.methods.length then 3 else if frst (fldF cs c T) c.fields.length≠0 then frst (fldF cs c T) c.fields.length else frst (mthF cs c T) c.methods.length
theorem adO{cs:List Cls}{i:Nat}{c:Cls}{T:List Int}(hT:(chR cs i).1=(i:Int)::T)(h1:zC c.name=true)(h2:fnd cs c.name=i)(h3:¬(c.super.toList.isEmpty=false∧fnd cs c.super<0))(h4:(chR cs i).2=false):clsE cs i c=memE cs c T:=by
 unfold clsE memE;rw[h1,if_neg (by simp),if_neg (by simpa using h2),if_neg h3,h4,if_neg (by simp),hT]
 rfl
theorem afF(A:Option Addr)(c b:Nat)(cs:List Cls)(i:Nat)(w:World)(hl:cs.length≤1000)(hi:i<cs.length)(hT:TabV w A c b cs)(hok:Hid (yQ cs))(hlk:Hid (yp cs))(hkw:KwX w) :
  Calls Tryz.prog 221 #[.agg #[.slice A cs.length c,.map (some b)],.int .i64 i] w fun e w'=>e = .returned (.int .i64 (clsE cs i cs[i]))∧Below w.heap.size w w':=by
 obtain⟨r,HR⟩:∃r,Hid (r=clsE cs i cs[i]):=⟨_,v9h rfl⟩
 rw[←HR.out];have hfl:=hlk.out _ (List.getElem_mem hi);have hf1:=hfl.1;have hf2:=hfl.2.1;clear hfl;obtain⟨b0,o0,A2,c2,A3,c3,rfl,hb0,d0,d1,d2,d3,hc2,hs2,hc3,hs3⟩:=hT.sl.cls_at hi;have hno:=(hok.out _ (List.getElem_mem hi)).1;obtain⟨hno1,hno2⟩:=hno;obtain⟨T,hT0⟩:=ahd hi;have hcb:=qj (cs:=cs) (i:=(i:Int)) (by omega);have hcl:=kh (cs:=cs) (i:=(i:Int)) (by omega);have HT0:=v9h hT0;rw[hT0] at hcb hcl;have hTl:T.length≤1000:=by simp at hcl;omega
 have hTb:Hid (∀x∈T,0≤x∧x<(cs.length:Int)):=fun x hx=>hcb.1 x (by simp[hx])
 clear hcb hcl hT0
 go_enter Tryz.func221,Tryz.ntmps221
 go_wp2_with fail
 generalize hW:World.alloc _ _=W1;have hb1:Below w.heap.size w W1:=by rw[←hW];exact(by repeat(first|assumption|exact v9r|apply zc|apply zd|apply zg|apply ze|apply zi))
 have bt:Box W1 w.heap.size [.slice (some ⟨b0,o0,none⟩) cs.length c,.map (some b)] 155:=by rw[←hW];exact(by repeat(first|(refine Box.at ?_;(simp;done))|apply Box.drew|apply Box.alloc|assumption))
 have bc:Box W1 (w.heap.size+1) [.string cs[i].name,.string cs[i].super,.slice A2 cs[i].fields.length c2,.slice A3 cs[i].methods.length c3] 94:=by rw[←hW];exact(by repeat(first|(refine Box.at ?_;(simp;done))|apply Box.drew|apply Box.alloc|assumption))
 clear hW d0 d1 d2 d3;refine(ku cs[i].name _ (jJ hno1) (hkw.mono hb1)).mono ?_;rintro e w1 ⟨rfl,rfl⟩
 cases hI:zC cs[i].name with
 |false=>
  have HB:Hid (r=5):=by show r=5;rw[HR.out];unfold clsE;rw[hI];rfl
  go_wp2_with fail
  go_ret
  exact⟨by rw[HB.out];rfl,hb1⟩
 |true=>
 have HI:=v9h hI;clear hI;have t0:=bt.cell 0 rfl;have t1:=bt.cell 1 rfl;have tl:=bt.lt;have p0:=bc.cell 0 rfl;have pl:=bc.lt
 go_wp2_with fail
 refine(jK _ c b cs cs[i].name _ (hT.mono hb1) hno1).mono ?_;rintro e w2 ⟨rfl,hb2⟩;have hbw2:=za hb1 hb2;have bt2:=bt.mono hb2;have bc2:=bc.mono hb2;clear t0 t1 tl p0 pl bt bc hb1 hb2
 by_cases hfi:fnd cs cs[i].name=i
 rotate_left
 ·have HB:Hid (r=7):=by show r=7;rw[HR.out];unfold clsE;rw[HI.out,if_neg (by simp),if_pos hfi]
  have hq:(fnd cs cs[i].name != (i:Int))=true:=by simpa using hfi
  clear hfi
  go_wp2_with fail
  go_ret
  exact⟨by rw[HB.out];rfl,hbw2⟩
 have HFI:=v9h hfi;have hq:(fnd cs cs[i].name != (i:Int))=false:=by simp[hfi]
 clear hfi;have t0:=bt2.cell 0 rfl;have t1:=bt2.cell 1 rfl;have tl:=bt2.lt;have p1:=bc2.cell 1 rfl;have pl:=bc2.lt
 cases hse:cs[i].super.toList.isEmpty with
 |true=>
  have HKN:Hid (¬(cs[i].super.toList.isEmpty=false∧fnd cs cs[i].super<0)):=fun h=>by rw[hse] at h;cases h.1
  obtain⟨w3,rfl⟩:∃w3:World,w3=w2:=⟨_,rfl⟩
  have hbw3:=hbw2;have bt3:=bt2;have bc3:=bc2;have t0:=bt3.cell 0 rfl;have t1:=bt3.cell 1 rfl;have tl:=bt3.lt
  go_wp2_with fail
  refine(kG _ c b cs (i:Int) _ (by omega) (by omega) (by omega) (hT.mono hbw3) hok.out.names).mono ?_;rintro e w4 ⟨⟨v4,rfl,hown4⟩,hb4⟩;have hbw4:=za hbw3 hb4;have bt4:=bt3.mono hb4;have bc4:=bc3.mono hb4;clear t0 t1 tl bt3 bc3 hb4 hbw3;rw[HT0.out] at hown4
  cases hcy:(chR cs (i:Int)).2 with
  |true=>
   have HB:Hid (r=10):=by show r=10;rw[HR.out];unfold clsE;rw[HI.out,if_neg (by simp),if_neg (by simpa using HFI.out),if_neg HKN.out,if_pos hcy]
   go_wp2_with fail
   go_ret
   exact⟨by rw[HB.out];rfl,hbw4⟩
  |false=>
  have HRM:Hid (r=memE cs cs[i] T):=by show r=_;rw[HR.out];exact adO HT0.out HI.out HFI.out HKN.out hcy
  clear hcy;obtain⟨AL,cL,hv4,hcL,hsL⟩:=jr.of_own hown4;simp only[List.length_cons] at hv4 hcL;subst hv4;obtain⟨bL,oL,rfl,hbL,_⟩:=hsL.int_at (i:=0) (by simp);clear hown4;have p2:=bc4.cell 2 rfl;have p3:=bc4.cell 3 rfl;have pl:=bc4.lt
  by_cases hg1:16<cs[i].fields.length
  ·have HB:Hid (r=3):=by show r=3;rw[HRM.out];unfold memE;rw[if_pos (Or.inl hg1)]
   go_wp2_with fail
   go_ret
   exact⟨by rw[HB.out];rfl,hbw4⟩
  by_cases hg2:16<cs[i].methods.length
  ·have HB:Hid (r=3):=by show r=3;rw[HRM.out];unfold memE;rw[if_pos (Or.inr hg2)]
   go_wp2_with fail
   go_ret
   exact⟨by rw[HB.out];rfl,hbw4⟩
  have HRF:Hid (r=if frst (fldF cs cs[i] T) cs[i].fields.length≠0 then frst (fldF cs cs[i] T) cs[i].fields.length else frst (mthF cs cs[i] T) cs[i].methods.length):=by
   show r=_;rw[HRM.out];unfold memE;rw[if_neg (by omega)]
  go_wp2_with fail
  clear p2 p3 pl
  go_loopw [57] (fun v wr=>∃q:Nat,q≤cs[i].fields.length∧v = .int .i64 q∧frst (fldF cs cs[i] T) q=0∧Below w4.heap.size w4 wr) (fun v _=>cs[i].fields.length-(intOf v).toNat)
  case atStart=>exact⟨0,Nat.zero_le _,rfl,rfl,v9r⟩
  case round=>
   obtain⟨q,hq,rfl,HF0,hbw⟩:=hrel;have HF:=v9h HF0;clear HF0;have hbw5:=za hbw4 hbw;have bt5:=bt4.mono hbw;have bc5:=bc4.mono hbw;have t0:=bt5.cell 0 rfl;have t1:=bt5.cell 1 rfl;have tl:=bt5.lt
   by_cases hqt:q<cs[i].fields.length
   ·go_wp2_with fail
    refine(abr _ c b bL oL cL cs i q T _ hl hi hqt hcL hTl hTb (hsL.mono hbw) (hT.mono hbw5) hok hlk (hkw.mono hbw5)).mono ?_;rintro e w6 ⟨rfl,hb6⟩
    by_cases hn0:fldE cs cs[i].fields T q cs[i].fields[q]=0
    ·have HF2:Hid (frst (fldF cs cs[i] T) (q+1)=0):=yz HF.out (by rw[qZ hqt];exact hn0)
     have hnq:(fldE cs cs[i].fields T q cs[i].fields[q] != 0)=false:=by simpa using hn0
     clear hn0
     go_wp2_with fail
     go_roundw
     case rel=>exact⟨q+1,by omega,by go_num,HF2.out,za hbw hb6⟩
     case measure=>simp[intOf];omega
    ·have HB:Hid (r=fldE cs cs[i].fields T q cs[i].fields[q]):=by
      show r=_;have hh:=jk HF.out (by rw[qZ hqt];exact hn0) hqt;rw[HRF.out,if_pos (by rw[hh,qZ hqt];exact hn0),hh,qZ hqt]
     have hnq:(fldE cs cs[i].fields T q cs[i].fields[q] != 0)=true:=by simpa using hn0
     clear hn0
     go_wp2_with fail
     go_ret
     exact⟨by rw[HB.out];rfl,za hbw5 hb6⟩
   ·have HRG:Hid (r=frst (mthF cs cs[i] T) cs[i].methods.length):=by
     show r=_;have hq2:q=cs[i].fields.length:=by omega
     have:=HF.out;rw[hq2] at this;rw[HRF.out,if_neg (by simpa using this)]
    clear t0 t1 tl;have p3:=bc5.cell 3 rfl;have pl:=bc5.lt
    go_wp2_with fail
    clear p3 pl;obtain⟨wo,rfl⟩:∃wo:World,wo=wr:=⟨_,rfl⟩
    go_loopw [71] (fun v wr=>∃q:Nat,q≤cs[i].methods.length∧v = .int .i64 q∧frst (mthF cs cs[i] T) q=0∧Below wo.heap.size wo wr) (fun v _=>cs[i].methods.length-(intOf v).toNat)
    case atStart=>exact⟨0,Nat.zero_le _,rfl,rfl,v9r⟩
    case round=>
     obtain⟨z,hz,rfl,HG0,hbv⟩:=hrel;have HG:=v9h HG0;clear HG0;have hbw7:=za hbw5 hbv;have bt7:=bt5.mono hbv;have t0:=bt7.cell 0 rfl;have t1:=bt7.cell 1 rfl;have tl:=bt7.lt
     by_cases hzt:z<cs[i].methods.length
     ·go_wp2_with fail
      refine(aaX _ c b bL oL cL cs i z T _ hl hi hzt hcL hTl hTb ((hsL.mono hbw).mono hbv) (hT.mono hbw7) hok hlk (hkw.mono hbw7)).mono ?_;rintro e w8 ⟨rfl,hb8⟩
      by_cases hn0:mthE cs cs[i].methods T z cs[i].methods[z]=0
      ·have HG2:Hid (frst (mthF cs cs[i] T) (z+1)=0):=yz HG.out (by rw[jM hzt];exact hn0)
       have hnq:(mthE cs cs[i].methods T z cs[i].methods[z] != 0)=false:=by simpa using hn0
       clear hn0
       go_wp2_with fail
       go_roundw
       case rel=>exact⟨z+1,by omega,by go_num,HG2.out,za hbv hb8⟩
       case measure=>simp[intOf];omega
      ·have HB:Hid (r=mthE cs cs[i].methods T z cs[i].methods[z]):=by
        show r=_;rw[HRG.out,jk HG.out (by rw[jM hzt];exact hn0) hzt,jM hzt]
       have hnq:(mthE cs cs[i].methods T z cs[i].methods[z] != 0)=true:=by simpa using hn0
       clear hn0
       go_wp2_with fail
       go_ret
       exact⟨by rw[HB.out];rfl,za hbw7 hb8⟩
     ·have HB:Hid (r=0):=by
       show r=_;have hq2:z=cs[i].methods.length:=by omega
       have:=HG.out;rw[hq2] at this;rw[HRG.out,this]
      go_wp2_with fail
      go_ret
      exact⟨by rw[HB.out];rfl,hbw7⟩
 |false=>
  go_wp2_with fail
  refine(jK _ c b cs cs[i].super _ (hT.mono hbw2) hno2).mono ?_;rintro e w3 ⟨rfl,hb3⟩;have hbw3:=za hbw2 hb3;have bt3:=bt2.mono hb3;have bc3:=bc2.mono hb3
  by_cases hneg:fnd cs cs[i].super<0
  ·have HB:Hid (r=6):=by show r=6;rw[HR.out];unfold clsE;rw[HI.out,if_neg (by simp),if_neg (by simpa using HFI.out),if_pos ⟨hse,hneg⟩]
   go_wp2_with fail
   go_ret
   exact⟨by rw[HB.out];rfl,hbw3⟩
  ·have HKN:Hid (¬(cs[i].super.toList.isEmpty=false∧fnd cs cs[i].super<0)):=fun h=>hneg h.2
   clear t0 t1 tl p1 pl bt2 bc2 hb3 hbw2;have t0:=bt3.cell 0 rfl;have t1:=bt3.cell 1 rfl;have tl:=bt3.lt
   go_wp2_with fail
   refine(kG _ c b cs (i:Int) _ (by omega) (by omega) (by omega) (hT.mono hbw3) hok.out.names).mono ?_;rintro e w4 ⟨⟨v4,rfl,hown4⟩,hb4⟩;have hbw4:=za hbw3 hb4;have bt4:=bt3.mono hb4;have bc4:=bc3.mono hb4;clear t0 t1 tl bt3 bc3 hb4 hbw3;rw[HT0.out] at hown4
   cases hcy:(chR cs (i:Int)).2 with
   |true=>
    have HB:Hid (r=10):=by show r=10;rw[HR.out];unfold clsE;rw[HI.out,if_neg (by simp),if_neg (by simpa using HFI.out),if_neg HKN.out,if_pos hcy]
    go_wp2_with fail
    go_ret
    exact⟨by rw[HB.out];rfl,hbw4⟩
   |false=>
   have HRM:Hid (r=memE cs cs[i] T):=by show r=_;rw[HR.out];exact adO HT0.out HI.out HFI.out HKN.out hcy
   clear hcy;obtain⟨AL,cL,hv4,hcL,hsL⟩:=jr.of_own hown4;simp only[List.length_cons] at hv4 hcL;subst hv4;obtain⟨bL,oL,rfl,hbL,_⟩:=hsL.int_at (i:=0) (by simp);clear hown4;have p2:=bc4.cell 2 rfl;have p3:=bc4.cell 3 rfl;have pl:=bc4.lt
   by_cases hg1:16<cs[i].fields.length
   ·have HB:Hid (r=3):=by show r=3;rw[HRM.out];unfold memE;rw[if_pos (Or.inl hg1)]
    go_wp2_with fail
    go_ret
    exact⟨by rw[HB.out];rfl,hbw4⟩
   by_cases hg2:16<cs[i].methods.length
   ·have HB:Hid (r=3):=by show r=3;rw[HRM.out];unfold memE;rw[if_pos (Or.inr hg2)]
    go_wp2_with fail
    go_ret
    exact⟨by rw[HB.out];rfl,hbw4⟩
   have HRF:Hid (r=if frst (fldF cs cs[i] T) cs[i].fields.length≠0 then frst (fldF cs cs[i] T) cs[i].fields.length else frst (mthF cs cs[i] T) cs[i].methods.length):=by
    show r=_;rw[HRM.out];unfold memE;rw[if_neg (by omega)]
   go_wp2_with fail
   clear p2 p3 pl
   go_loopw [57] (fun v wr=>∃q:Nat,q≤cs[i].fields.length∧v = .int .i64 q∧frst (fldF cs cs[i] T) q=0∧Below w4.heap.size w4 wr) (fun v _=>cs[i].fields.length-(intOf v).toNat)
   case atStart=>exact⟨0,Nat.zero_le _,rfl,rfl,v9r⟩
   case round=>
    obtain⟨q,hq,rfl,HF0,hbw⟩:=hrel;have HF:=v9h HF0;clear HF0;have hbw5:=za hbw4 hbw;have bt5:=bt4.mono hbw;have bc5:=bc4.mono hbw;have t0:=bt5.cell 0 rfl;have t1:=bt5.cell 1 rfl;have tl:=bt5.lt
    by_cases hqt:q<cs[i].fields.length
    ·go_wp2_with fail
     refine(abr _ c b bL oL cL cs i q T _ hl hi hqt hcL hTl hTb (hsL.mono hbw) (hT.mono hbw5) hok hlk (hkw.mono hbw5)).mono ?_;rintro e w6 ⟨rfl,hb6⟩
     by_cases hn0:fldE cs cs[i].fields T q cs[i].fields[q]=0
     ·have HF2:Hid (frst (fldF cs cs[i] T) (q+1)=0):=yz HF.out (by rw[qZ hqt];exact hn0)
      have hnq:(fldE cs cs[i].fields T q cs[i].fields[q] != 0)=false:=by simpa using hn0
      clear hn0
      go_wp2_with fail
      go_roundw
      case rel=>exact⟨q+1,by omega,by go_num,HF2.out,za hbw hb6⟩
      case measure=>simp[intOf];omega
     ·have HB:Hid (r=fldE cs cs[i].fields T q cs[i].fields[q]):=by
       show r=_;have hh:=jk HF.out (by rw[qZ hqt];exact hn0) hqt;rw[HRF.out,if_pos (by rw[hh,qZ hqt];exact hn0),hh,qZ hqt]
      have hnq:(fldE cs cs[i].fields T q cs[i].fields[q] != 0)=true:=by simpa using hn0
      clear hn0
      go_wp2_with fail
      go_ret
      exact⟨by rw[HB.out];rfl,za hbw5 hb6⟩
    ·have HRG:Hid (r=frst (mthF cs cs[i] T) cs[i].methods.length):=by
      show r=_;have hq2:q=cs[i].fields.length:=by omega
      have:=HF.out;rw[hq2] at this;rw[HRF.out,if_neg (by simpa using this)]
     clear t0 t1 tl;have p3:=bc5.cell 3 rfl;have pl:=bc5.lt
     go_wp2_with fail
     clear p3 pl;obtain⟨wo,rfl⟩:∃wo:World,wo=wr:=⟨_,rfl⟩
     go_loopw [71] (fun v wr=>∃q:Nat,q≤cs[i].methods.length∧v = .int .i64 q∧frst (mthF cs cs[i] T) q=0∧Below wo.heap.size wo wr) (fun v _=>cs[i].methods.length-(intOf v).toNat)
     case atStart=>exact⟨0,Nat.zero_le _,rfl,rfl,v9r⟩
     case round=>
      obtain⟨z,hz,rfl,HG0,hbv⟩:=hrel;have HG:=v9h HG0;clear HG0;have hbw7:=za hbw5 hbv;have bt7:=bt5.mono hbv;have t0:=bt7.cell 0 rfl;have t1:=bt7.cell 1 rfl;have tl:=bt7.lt
      by_cases hzt:z<cs[i].methods.length
      ·go_wp2_with fail
       refine(aaX _ c b bL oL cL cs i z T _ hl hi hzt hcL hTl hTb ((hsL.mono hbw).mono hbv) (hT.mono hbw7) hok hlk (hkw.mono hbw7)).mono ?_;rintro e w8 ⟨rfl,hb8⟩
       by_cases hn0:mthE cs cs[i].methods T z cs[i].methods[z]=0
       ·have HG2:Hid (frst (mthF cs cs[i] T) (z+1)=0):=yz HG.out (by rw[jM hzt];exact hn0)
        have hnq:(mthE cs cs[i].methods T z cs[i].methods[z] != 0)=false:=by simpa using hn0
        clear hn0
        go_wp2_with fail
        go_roundw
        case rel=>exact⟨z+1,by omega,by go_num,HG2.out,za hbv hb8⟩
        case measure=>simp[intOf];omega
       ·have HB:Hid (r=mthE cs cs[i].methods T z cs[i].methods[z]):=by
         show r=_;rw[HRG.out,jk HG.out (by rw[jM hzt];exact hn0) hzt,jM hzt]
        have hnq:(mthE cs cs[i].methods T z cs[i].methods[z] != 0)=true:=by simpa using hn0
        clear hn0
        go_wp2_with fail
        go_ret
        exact⟨by rw[HB.out];rfl,za hbw7 hb8⟩
      ·have HB:Hid (r=0):=by
        show r=_;have hq2:z=cs[i].methods.length:=by omega
        have:=HG.out;rw[hq2] at this;rw[HRG.out,this]
       go_wp2_with fail
       go_ret
       exact⟨by rw[HB.out];rfl,hbw7⟩
theorem ada(A:Option Addr)(c:Nat)(cs:List Cls)(w:World)(hl:cs.length≤8796093022208)(hcc:cs.length≤c)(hsl:Sl Lay.cls w A cs)(hok:Hid (yQ cs))(hlk:Hid (yp cs))(hkw:KwX w) :
  Calls Tryz.prog 149 #[.agg #[.slice A cs.length c]] w fun e w'=>e = .returned (.tuple #[.int .i64 (yn cs).1,.int .i64 (yn cs).2])∧Below w.heap.size w w':=by
 obtain⟨r,HR⟩:∃r,Hid (r=yn cs):=⟨_,v9h rfl⟩
 rw[←HR.out];have hb0:Below w.heap.size w (w.alloc (.cells #[.slice A cs.length c] 29)):=(by repeat(first|assumption|exact v9r|apply zc|apply zd|apply zg|apply ze|apply zi))
 by_cases h64:64<cs.length
 ·have HB:Hid (r=(-1,3)):=by show r=_;rw[HR.out];unfold yn;rw[if_pos h64]
  go_enter Tryz.func149,Tryz.ntmps149
  go_wp2_with fail
  go_ret2
  exact⟨by rw[HB.out];rfl,hb0⟩
 ·have H64:=v9h h64
  go_enter Tryz.func149,Tryz.ntmps149
  go_wp2_with fail
  refine(km A c cs _ (by omega) hcc (hsl.mono hb0) hok.out.names).mono ?_;rintro e w1 ⟨⟨b,rfl,hT⟩,hb1⟩;have hbw1:=za hb0 hb1
  go_wp2_with fail
  have bt:=Box.new w1 [.slice A cs.length c,.map (some b)] 155;have hb2:Below w1.heap.size w1 (w1.alloc (.cells #[.slice A cs.length c,.map (some b)] 155)):=(by repeat(first|assumption|exact v9r|apply zc|apply zd|apply zg|apply ze|apply zi))
  go_loopw [16] (fun v wr=>∃q:Nat,q≤cs.length∧v = .int .i64 q∧frst (clsF cs) q=0∧Box wr w1.heap.size [.slice A cs.length c,.map (some b)] 155∧Below w1.heap.size w1 wr) (fun v _=>cs.length-(intOf v).toNat)
  case atStart=>exact⟨0,Nat.zero_le _,rfl,rfl,bt,hb2⟩
  case round=>
   clear bt hb2;obtain⟨q,hq,rfl,HC0,bt,hbw⟩:=hrel;have HC:=v9h HC0;clear HC0;have t0:=bt.cell 0 rfl;have t1:=bt.cell 1 rfl;have tl:=bt.lt;have hbw2:=za hbw1 hbw
   by_cases hqt:q<cs.length
   ·go_wp2_with fail
    refine(afF A c b cs q _ (by omega) hqt (hT.mono hbw) hok hlk (hkw.mono hbw2)).mono ?_;rintro e w3 ⟨rfl,hb3⟩
    by_cases hn0:clsE cs q cs[q]=0
    ·have HC2:Hid (frst (clsF cs) (q+1)=0):=yz HC.out (by rw[xt hqt];exact hn0)
     have hnq:(clsE cs q cs[q] != 0)=false:=by simpa using hn0
     clear hn0
     go_wp2_with fail
     go_roundw
     case rel=>exact⟨q+1,by omega,by go_num,HC2.out,bt.mono hb3,za hbw hb3⟩
     case measure=>simp[intOf];omega
    ·have HB:Hid (r=((q:Int),clsE cs q cs[q])):=by
      show r=_;rw[HR.out,acv H64.out HC.out (by rw[xt hqt];exact hn0) hqt,xt hqt]
     have hnq:(clsE cs q cs[q] != 0)=true:=by simpa using hn0
     clear hn0
     go_wp2_with fail
     go_ret2
     exact⟨by rw[HB.out];rfl,za hbw2 hb3⟩
   ·have HB:Hid (r=(0,0)):=by
     show r=_;have hq2:q=cs.length:=by omega
     have:=HC.out;rw[hq2] at this;rw[HR.out,adz H64.out this]
    go_wp2_with fail
    go_ret2
    exact⟨by rw[HB.out];rfl,hbw2⟩
end Go.Proofs.YtmhdambkchlilaaGreatDoor
