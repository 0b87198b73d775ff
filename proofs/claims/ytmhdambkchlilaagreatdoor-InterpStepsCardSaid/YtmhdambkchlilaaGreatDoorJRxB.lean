/- Chapter 15: the statement about steps of executions, walked (for any unit, any input, any numbers of steps). -/
import Derived.Test.YtmhdambkchlilaaGreatDoorJRxR
import Derived.Test.YtmhdambkchlilaaGreatDoorJFo
namespace Go.Proofs.YtmhdambkchlilaaGreatDoor
open Go.RowKit
set_option linter.unusedVariables false
set_option maxRecDepth 100000
set_option maxHeartbeats 16000000
structure TwoR(u:Unt)(a b:Nat)(X Y:Mch):Prop where
 pre:∃t,Y.obs=X.obs++t
 len:X.obs.length≤a
 same:X.en≠4→Y=X
 full:X.en=4→X.obs.length=a
 all:AllF u X.obs
theorem ai4{u:Unt}(HU:UV u)(l:List Int){a b:Nat}(hab:a≤b):TwoR u a b (runM u a (yD u l)) (runM u b (yD u l)):=by
 have h0:(yD u l).obs=[]:=rfl;obtain⟨h1,h2,h3,h4⟩:=ace HU (b-a) a (yD u l) (Inv.start HU l) (by show(0:Int)≠4;decide);rw[show a+(b-a)=b by omega] at h1 h3;rw[h0,List.length_nil,Nat.zero_add] at h2 h4;exact⟨h1,h2,h3,h4,(xZ HU a (yD u l) (Inv.start HU l)).1⟩
theorem abh(u:Unt)(AC AF:Option Addr)(cC cF:Nat)(AI:Option Addr)(cI:Nat)(l:List Int)(a b:Int)(w:World)(H:Hid (UnR w u AC AF cC))(hcI:l.length≤cI)(hsI:Sl Lay.int w AI l)(hfx:Hid (yw w))(hkw:Hid (KwX w)) :
  Calls Tryz.prog 5 #[.agg #[.slice AC u.classes.length cC,.slice AF u.funcs.length cF,.int .i64 u.main],.slice AI l.length cI,.int .i64 a,.int .i64 b] w fun e w'=>e = .returned (.bool true)∧Below w.heap.size w w':=by
 have HAW:Hid (∀W,Below w.heap.size w W→Calls Tryz.prog 12 #[] W fun e w'=>e = .returned (.bool true)∧Below W.heap.size W w'):=fun W h=>aa4 W (v9h (hfx.out.mono h)) (v9h (hkw.out.mono h))
 have HRUN:Hid (∀W S,Below w.heap.size w W→Calls Tryz.prog 16 #[.agg #[.slice AC u.classes.length cC,.slice AF u.funcs.length cF,.int .i64 u.main],.slice AI l.length cI,.int .i64 S] W fun e w'=>aaP u l S w' e∧Below W.heap.size W w'):=fun W S h=>
  afi u W AC AF cC cF (v9h (by have k:=H.out;exact(⟨k.hl,k.hcc,k.hs,k.hok,k.hlk,k.hf,k.hfl,k.hfo,hfx.out,hkw.out⟩:UnH w u AC AF cC).mono h)) AI cI l hcI (hsI.mono h) S
 clear hfx hkw hsI hcI
 go_enter Tryz.func5,Tryz.ntmps5
 go_upto_region 1 with fail
 generalize hW:World.alloc _ _=W1 at *
 have hb1:Below w.heap.size w W1:=by rw[←hW];exact(by repeat(first|assumption|exact v9r|apply zc|apply zd|apply zg|apply ze|apply zi))
 have bu:Box W1 w.heap.size [.slice AC u.classes.length cC,.slice AF u.funcs.length cF,.int .i64 u.main] 32:=by rw[←hW];exact Box.new _ _ _
 clear hW;have u0:=bu.cell 0 rfl;have u1:=bu.cell 1 rfl;have u2:=bu.cell 2 rfl;have ul:=bu.lt
 go_wp2_with fail
 refine(HRUN.out _ a hb1).mono ?_;rintro e W2 ⟨hR,hq⟩;have hb2:=za hb1 hq;have bu2:=bu.mono hq;clear hq u0 u1 u2 ul bu hb1;obtain⟨X,hX⟩:∃X,Hid (X=runM u a.toNat (yD u l)):=⟨_,v9h rfl⟩
 unfold aaP at hR;rw[←hX.out] at hR;have u0:=bu2.cell 0 rfl;have u1:=bu2.cell 1 rfl;have u2:=bu2.cell 2 rfl;have ul:=bu2.lt
 rcases hR with⟨n,hn,rfl⟩|⟨hch,⟨ha0,ha5⟩,A,c,rfl,hc,hS⟩
 ·have hn':(n != 0)=true:=by rw[bne_iff_ne];exact hn
  go_upto_region 2 with fail
  generalize hW:World.alloc _ _=W3 at *
  have hb23:Below W2.heap.size W2 W3:=by rw[←hW];exact(by repeat(first|assumption|exact v9r|apply zc|apply zd|apply zg|apply ze|apply zi))
  clear hW u0 u1 u2 ul;have hb3:=za hb2 hb23;have bu3:=bu2.mono hb23;have u0:=bu3.cell 0 rfl;have u1:=bu3.cell 1 rfl;have u2:=bu3.cell 2 rfl;have ul:=bu3.lt
  go_wp2_with fail
  refine(HRUN.out _ b hb3).mono ?_;rintro e W4 ⟨hR,hq⟩;have hb4:=za hb3 hq;clear hq u0 u1 u2 ul
  obtain⟨v1,v2,v3,v4,w2,rfl⟩:∃(v1:Int) (v2:Option Addr) (v3 v4:Nat) (w2:Int),e = .returned (.tuple #[.agg #[.int .i64 v1,.slice v2 v3 v4],.int .i64 w2]):=by
   rcases hR with⟨n,_,rfl⟩|⟨_,_,A,c,rfl,_,_⟩
   ·exact⟨0,none,0,0,n,rfl⟩
   ·exact⟨_,A,_,c,0,rfl⟩
  clear hR
  go_upto_region 4 with fail
  generalize hW:World.alloc _ _=W5 at *
  have hb45:Below W4.heap.size W4 W5:=by rw[←hW];exact(by repeat(first|assumption|exact v9r|apply zc|apply zd|apply zg|apply ze|apply zi))
  clear hW;have hb5:=za hb4 hb45
  go_wp2_with fail
  refine(HAW.out _ hb5).mono ?_;rintro e w6 ⟨rfl,hq⟩
  go_wp2_with fail
  go_ret
  exact⟨rfl,za hb5 hq⟩
 ·have HU:=UV.of hch
  go_upto_region 2 with fail
  generalize hW:World.alloc _ _=W3 at *
  have hb23:Below W2.heap.size W2 W3:=by rw[←hW];exact(by repeat(first|assumption|exact v9r|apply zc|apply zd|apply zg|apply ze|apply zi))
  have be:Box W3 W2.heap.size [.int .i64 X.en,.slice A X.obs.length c] 47:=by rw[←hW];exact Box.new _ _ _
  clear hW u0 u1 u2 ul;have hb3:=za hb2 hb23;have bu3:=bu2.mono hb23;have hS3:=hS.mono hb23;have u0:=bu3.cell 0 rfl;have u1:=bu3.cell 1 rfl;have u2:=bu3.cell 2 rfl;have ul:=bu3.lt
  go_wp2_with fail
  refine(HRUN.out _ b hb3).mono ?_;rintro e W4 ⟨hR,hq⟩;have hb4:=za hb3 hq;have bu4:=bu3.mono hq;have be4:=be.mono hq;have hS4:=hS3.mono hq;clear hq u0 u1 u2 ul hb2 hb23 bu2 hS be hb3 bu3 hS3 HRUN;obtain⟨Y,hY⟩:∃Y,Hid (Y=runM u b.toNat (yD u l)):=⟨_,v9h rfl⟩
  unfold aaP at hR;rw[←hY.out] at hR
  rcases hR with⟨n,hn,rfl⟩|⟨-,⟨hb0,hb5'⟩,B,d,rfl,hd,hT⟩
  ·have hn':(n != 0)=true:=by rw[bne_iff_ne];exact hn
   go_upto_region 4 with fail
   generalize hW:World.alloc _ _=W5 at *
   have hb45:Below W4.heap.size W4 W5:=by rw[←hW];exact(by repeat(first|assumption|exact v9r|apply zc|apply zd|apply zg|apply ze|apply zi))
   clear hW;have hb5:=za hb4 hb45
   go_wp2_with fail
   refine(HAW.out _ hb5).mono ?_;rintro e w6 ⟨rfl,hq⟩
   go_wp2_with fail
   go_ret
   exact⟨rfl,za hb5 hq⟩
  ·by_cases hab:b<a
   ·go_upto_region 4 with fail
    generalize hW:World.alloc _ _=W5 at *
    have hb45:Below W4.heap.size W4 W5:=by rw[←hW];exact(by repeat(first|assumption|exact v9r|apply zc|apply zd|apply zg|apply ze|apply zi))
    clear hW;have hb5:=za hb4 hb45
    go_wp2_with fail
    refine(HAW.out _ hb5).mono ?_;rintro e w6 ⟨rfl,hq⟩
    go_wp2_with fail
    go_ret
    exact⟨rfl,za hb5 hq⟩
   ·have HT:Hid (TwoR u a.toNat b.toNat X Y):=by
     show TwoR _ _ _ _ _;rw[hX.out,hY.out];exact ai4 HU l (by omega)
    clear hX hY hch
    go_upto_region 5 with fail
    generalize hW:World.alloc _ _=W5 at *
    have hb45:Below W4.heap.size W4 W5:=by rw[←hW];exact(by repeat(first|assumption|exact v9r|apply zc|apply zd|apply zg|apply ze|apply zi))
    have bf:Box W5 W4.heap.size [.int .i64 Y.en,.slice B Y.obs.length d] 47:=by rw[←hW];exact Box.new _ _ _
    clear hW;have hb5:=za hb4 hb45;have bu5:=bu4.mono hb45;have be5:=be4.mono hb45;have hS5:=hS4.mono hb45;have hT5:=hT.mono hb45;clear hb4 hb45 bu4 be4 hS4 hT;obtain⟨tl,htl⟩:=HT.out.pre;have hlen:X.obs.length≤Y.obs.length:=by rw[htl,List.length_append];omega
    have HY:Hid (∀i (h:i<X.obs.length) (h2:i<Y.obs.length),Y.obs[i]=X.obs[i]):=fun i h h2=>by
     have:Y.obs[i]? = X.obs[i]?:=by rw[htl,List.getElem?_append_left h]
     rw[List.getElem?_eq_getElem h,List.getElem?_eq_getElem h2] at this;injection this
    clear htl;have hla:=HT.out.len;have c1:¬(X.obs.length:Int)>(Y.obs.length:Int):=by omega
    have c1':¬(Y.obs.length:Int)<(X.obs.length:Int):=by omega
    have c2:¬(X.obs.length:Int)>a:=by omega
    have c2':¬a<(X.obs.length:Int):=by omega
    have hX5000:X.obs.length≤8796093022208∧∀o∈X.obs,o.vals.length≤8796093022208:=by
     refine⟨by omega,fun o ho=>?_⟩;obtain⟨i,hi,rfl⟩:=List.getElem_of_mem ho;have hob:=(HT.out.all i _ (List.getElem?_eq_getElem hi)).2;obtain⟨p,_,hF⟩:=qA HU.u hob.fn;rw[hob.len];have:=hF.vl
     omega
    have e0:=be5.cell 0 rfl;have e1:=be5.cell 1 rfl;have el:=be5.lt;have g0:=bf.cell 0 rfl;have g1:=bf.cell 1 rfl;have gl:=bf.lt;obtain⟨b4,hb4⟩:∃z,(X.en==4)=z:=⟨_,rfl⟩
    cases b4
    case' false=>
     have hne:(X.en != 4)=true:=by rw[bne,hb4];rfl
     have hYX:Y=X:=HT.out.same (by rw[beq_eq_false_iff_ne] at hb4;exact hb4)
     have HSM:Hid (∀W,Below W5.heap.size W5 W→Calls Tryz.prog 17 #[.agg #[.int .i64 X.en,.slice A X.obs.length c],.agg #[.int .i64 Y.en,.slice B Y.obs.length d]] W fun e w'=>e = .returned (.bool true)∧Below W.heap.size W w'):=fun W h=>by
      have:=ag2 X.en X.obs A B c d W hX5000.1 hX5000.2 (hS5.mono h) (by have:=hT5.mono h;rw[hYX] at this;exact this);rw[hYX];exact this
     clear hYX
     go_wp2_with fail
     refine(HSM.out _ (v9r)).mono ?_;rintro e W6 ⟨rfl,hb6⟩;clear HSM hne e0 e1 el g0 g1 gl;have be6:=be5.mono hb6;have bf6:=bf.mono hb6;have bu6:=bu5.mono hb6;have hS6:=v9h (hS5.mono hb6);have hT6:=v9h (hT5.mono hb6);have hb6w:=za hb5 hb6;clear be5 bf bu5 hS5 hT5 hb5 hb6;have e0:=be6.cell 0 rfl;have el:=be6.lt
     go_upto_region 8 with fail
     clear e0 el hb4
    case' true=>
     have hne:(X.en != 4)=false:=by rw[bne,hb4];rfl
     have hfl:=HT.out.full (by simpa using hb4);have haI:a=(X.obs.length:Int):=by omega
     have c3:((X.obs.length:Int) != a)=false:=by rw[haI];simp
     clear hfl haI
     go_upto_region 8 with fail
     obtain⟨W6,rfl⟩:∃W,W=W5:=⟨W5,rfl⟩
     have be6:=be5;have bf6:=bf;have bu6:=bu5;have hS6:=v9h hS5;have hT6:=v9h hT5;have hb6w:=hb5;clear be5 bf bu5 hS5 hT5 hb5 e0 e1 el g0 g1 gl hne hb4 c3
    all_goals
     clear c1 c1' c2 c2'
     go_loopw [13] (fun v wr=>∃n:Nat,n≤X.obs.length∧v = .int .i64 n∧Below W6.heap.size W6 wr) (fun v _=>X.obs.length-(intOf v).toNat)
     case atStart=>exact⟨0,Nat.zero_le _,rfl,v9r⟩
     case round=>
      obtain⟨n,hn,rfl,hbr⟩:=hrel;have e0:=(be6.mono hbr).cell 0 rfl;have e1:=(be6.mono hbr).cell 1 rfl;have el:=(be6.mono hbr).lt;have g1:=(bf6.mono hbr).cell 1 rfl;have gl:=(bf6.mono hbr).lt;have u0:=(bu6.mono hbr).cell 0 rfl;have u1:=(bu6.mono hbr).cell 1 rfl;have u2:=(bu6.mono hbr).cell 2 rfl;have ul:=(bu6.mono hbr).lt;have hbw:=za hb6w hbr
      by_cases hnl:n<X.obs.length
      ·have hnI:(n:Int)<(X.obs.length:Int):=by omega
       have hny:n<Y.obs.length:=by omega
       have hnyI:(n:Int)<(Y.obs.length:Int):=by omega
       obtain⟨bX,oX,AO,cO,hA,hbX,x0,x1,x2,x3,x4,hcO,hsO⟩:=(hS6.out.mono hbr).ob_at hnl;obtain⟨bY,oY,BO,dO,hB,hbY,y0,y1,y2,y3,y4,hdO,hsY⟩:=(hT6.out.mono hbr).ob_at hny;rw[HY.out n hnl hny] at y0 y1 y2 y3 y4 hsY;have hvo:=hX5000.2 _ (List.getElem_mem hnl)
       have HFO:Hid (∀W,Below wr.heap.size wr W→Calls Tryz.prog 19 #[.agg #[.slice AC u.classes.length cC,.slice AF u.funcs.length cF,.int .i64 u.main],.agg #[.int .i64 X.en,.slice A X.obs.length c],.int .i64 (n:Nat)] W fun e w'=>e = .returned (.bool true)∧Below W.heap.size W w'):=fun W h=>
        ag5 u AC AF cC cF X.en X.obs A c n W HU (v9h (H.out.mono (za hbw h))) (by omega) (hS6.out.mono (za hbr h)) HT.out.all hnl
       obtain⟨o,ho⟩:∃o,o=X.obs[n]:=⟨_,rfl⟩
       rw[←ho] at x0 x1 x2 x3 x4 hsO y0 y1 y2 y3 y4 hsY hvo;clear ho
       have HSO:Hid (∀W,Below wr.heap.size wr W→Calls Tryz.prog 18 #[.agg #[.int .i64 (o.fn:Int),.int .i64 (o.at_:Int),.int .i64 (o.no:Int),.int .i64 o.call,.slice AO o.vals.length cO],.agg #[.int .i64 (o.fn:Int),.int .i64 (o.at_:Int),.int .i64 (o.no:Int),.int .i64 o.call,.slice BO o.vals.length dO]] W fun e w'=>e = .returned (.bool true)∧Below W.heap.size W w'):=fun W h=>
        abT _ _ _ _ o.vals AO BO cO dO W hvo (hsO.mono h) (hsY.mono h)
       clear hsO hsY;subst hA hB
       go_upto_region 10 with fail
       refine zm (by kernel_rfl) (by kernel_rfl) ?_
       repeat(go_big_quiet_step (first|(go_at_call 18;exact Calls.later (HSO.out _ (by repeat(first|exact v9r|apply ze))))|(go_at_call 19;exact Calls.later (HFO.out _ (by repeat(first|exact v9r|apply ze))))))
       refine wpQuiet_nil ?_;rintro _ ⟨z,rfl⟩;have hz:=za hbr z.h;clear e0 e1 el g1 gl u0 u1 u2 ul x0 x1 x2 x3 x4 y0 y1 y2 y3 y4 hbX hbY HSO HFO;generalize z.W=W9 at *
       go_wp2_with fail
       exact⟨⟨n+1,by omega,by simp,hz⟩,by simp[intOf];omega⟩
      ·have hnI:¬((n:Int)<(X.obs.length:Int)):=by omega
       go_wp2_with fail
       refine(HAW.out _ hbw).mono ?_;rintro e w6 ⟨rfl,hq⟩
       go_wp2_with fail
       go_ret
       exact⟨rfl,za hbw hq⟩
end Go.Proofs.YtmhdambkchlilaaGreatDoor
