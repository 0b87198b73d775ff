/- Chapter 12: the answer's words and fields of operations: Name, Form, Has, Def, Uses. Chapter 12: the answer's Def, isClass, Fits. Chapter 12: the answer's Fits, under a hierarchy in which no class bears a keyword's name. Chapter 12: the answer's declares; what a look-up hands back. Chapter 12: the answer's Uses. -/
import Derived.Test.YtmhdambkchlilaaGreatDoorJPl
import Derived.Test.YtmhdambkchlilaaGreatDoorJGa
import Derived.Test.YtmhdambkchlilaaGreatDoorJGk
import Derived.Test.YtmhdambkchlilaaGreatDoorJUa
import Derived.Test.YtmhdambkchlilaaGreatDoorJGh
namespace Go.Proofs.YtmhdambkchlilaaGreatDoor
open Go.RowKit
set_option linter.unusedVariables false
set_option maxRecDepth 100000
set_option maxHeartbeats 2000000
def nmRB:List ByteArray:=[⟨#[110,111,112]⟩,⟨#[99,111,110,115,116]⟩,⟨#[110,117,108,108]⟩,⟨#[99,111,112,121]⟩,⟨#[98,105,110]⟩,⟨#[105,110,112,117,116]⟩,⟨#[110,101,119]⟩,⟨#[108,111,97,100]⟩,⟨#[115,116,111,114,101]⟩,⟨#[99,97,108,108]⟩,⟨#[115,116,97,116,105,99]⟩,⟨#[98,114,97,110,99,104]⟩,⟨#[106,117,109,112]⟩,⟨#[114,101,116,117,114,110]⟩,⟨#[116,104,114,111,119]⟩,⟨#[99,97,116,99,104]⟩,⟨#[115,104,105,102,116]⟩]
def frRB:List ByteArray:=[⟨#[]⟩,⟨#[100,110]⟩,⟨#[100]⟩,⟨#[100,97]⟩,⟨#[100,97,111,98]⟩,⟨#[100]⟩,⟨#[100,99]⟩,⟨#[100,97,109]⟩,⟨#[97,109,98]⟩,⟨#[100,97,99,109,108]⟩,⟨#[100,99,109,108]⟩,⟨#[97,103]⟩,⟨#[103]⟩,⟨#[97]⟩,⟨#[97]⟩,⟨#[100,99]⟩,⟨#[100,97,110]⟩]
def nmRC:List Value:=[.string ⟨#[110,111,112]⟩,.string ⟨#[99,111,110,115,116]⟩,.string ⟨#[110,117,108,108]⟩,.string ⟨#[99,111,112,121]⟩,.string ⟨#[98,105,110]⟩,.string ⟨#[105,110,112,117,116]⟩,.string ⟨#[110,101,119]⟩,.string ⟨#[108,111,97,100]⟩,.string ⟨#[115,116,111,114,101]⟩,.string ⟨#[99,97,108,108]⟩,.string ⟨#[115,116,97,116,105,99]⟩,.string ⟨#[98,114,97,110,99,104]⟩,.string ⟨#[106,117,109,112]⟩,.string ⟨#[114,101,116,117,114,110]⟩,.string ⟨#[116,104,114,111,119]⟩,.string ⟨#[99,97,116,99,104]⟩,.string ⟨#[115,104,105,102,116]⟩]
def frRC:List Value:=[.string ⟨#[]⟩,.string ⟨#[100,110]⟩,.string ⟨#[100]⟩,.string ⟨#[100,97]⟩,.string ⟨#[100,97,111,98]⟩,.string ⟨#[100]⟩,.string ⟨#[100,99]⟩,.string ⟨#[100,97,109]⟩,.string ⟨#[97,109,98]⟩,.string ⟨#[100,97,99,109,108]⟩,.string ⟨#[100,99,109,108]⟩,.string ⟨#[97,103]⟩,.string ⟨#[103]⟩,.string ⟨#[97]⟩,.string ⟨#[97]⟩,.string ⟨#[100,99]⟩,.string ⟨#[100,97,110]⟩]
theorem ais(i:Nat)(hi:i<nmRB.length):nmRC[i]? = some (.string nmRB[i]):=by
 have h:nmRC=nmRB.map Value.string:=rfl;rw[h,List.getElem?_map,List.getElem?_eq_getElem hi]
 rfl
theorem ait(i:Nat)(hi:i<frRB.length):frRC[i]? = some (.string frRB[i]):=by
 have h:frRC=frRB.map Value.string:=rfl;rw[h,List.getElem?_map,List.getElem?_eq_getElem hi]
 rfl
def nmR(op:Int):ByteArray:=if zH op=true then(nmRB[op.toNat]?).getD ⟨#[]⟩ else⟨#[]⟩
theorem kq(op:Int)(w:World):Calls Tryz.prog 172 #[.int .i64 op] w fun e w'=>e = .returned (.string (nmR op))∧Below w.heap.size w w':=by
 have bx:=Box.new w nmRC 9;have hbw:Below w.heap.size w (w.alloc (.cells nmRC.toArray 9)):=zc (v9r);have HBX:=v9h (fun i hi=>bx.cell i (ais i hi));have bl:=bx.lt;clear bx;unfold nmRC at HBX hbw bl
 cases hk:zH op with
 |false=>
  have HB:Hid (nmR op=⟨#[]⟩):=by show _=_;unfold nmR;rw[if_neg (by rw[hk];simp)]
  have hor:op<0∨17≤op:=by
   unfold zH at hk
   rcases Int.lt_or_le op 0 with h|h
   ·exact Or.inl h
   ·rw[decide_eq_true h,Bool.true_and,decide_eq_false_iff_not] at hk
    exact Or.inr (by omega)
  clear hk
  rcases hor with h0|h0
  ·have d0:decide (op<0)=true:=decide_eq_true h0
   go_enter Tryz.func172,Tryz.ntmps172
   go_wp2_with fail
   go_ret
   exact⟨by rw[HB.out];rfl,hbw⟩
  ·have h1:¬op<0:=by omega
   have d1:decide (op<0)=false:=decide_eq_false h1;have d0:decide ((17:Int)≤op)=true:=decide_eq_true h0
   go_enter Tryz.func172,Tryz.ntmps172
   go_wp2_with fail
   go_ret
   exact⟨by rw[HB.out];rfl,hbw⟩
 |true=>
  obtain⟨k,rfl,hl⟩:=kA hk;have hkl:k<nmRB.length:=hl;have HB:Hid (nmR k=nmRB[k]):=by show _=_;unfold nmR;rw[if_pos hk,Int.toNat_natCast,List.getElem?_eq_getElem hkl];rfl
  have hx:=HBX.out k hkl;obtain⟨y,HY⟩:∃y,Hid (y=nmRB[k]):=⟨_,v9h rfl⟩
  rw[←HY.out] at hx;have h1:¬(k:Int)<0:=by omega
  have h2:¬(17:Int)≤(k:Int):=by omega
  have h3:¬17≤k:=by omega
  clear hk
  go_enter Tryz.func172,Tryz.ntmps172
  go_wp2_with fail
  go_ret
  exact⟨by rw[HB.out,←HY.out];rfl,hbw⟩
theorem xk(k:Nat)(hl:k<17)(w:World):Calls Tryz.prog 173 #[.int .i64 k] w fun e w'=>e = .returned (.string (frRB[k]'hl))∧Below w.heap.size w w':=by
 have bx:=Box.new w frRC 9;have hbw:Below w.heap.size w (w.alloc (.cells frRC.toArray 9)):=zc (v9r);have hx:=bx.cell k (ait k hl);have bl:=bx.lt;clear bx;obtain⟨y,HY⟩:∃y,Hid (y=frRB[k]'hl):=⟨_,v9h rfl⟩
 rw[←HY.out] at hx ⊢;unfold frRC at hx hbw bl
 go_enter Tryz.func173,Tryz.ntmps173
 go_wp2_with fail
 go_ret
 exact⟨rfl,hbw⟩
theorem ae6:∀k (h:k<17),(nmRB[k]'h).toList.isEmpty=false:=by
 intro k h;rw[ByteArray.toList_eq]
 revert k
 decide
theorem aiu:∀k (h:k<17),(xx[k]?).getD []=(frRB[k]'h).data.toList:=by decide
theorem aiv:∀k (h:k<17),(frRB[k]'h).size≤5:=by decide
def tstR(c s:UInt8):Bool:=s==c||c==110&&s==111
theorem aar(a b:UInt8):(((a.toNat:Nat):Int)==((b.toNat:Nat):Int))=(a==b):=by
 by_cases h:a=b
 ·subst h;simp
 ·have h2:¬a.toNat=b.toNat:=fun e=>h (UInt8.toNat_inj.1 e)
  rw[show(a==b)=false by simpa using h,beq_eq_false_iff_ne]
  omega
theorem xM(op:Int)(c:UInt8)(w:World):Calls Tryz.prog 106 #[.int .i64 op,.int .u8 (c.toNat:Int)] w fun e w'=>e = .returned (.bool (hasR op c))∧Below w.heap.size w w':=by
 obtain⟨r,HR⟩:∃r,Hid (r=hasR op c):=⟨_,v9h rfl⟩
 rw[←HR.out]
 cases hk:zH op with
 |false=>
  have HB:Hid (r=false):=by show _=_;rw[HR.out];exact ae5 hk c
  have HN:=v9h (fun W=>kq op W);rw[show nmR op=⟨#[]⟩ by unfold nmR;rw[if_neg (by rw[hk];simp)]] at HN;clear hk
  go_enter Tryz.func106,Tryz.ntmps106
  go_wp2_with fail
  refine(HN.out _).mono ?_;rintro e w1 ⟨rfl,hb1⟩
  go_wp2_with fail
  go_ret
  exact⟨by rw[HB.out];rfl,hb1⟩
 |true=>
  obtain⟨k,rfl,hl⟩:=kA hk;have HN:=v9h (fun W=>kq k W);rw[show nmR k=nmRB[k]'hl by unfold nmR;rw[if_pos hk,Int.toNat_natCast,List.getElem?_eq_getElem (show k<nmRB.length from hl)];rfl] at HN;have hy:=ae6 k hl;have HF:=v9h (fun W=>xk k hl W);have hsz:=aiv k hl
  have HT:Hid (r=(frRB[k]'hl).data.toList.any (tstR c)):=by
   show _=_;rw[HR.out,ae4 hl,aiu k hl]
   rfl
  clear hk HR;generalize nmRB[k]'hl=y at *
  generalize frRB[k]'hl=s at *
  go_enter Tryz.func106,Tryz.ntmps106
  go_wp2_with fail
  refine(HN.out _).mono ?_;rintro e w1 ⟨rfl,hb1⟩
  go_wp2_with fail
  refine(HF.out _).mono ?_;rintro e w2 ⟨rfl,hb2⟩;have hbw2:=za hb1 hb2
  go_wp2_with fail
  go_loop [6] (fun i=>∃j:Nat,j≤s.size∧i = .int .i64 j∧Hid (∀i (h:i<s.size),i<j→tstR c s[i]=false)) (fun i=>s.size-(intOf i).toNat)
  case atStart=>exact⟨0,Nat.zero_le _,rfl,fun i h hi=>by omega⟩
  case round=>
   obtain⟨j,hj,rfl,HE⟩:=hrel
   by_cases hlt:j<s.size
   ·have hlt2:(j:Int)<(s.size:Int):=by omega
    have HS:Hid (∀b,tstR c s[j]=b→b=false→∀i (h:i<s.size),i<j+1→tstR c s[i]=false):=fun b h1 h2 i h hi=>by
     by_cases e:i=j
     ·subst e;rw[h1,h2]
     ·exact HE.out i h (by omega)
    have HY:Hid (tstR c s[j]=true→r=true):=fun h=>by
     rw[HT.out,List.any_eq_true];exact⟨s[j],by exact Array.getElem_mem_toList hlt,h⟩
    have e1:=aar s[j] c;have e2:(((c.toNat:Nat):Int)==110)=(c==110):=aar c 110;have e3:(((s[j].toNat:Nat):Int)==111)=(s[j]==111):=aar s[j] 111
    cases q1:(s[j]==c) with
    |true=>
     rw[q1] at e1;have HB:=v9h (HY.out (by unfold tstR;rw[q1];rfl));clear q1 e2 e3
     go_wp2_with fail
     go_ret
     exact⟨by rw[HB.out];rfl,hbw2⟩
    |false=>
     rw[q1] at e1
     cases q2:(c==110) with
     |false=>
      rw[q2] at e2;have HE2:=v9h (HS.out _ (by unfold tstR;rw[q1,q2];rfl) rfl);clear q1 q2 e3
      go_wp2_with fail
      go_round
      case rel=>exact⟨j+1,by omega,by go_num,HE2⟩
      case measure=>simp[intOf];omega
     |true=>
      rw[q2] at e2
      cases q3:(s[j]==111) with
      |false=>
       rw[q3] at e3;have HE2:=v9h (HS.out _ (by unfold tstR;rw[q1,q2,q3];rfl) rfl);clear q1 q2 q3
       go_wp2_with fail
       go_round
       case rel=>exact⟨j+1,by omega,by go_num,HE2⟩
       case measure=>simp[intOf];omega
      |true=>
       rw[q3] at e3;have HB:=v9h (HY.out (by unfold tstR;rw[q1,q2,q3];rfl));clear q1 q2 q3
       go_wp2_with fail
       go_ret
       exact⟨by rw[HB.out];rfl,hbw2⟩
   ·have HB:Hid (r=false):=by
     show _=_;rw[HT.out,List.any_eq_false];intro x hx;obtain⟨i,hi,rfl⟩:=List.getElem_of_mem hx
     have:=HE.out i (by simpa using hi) (by
                          have:i<s.size:=by simpa using hi
                          omega)
     have h2:tstR c (s.data[i]'(by simpa using hi))=false:=this
     simpa using h2
    go_wp2_with fail
    go_ret
    exact⟨by rw[HB.out];rfl,hbw2⟩
theorem zA(op:Int)(c:UInt8)(b:Bool)(h:hasR op c=b)(w:World):Calls Tryz.prog 106 #[.int .i64 op,.int .u8 (c.toNat:Int)] w fun e w'=>e = .returned (.bool b)∧Below w.heap.size w w':=by
 subst h;exact xM op c w
theorem afM(x:Ins)(AI:Option Addr)(cI:Nat)(w:World) :
  Calls Tryz.prog 53 #[.agg #[.int .i64 x.op,.int .i64 x.dst,.int .i64 x.a,.int .i64 x.b,.int .i64 x.n,.string x.cls,.string x.name,.slice AI x.args.length cI,.int .i64 x.jmp,.int .i64 x.hnd]] w fun e w'=>e = .returned (.int .i64 (if zp x.op 100=true then x.dst else -1))∧Below w.heap.size w w':=by
 have HU:Hid (∀W,Calls Tryz.prog 106 #[.int .i64 x.op,.int .u8 100] W fun e w'=>e = .returned (.bool (zp x.op 100))∧Below W.heap.size W w'):=fun W=>zA x.op 100 _ (zX x.op).1 W
 obtain⟨q,HQ⟩:∃q,Hid (q=zp x.op 100):=⟨_,v9h rfl⟩
 rw[←HQ.out] at HU ⊢
 go_enter Tryz.func53,Tryz.ntmps53
 go_upto_region 1 with fail
 generalize hW:World.alloc _ _=W1 at *
 have hb1:Below w.heap.size w W1:=by rw[←hW];exact(by repeat(first|assumption|exact v9r|apply zc|apply zd|apply zg|apply ze|apply zi))
 have bx:Box W1 w.heap.size [.int .i64 x.op,.int .i64 x.dst,.int .i64 x.a,.int .i64 x.b,.int .i64 x.n,.string x.cls,.string x.name,.slice AI x.args.length cI,.int .i64 x.jmp,.int .i64 x.hnd] 59:=by rw[←hW];exact(by repeat(first|(refine Box.at ?_;(simp;done))|apply Box.drew|apply Box.alloc|assumption))
 clear hW;have x0:=bx.cell 0 rfl;have xl:=bx.lt
 go_wp2_with fail
 refine(HU.out _).mono ?_;rintro e w2 ⟨rfl,hb2⟩;have hbw2:=za hb1 hb2;have bx2:=bx.mono hb2;clear x0 xl;have x1:=bx2.cell 1 rfl;have xl:=bx2.lt
 cases q with
 |true=>
  go_wp2_with fail
  go_ret
  exact⟨rfl,hbw2⟩
 |false=>
  go_wp2_with fail
  go_ret
  exact⟨rfl,hbw2⟩
theorem xy(A:Option Addr)(c:Nat)(cs:List Cls)(s:ByteArray)(w:World)(hl:cs.length≤8796093022208)(hsl:Sl Lay.cls w A cs) :
  Calls Tryz.prog 306 #[.agg #[.slice A cs.length c],.string s] w fun e w'=>e = .returned (.bool (decide (0≤fnd cs s)))∧Below w.heap.size w w':=by
 have HF:=v9h (fun W (h:Below w.heap.size w W)=>qK A c cs s W hl (hsl.mono h));generalize fnd cs s=k at *
 go_enter Tryz.func306,Tryz.ntmps306
 go_upto_region 1 with fail
 generalize hW:World.alloc _ _=W1 at *
 have hb1:Below w.heap.size w W1:=by rw[←hW];exact(by repeat(first|assumption|exact v9r|apply zc|apply zd|apply zg|apply ze|apply zi))
 have bx:Box W1 w.heap.size [.slice A cs.length c] 29:=by rw[←hW];exact(by repeat(first|(refine Box.at ?_;(simp;done))|apply Box.drew|apply Box.alloc|assumption))
 clear hW;have x0:=bx.cell 0 rfl;have xl:=bx.lt
 go_wp2_with fail
 refine(HF.out _ hb1).mono ?_;rintro e w2 ⟨rfl,hb2⟩
 go_wp2_with fail
 go_ret
 exact⟨rfl,za hb1 hb2⟩
theorem aeJ(A:Option Addr)(c:Nat)(cs:List Cls)(p q:ByteArray)(w:World)(hl:cs.length≤8796093022208)(hsl:Sl Lay.cls w A cs)(hn:Hid (NoKw cs)) :
  Calls Tryz.prog 307 #[.agg #[.slice A cs.length c],.string p,.string q] w fun e w'=>e = .returned (.bool (zB cs p q))∧Below w.heap.size w w':=by
 obtain⟨r,HR⟩:∃r,Hid (r=zB cs p q):=⟨_,v9h rfl⟩
 rw[←HR.out];have HR2:Hid (r=aaC cs p q):=by show r=_;rw[HR.out,ahn hn.out]
 clear HR;have H1:=v9h (fun W (h:Below w.heap.size w W)=>xy A c cs p W hl (hsl.mono h));have H2:=v9h (fun W (h:Below w.heap.size w W)=>xy A c cs q W hl (hsl.mono h));have H3:=v9h (fun W (h:Below w.heap.size w W)=>abG A c cs p q W hl (hsl.mono h))
 go_enter Tryz.func307,Tryz.ntmps307
 go_upto_region 1 with fail
 generalize hW:World.alloc _ _=W1 at *
 have hb1:Below w.heap.size w W1:=by rw[←hW];exact(by repeat(first|assumption|exact v9r|apply zc|apply zd|apply zg|apply ze|apply zi))
 have bh:Box W1 w.heap.size [.slice A cs.length c] 29:=by rw[←hW];exact(by repeat(first|(refine Box.at ?_;(simp;done))|apply Box.drew|apply Box.alloc|assumption))
 clear hW
 cases e1:(p.toList==q.toList) with
 |true=>
  have HB:Hid (r=true):=by show r=true;rw[HR2.out];unfold aaC;rw[e1];rfl
  go_wp2_with fail
  go_ret
  exact⟨by rw[HB.out];rfl,hb1⟩
 |false=>
 cases e2:(p.toList==[110,117,108,108]) with
 |true=>
  have HB:Hid (r = !(q.toList==[105,110,116])):=by show r=_;rw[HR2.out];unfold aaC zu jW wInt;rw[e1,e2];rfl
  cases e3:(q.toList==[105,110,116]) with
  |true=>
   have e3':(q.toList != [105,110,116])=false:=by rw[bne,e3];rfl
   rw[e3] at HB
   go_wp2_with fail
   go_ret
   exact⟨by rw[HB.out];rfl,hb1⟩
  |false=>
   have e3':(q.toList != [105,110,116])=true:=by rw[bne,e3];rfl
   rw[e3] at HB
   go_wp2_with fail
   go_ret
   exact⟨by rw[HB.out];rfl,hb1⟩
 |false=>
 have HB:Hid (r=(decide (0≤fnd cs p)&&(decide (0≤fnd cs q)&&hasS (zx cs p) q))):=by show r=_;rw[HR2.out];unfold aaC jW;rw[e1,e2];rfl
 clear HR2;generalize decide (0≤fnd cs p)=b1 at *
 generalize decide (0≤fnd cs q)=b2 at *
 generalize hasS (zx cs p) q=b3 at *
 have x0:=bh.cell 0 rfl;have xl:=bh.lt
 go_wp2_with fail
 refine(H1.out _ hb1).mono ?_;rintro e w2 ⟨rfl,hb2⟩;have hbw2:=za hb1 hb2;have bh2:=bh.mono hb2;clear x0 xl
 cases b1 with
 |false=>
  go_wp2_with fail
  go_ret
  exact⟨by rw[HB.out];rfl,hbw2⟩
 |true=>
 have x0:=bh2.cell 0 rfl;have xl:=bh2.lt
 go_wp2_with fail
 refine(H2.out _ hbw2).mono ?_;rintro e w3 ⟨rfl,hb3⟩;have hbw3:=za hbw2 hb3;have bh3:=bh2.mono hb3;clear x0 xl
 cases b2 with
 |false=>
  go_wp2_with fail
  go_ret
  exact⟨by rw[HB.out];rfl,hbw3⟩
 |true=>
 have x0:=bh3.cell 0 rfl;have xl:=bh3.lt
 go_wp2_with fail
 refine(H3.out _ hbw3).mono ?_;rintro e w4 ⟨rfl,hb4⟩
 go_wp2_with fail
 go_ret
 exact⟨by rw[HB.out];rfl,za hbw3 hb4⟩
structure LokR(cs:List Cls)(q:Int×Int)(w':World)(nm:ByteArray)(g:Sg)(A:Option Addr)(c:Nat)(ok:Bool):Prop where
 sl:Sl Lay.str w' A g.params
 le:g.params.length≤c
 pl:g.params.length≤8796093022208
 yes:ok=true→sgAt cs q=some g∧nm=nmAt cs q.1
 no:ok=false→sgAt cs q=none
theorem abo.ok{cs:List Cls}{s m:ByteArray}{e:Ending}{w':World}(hlk:yp cs)(h:abo cs (zU cs s m) e w') :
  ∃(nm:ByteArray) (g:Sg) (A:Option Addr) (c:Nat) (ok:Bool),e = .returned (.tuple #[.string nm,.agg #[.string g.name,.bool g.static,.slice A g.params.length c,.string g.result],.bool ok])∧LokR cs (zU cs s m) w' nm g A c ok:=by
 have hb:=kT (cs:=cs) (m:=m) (qj (yb cs s).2).1
 rcases hb with h0|⟨j,k,hj,hk,h1,_,_⟩
 ·have h0':zU cs s m=(-1,-1):=h0
  exact⟨ByteArray.empty,⟨ByteArray.empty,false,[],ByteArray.empty⟩,none,0,false,h.no h0',adX,Nat.le_refl _,by decide,(fun h=>by cases h),(fun _=>by rw[h0'];rfl)⟩
 ·have h1':zU cs s m=((j:Int),(k:Int)):=h1
  obtain⟨v,e1,A,c,rfl,hc,hs⟩:=h.yes j k hj hk h1';refine⟨cs[j].name,cs[j].methods[k],A,c,true,e1,hs,hc,(hlk _ (List.getElem_mem hj)).2.2 _ (List.getElem_mem hk),fun _=>⟨?_,?_⟩,fun h=>by cases h⟩
  ·rw[h1']
   unfold sgAt;rw[if_neg (by show ¬(j:Int)<0;omega)];simp only[Int.toNat_natCast];rw[List.getElem?_eq_getElem hj];show cs[j].methods[k]? = _;rw[List.getElem?_eq_getElem hk]
  ·rw[h1',qh hj]
structure DecR(cs:List Cls)(x:Ins)(w':World)(g:Sg)(A:Option Addr)(c:Nat)(ok:Bool):Prop where
 sl:Sl Lay.str w' A g.params
 le:g.params.length≤c
 pl:g.params.length≤8796093022208
 yes:ok=true→qv cs x=some g
 no:ok=false→qv cs x=none
theorem ahr(op:Int):(zp op 97=false∧zp op 98=false∧zp op 42=false)∨(zp op 97=true∧zp op 98=false∧zp op 42=false)∨(zp op 97=true∧zp op 98=true∧zp op 42=false∧¬op=13)∨(zp op 97=true∧zp op 98=false∧zp op 42=true∧¬op=13)∨(zp op 97=false∧zp op 98=false∧zp op 42=true):=by
 have h13:∀{c:Int},zp op c=true→zp 13 c=false→¬op=13:=fun h1 h2 e=>by rw[e,h2] at h1;cases h1
 rcases acx op with H|H|H|H|H|H|H|H|H|H|H|H|H|H
 all_goals
  have ha:=H.a;have hb:=H.b;have hs:=H.s;clear H;rw[ha,hb,hs]
  first
  |exact Or.inl ⟨rfl,rfl,rfl⟩
  |exact Or.inr (Or.inl ⟨rfl,rfl,rfl⟩)
  |exact Or.inr (Or.inr (Or.inl ⟨rfl,rfl,rfl,h13 hb rfl⟩))
  |exact Or.inr (Or.inr (Or.inr (Or.inl ⟨rfl,rfl,rfl,h13 hs rfl⟩)))
  |exact Or.inr (Or.inr (Or.inr (Or.inr ⟨rfl,rfl,rfl⟩)))
theorem agz(x:Ins):(yx x).length≤x.args.length+2:=by
 unfold yx;rw[List.length_append,List.length_append]
 split<;>split<;>split<;>simp<;>omega
theorem agA(x:Ins)(AI:Option Addr)(cI:Nat)(w:World)(hal:x.args.length≤17592186043904)(hs:Sl Lay.int w AI x.args)(h97:zp x.op 97=false)(h98:zp x.op 98=false)(h42:zp x.op 42=false)  :
  Calls Tryz.prog 52 #[.agg #[.int .i64 x.op,.int .i64 x.dst,.int .i64 x.a,.int .i64 x.b,.int .i64 x.n,.string x.cls,.string x.name,.slice AI x.args.length cI,.int .i64 x.jmp,.int .i64 x.hnd]] w fun e w'=>(∃v,e = .returned v∧Own yh 1 w.heap.size 3 w' v (yx x))∧Below w.heap.size w w':=by
 have HV:Hid (yx x=[]):=by show _=_;unfold yx;rw[h97,h98,h42];simp
 rw[HV.out];have H1:Hid (∀W,Calls Tryz.prog 106 #[.int .i64 x.op,.int .u8 97] W fun e w'=>e = .returned (.bool false)∧Below W.heap.size W w'):=fun W=>zA x.op 97 _ (by rw[(zX x.op).2.1,h97]) W
 have H2:Hid (∀W,Calls Tryz.prog 106 #[.int .i64 x.op,.int .u8 98] W fun e w'=>e = .returned (.bool false)∧Below W.heap.size W w'):=fun W=>zA x.op 98 _ (by rw[(zX x.op).2.2.1,h98]) W
 have H3:Hid (∀W,Calls Tryz.prog 106 #[.int .i64 x.op,.int .u8 108] W fun e w'=>e = .returned (.bool false)∧Below W.heap.size W w'):=fun W=>zA x.op 108 _ (by rw[(zX x.op).2.2.2.2.2.2.2,h42]) W
 clear h97 h98 h42 HV
 (try clear hne)
 (try clear hne2)
 go_enter Tryz.func52,Tryz.ntmps52
 go_upto_region 1 with fail
 generalize hW:World.alloc _ _=W1 at *
 have hb1:Below w.heap.size w W1:=by rw[←hW];exact(by repeat(first|assumption|exact v9r|apply zc|apply zd|apply zg|apply ze|apply zi))
 have bx1:Box W1 w.heap.size [.int .i64 x.op,.int .i64 x.dst,.int .i64 x.a,.int .i64 x.b,.int .i64 x.n,.string x.cls,.string x.name,.slice AI x.args.length cI,.int .i64 x.jmp,.int .i64 x.hnd] 59:=by rw[←hW];exact(by repeat(first|(refine Box.at ?_;(simp;done))|apply Box.drew|apply Box.alloc|assumption))
 clear hW;have x0:=bx1.cell 0 rfl;have x2:=bx1.cell 2 rfl;have x3:=bx1.cell 3 rfl;have x7:=bx1.cell 7 rfl;have xl:=bx1.lt
 go_wp2_with fail
 refine(H1.out _).mono ?_;rintro e w2 ⟨rfl,hq2⟩;have hb2:=za hb1 hq2;have bx2:=bx1.mono hq2;clear x0 x2 x3 x7 xl;have x0:=bx2.cell 0 rfl;have x2:=bx2.cell 2 rfl;have x3:=bx2.cell 3 rfl;have x7:=bx2.cell 7 rfl;have xl:=bx2.lt
 go_wp2_with fail
 refine(H2.out _).mono ?_;rintro e w3 ⟨rfl,hq3⟩;have hb3:=za hb2 hq3;have bx3:=bx2.mono hq3;clear x0 x2 x3 x7 xl;have x0:=bx3.cell 0 rfl;have x2:=bx3.cell 2 rfl;have x3:=bx3.cell 3 rfl;have x7:=bx3.cell 7 rfl;have xl:=bx3.lt
 go_wp2_with fail
 refine(H3.out _).mono ?_;rintro e w4 ⟨rfl,hq4⟩;have hb4:=za hb3 hq4;have bx4:=bx3.mono hq4;clear x0 x2 x3 x7 xl;have x0:=bx4.cell 0 rfl;have x2:=bx4.cell 2 rfl;have x3:=bx4.cell 3 rfl;have x7:=bx4.cell 7 rfl;have xl:=bx4.lt
 go_wp2_with fail
 go_ret
 exact⟨⟨_,rfl,Own.nil⟩,hb4⟩
theorem agB(x:Ins)(AI:Option Addr)(cI:Nat)(w:World)(hal:x.args.length≤17592186043904)(hs:Sl Lay.int w AI x.args)(h97:zp x.op 97=true)(h98:zp x.op 98=false)(h42:zp x.op 42=false)(h13:(x.op != 13)=true) :
  Calls Tryz.prog 52 #[.agg #[.int .i64 x.op,.int .i64 x.dst,.int .i64 x.a,.int .i64 x.b,.int .i64 x.n,.string x.cls,.string x.name,.slice AI x.args.length cI,.int .i64 x.jmp,.int .i64 x.hnd]] w fun e w'=>(∃v,e = .returned v∧Own yh 1 w.heap.size 3 w' v (yx x))∧Below w.heap.size w w':=by
 have hne:¬x.op=13:=by simpa using h13
 have HV:Hid (yx x=[x.a]):=by show _=_;unfold yx;rw[h97,h98,h42];simp[hne]
 rw[HV.out];have H1:Hid (∀W,Calls Tryz.prog 106 #[.int .i64 x.op,.int .u8 97] W fun e w'=>e = .returned (.bool true)∧Below W.heap.size W w'):=fun W=>zA x.op 97 _ (by rw[(zX x.op).2.1,h97]) W
 have H2:Hid (∀W,Calls Tryz.prog 106 #[.int .i64 x.op,.int .u8 98] W fun e w'=>e = .returned (.bool false)∧Below W.heap.size W w'):=fun W=>zA x.op 98 _ (by rw[(zX x.op).2.2.1,h98]) W
 have H3:Hid (∀W,Calls Tryz.prog 106 #[.int .i64 x.op,.int .u8 108] W fun e w'=>e = .returned (.bool false)∧Below W.heap.size W w'):=fun W=>zA x.op 108 _ (by rw[(zX x.op).2.2.2.2.2.2.2,h42]) W
 clear h97 h98 h42 HV
 (try clear hne)
 (try clear hne2)
 go_enter Tryz.func52,Tryz.ntmps52
 go_upto_region 1 with fail
 generalize hW:World.alloc _ _=W1 at *
 have hb1:Below w.heap.size w W1:=by rw[←hW];exact(by repeat(first|assumption|exact v9r|apply zc|apply zd|apply zg|apply ze|apply zi))
 have bx1:Box W1 w.heap.size [.int .i64 x.op,.int .i64 x.dst,.int .i64 x.a,.int .i64 x.b,.int .i64 x.n,.string x.cls,.string x.name,.slice AI x.args.length cI,.int .i64 x.jmp,.int .i64 x.hnd] 59:=by rw[←hW];exact(by repeat(first|(refine Box.at ?_;(simp;done))|apply Box.drew|apply Box.alloc|assumption))
 clear hW;have x0:=bx1.cell 0 rfl;have x2:=bx1.cell 2 rfl;have x3:=bx1.cell 3 rfl;have x7:=bx1.cell 7 rfl;have xl:=bx1.lt
 go_wp2_with fail
 refine(H1.out _).mono ?_;rintro e w2 ⟨rfl,hq2⟩;have hb2:=za hb1 hq2;have bx2:=bx1.mono hq2;clear x0 x2 x3 x7 xl;have x0:=bx2.cell 0 rfl;have x2:=bx2.cell 2 rfl;have x3:=bx2.cell 3 rfl;have x7:=bx2.cell 7 rfl;have xl:=bx2.lt
 go_wp2_with (at_builtin;refine zF jT qa rfl (.tmp 17) (.tmp 20) rfl (w.heap.size+1) _ _ rfl Own.nil x.a _ _ rfl (zY _ _ _) (by simp[maxLen]) (by simp) ?_ ?_;(simp;omega);intro v3 w3 ow3 hc3 hg3;have bx3:=(bx2.alloc (.cells #[.int .i64 x.a] 3)).below (by omega) hc3;have hb3:=(zc hb2).trans (hc3.mono (by omega));clear x0 x2 x3 x7 xl;have x0:=bx3.cell 0 rfl;have x2:=bx3.cell 2 rfl;have x3:=bx3.cell 3 rfl;have x7:=bx3.cell 7 rfl;have xl:=bx3.lt)
 refine(H2.out _).mono ?_;rintro e w4 ⟨rfl,hq4⟩;have hb4:=za hb3 hq4;have bx4:=bx3.mono hq4;have ow4:=ow3.mono hq4;clear x0 x2 x3 x7 xl;have x0:=bx4.cell 0 rfl;have x2:=bx4.cell 2 rfl;have x3:=bx4.cell 3 rfl;have x7:=bx4.cell 7 rfl;have xl:=bx4.lt
 go_wp2_with fail
 refine(H3.out _).mono ?_;rintro e w5 ⟨rfl,hq5⟩;have hb5:=za hb4 hq5;have bx5:=bx4.mono hq5;have ow5:=ow4.mono hq5;clear x0 x2 x3 x7 xl;have x0:=bx5.cell 0 rfl;have x2:=bx5.cell 2 rfl;have x3:=bx5.cell 3 rfl;have x7:=bx5.cell 7 rfl;have xl:=bx5.lt
 go_wp2_with fail
 go_ret
 exact⟨⟨_,rfl,by simpa using ow5.weaken (by omega)⟩,hb5⟩
theorem agC(x:Ins)(AI:Option Addr)(cI:Nat)(w:World)(hal:x.args.length≤17592186043904)(hs:Sl Lay.int w AI x.args)(h97:zp x.op 97=true)(h98:zp x.op 98=false)(h42:zp x.op 42=false)(h13:(x.op != 13)=false)(ha:(x.a != -1)=true) :
  Calls Tryz.prog 52 #[.agg #[.int .i64 x.op,.int .i64 x.dst,.int .i64 x.a,.int .i64 x.b,.int .i64 x.n,.string x.cls,.string x.name,.slice AI x.args.length cI,.int .i64 x.jmp,.int .i64 x.hnd]] w fun e w'=>(∃v,e = .returned v∧Own yh 1 w.heap.size 3 w' v (yx x))∧Below w.heap.size w w':=by
 have hne:¬x.a = -1:=by simpa using ha
 have HV:Hid (yx x=[x.a]):=by show _=_;unfold yx;rw[h97,h98,h42];simp[hne]
 rw[HV.out];have H1:Hid (∀W,Calls Tryz.prog 106 #[.int .i64 x.op,.int .u8 97] W fun e w'=>e = .returned (.bool true)∧Below W.heap.size W w'):=fun W=>zA x.op 97 _ (by rw[(zX x.op).2.1,h97]) W
 have H2:Hid (∀W,Calls Tryz.prog 106 #[.int .i64 x.op,.int .u8 98] W fun e w'=>e = .returned (.bool false)∧Below W.heap.size W w'):=fun W=>zA x.op 98 _ (by rw[(zX x.op).2.2.1,h98]) W
 have H3:Hid (∀W,Calls Tryz.prog 106 #[.int .i64 x.op,.int .u8 108] W fun e w'=>e = .returned (.bool false)∧Below W.heap.size W w'):=fun W=>zA x.op 108 _ (by rw[(zX x.op).2.2.2.2.2.2.2,h42]) W
 clear h97 h98 h42 HV
 (try clear hne)
 (try clear hne2)
 go_enter Tryz.func52,Tryz.ntmps52
 go_upto_region 1 with fail
 generalize hW:World.alloc _ _=W1 at *
 have hb1:Below w.heap.size w W1:=by rw[←hW];exact(by repeat(first|assumption|exact v9r|apply zc|apply zd|apply zg|apply ze|apply zi))
 have bx1:Box W1 w.heap.size [.int .i64 x.op,.int .i64 x.dst,.int .i64 x.a,.int .i64 x.b,.int .i64 x.n,.string x.cls,.string x.name,.slice AI x.args.length cI,.int .i64 x.jmp,.int .i64 x.hnd] 59:=by rw[←hW];exact(by repeat(first|(refine Box.at ?_;(simp;done))|apply Box.drew|apply Box.alloc|assumption))
 clear hW;have x0:=bx1.cell 0 rfl;have x2:=bx1.cell 2 rfl;have x3:=bx1.cell 3 rfl;have x7:=bx1.cell 7 rfl;have xl:=bx1.lt
 go_wp2_with fail
 refine(H1.out _).mono ?_;rintro e w2 ⟨rfl,hq2⟩;have hb2:=za hb1 hq2;have bx2:=bx1.mono hq2;clear x0 x2 x3 x7 xl;have x0:=bx2.cell 0 rfl;have x2:=bx2.cell 2 rfl;have x3:=bx2.cell 3 rfl;have x7:=bx2.cell 7 rfl;have xl:=bx2.lt
 go_wp2_with (at_builtin;refine zF jT qa rfl (.tmp 17) (.tmp 20) rfl (w.heap.size+1) _ _ rfl Own.nil x.a _ _ rfl (zY _ _ _) (by simp[maxLen]) (by simp) ?_ ?_;(simp;omega);intro v3 w3 ow3 hc3 hg3;have bx3:=(bx2.alloc (.cells #[.int .i64 x.a] 3)).below (by omega) hc3;have hb3:=(zc hb2).trans (hc3.mono (by omega));clear x0 x2 x3 x7 xl;have x0:=bx3.cell 0 rfl;have x2:=bx3.cell 2 rfl;have x3:=bx3.cell 3 rfl;have x7:=bx3.cell 7 rfl;have xl:=bx3.lt)
 refine(H2.out _).mono ?_;rintro e w4 ⟨rfl,hq4⟩;have hb4:=za hb3 hq4;have bx4:=bx3.mono hq4;have ow4:=ow3.mono hq4;clear x0 x2 x3 x7 xl;have x0:=bx4.cell 0 rfl;have x2:=bx4.cell 2 rfl;have x3:=bx4.cell 3 rfl;have x7:=bx4.cell 7 rfl;have xl:=bx4.lt
 go_wp2_with fail
 refine(H3.out _).mono ?_;rintro e w5 ⟨rfl,hq5⟩;have hb5:=za hb4 hq5;have bx5:=bx4.mono hq5;have ow5:=ow4.mono hq5;clear x0 x2 x3 x7 xl;have x0:=bx5.cell 0 rfl;have x2:=bx5.cell 2 rfl;have x3:=bx5.cell 3 rfl;have x7:=bx5.cell 7 rfl;have xl:=bx5.lt
 go_wp2_with fail
 go_ret
 exact⟨⟨_,rfl,by simpa using ow5.weaken (by omega)⟩,hb5⟩
theorem agD(x:Ins)(AI:Option Addr)(cI:Nat)(w:World)(hal:x.args.length≤17592186043904)(hs:Sl Lay.int w AI x.args)(h97:zp x.op 97=true)(h98:zp x.op 98=false)(h42:zp x.op 42=false)(h13:(x.op != 13)=false)(ha:(x.a != -1)=false) :
  Calls Tryz.prog 52 #[.agg #[.int .i64 x.op,.int .i64 x.dst,.int .i64 x.a,.int .i64 x.b,.int .i64 x.n,.string x.cls,.string x.name,.slice AI x.args.length cI,.int .i64 x.jmp,.int .i64 x.hnd]] w fun e w'=>(∃v,e = .returned v∧Own yh 1 w.heap.size 3 w' v (yx x))∧Below w.heap.size w w':=by
 have hne:x.op=13:=by simpa using h13
 have hne2:x.a = -1:=by simpa using ha
 have HV:Hid (yx x=[]):=by show _=_;unfold yx;rw[h97,h98,h42];simp[hne,hne2]
 rw[HV.out];have H1:Hid (∀W,Calls Tryz.prog 106 #[.int .i64 x.op,.int .u8 97] W fun e w'=>e = .returned (.bool true)∧Below W.heap.size W w'):=fun W=>zA x.op 97 _ (by rw[(zX x.op).2.1,h97]) W
 have H2:Hid (∀W,Calls Tryz.prog 106 #[.int .i64 x.op,.int .u8 98] W fun e w'=>e = .returned (.bool false)∧Below W.heap.size W w'):=fun W=>zA x.op 98 _ (by rw[(zX x.op).2.2.1,h98]) W
 have H3:Hid (∀W,Calls Tryz.prog 106 #[.int .i64 x.op,.int .u8 108] W fun e w'=>e = .returned (.bool false)∧Below W.heap.size W w'):=fun W=>zA x.op 108 _ (by rw[(zX x.op).2.2.2.2.2.2.2,h42]) W
 clear h97 h98 h42 HV
 (try clear hne)
 (try clear hne2)
 go_enter Tryz.func52,Tryz.ntmps52
 go_upto_region 1 with fail
 generalize hW:World.alloc _ _=W1 at *
 have hb1:Below w.heap.size w W1:=by rw[←hW];exact(by repeat(first|assumption|exact v9r|apply zc|apply zd|apply zg|apply ze|apply zi))
 have bx1:Box W1 w.heap.size [.int .i64 x.op,.int .i64 x.dst,.int .i64 x.a,.int .i64 x.b,.int .i64 x.n,.string x.cls,.string x.name,.slice AI x.args.length cI,.int .i64 x.jmp,.int .i64 x.hnd] 59:=by rw[←hW];exact(by repeat(first|(refine Box.at ?_;(simp;done))|apply Box.drew|apply Box.alloc|assumption))
 clear hW;have x0:=bx1.cell 0 rfl;have x2:=bx1.cell 2 rfl;have x3:=bx1.cell 3 rfl;have x7:=bx1.cell 7 rfl;have xl:=bx1.lt
 go_wp2_with fail
 refine(H1.out _).mono ?_;rintro e w2 ⟨rfl,hq2⟩;have hb2:=za hb1 hq2;have bx2:=bx1.mono hq2;clear x0 x2 x3 x7 xl;have x0:=bx2.cell 0 rfl;have x2:=bx2.cell 2 rfl;have x3:=bx2.cell 3 rfl;have x7:=bx2.cell 7 rfl;have xl:=bx2.lt
 go_wp2_with fail
 refine(H2.out _).mono ?_;rintro e w3 ⟨rfl,hq3⟩;have hb3:=za hb2 hq3;have bx3:=bx2.mono hq3;clear x0 x2 x3 x7 xl;have x0:=bx3.cell 0 rfl;have x2:=bx3.cell 2 rfl;have x3:=bx3.cell 3 rfl;have x7:=bx3.cell 7 rfl;have xl:=bx3.lt
 go_wp2_with fail
 refine(H3.out _).mono ?_;rintro e w4 ⟨rfl,hq4⟩;have hb4:=za hb3 hq4;have bx4:=bx3.mono hq4;clear x0 x2 x3 x7 xl;have x0:=bx4.cell 0 rfl;have x2:=bx4.cell 2 rfl;have x3:=bx4.cell 3 rfl;have x7:=bx4.cell 7 rfl;have xl:=bx4.lt
 go_wp2_with fail
 go_ret
 exact⟨⟨_,rfl,Own.nil⟩,hb4⟩
theorem afN(x:Ins)(AI:Option Addr)(cI:Nat)(w:World)(hal:x.args.length≤17592186043904)(hs:Sl Lay.int w AI x.args)(h97:zp x.op 97=true)(h98:zp x.op 98=true)(h42:zp x.op 42=false)(h13:(x.op != 13)=true) :
  Calls Tryz.prog 52 #[.agg #[.int .i64 x.op,.int .i64 x.dst,.int .i64 x.a,.int .i64 x.b,.int .i64 x.n,.string x.cls,.string x.name,.slice AI x.args.length cI,.int .i64 x.jmp,.int .i64 x.hnd]] w fun e w'=>(∃v,e = .returned v∧Own yh 1 w.heap.size 3 w' v (yx x))∧Below w.heap.size w w':=by
 have hne:¬x.op=13:=by simpa using h13
 have HV:Hid (yx x=[x.a]++[x.b]):=by show _=_;unfold yx;rw[h97,h98,h42];simp[hne]
 rw[HV.out];have H1:Hid (∀W,Calls Tryz.prog 106 #[.int .i64 x.op,.int .u8 97] W fun e w'=>e = .returned (.bool true)∧Below W.heap.size W w'):=fun W=>zA x.op 97 _ (by rw[(zX x.op).2.1,h97]) W
 have H2:Hid (∀W,Calls Tryz.prog 106 #[.int .i64 x.op,.int .u8 98] W fun e w'=>e = .returned (.bool true)∧Below W.heap.size W w'):=fun W=>zA x.op 98 _ (by rw[(zX x.op).2.2.1,h98]) W
 have H3:Hid (∀W,Calls Tryz.prog 106 #[.int .i64 x.op,.int .u8 108] W fun e w'=>e = .returned (.bool false)∧Below W.heap.size W w'):=fun W=>zA x.op 108 _ (by rw[(zX x.op).2.2.2.2.2.2.2,h42]) W
 clear h97 h98 h42 HV
 (try clear hne)
 (try clear hne2)
 go_enter Tryz.func52,Tryz.ntmps52
 go_upto_region 1 with fail
 generalize hW:World.alloc _ _=W1 at *
 have hb1:Below w.heap.size w W1:=by rw[←hW];exact(by repeat(first|assumption|exact v9r|apply zc|apply zd|apply zg|apply ze|apply zi))
 have bx1:Box W1 w.heap.size [.int .i64 x.op,.int .i64 x.dst,.int .i64 x.a,.int .i64 x.b,.int .i64 x.n,.string x.cls,.string x.name,.slice AI x.args.length cI,.int .i64 x.jmp,.int .i64 x.hnd] 59:=by rw[←hW];exact(by repeat(first|(refine Box.at ?_;(simp;done))|apply Box.drew|apply Box.alloc|assumption))
 clear hW;have x0:=bx1.cell 0 rfl;have x2:=bx1.cell 2 rfl;have x3:=bx1.cell 3 rfl;have x7:=bx1.cell 7 rfl;have xl:=bx1.lt
 go_wp2_with fail
 refine(H1.out _).mono ?_;rintro e w2 ⟨rfl,hq2⟩;have hb2:=za hb1 hq2;have bx2:=bx1.mono hq2;clear x0 x2 x3 x7 xl;have x0:=bx2.cell 0 rfl;have x2:=bx2.cell 2 rfl;have x3:=bx2.cell 3 rfl;have x7:=bx2.cell 7 rfl;have xl:=bx2.lt
 go_wp2_with (at_builtin;refine zF jT qa rfl (.tmp 17) (.tmp 20) rfl (w.heap.size+1) _ _ rfl Own.nil x.a _ _ rfl (zY _ _ _) (by simp[maxLen]) (by simp) ?_ ?_;(simp;omega);intro v3 w3 ow3 hc3 hg3;have bx3:=(bx2.alloc (.cells #[.int .i64 x.a] 3)).below (by omega) hc3;have hb3:=(zc hb2).trans (hc3.mono (by omega));clear x0 x2 x3 x7 xl;have x0:=bx3.cell 0 rfl;have x2:=bx3.cell 2 rfl;have x3:=bx3.cell 3 rfl;have x7:=bx3.cell 7 rfl;have xl:=bx3.lt)
 refine(H2.out _).mono ?_;rintro e w4 ⟨rfl,hq4⟩;have hb4:=za hb3 hq4;have bx4:=bx3.mono hq4;have ow4:=ow3.mono hq4;clear x0 x2 x3 x7 xl;have x0:=bx4.cell 0 rfl;have x2:=bx4.cell 2 rfl;have x3:=bx4.cell 3 rfl;have x7:=bx4.cell 7 rfl;have xl:=bx4.lt
 go_wp2_with (at_builtin;refine zF jT qa rfl (.tmp 25) (.tmp 28) rfl (w.heap.size+1) _ _ rfl (Own.alloc ow4 _) x.b _ _ rfl (zY _ _ _) (by simp[maxLen]) (by simp) ?_ ?_;(simp;omega);intro v5 w5 ow5 hc5 hg5;have bx5:=(bx4.alloc (.cells #[.int .i64 x.b] 3)).below (by omega) hc5;have hb5:=(zc hb4).trans (hc5.mono (by omega));clear x0 x2 x3 x7 xl;have x0:=bx5.cell 0 rfl;have x2:=bx5.cell 2 rfl;have x3:=bx5.cell 3 rfl;have x7:=bx5.cell 7 rfl;have xl:=bx5.lt)
 refine(H3.out _).mono ?_;rintro e w6 ⟨rfl,hq6⟩;have hb6:=za hb5 hq6;have bx6:=bx5.mono hq6;have ow6:=ow5.mono hq6;clear x0 x2 x3 x7 xl;have x0:=bx6.cell 0 rfl;have x2:=bx6.cell 2 rfl;have x3:=bx6.cell 3 rfl;have x7:=bx6.cell 7 rfl;have xl:=bx6.lt
 go_wp2_with fail
 go_ret
 exact⟨⟨_,rfl,by simpa using ow6.weaken (by omega)⟩,hb6⟩
theorem afO(x:Ins)(AI:Option Addr)(cI:Nat)(w:World)(hal:x.args.length≤17592186043904)(hs:Sl Lay.int w AI x.args)(h97:zp x.op 97=true)(h98:zp x.op 98=false)(h42:zp x.op 42=true)(h13:(x.op != 13)=true) :
  Calls Tryz.prog 52 #[.agg #[.int .i64 x.op,.int .i64 x.dst,.int .i64 x.a,.int .i64 x.b,.int .i64 x.n,.string x.cls,.string x.name,.slice AI x.args.length cI,.int .i64 x.jmp,.int .i64 x.hnd]] w fun e w'=>(∃v,e = .returned v∧Own yh 1 w.heap.size 3 w' v (yx x))∧Below w.heap.size w w':=by
 have hne:¬x.op=13:=by simpa using h13
 have HV:Hid (yx x=[x.a]++x.args):=by show _=_;unfold yx;rw[h97,h98,h42];simp[hne]
 rw[HV.out];have H1:Hid (∀W,Calls Tryz.prog 106 #[.int .i64 x.op,.int .u8 97] W fun e w'=>e = .returned (.bool true)∧Below W.heap.size W w'):=fun W=>zA x.op 97 _ (by rw[(zX x.op).2.1,h97]) W
 have H2:Hid (∀W,Calls Tryz.prog 106 #[.int .i64 x.op,.int .u8 98] W fun e w'=>e = .returned (.bool false)∧Below W.heap.size W w'):=fun W=>zA x.op 98 _ (by rw[(zX x.op).2.2.1,h98]) W
 have H3:Hid (∀W,Calls Tryz.prog 106 #[.int .i64 x.op,.int .u8 108] W fun e w'=>e = .returned (.bool true)∧Below W.heap.size W w'):=fun W=>zA x.op 108 _ (by rw[(zX x.op).2.2.2.2.2.2.2,h42]) W
 clear h97 h98 h42 HV
 (try clear hne)
 (try clear hne2)
 go_enter Tryz.func52,Tryz.ntmps52
 go_upto_region 1 with fail
 generalize hW:World.alloc _ _=W1 at *
 have hb1:Below w.heap.size w W1:=by rw[←hW];exact(by repeat(first|assumption|exact v9r|apply zc|apply zd|apply zg|apply ze|apply zi))
 have bx1:Box W1 w.heap.size [.int .i64 x.op,.int .i64 x.dst,.int .i64 x.a,.int .i64 x.b,.int .i64 x.n,.string x.cls,.string x.name,.slice AI x.args.length cI,.int .i64 x.jmp,.int .i64 x.hnd] 59:=by rw[←hW];exact(by repeat(first|(refine Box.at ?_;(simp;done))|apply Box.drew|apply Box.alloc|assumption))
 clear hW;have x0:=bx1.cell 0 rfl;have x2:=bx1.cell 2 rfl;have x3:=bx1.cell 3 rfl;have x7:=bx1.cell 7 rfl;have xl:=bx1.lt
 go_wp2_with fail
 refine(H1.out _).mono ?_;rintro e w2 ⟨rfl,hq2⟩;have hb2:=za hb1 hq2;have bx2:=bx1.mono hq2;clear x0 x2 x3 x7 xl;have x0:=bx2.cell 0 rfl;have x2:=bx2.cell 2 rfl;have x3:=bx2.cell 3 rfl;have x7:=bx2.cell 7 rfl;have xl:=bx2.lt
 go_wp2_with (at_builtin;refine zF jT qa rfl (.tmp 17) (.tmp 20) rfl (w.heap.size+1) _ _ rfl Own.nil x.a _ _ rfl (zY _ _ _) (by simp[maxLen]) (by simp) ?_ ?_;(simp;omega);intro v3 w3 ow3 hc3 hg3;have bx3:=(bx2.alloc (.cells #[.int .i64 x.a] 3)).below (by omega) hc3;have hb3:=(zc hb2).trans (hc3.mono (by omega));clear x0 x2 x3 x7 xl;have x0:=bx3.cell 0 rfl;have x2:=bx3.cell 2 rfl;have x3:=bx3.cell 3 rfl;have x7:=bx3.cell 7 rfl;have xl:=bx3.lt)
 refine(H2.out _).mono ?_;rintro e w4 ⟨rfl,hq4⟩;have hb4:=za hb3 hq4;have bx4:=bx3.mono hq4;have ow4:=ow3.mono hq4;clear x0 x2 x3 x7 xl;have x0:=bx4.cell 0 rfl;have x2:=bx4.cell 2 rfl;have x3:=bx4.cell 3 rfl;have x7:=bx4.cell 7 rfl;have xl:=bx4.lt
 go_wp2_with fail
 refine(H3.out _).mono ?_;rintro e w5 ⟨rfl,hq5⟩;have hb5:=za hb4 hq5;have bx5:=bx4.mono hq5;have ow5:=ow4.mono hq5;clear x0 x2 x3 x7 xl;have x0:=bx5.cell 0 rfl;have x2:=bx5.cell 2 rfl;have x3:=bx5.cell 3 rfl;have x7:=bx5.cell 7 rfl;have xl:=bx5.lt;obtain⟨v6,w6,hrun,ow6,hc6,hg6,hz6⟩:=qX (L:=Lay.int) (A:=AI) (c:=cI) jT qa 57 ow5 (fun x vs h=>h) rfl (hs.mono hb5) (by simp[maxLen];omega) (by simp;omega) (by omega);have hb6:=hb5.trans (hc6.mono (by omega))
 go_wp2_with (at_builtin;refine yJ rfl (.tmp 33) (.tmp 35) 57 rfl rfl rfl hrun ?_)
 go_ret
 exact⟨⟨_,rfl,by simpa using ow6.weaken (by omega)⟩,hb6⟩
theorem agE(x:Ins)(AI:Option Addr)(cI:Nat)(w:World)(hal:x.args.length≤17592186043904)(hs:Sl Lay.int w AI x.args)(h97:zp x.op 97=false)(h98:zp x.op 98=false)(h42:zp x.op 42=true)  :
  Calls Tryz.prog 52 #[.agg #[.int .i64 x.op,.int .i64 x.dst,.int .i64 x.a,.int .i64 x.b,.int .i64 x.n,.string x.cls,.string x.name,.slice AI x.args.length cI,.int .i64 x.jmp,.int .i64 x.hnd]] w fun e w'=>(∃v,e = .returned v∧Own yh 1 w.heap.size 3 w' v (yx x))∧Below w.heap.size w w':=by
 have HV:Hid (yx x=x.args):=by show _=_;unfold yx;rw[h97,h98,h42];simp
 rw[HV.out];have H1:Hid (∀W,Calls Tryz.prog 106 #[.int .i64 x.op,.int .u8 97] W fun e w'=>e = .returned (.bool false)∧Below W.heap.size W w'):=fun W=>zA x.op 97 _ (by rw[(zX x.op).2.1,h97]) W
 have H2:Hid (∀W,Calls Tryz.prog 106 #[.int .i64 x.op,.int .u8 98] W fun e w'=>e = .returned (.bool false)∧Below W.heap.size W w'):=fun W=>zA x.op 98 _ (by rw[(zX x.op).2.2.1,h98]) W
 have H3:Hid (∀W,Calls Tryz.prog 106 #[.int .i64 x.op,.int .u8 108] W fun e w'=>e = .returned (.bool true)∧Below W.heap.size W w'):=fun W=>zA x.op 108 _ (by rw[(zX x.op).2.2.2.2.2.2.2,h42]) W
 clear h97 h98 h42 HV
 (try clear hne)
 (try clear hne2)
 go_enter Tryz.func52,Tryz.ntmps52
 go_upto_region 1 with fail
 generalize hW:World.alloc _ _=W1 at *
 have hb1:Below w.heap.size w W1:=by rw[←hW];exact(by repeat(first|assumption|exact v9r|apply zc|apply zd|apply zg|apply ze|apply zi))
 have bx1:Box W1 w.heap.size [.int .i64 x.op,.int .i64 x.dst,.int .i64 x.a,.int .i64 x.b,.int .i64 x.n,.string x.cls,.string x.name,.slice AI x.args.length cI,.int .i64 x.jmp,.int .i64 x.hnd] 59:=by rw[←hW];exact(by repeat(first|(refine Box.at ?_;(simp;done))|apply Box.drew|apply Box.alloc|assumption))
 clear hW;have x0:=bx1.cell 0 rfl;have x2:=bx1.cell 2 rfl;have x3:=bx1.cell 3 rfl;have x7:=bx1.cell 7 rfl;have xl:=bx1.lt
 go_wp2_with fail
 refine(H1.out _).mono ?_;rintro e w2 ⟨rfl,hq2⟩;have hb2:=za hb1 hq2;have bx2:=bx1.mono hq2;clear x0 x2 x3 x7 xl;have x0:=bx2.cell 0 rfl;have x2:=bx2.cell 2 rfl;have x3:=bx2.cell 3 rfl;have x7:=bx2.cell 7 rfl;have xl:=bx2.lt
 go_wp2_with fail
 refine(H2.out _).mono ?_;rintro e w3 ⟨rfl,hq3⟩;have hb3:=za hb2 hq3;have bx3:=bx2.mono hq3;clear x0 x2 x3 x7 xl;have x0:=bx3.cell 0 rfl;have x2:=bx3.cell 2 rfl;have x3:=bx3.cell 3 rfl;have x7:=bx3.cell 7 rfl;have xl:=bx3.lt
 go_wp2_with fail
 refine(H3.out _).mono ?_;rintro e w4 ⟨rfl,hq4⟩;have hb4:=za hb3 hq4;have bx4:=bx3.mono hq4;clear x0 x2 x3 x7 xl;have x0:=bx4.cell 0 rfl;have x2:=bx4.cell 2 rfl;have x3:=bx4.cell 3 rfl;have x7:=bx4.cell 7 rfl;have xl:=bx4.lt;obtain⟨v5,w5,hrun,ow5,hc5,hg5,hz5⟩:=qX (L:=Lay.int) (A:=AI) (c:=cI) jT qa 57 (Own.nil (base:=w.heap.size+1) (w:=w4)) (fun x vs h=>h) rfl (hs.mono hb4) (by simp[maxLen];omega) (by simp;omega) (by omega);have hb5:=hb4.trans (hc5.mono (by omega))
 go_wp2_with (at_builtin;refine yJ rfl (.tmp 33) (.tmp 35) 57 rfl rfl rfl hrun ?_)
 go_ret
 exact⟨⟨_,rfl,by simpa using ow5.weaken (by omega)⟩,hb5⟩
theorem aeK(x:Ins)(AI:Option Addr)(cI:Nat)(w:World)(hal:x.args.length≤17592186043904)(hs:Sl Lay.int w AI x.args) :
  Calls Tryz.prog 52 #[.agg #[.int .i64 x.op,.int .i64 x.dst,.int .i64 x.a,.int .i64 x.b,.int .i64 x.n,.string x.cls,.string x.name,.slice AI x.args.length cI,.int .i64 x.jmp,.int .i64 x.hnd]] w fun e w'=>(∃v,e = .returned v∧Own yh 1 w.heap.size 3 w' v (yx x))∧Below w.heap.size w w':=by
 rcases ahr x.op with⟨h1,h2,h3⟩|⟨h1,h2,h3⟩|⟨h1,h2,h3,h4⟩|⟨h1,h2,h3,h4⟩|⟨h1,h2,h3⟩
 ·exact agA x AI cI w hal hs h1 h2 h3
 ·cases h13:(x.op != 13) with
  |true=>exact agB x AI cI w hal hs h1 h2 h3 h13
  |false=>
   cases ha:(x.a != -1) with
   |true=>exact agC x AI cI w hal hs h1 h2 h3 h13 ha
   |false=>exact agD x AI cI w hal hs h1 h2 h3 h13 ha
 ·exact afN x AI cI w hal hs h1 h2 h3 (by simpa using h4)
 ·exact afO x AI cI w hal hs h1 h2 h3 (by simpa using h4)
 ·exact agE x AI cI w hal hs h1 h2 h3
end Go.Proofs.YtmhdambkchlilaaGreatDoor
