/- Chapter 10: searching a list of classes, fields or methods by a name. Chapter 10: the table of a hierarchy: its first classes by name, superclasses, chains. Chapter 10: the methods find, super, chain, named of a table. Chapter 10: chains of classes. Chapter 10: Supers and IsSub; looking a method or a field up along a chain. Chapter 10: looking a method or a field up along a chain. Chapter 10: Lookup. -/
import Derived.Test.YtmhdambkchlilaaGreatDoorJGt
import Derived.Test.YtmhdambkchlilaaGreatDoorJGa
import Derived.Test.YtmhdambkchlilaaGreatDoorJGb
namespace Go.Proofs.YtmhdambkchlilaaGreatDoor
open Go.RowKit
set_option linter.unusedVariables false
set_option maxRecDepth 100000
set_option maxHeartbeats 1000000
def idxI{α:Type}(p:α→Bool)(l:List α):Int:=match l.findIdx? p with
 |some i=>i
 |none=> -1
theorem findIdx?_at {α:Type} {p:α→Bool} {l:List α} {k:Nat} (hk:k<l.length) (hno:∀i (hi:i<k),p (l[i]'(by omega))=false) (hy:p l[k]=true):l.findIdx? p=some k:=by
 rw[List.findIdx?_eq_some_iff_getElem];exact⟨hk,hy,fun j hj=>by simpa using hno j hj⟩
theorem qY{α:Type}{p:α→Bool}{l:List α}{k:Nat}(hk:k<l.length)(hno:∀i (hi:i<k),p (l[i]'(by omega))=false)(hy:p l[k]=true):idxI p l=k:=by
 unfold idxI;rw[findIdx?_at hk hno hy]
theorem qC{α:Type}{p:α→Bool}{l:List α}(hno:∀i (hi:i<l.length),p l[i]=false):idxI p l = -1:=by
 unfold idxI
 have:l.findIdx? p=none:=by
  rw[List.findIdx?_eq_none_iff];intro x hx;obtain⟨i,hi,rfl⟩:=List.getElem_of_mem hx;exact hno i hi
 rw[this]
theorem aaz{α:Type}(p:α→Bool)(l:List α) : -1≤idxI p l∧idxI p l<l.length:=by
 unfold idxI
 cases h:l.findIdx? p with
 |none=>simp;omega
 |some i=>
  have:=(List.findIdx?_eq_some_iff_getElem.1 h).1
  simp;omega
def yP(s:ByteArray)(x:Cls):Bool:=x.name.toList==s.toList
def ye(s:ByteArray)(x:Fld):Bool:=x.name.toList==s.toList
def isSg(s:ByteArray)(x:Sg):Bool:=x.name.toList==s.toList
theorem aep(B:Nat)(x:Cls)(A2 A3:Option Addr)(c2 c3:Nat)(s:ByteArray)(w:World)(hB:B<w.heap.size)(hc:w.cell? ⟨B,0,none⟩=some (.string s)) :
  Calls Tryz.prog 226 #[.agg #[.string x.name,.string x.super,.slice A2 x.fields.length c2,.slice A3 x.methods.length c3],.pointer (some ⟨B,0,none⟩)] w fun e w'=>e = .returned (.bool (yP s x))∧Below w.heap.size w w':=by
 go_enter Tryz.func226,Tryz.ntmps226
 go_wp2_with fail
 go_ret
 exact⟨rfl,zc (v9r)⟩
theorem aeq(A:Option Addr)(c B:Nat)(l:List Cls)(s:ByteArray)(w:World)(hl:l.length≤9223372036854775807)(hs:Sl Lay.cls w A l)(hB:B<w.heap.size)(hc:w.cell? ⟨B,0,none⟩=some (.string s)) :
  Calls Tryz.prog 225 #[.slice A l.length c,.func (.func 226) #[] #[.pointer (some ⟨B,0,none⟩)]] w fun e w'=>e = .returned (.int .i64 (idxI (yP s) l))∧Below w.heap.size w w':=by
 go_enter Tryz.func225,Tryz.ntmps225
 go_wp2_with fail
 go_loopw [5,8] (fun j i wr=>∃k:Nat,k≤l.length∧i = .int .i64 k∧Hid (∀i (hi:i<k) (hi2:i<l.length),yP s l[i]=false)∧Below w.heap.size w wr) (fun _ i _=>l.length-(intOf i).toNat)
 case atStart=>exact⟨0,Nat.zero_le _,rfl,fun i hi=>by omega,v9r⟩
 case round=>
  obtain⟨k,hk,rfl,HN,hbw⟩:=hrel
  by_cases hlt:k<l.length
  ·obtain⟨b,o,A2,c2,A3,c3,rfl,hb,d0,d1,d2,d3,hc2,hs2,hc3,hs3⟩:=(hs.mono hbw).cls_at hlt
   go_wp2_with fail
   refine(aep B l[k] A2 A3 c2 c3 s _ (Nat.lt_of_lt_of_le hB hbw.size) (by rw[hbw.cell hB];exact hc)).mono ?_;rintro e w1 ⟨rfl,hb1⟩
   cases hq:yP s l[k] with
   |true=>
    have HE:=v9h (qY hlt (fun i hi=>HN.out i hi (by omega)) hq);clear hq
    go_wp2_with fail
    go_ret
    exact⟨by rw[HE.out];rfl,za hbw hb1⟩
   |false=>
    have HE:Hid (∀i (hi:i<k+1) (hi2:i<l.length),yP s l[i]=false):=fun i hi hi2=>by
     by_cases e:i=k
     ·subst e;exact hq
     ·exact HN.out i (by omega) hi2
    clear hq
    go_wp2_with fail
    go_roundw
    case rel=>exact⟨k+1,by omega,by go_num,HE,za hbw hb1⟩
    case measure=>simp[intOf];omega
  ·have HE:=v9h (qC (p:=yP s) (l:=l) (fun i hi=>HN.out i (by omega) hi))
   go_wp2_with fail
   go_ret
   exact⟨by rw[HE.out];rfl,hbw⟩
theorem adt(A:Option Addr)(c:Nat)(l:List Cls)(s:ByteArray)(w:World)(hl:l.length≤9223372036854775807)(hs:Sl Lay.cls w A l) :
  Calls Tryz.prog 152 #[.agg #[.slice A l.length c],.string s] w fun e w'=>e = .returned (.int .i64 (idxI (yP s) l))∧Below w.heap.size w w':=by
 go_enter Tryz.func152,Tryz.ntmps152
 go_wp2_with fail
 have hb0:Below w.heap.size w ((w.alloc (.cells #[.slice A l.length c] 29)).alloc (.cells #[.string s] 9)):=zc (zc (v9r));refine(aeq A c (w.heap.size+1) l s _ hl (hs.mono hb0) (by simp) (by simp)).mono ?_;rintro e w1 ⟨rfl,hb1⟩
 go_wp2_with fail
 go_ret
 exact⟨rfl,za hb0 hb1⟩
theorem adu(B:Nat)(x:Fld)(s:ByteArray)(w:World)(hB:B<w.heap.size)(hc:w.cell? ⟨B,0,none⟩=some (.string s)) :
  Calls Tryz.prog 291 #[.agg #[.string x.name,.string x.typ],.pointer (some ⟨B,0,none⟩)] w fun e w'=>e = .returned (.bool (ye s x))∧Below w.heap.size w w':=by
 go_enter Tryz.func291,Tryz.ntmps291
 go_wp2_with fail
 go_ret
 exact⟨rfl,zc (v9r)⟩
theorem adv(A:Option Addr)(c B:Nat)(l:List Fld)(s:ByteArray)(w:World)(hl:l.length≤9223372036854775807)(hs:Sl Lay.fld w A l)(hB:B<w.heap.size)(hc:w.cell? ⟨B,0,none⟩=some (.string s)) :
  Calls Tryz.prog 290 #[.slice A l.length c,.func (.func 291) #[] #[.pointer (some ⟨B,0,none⟩)]] w fun e w'=>e = .returned (.int .i64 (idxI (ye s) l))∧Below w.heap.size w w':=by
 go_enter Tryz.func290,Tryz.ntmps290
 go_wp2_with fail
 go_loopw [5,8] (fun j i wr=>∃k:Nat,k≤l.length∧i = .int .i64 k∧Hid (∀i (hi:i<k) (hi2:i<l.length),ye s l[i]=false)∧Below w.heap.size w wr) (fun _ i _=>l.length-(intOf i).toNat)
 case atStart=>exact⟨0,Nat.zero_le _,rfl,fun i hi=>by omega,v9r⟩
 case round=>
  obtain⟨k,hk,rfl,HN,hbw⟩:=hrel
  by_cases hlt:k<l.length
  ·obtain⟨b,o,rfl,hb,d0,d1⟩:=(hs.mono hbw).fld_at hlt
   go_wp2_with fail
   refine(adu B l[k] s _ (Nat.lt_of_lt_of_le hB hbw.size) (by rw[hbw.cell hB];exact hc)).mono ?_;rintro e w1 ⟨rfl,hb1⟩
   cases hq:ye s l[k] with
   |true=>
    have HE:=v9h (qY hlt (fun i hi=>HN.out i hi (by omega)) hq);clear hq
    go_wp2_with fail
    go_ret
    exact⟨by rw[HE.out];rfl,za hbw hb1⟩
   |false=>
    have HE:Hid (∀i (hi:i<k+1) (hi2:i<l.length),ye s l[i]=false):=fun i hi hi2=>by
     by_cases e:i=k
     ·subst e;exact hq
     ·exact HN.out i (by omega) hi2
    clear hq
    go_wp2_with fail
    go_roundw
    case rel=>exact⟨k+1,by omega,by go_num,HE,za hbw hb1⟩
    case measure=>simp[intOf];omega
  ·have HE:=v9h (qC (p:=ye s) (l:=l) (fun i hi=>HN.out i (by omega) hi))
   go_wp2_with fail
   go_ret
   exact⟨by rw[HE.out];rfl,hbw⟩
theorem xh(x:Cls)(A2 A3:Option Addr)(c2 c3:Nat)(s:ByteArray)(w:World)(hl:x.fields.length≤9223372036854775807)(hs:Sl Lay.fld w A2 x.fields) :
  Calls Tryz.prog 239 #[.agg #[.string x.name,.string x.super,.slice A2 x.fields.length c2,.slice A3 x.methods.length c3],.string s] w fun e w'=>e = .returned (.int .i64 (idxI (ye s) x.fields))∧Below w.heap.size w w':=by
 go_enter Tryz.func239,Tryz.ntmps239
 go_wp2_with fail
 have hb0:Below w.heap.size w ((w.alloc (.cells #[.string x.name,.string x.super,.slice A2 x.fields.length c2,.slice A3 x.methods.length c3] 94)).alloc (.cells #[.string s] 9)):=zc (zc (v9r));refine(adv A2 c2 (w.heap.size+1) x.fields s _ hl (hs.mono hb0) (by simp) (by simp)).mono ?_;rintro e w1 ⟨rfl,hb1⟩
 go_wp2_with fail
 go_ret
 exact⟨rfl,za hb0 hb1⟩
theorem acZ(B:Nat)(x:Sg)(A2:Option Addr)(c2:Nat)(s:ByteArray)(w:World)(hB:B<w.heap.size)(hc:w.cell? ⟨B,0,none⟩=some (.string s)) :
  Calls Tryz.prog 220 #[.agg #[.string x.name,.bool x.static,.slice A2 x.params.length c2,.string x.result],.pointer (some ⟨B,0,none⟩)] w fun e w'=>e = .returned (.bool (isSg s x))∧Below w.heap.size w w':=by
 go_enter Tryz.func220,Tryz.ntmps220
 go_wp2_with fail
 go_ret
 exact⟨rfl,zc (v9r)⟩
theorem ac0(A:Option Addr)(c B:Nat)(l:List Sg)(s:ByteArray)(w:World)(hl:l.length≤9223372036854775807)(hs:Sl Lay.sg w A l)(hB:B<w.heap.size)(hc:w.cell? ⟨B,0,none⟩=some (.string s)) :
  Calls Tryz.prog 219 #[.slice A l.length c,.func (.func 220) #[] #[.pointer (some ⟨B,0,none⟩)]] w fun e w'=>e = .returned (.int .i64 (idxI (isSg s) l))∧Below w.heap.size w w':=by
 go_enter Tryz.func219,Tryz.ntmps219
 go_wp2_with fail
 go_loopw [5,8] (fun j i wr=>∃k:Nat,k≤l.length∧i = .int .i64 k∧Hid (∀i (hi:i<k) (hi2:i<l.length),isSg s l[i]=false)∧Below w.heap.size w wr) (fun _ i _=>l.length-(intOf i).toNat)
 case atStart=>exact⟨0,Nat.zero_le _,rfl,fun i hi=>by omega,v9r⟩
 case round=>
  obtain⟨k,hk,rfl,HN,hbw⟩:=hrel
  by_cases hlt:k<l.length
  ·obtain⟨b,o,A2,c2,rfl,hb,d0,d1,d2,d3,hc2,hs2⟩:=(hs.mono hbw).sg_at hlt
   go_wp2_with fail
   refine(acZ B l[k] A2 c2 s _ (Nat.lt_of_lt_of_le hB hbw.size) (by rw[hbw.cell hB];exact hc)).mono ?_;rintro e w1 ⟨rfl,hb1⟩
   cases hq:isSg s l[k] with
   |true=>
    have HE:=v9h (qY hlt (fun i hi=>HN.out i hi (by omega)) hq);clear hq
    go_wp2_with fail
    go_ret
    exact⟨by rw[HE.out];rfl,za hbw hb1⟩
   |false=>
    have HE:Hid (∀i (hi:i<k+1) (hi2:i<l.length),isSg s l[i]=false):=fun i hi hi2=>by
     by_cases e:i=k
     ·subst e;exact hq
     ·exact HN.out i (by omega) hi2
    clear hq
    go_wp2_with fail
    go_roundw
    case rel=>exact⟨k+1,by omega,by go_num,HE,za hbw hb1⟩
    case measure=>simp[intOf];omega
  ·have HE:=v9h (qC (p:=isSg s) (l:=l) (fun i hi=>HN.out i (by omega) hi))
   go_wp2_with fail
   go_ret
   exact⟨by rw[HE.out];rfl,hbw⟩
theorem aai(x:Cls)(A2 A3:Option Addr)(c2 c3:Nat)(s:ByteArray)(w:World)(hl:x.methods.length≤9223372036854775807)(hs:Sl Lay.sg w A3 x.methods) :
  Calls Tryz.prog 148 #[.agg #[.string x.name,.string x.super,.slice A2 x.fields.length c2,.slice A3 x.methods.length c3],.string s] w fun e w'=>e = .returned (.int .i64 (idxI (isSg s) x.methods))∧Below w.heap.size w w':=by
 go_enter Tryz.func148,Tryz.ntmps148
 go_wp2_with fail
 have hb0:Below w.heap.size w ((w.alloc (.cells #[.string x.name,.string x.super,.slice A2 x.fields.length c2,.slice A3 x.methods.length c3] 94)).alloc (.cells #[.string s] 9)):=zc (zc (v9r));refine(ac0 A3 c3 (w.heap.size+1) x.methods s _ hl (hs.mono hb0) (by simp) (by simp)).mono ?_;rintro e w1 ⟨rfl,hb1⟩
 go_wp2_with fail
 go_ret
 exact⟨rfl,za hb0 hb1⟩
theorem kR:jq Tryz.prog 153 9 3 (fun x:ByteArray=> .string x) zG (fun x=> .string x.data.toList) (fun y:Int=> .int .i64 y) qL (fun y=> .lit (.int .i64 y)) 0:=
 jq.str_int Tryz.underlying153 Tryz.underlying9 Tryz.underlying3 (fun w=>by kernel_rfl)
theorem aaj:jq Tryz.prog 133 3 4 (fun x:Int=> .int .i64 x) qL (fun x=> .int .i64 x) (fun y:Bool=> .bool y) (fun _=>True) (fun y=> .lit (.bool y)) false:=
 jq.int_bool Tryz.underlying133 Tryz.underlying3 Tryz.underlying4 (fun w=>by kernel_rfl)
theorem aa6{P:Program}(t k e:TypeId)(ht:P.underlying t=some (.map k e))(kd:IntKind)(n:Int)(w:World) :
  (Instr.makeMap t (some (.int kd n))).run P w = .ok (.map (some w.heap.size)) (w.alloc (.map #[] 0)):=by
 simp[Instr.makeMap,run_underlying ht];rfl
def yj(cs:List Cls)(s:ByteArray):Option Int:=(cs.findIdx? (yP s)).map Int.ofNat
structure TabV(w:World)(A:Option Addr)(c b:Nat)(cs:List Cls):Prop where
 sl:Sl Lay.cls w A cs
 le:cs.length≤c
 map:∃n,zZ kR w b n (yj cs)
theorem TabV.mono{w w':World}{A:Option Addr}{c b:Nat}{cs:List Cls}(h:TabV w A c b cs)(hb:Below w.heap.size w w'):TabV w' A c b cs:=
 ⟨h.sl.mono hb,h.le,h.map.imp fun n hn=>hn.mono hb⟩
def qq(cs:List Cls):Prop:=∀x∈cs,zG x.name∧zG x.super
theorem map0(w:World){b:Nat}(h:w.heap.size=b):zZ kR (w.alloc (.map #[] 0)) b 0 (yj []):=by
 subst h;have:yj []=fun _=>none:=by funext s;simp[yj]
 rw[this];exact zZ.made _ _
theorem zO{a b:ByteArray}:(a.toList==b.toList)=true↔a=b:=by
 rw[beq_iff_eq,ByteArray.toList_eq,ByteArray.toList_eq,Array.toList_inj];exact⟨fun h=>ByteArray.ext h,fun h=>by rw[h]⟩
theorem aaV(cs:List Cls)(x:Cls)(s:ByteArray):yj (cs++[x]) s=(yj cs s).or (if s=x.name then some (cs.length:Int) else none):=by
 unfold yj;rw[List.findIdx?_append]
 cases h:cs.findIdx? (yP s) with
 |some i=>simp
 |none=>
  simp only[Option.map_none,Option.none_or]
  by_cases e:s=x.name
  ·have:yP s x=true:=by unfold yP;rw[zO,e]
   rw[if_pos e]
   simp[this]
  ·have:yP s x=false:=by
    cases hq:yP s x with
    |false=>rfl
    |true=>exact absurd (zO.1 hq).symm e
   simp[this,e]
theorem afj{cs:List Cls}{x:Cls}(h:(yj cs x.name).isSome=false):yj (cs++[x])=putF (yj cs) x.name (cs.length:Int):=by
 funext s
 rw[aaV];unfold putF
 by_cases e:s=x.name
 ·subst e
  rw[if_pos rfl,if_pos rfl]
  cases h2:yj cs x.name with
  |none=>rfl
  |some y=>rw[h2] at h;cases h
 ·rw[if_neg e,if_neg e,Option.or_none]
theorem afk{cs:List Cls}{x:Cls}(h:(yj cs x.name).isSome=true):yj (cs++[x])=yj cs:=by
 funext s
 rw[aaV]
 by_cases e:s=x.name
 ·subst e
  cases h2:yj cs x.name with
  |none=>rw[h2] at h;cases h
  |some y=>rfl
 ·rw[if_neg e,Option.or_none]
theorem km(A:Option Addr)(c:Nat)(cs:List Cls)(w:World)(hl:cs.length≤9223372036854775807)(hcc:cs.length≤c)(hs:Sl Lay.cls w A cs)(hok:Hid (qq cs)) :
  Calls Tryz.prog 76 #[.agg #[.slice A cs.length c]] w fun e w'=>(∃b,e = .returned (.agg #[.slice A cs.length c,.map (some b)])∧TabV w' A c b cs)∧Below w.heap.size w w':=by
 have hmk:=aa6 (P:=Tryz.prog) 153 9 3 Tryz.underlying153
 go_enter Tryz.func76,Tryz.ntmps76
 go_upto_region 1 with fail
 go_cut [3] (fun s3 wx=>∃bm bx:Nat,s3 = .pointer (some ⟨bx,0,none⟩)∧Box wx bx [.slice A cs.length c,.map (some bm)] 155∧zZ kR wx bm 0 (yj [])∧Box wx w.heap.size [.slice A cs.length c] 29∧Box wx (w.heap.size+1) [.slice none 0 0,.map none] 155∧w.heap.size+1<bm∧w.heap.size+1<bx∧bx≠bm∧Below w.heap.size w wx)
 case first=>
  refine yy 8 (by kernel_rfl) (by kernel_rfl) ?_;refine RW.chunk (f:=3) [0,1,2,3,4] (by kernel_rfl) ?_;simp only[zo,List.filterMap,List.getElem?_toArray,List.getElem?_cons_zero,List.getElem?_cons_succ]
  repeat(go_big_quiet_step (fail))
  refine wpQuiet_nil ?_;refine RW.both 5 7 rfl rfl (by kernel_rfl) (by omega) (by omega) ?_ ?_
  ·intro K hK
   go_wp2_with fail
   refine hK _ _ (zc (v9r)) ?_;clear hK;refine RW.chunk (f:=1) [6] (by kernel_rfl) ?_;simp only[zo,List.filterMap,List.getElem?_toArray,List.getElem?_cons_zero,List.getElem?_cons_succ]
   repeat(go_big_quiet_step (fail))
   refine wpQuiet_nil ?_;refine RW.single 7 rfl (by kernel_rfl) (by omega) ?_;intro K hK
   go_wp2_with fail
   refine hK _ _ (zc (v9r)) ?_;clear hK;refine RW.tail (by kernel_rfl) ?_;simp only[List.drop_succ_cons,List.drop_zero]
   go_wp2_with fail
   go_meet
   exact⟨w.heap.size+1+1,w.heap.size+1+1+1,rfl,(by repeat(first|(refine Box.at ?_;(simp;done))|apply Box.drew|apply Box.alloc|assumption)),(map0 _ (by simp)).alloc _,(by repeat(first|(refine Box.at ?_;(simp;done))|apply Box.drew|apply Box.alloc|assumption)),(by repeat(first|(refine Box.at ?_;(simp;done))|apply Box.drew|apply Box.alloc|assumption)),by omega,by omega,by omega,(by repeat(first|assumption|exact v9r|apply zc|apply zd|apply zg|apply ze|apply zi))⟩
  ·intro K hK
   go_wp2_with fail
   refine hK _ _ (zc (v9r)) ?_;clear hK;refine RW.single 5 rfl (by kernel_rfl) (by omega) ?_;intro K hK
   go_wp2_with fail
   refine hK _ _ (zc (v9r)) ?_;clear hK;refine RW.chunk (f:=0) [6] (by kernel_rfl) ?_;simp only[zo,List.filterMap,List.getElem?_toArray,List.getElem?_cons_zero,List.getElem?_cons_succ]
   repeat(go_big_quiet_step (fail))
   refine wpQuiet_nil ?_;refine RW.tail (by kernel_rfl) ?_;simp only[List.drop_succ_cons,List.drop_zero]
   go_wp2_with fail
   go_meet
   exact⟨w.heap.size+1+1+1,w.heap.size+1+1,rfl,(by repeat(first|(refine Box.at ?_;(simp;done))|apply Box.drew|apply Box.alloc|assumption)),map0 _ (by simp),(by repeat(first|(refine Box.at ?_;(simp;done))|apply Box.drew|apply Box.alloc|assumption)),(by repeat(first|(refine Box.at ?_;(simp;done))|apply Box.drew|apply Box.alloc|assumption)),by omega,by omega,by omega,(by repeat(first|assumption|exact v9r|apply zc|apply zd|apply zg|apply ze|apply zi))⟩
 case rest=>
  obtain⟨bm,bx,rfl,hbx,hm,hb1,hb2,hgm,hgx,hne,hbw⟩:=hcut;have HNE:=v9h hne;clear hne;clear hmk;have d0:=hb1.cell 0 rfl
  go_wp2_with fail
  go_loopw [18] (fun i wr=>∃k n:Nat,k≤cs.length∧n≤k∧i = .int .i64 k∧Box wr bx [.slice A cs.length c,.map (some bm)] 155∧zZ kR wr bm n (yj (cs.take k))∧Box wr (w.heap.size+1) [.slice none 0 0,.map none] 155∧Below w.heap.size w wr) (fun i _=>cs.length-(intOf i).toNat)
  case atStart=>exact⟨0,0,Nat.zero_le _,Nat.zero_le _,rfl,hbx,hm,hb2,hbw⟩
  case round=>
   clear hbx hm hb1 hb2 hbw d0;obtain⟨k,n,hk,hn,rfl,hbx,hm,hb2,hbw⟩:=hrel
   by_cases hlt:k<cs.length
   ·obtain⟨b,o,A2,c2,A3,c3,rfl,hb,d0,d1,d2,d3,hc2,hs2,hc3,hs3⟩:=(hs.mono hbw).cls_at hlt
    have e0:=hbx.cell 0 rfl;have e1:=hbx.cell 1 rfl;have hxl:=hbx.lt;have hml:=hm.lt;have hkx:zG cs[k].name:=(hok.out _ (List.getElem_mem hlt)).1;have hlk:=fun o=>(hm.alloc o).look_ok hkx
    have HT:=v9h (List.take_succ_eq_append_getElem hlt);have htl:(cs.take k).length=k:=by rw[List.length_take];omega
    cases hq:(yj (cs.take k) cs[k].name).isSome with
    |true=>
     have HS:=v9h (afk hq);rw[←HT.out] at HS;rw[hq] at hlk;clear hq htl
     go_wp2_with fail
     go_roundw
     case rel=>exact⟨k+1,n,by omega,by omega,by go_num,hbx.alloc _,by rw[HS.out];exact hm.alloc _,hb2.alloc _,zc hbw⟩
     case measure=>simp[intOf];omega
    |false=>
     have HS:=v9h (afj hq);rw[←HT.out,htl] at HS;rw[hq] at hlk;clear hq htl
     go_wp2_with (at_mapUpdate;refine aab kR rfl (.tmp 34) (.tmp 36) (.tmp 37) rfl bm n _ rfl (hm.alloc _) (by unfold maxLen;omega) cs[k].name (k:Int) rfl rfl hkx (yY (by omega) (by omega)) ?_;intro w2 hm2 hg2)
     go_roundw
     case rel=>exact⟨k+1,n+1,by omega,by omega,by go_num,(hbx.alloc _).grown hg2 (fun h=>HNE.out (Option.some.inj h)),by rw[HS.out];exact hm2,(hb2.alloc _).grown hg2 (fun h=>by have:=Option.some.inj h;omega),(zc hbw).grown hg2 (by have:=hbw.size;simp;omega) (fun k hk=>by injection hk with hk;omega)⟩
     case measure=>simp[intOf];omega
   ·have HK:=v9h (show cs.take k=cs from List.take_of_length_le (by omega))
    rw[HK.out] at hm;have e0:=hbx.cell 0 rfl;have e1:=hbx.cell 1 rfl;have f0:=hb2.cell 0 rfl;have f1:=hb2.cell 1 rfl;have g0:=hb2.free 0;have g1:=hb2.free 1;have hxl:=hb2.lt
    go_wp2_with fail
    have hb3:=(hb2.set 0 (.slice A cs.length c)).set 1 (.map (some bm));have q0:=hb3.cell 0 rfl;have q1:=hb3.cell 1 rfl;have hk2:wr.grownBy ((wr.setCell ⟨w.heap.size+1,0,none⟩ (Value.slice A cs.length c)).setCell ⟨w.heap.size+1,1,none⟩ (Value.map (some bm))) (some (w.heap.size+1)):=jR _ _ _ _ _ _;have hbz:Below w.heap.size w ((wr.setCell ⟨w.heap.size+1,0,none⟩ (Value.slice A cs.length c)).setCell ⟨w.heap.size+1,1,none⟩ (Value.map (some bm))):=hbw.grown hk2 hbw.size (fun k hk=>by injection hk with hk;omega);have hmz:=hm.kept hk2 (fun h=>by have:=Option.some.inj h;omega);generalize((wr.setCell ⟨w.heap.size+1,0,none⟩ (Value.slice A cs.length c)).setCell ⟨w.heap.size+1,1,none⟩ (Value.map (some bm)))=wz at *
    exact bodyPost_ret (v:= .agg #[.slice A cs.length c,.map (some bm)]) (by simp[results,Tryz.results76,go_sem,q0,q1]) rfl ⟨⟨bm,rfl,⟨hs.mono hbz,hcc,⟨_,hmz⟩⟩⟩,hbz⟩
def fnd(cs:List Cls)(s:ByteArray):Int:=idxI (yP s) cs
theorem acq(cs:List Cls)(s:ByteArray):fnd cs s=(yj cs s).getD (-1):=by
 unfold fnd idxI yj
 cases cs.findIdx? (yP s) with
 |none=>rfl
 |some i=>rfl
theorem aid{cs:List Cls}{s:ByteArray}(h:(yj cs s).isSome=true):(yj cs s).getD 0=fnd cs s:=by
 rw[acq]
 cases h2:yj cs s with
 |none=>rw[h2] at h;cases h
 |some y=>rfl
theorem ai5{cs:List Cls}{s:ByteArray}(h:(yj cs s).isSome=false):fnd cs s = -1:=by
 rw[acq]
 cases h2:yj cs s with
 |none=>rfl
 |some y=>rw[h2] at h;cases h
theorem yb(cs:List Cls)(s:ByteArray) : -1≤fnd cs s∧fnd cs s<cs.length:=aaz _ _
theorem jK(A:Option Addr)(c b:Nat)(cs:List Cls)(s:ByteArray)(w:World)(hT:TabV w A c b cs)(hs:zG s) :
  Calls Tryz.prog 78 #[.agg #[.slice A cs.length c,.map (some b)],.string s] w fun e w'=>e = .returned (.int .i64 (fnd cs s))∧Below w.heap.size w w':=by
 obtain⟨n,hm⟩:=hT.map;have hlk:=fun o=>(hm.alloc o).look_ok hs
 cases hq:(yj cs s).isSome with
 |true=>
  have HF:=v9h (aid hq);rw[hq,HF.out] at hlk;clear hq
  go_enter Tryz.func78,Tryz.ntmps78
  go_wp2_with fail
  go_ret
  exact⟨rfl,(by repeat(first|assumption|exact v9r|apply zc|apply zd|apply zg|apply ze|apply zi))⟩
 |false=>
  have HF:=v9h (ai5 hq);rw[hq] at hlk;clear hq
  go_enter Tryz.func78,Tryz.ntmps78
  go_wp2_with fail
  go_ret
  exact⟨by rw[HF.out];rfl,(by repeat(first|assumption|exact v9r|apply zc|apply zd|apply zg|apply ze|apply zi))⟩
def supI(cs:List Cls)(i:Nat):Int:=match cs[i]? with
 |some x=>if x.super.toList.isEmpty then -1 else fnd cs x.super
 |none=> -1
theorem aaA{cs:List Cls}{i:Nat}(hi:i<cs.length):supI cs i=if cs[i].super.toList.isEmpty then -1 else fnd cs cs[i].super:=by
 unfold supI;rw[List.getElem?_eq_getElem hi]
theorem abW(cs:List Cls)(i:Nat) : -1≤supI cs i∧supI cs i<cs.length:=by
 unfold supI
 split
 ·split
  ·omega
  ·exact yb _ _
 ·omega
theorem afl(A:Option Addr)(c b:Nat)(cs:List Cls)(i:Nat)(w:World)(hl:cs.length≤9223372036854775807)(hi:i<cs.length)(hT:TabV w A c b cs)(hok:Hid (qq cs)) :
  Calls Tryz.prog 184 #[.agg #[.slice A cs.length c,.map (some b)],.int .i64 i] w fun e w'=>e = .returned (.int .i64 (supI cs i))∧Below w.heap.size w w':=by
 obtain⟨b0,o,A2,c2,A3,c3,rfl,hb,d0,d1,d2,d3,hc2,hs2,hc3,hs3⟩:=hT.sl.cls_at hi;have HS:=v9h (aaA hi)
 cases hq:cs[i].super.toList.isEmpty with
 |true=>
  rw[hq] at HS
  go_enter Tryz.func184,Tryz.ntmps184
  go_wp2_with fail
  go_ret
  exact⟨by rw[HS.out];rfl,(by repeat(first|assumption|exact v9r|apply zc|apply zd|apply zg|apply ze|apply zi))⟩
 |false=>
  rw[hq] at HS
  go_enter Tryz.func184,Tryz.ntmps184
  go_wp2_with fail
  refine yy 8 (by kernel_rfl) (by kernel_rfl) ?_;refine RW.chunk (f:=1) [0,1,2,3,4,5,6] (by kernel_rfl) ?_
  ((simp only[zo,List.filterMap,List.getElem?_toArray,List.getElem?_cons_zero,List.getElem?_cons_succ]);(repeat(go_big_quiet_step (fail)));refine wpQuiet_nil ?_)
  refine RW.single 7 rfl (by kernel_rfl) (by omega) ?_;intro K hK
  go_wp2_with fail
  refine(jK _ c b cs cs[i].super _ (hT.mono (by repeat(first|assumption|exact v9r|apply zc|apply zd|apply zg|apply ze|apply zi))) (hok.out _ (List.getElem_mem hi)).2).mono ?_;rintro e w1 ⟨rfl,hb1⟩
  go_wp2_with fail
  refine hK _ _ hb1 ?_;clear hK
  (refine RW.tail (by kernel_rfl) ?_;(simp only[List.drop_succ_cons,List.drop_zero]))
  go_wp2_with fail
  go_ret
  exact⟨by rw[HS.out];rfl,za (by repeat(first|assumption|exact v9r|apply zc|apply zd|apply zg|apply ze|apply zi)) hb1⟩
def chGo(nx:Nat→Int):Nat→Int→List Int→List Int×Bool
 | 0,i,l=>(l,decide (0≤i))
 |f+1,i,l=>if 0≤i∧i∉l then chGo nx f (nx i.toNat) (l++[i]) else(l,decide (0≤i))
def chR(cs:List Cls)(i:Int):List Int×Bool:=chGo (supI cs) cs.length i []
theorem yF{nx:Nat→Int}{f:Nat}{i:Int}{l:List Int}(h:¬(0≤i∧i∉l)):chGo nx f i l=(l,decide (0≤i)):=by
 cases f with
 |zero=>rfl
 |succ f=>unfold chGo;rw[if_neg h]
theorem qe{nx:Nat→Int}{f:Nat}{i:Int}{l:List Int}(h:0≤i∧i∉l):chGo nx (f+1) i l=chGo nx f (nx i.toNat) (l++[i]):=by rw[chGo,if_pos h]
theorem xD{l:List Int}(hn:l.Nodup){n:Nat}(hb:∀x∈l,0≤x∧x<n):l.length≤n:=by
 induction n generalizing l with
 |zero=>
  cases l with
  |nil=>simp
  |cons x r=>have:=hb x (by simp);omega
 |succ n ih=>
  have h1:(l.erase (n:Int)).length≤n:=ih (hn.erase _) fun x hx=>by
   have hx':=List.mem_of_mem_erase hx;have:=hb x hx'
   have hne:x≠(n:Int):=fun e=>by
    rw[e] at hx;exact(List.Nodup.not_mem_erase hn) hx
   omega
  rw[List.length_erase] at h1
  split at h1<;>omega
def kY(l:List Int)(x:Int):Option Bool:=if x∈l then some true else none
theorem afm(l:List Int)(y:Int):kY (l++[y])=putF (kY l) y true:=by
 funext x
 unfold kY putF
 by_cases h:x=y<;>simp[h]
theorem agf(l:List Int)(x:Int):(kY l x).getD false=decide (x∈l):=by
 unfold kY
 split
 ·rename_i h;simp[h]
 ·rename_i h;simp[h]
theorem qO{P:Program}(t k e:TypeId)(ht:P.underlying t=some (.map k e))(w:World) :
  (Instr.makeMap t none).run P w = .ok (.map (some w.heap.size)) (w.alloc (.map #[] 0)):=by
 simp[Instr.makeMap]
def slLen:Value→Nat
 |.slice _ n _=>n
 |_=>0
theorem Own.slLen{α:Type}{cells:α→List Value}{size base:Nat}{e:TypeId}{w:World}{v:Value}{l:List α}(h:Own cells size base e w v l):slLen v=l.length:=by
 rcases h.2 with⟨rfl,h0⟩|⟨g,cap,cur,rfl,_⟩
 ·exact h0.symm
 ·rfl
theorem jT:qc Tryz.prog 57 3 1 8 (.int .i64 0):=⟨Tryz.underlying57,by kernel_rfl,rfl,by omega⟩
def jr(w:World)(v:Value)(l:List Int):Prop:=∃A c,v = .slice A l.length c∧l.length≤c∧Sl Lay.int w A l
theorem jr.of_own{base:Nat}{e:TypeId}{w:World}{v:Value}{l:List Int}(h:Own yh 1 base e w v l):jr w v l:=Own.sl (L:=Lay.int) h rfl fun _=>rfl
theorem jr.mono{w w':World}{v:Value}{l:List Int}(h:jr w v l)(hb:Below w.heap.size w w'):jr w' v l:=by
 obtain⟨A,c,e,hc,hs⟩:=h;exact⟨A,c,e,hc,hs.mono hb⟩
theorem Own.weaken{α:Type}{cells:α→List Value}{size b1 b2:Nat}{e:TypeId}{w:World}{v:Value}{l:List α}(h:Own cells size b1 e w v l)(hb:b2≤b1):Own cells size b2 e w v l:=by
 refine⟨h.1,?_⟩
 rcases h.2 with h2|⟨g,cap,cur,h1,h2,h3⟩
 ·exact Or.inl h2
 ·exact Or.inr ⟨g,cap,cur,h1,by omega,h3⟩
theorem adw{α:Type}{cells:α→List Value}{size base:Nat}{e:TypeId}{w:World}{v:Value}{l:List α}(h:Own cells size base e w v l){b:Nat}(hb:b<base):v.ownBlock=none∨v.ownBlock≠some b:=by
 rcases h.2 with⟨rfl,_⟩|⟨g,cap,cur,rfl,h1,_⟩
 ·exact Or.inl rfl
 ·exact Or.inr fun h=>by simp[Value.ownBlock] at h;omega
theorem qj{cs:List Cls}{i:Int}(hi:i<cs.length):(∀x∈(chR cs i).1,0≤x∧x<cs.length)∧(chR cs i).1.Nodup:=by
 suffices ∀f i l,i<(cs.length:Int)→(∀x∈l,0≤x∧x<(cs.length:Int))→l.Nodup→(∀x∈(chGo (supI cs) f i l).1,0≤x∧x<(cs.length:Int))∧(chGo (supI cs) f i l).1.Nodup from this _ _ _ hi (by simp) (by simp)
 intro f
 induction f with
 |zero=>intro i l _ h1 h2;exact⟨h1,h2⟩
 |succ f ih=>
  intro i l hi h1 h2
  by_cases h:0≤i∧i∉l
  ·rw[qe h]
   refine ih _ _ (abW _ _).2 (fun x hx=>?_) ?_
   ·rcases List.mem_append.1 hx with hx|hx
    ·exact h1 x hx
    ·simp at hx;subst hx;exact⟨h.1,hi⟩
   ·rw[List.nodup_append]
    refine⟨h2,by simp,fun a ha b hb=>?_⟩
    simp at hb;subst hb
    intro e;subst e;exact h.2 ha
  ·rw[yF h];exact⟨h1,h2⟩
theorem kh{cs:List Cls}{i:Int}(hi:i<cs.length):(chR cs i).1.length≤cs.length:=xD (qj hi).2 (qj hi).1
theorem kG(A:Option Addr)(c b:Nat)(cs:List Cls)(i:Int)(w:World)(hl:cs.length≤8796093022208)(hi1 : -9223372036854775808≤i)(hi:i<cs.length)(hT:TabV w A c b cs)(hok:Hid (qq cs)) :
  Calls Tryz.prog 147 #[.agg #[.slice A cs.length c,.map (some b)],.int .i64 i] w fun e w'=>(∃v,e = .returned (.tuple #[v,.bool (chR cs i).2])∧Own yh 1 w.heap.size 3 w' v (chR cs i).1)∧Below w.heap.size w w':=by
 have hmk:=qO (P:=Tryz.prog) 133 3 4 Tryz.underlying133;have hm0:=zZ.made0 aaj (w.alloc (.cells #[.slice A cs.length c,.map (some b)] 155)) (b:=w.heap.size+1) (by simp) (f:=kY []) (fun x=>by simp[kY]);have hbx0:=Box.new w [.slice A cs.length c,.map (some b)] 155
 go_enter Tryz.func147,Tryz.ntmps147
 go_wp2_with fail
 go_loopw [1,4] (fun v1 v4 wr=>∃(j:Int) (l:List Int) (f:Nat),f+l.length=cs.length∧ -9223372036854775808≤j∧j<cs.length∧v1 = .int .i64 j∧chR cs i=chGo (supI cs) f j l∧(∀x∈l,0≤x∧x<(cs.length:Int))∧l.Nodup
   ∧Own yh 1 (w.heap.size+1+1) 3 wr v4 l∧zZ aaj wr (w.heap.size+1) l.length (kY l)∧Box wr w.heap.size [.slice A cs.length c,.map (some b)] 155∧Below w.heap.size w wr) (fun v1 v4 _=>cs.length-slLen v4)
 case atStart=>exact⟨i,[],cs.length,rfl,hi1,hi,rfl,rfl,by simp,by simp,Own.nil,hm0,hbx0.alloc _,(by repeat(first|assumption|exact v9r|apply zc|apply zd|apply zg|apply ze|apply zi))⟩
 case round=>
  clear hmk hm0 hbx0;obtain⟨j,l,f,hf,hj1,hj2,rfl,HC0,HB0,hnd0,hown,hm,hbx,hbw⟩:=hrel;have HC:=v9h HC0;have HB:=v9h HB0;have hnd:=v9h hnd0;clear HC0 HB0 hnd0;have HSL:=v9h hown.slLen;have e0:=hbx.cell 0 rfl;have e1:=hbx.cell 1 rfl;have hxl:=hbx.lt
  by_cases hj0:0≤j
  ·have hlk:=hm.look (x:=j) (yY (by omega) (by omega))
   rw[agf] at hlk
   by_cases hin:j∈l
   ·have HE:=v9h (yF (nx:=supI cs) (f:=f) (i:=j) (l:=l) (fun h=>h.2 hin))
    rw[decide_eq_true hin] at hlk;clear hin;have hd:decide (0≤j)=true:=decide_eq_true hj0
    go_wp2_with fail
    go_ret2
    exact⟨⟨_,by rw[HC.out,HE.out,hd];rfl,by rw[HC.out,HE.out];exact hown.weaken (by omega)⟩,hbw⟩
   ·rw[decide_eq_false hin] at hlk
    have HIN:=v9h hin;clear hin;obtain⟨jn,rfl⟩:∃jn:Nat,j=jn:=⟨j.toNat,by omega⟩
    have hjn:jn<cs.length:=by omega
    have hll:l.length<cs.length:=by
     rcases Nat.lt_or_ge l.length cs.length with h|h
     ·exact h
     ·exfalso
      have h1:(l++[(jn:Int)]).length≤cs.length:=xD (by
       rw[List.nodup_append];refine⟨hnd.out,by simp,fun a ha b hb=>?_⟩
       simp at hb;subst hb
       intro e;subst e;exact HIN.out ha) (fun x hx=>by
       rcases List.mem_append.1 hx with hx|hx
       ·exact HB.out x hx
       ·simp at hx;subst hx;omega)
      rw[List.length_append] at h1
      simp at h1
      omega
    obtain⟨f',rfl⟩:∃f',f=f'+1:=⟨f-1,by omega⟩
    have HE:=v9h (qe (nx:=supI cs) (f:=f') (i:=(jn:Int)) (l:=l) ⟨by omega,HIN.out⟩);rw[Int.toNat_natCast] at HE;have HSN:=v9h (afm l jn);have hsb:=abW cs jn
    go_wp2_with (first|(at_mapUpdate;refine aab aaj rfl (.tmp 16) (.tmp 17) _ rfl (w.heap.size+1) l.length _ rfl hm (by unfold maxLen;omega) (jn:Int) true rfl rfl (yY (by omega) (by omega)) trivial ?_;intro w2 hm2 hg2;have hown2:=World.ownsRow.kept hown hg2 (adw hown (by omega));have hbx2:=hbx.grown hg2 (fun h=>by have:=Option.some.inj h;omega);have hbw2:=hbw.grown hg2 hbw.size (fun k hk=>by injection hk with hk;omega))|(at_builtin;refine zF jT qa rfl (.tmp 18) (.tmp 20) rfl (w.heap.size+1+1) _ l rfl (Own.alloc hown2 _) (jn:Int) _ _ rfl (zY _ _ _) (by unfold maxLen;omega) (by omega) ?_ ?_;(have:=hm2.lt;simp;omega);intro v3 w3 hown3 hb3 hg3;have hbx3:=(hbx2.alloc _).below (by omega) hb3;have q0:=hbx3.cell 0 rfl;have q1:=hbx3.cell 1 rfl))
    have hm3:=(hm2.alloc (.cells #[.int .i64 jn] 3)).below (by omega) hb3;have hbw3:=(zc hbw2).trans (hb3.mono (by omega));clear q0 q1 e0 e1 hg3 hb3 hg2 hm2 hm hown hown2 hbx hbx2 hbw2;refine(afl A c b cs jn _ (by omega) hjn (hT.mono hbw3) hok).mono ?_;rintro e w4 ⟨rfl,hb4⟩;have hown4:=hown3.mono hb4;have HSL4:=v9h hown4.slLen
    go_wp2_with fail
    go_roundw
    case rel=>exact⟨supI cs jn,l++[(jn:Int)],f',by rw[List.length_append];simp;omega,by omega,hsb.2,rfl,by rw[HC.out,HE.out],fun x hx=>by
       rcases List.mem_append.1 hx with hx|hx
       ·exact HB.out x hx
       ·simp at hx;subst hx;omega,by
       rw[List.nodup_append];refine⟨hnd.out,by simp,fun a ha b hb=>?_⟩
       simp at hb;subst hb
       intro e;subst e;exact HIN.out ha,hown4,by rw[HSN.out,List.length_append];exact hm3.mono hb4,hbx3.mono hb4,za hbw3 hb4⟩
    case measure=>rw[HSL.out,HSL4.out,List.length_append];simp;omega
  ·have HE:=v9h (yF (nx:=supI cs) (f:=f) (i:=j) (l:=l) (fun h=>hj0 h.1))
   have hd:decide (0≤j)=false:=decide_eq_false hj0
   go_wp2_with fail
   go_ret2
   exact⟨⟨_,by rw[HC.out,HE.out,hd];rfl,by rw[HC.out,HE.out];exact hown.weaken (by omega)⟩,hbw⟩
theorem abl(A:Option Addr)(c b:Nat)(cs:List Cls)(s:ByteArray)(w:World)(hl:cs.length≤8796093022208)(hT:TabV w A c b cs)(hok:Hid (qq cs))(hs:zG s) :
  Calls Tryz.prog 238 #[.agg #[.slice A cs.length c,.map (some b)],.string s] w fun e w'=>(∃v,e = .returned v∧Own yh 1 w.heap.size 3 w' v (chR cs (fnd cs s)).1)∧Below w.heap.size w w':=by
 have hfb:=yb cs s
 go_enter Tryz.func238,Tryz.ntmps238
 go_wp2_with fail
 refine yy 10 (by kernel_rfl) (by kernel_rfl) ?_;refine RW.chunk (f:=7) [0,1,2] (by kernel_rfl) ?_
 ((simp only[zo,List.filterMap,List.getElem?_toArray,List.getElem?_cons_zero,List.getElem?_cons_succ]);(repeat(go_big_quiet_step (fail)));refine wpQuiet_nil ?_)
 refine RW.single 3 rfl (by kernel_rfl) (by omega) ?_;intro K hK
 go_wp2_with fail
 have hb0:Below w.heap.size w (w.alloc (.cells #[.slice A cs.length c,.map (some b)] 155)).drew:=(by repeat(first|assumption|exact v9r|apply zc|apply zd|apply zg|apply ze|apply zi))
 refine(jK A c b cs s _ (hT.mono hb0) hs).mono ?_;rintro e w1 ⟨rfl,hb1⟩
 go_wp2_with fail
 refine hK _ _ hb1 ?_;clear hK;refine RW.single 4 rfl (by kernel_rfl) (by omega) ?_;intro K hK
 go_wp2_with fail
 have hbw1:=za hb0 hb1;refine(kG A c b cs (fnd cs s) _ hl (by omega) hfb.2 (hT.mono hbw1) hok).mono ?_;rintro e w2 ⟨⟨v2,rfl,hown2⟩,hb2⟩
 go_wp2_with fail
 refine hK _ _ hb2 ?_;clear hK;refine RW.chunk (f:=0) [5,6,7,8,9] (by kernel_rfl) ?_
 ((simp only[zo,List.filterMap,List.getElem?_toArray,List.getElem?_cons_zero,List.getElem?_cons_succ]);(repeat(go_big_quiet_step (fail)));refine wpQuiet_nil ?_)
 (refine RW.done (by kernel_rfl) (by kernel_rfl) ?_)
 go_wp2_with fail
 go_ret
 exact⟨⟨_,rfl,hown2.weaken hbw1.size⟩,za hbw1 hb2⟩
def kn(s x:ByteArray):Bool:=s.toList==x.toList
def hasS(l:List ByteArray)(s:ByteArray):Bool:=decide (0≤idxI (kn s) l)
theorem xE{l:List ByteArray}{s:ByteArray}:hasS l s=true↔s∈l:=by
 unfold hasS idxI;rw[decide_eq_true_eq]
 cases h:l.findIdx? (kn s) with
 |none=>
  rw[List.findIdx?_eq_none_iff] at h
  constructor
  ·intro h1;simp at h1
  ·intro h1
   have:=h s h1;unfold kn at this;rw[zO.2 rfl] at this
   cases this
 |some i=>
  obtain⟨hi,h1,_⟩:=List.findIdx?_eq_some_iff_getElem.1 h
  constructor
  ·intro _
   rw[zO.1 h1];exact List.getElem_mem hi
  ·intro _;simp
theorem afn(A:Option Addr)(c:Nat)(l:List ByteArray)(s:ByteArray)(w:World)(hl:l.length≤9223372036854775807)(hs:Sl Lay.str w A l) :
  Calls Tryz.prog 237 #[.slice A l.length c,.string s] w fun e w'=>e = .returned (.int .i64 (idxI (kn s) l))∧w=w':=by
 go_enter Tryz.func237,Tryz.ntmps237
 go_wp2_with fail
 go_loop [5,8] (fun j i=>∃k:Nat,k≤l.length∧i = .int .i64 k∧Hid (∀i (hi:i<k) (hi2:i<l.length),kn s l[i]=false)) (fun _ i=>l.length-(intOf i).toNat)
 case atStart=>exact⟨0,Nat.zero_le _,rfl,fun i hi=>by omega⟩
 case round=>
  obtain⟨k,hk,rfl,HN⟩:=hrel
  by_cases hlt:k<l.length
  ·obtain⟨b,o,rfl,hb,d0⟩:=hs.str_at hlt
   cases hq:kn s l[k] with
   |true=>
    have HE:=v9h (qY hlt (fun i hi=>HN.out i hi (by omega)) hq);unfold kn at hq
    go_wp2_with fail
    go_ret
    exact⟨by rw[HE.out];rfl,rfl⟩
   |false=>
    have HE:Hid (∀i (hi:i<k+1) (hi2:i<l.length),kn s l[i]=false):=fun i hi hi2=>by
     by_cases e:i=k
     ·subst e;exact hq
     ·exact HN.out i (by omega) hi2
    unfold kn at hq
    go_wp2_with fail
    go_round
    case rel=>exact⟨k+1,by omega,by go_num,HE⟩
    case measure=>simp[intOf];omega
  ·have HE:=v9h (qC (p:=kn s) (l:=l) (fun i hi=>HN.out i (by omega) hi))
   go_wp2_with fail
   go_ret
   exact⟨by rw[HE.out];rfl,rfl⟩
theorem ac1(A:Option Addr)(c:Nat)(l:List ByteArray)(s:ByteArray)(w:World)(hl:l.length≤9223372036854775807)(hs:Sl Lay.str w A l) :
  Calls Tryz.prog 159 #[.slice A l.length c,.string s] w fun e w'=>e = .returned (.bool (hasS l s))∧w=w':=by
 go_enter Tryz.func159,Tryz.ntmps159
 go_wp2_with fail
 refine(afn A c l s _ hl hs).mono ?_;rintro e w1 ⟨rfl,rfl⟩
 go_wp2_with fail
 go_ret
 exact⟨rfl,rfl⟩
def nmAt(cs:List Cls)(i:Int):ByteArray:=((cs[i.toNat]?).map (·.name)).getD ByteArray.empty
theorem qh{cs:List Cls}{i:Nat}(hi:i<cs.length):nmAt cs i=cs[i].name:=by unfold nmAt;rw[Int.toNat_natCast,List.getElem?_eq_getElem hi];rfl
def zx(cs:List Cls)(s:ByteArray):List ByteArray:=(chR cs (fnd cs s)).1.map (nmAt cs)
theorem xi(cs:List Cls)(s:ByteArray):(zx cs s).length≤cs.length:=by unfold zx;rw[List.length_map];exact kh (yb cs s).2
theorem afo(A:Option Addr)(c:Nat)(cs:List Cls)(s:ByteArray)(w:World)(hl:cs.length≤8796093022208)(hcc:cs.length≤c)(hsl:Sl Lay.cls w A cs)(hok:Hid (qq cs))(hs:zG s) :
  Calls Tryz.prog 160 #[.agg #[.slice A cs.length c],.string s] w fun e w'=>(∃v,e = .returned v∧Own yd 1 w.heap.size 9 w' v (zx cs s))∧Below w.heap.size w w':=by
 go_enter Tryz.func160,Tryz.ntmps160
 go_wp2_with fail
 have hb0:Below w.heap.size w (w.alloc (.cells #[.slice A cs.length c] 29)):=(by repeat(first|assumption|exact v9r|apply zc|apply zd|apply zg|apply ze|apply zi))
 refine(km A c cs _ (by omega) hcc (hsl.mono hb0) hok).mono ?_;rintro e w1 ⟨⟨b,rfl,hT⟩,hb1⟩;have hbw1:=za hb0 hb1
 go_wp2_with fail
 have hbx:=Box.new w1 [.slice A cs.length c,.map (some b)] 155;have hbw2:Below w.heap.size w (w1.alloc (.cells #[.slice A cs.length c,.map (some b)] 155)):=zc hbw1;refine(abl A c b cs s _ hl (hT.mono (by repeat(first|assumption|exact v9r|apply zc|apply zd|apply zg|apply ze|apply zi))) hok hs).mono ?_;rintro e w2 ⟨⟨v2,rfl,hown2⟩,hb2⟩;have hbx2:=hbx.mono hb2;have hbw3:=za hbw2 hb2;have hLb:=(qj (yb cs s).2).1;have hLl:=kh (yb cs s).2;have HSP:Hid (zx cs s=(chR cs (fnd cs s)).1.map (nmAt cs)):=rfl;generalize(chR cs (fnd cs s)).1=L at *
 have HLB:=v9h hLb;have hxlt:w1.heap.size<w2.heap.size:=hbx2.lt;clear hLb hbx hb2 hb1 hb0 hbw2 hT;obtain⟨AL,cL,rfl,hcL,hsL⟩:=jr.of_own hown2;clear hown2
 go_wp2_with fail
 go_loopw [6,15] (fun v i wr=>∃k:Nat,k≤L.length∧i = .int .i64 k∧Own yd 1 w2.heap.size 9 wr v ((L.take k).map (nmAt cs))∧Below w2.heap.size w2 wr) (fun _ i _=>L.length-(intOf i).toNat)
 case atStart=>exact⟨0,Nat.zero_le _,rfl,Own.nil,v9r⟩
 case round=>
  obtain⟨k,hk,rfl,hown,hbw⟩:=hrel
  by_cases hlt:k<L.length
  ·obtain⟨bL,oL,rfl,hbL,dL⟩:=(hsL.mono hbw).int_at hlt
   have hj:=HLB.out L[k] (List.getElem_mem hlt);have HM:Hid ((L.take (k+1)).map (nmAt cs)=(L.take k).map (nmAt cs)++[nmAt cs L[k]]):=by show _=_;rw[List.take_succ_eq_append_getElem hlt,List.map_append];rfl
   obtain⟨j,hjj⟩:∃j:Nat,L[k]=j:=⟨L[k].toNat,by omega⟩
   rw[hjj] at dL hj HM;clear hjj;have hjl:j<cs.length:=by omega
   rw[qh hjl] at HM;have hbx3:=hbx2.mono hbw;have e0:=hbx3.cell 0 rfl;have hxl:=hbx3.lt;obtain⟨b0,o,A2,c2,A3,c3,rfl,hb,d0,d1,d2,d3,hc2,hs2,hc3,hs3⟩:=(hsl.mono (za hbw3 hbw)).cls_at hjl;have hml:((L.take k).map (nmAt cs)).length≤k:=by rw[List.length_map,List.length_take];omega
   have hsz:=hbw.size
   go_wp2_with (at_builtin;refine zF ks yA rfl (.tmp 19) (.tmp 26) rfl w2.heap.size _ _ rfl (Own.alloc hown _) cs[j].name _ _ rfl (zY _ _ _) (by unfold maxLen;omega) (by omega) ?_ ?_;(simp;omega);intro v3 w3 hown3 hb3 hg3)
   go_roundw
   case rel=>exact⟨k+1,by omega,by go_num,by rw[HM.out];exact hown3,(zc hbw).trans hb3⟩
   case measure=>simp[intOf];omega
  ·have HK:=v9h (show L.take k=L from List.take_of_length_le (by omega))
   rw[HK.out,←HSP.out] at hown
   go_wp2_with fail
   go_ret
   exact⟨⟨_,rfl,hown.weaken hbw3.size⟩,za hbw3 hbw⟩
theorem acr(A:Option Addr)(c:Nat)(cs:List Cls)(a s:ByteArray)(w:World)(hl:cs.length≤8796093022208)(hcc:cs.length≤c)(hsl:Sl Lay.cls w A cs)(hok:Hid (qq cs))(ha:zG a) :
  Calls Tryz.prog 94 #[.agg #[.slice A cs.length c],.string a,.string s] w fun e w'=>e = .returned (.bool (hasS (zx cs a) s))∧Below w.heap.size w w':=by
 go_enter Tryz.func94,Tryz.ntmps94
 go_wp2_with fail
 have hb0:Below w.heap.size w (w.alloc (.cells #[.slice A cs.length c] 29)):=(by repeat(first|assumption|exact v9r|apply zc|apply zd|apply zg|apply ze|apply zi))
 refine(afo A c cs a _ hl hcc (hsl.mono hb0) hok ha).mono ?_;rintro e w1 ⟨⟨v1,rfl,hown1⟩,hb1⟩;have hll:=xi cs a;obtain⟨A1,c1,rfl,hc1,hs1⟩:=qN.of_own hown1
 go_wp2_with fail
 refine(ac1 A1 c1 (zx cs a) s _ (by omega) hs1).mono ?_;rintro e w2 ⟨rfl,rfl⟩
 go_wp2_with fail
 go_ret
 exact⟨rfl,za hb0 hb1⟩
def mIdx(cs:List Cls)(m:ByteArray)(j:Int):Int:=match cs[j.toNat]? with
 |some x=>idxI (isSg m) x.methods
 |none=> -1
theorem kS{cs:List Cls}{m:ByteArray}{j:Nat}(hj:j<cs.length):mIdx cs m j=idxI (isSg m) cs[j].methods:=by unfold mIdx;rw[Int.toNat_natCast,List.getElem?_eq_getElem hj]
def lookL(cs:List Cls)(m:ByteArray):List Int→Int×Int
 |[]=>(-1,-1)
 |j::r=>if 0≤mIdx cs m j then(j,mIdx cs m j) else lookL cs m r
def aaB(cs:List Cls)(m:ByteArray)(i:Int):Int×Int:=lookL cs m (chR cs i).1
theorem aha{cs:List Cls}{m:ByteArray}{l:List Int}{k:Nat}(hk:k<l.length)(h:¬0≤mIdx cs m l[k]):lookL cs m (l.drop k)=lookL cs m (l.drop (k+1)):=by
 rw[List.drop_eq_getElem_cons hk,lookL,if_neg h]
theorem agh{cs:List Cls}{m:ByteArray}{l:List Int}{k:Nat}(hk:k<l.length)(h:0≤mIdx cs m l[k]):lookL cs m (l.drop k)=(l[k],mIdx cs m l[k]):=by
 rw[List.drop_eq_getElem_cons hk,lookL,if_pos h]
theorem agi{cs:List Cls}{m:ByteArray}{l:List Int}{k:Nat}(hk:¬k<l.length):lookL cs m (l.drop k)=(-1,-1):=by
 rw[List.drop_eq_nil_of_le (by omega)];rfl
theorem kT{cs:List Cls}{m:ByteArray}{l:List Int}(hb:∀x∈l,0≤x∧x<(cs.length:Int)):(lookL cs m l=(-1,-1))∨∃j k:Nat,∃hj:j<cs.length,∃hk:k<cs[j].methods.length,lookL cs m l=((j:Int),(k:Int))∧(j:Int)∈l∧idxI (isSg m) cs[j].methods=k:=by
 induction l with
 |nil=>exact Or.inl rfl
 |cons x r ih=>
  have hx:=hb x (by simp)
  by_cases h:0≤mIdx cs m x
  ·right
   obtain⟨j,rfl⟩:∃j:Nat,x=j:=⟨x.toNat,by omega⟩
   have hj:j<cs.length:=by omega
   rw[kS hj] at h;have h2:=aaz (isSg m) cs[j].methods;refine⟨j,(idxI (isSg m) cs[j].methods).toNat,hj,by omega,?_,by simp,by omega⟩;rw[lookL,kS hj,if_pos h,Int.toNat_of_nonneg h]
  ·rw[lookL,if_neg h]
   rcases ih (fun y hy=>hb y (by simp[hy])) with h2|⟨j,k,hj,hk,h2,h3,h4⟩
   ·exact Or.inl h2
   ·exact Or.inr ⟨j,k,hj,hk,h2,by simp[h3],h4⟩
def yp(cs:List Cls):Prop:=∀x∈cs,x.fields.length≤8796093022208∧x.methods.length≤8796093022208∧∀y∈x.methods,y.params.length≤8796093022208
theorem aer(A:Option Addr)(c b:Nat)(cs:List Cls)(i:Int)(m:ByteArray)(w:World)(hl:cs.length≤8796093022208)(hi1 : -9223372036854775808≤i)(hi:i<cs.length)(hT:TabV w A c b cs)(hok:Hid (qq cs))(hlk:Hid (yp cs)) :
  Calls Tryz.prog 77 #[.agg #[.slice A cs.length c,.map (some b)],.int .i64 i,.string m] w fun e w'=>e = .returned (.tuple #[.int .i64 (aaB cs m i).1,.int .i64 (aaB cs m i).2])∧Below w.heap.size w w':=by
 go_enter Tryz.func77,Tryz.ntmps77
 go_wp2_with fail
 have hb0:Below w.heap.size w (w.alloc (.cells #[.slice A cs.length c,.map (some b)] 155)):=(by repeat(first|assumption|exact v9r|apply zc|apply zd|apply zg|apply ze|apply zi))
 have hbx:=Box.new w [.slice A cs.length c,.map (some b)] 155;refine(kG A c b cs i _ hl hi1 hi (hT.mono hb0) hok).mono ?_;rintro e w2 ⟨⟨v2,rfl,hown2⟩,hb2⟩;have hbx2:=hbx.mono hb2;have hbw2:=za hb0 hb2;have hLb:=(qj hi).1;have hLl:=kh hi;have HLK:Hid (aaB cs m i=lookL cs m (chR cs i).1):=rfl;generalize(chR cs i).1=L at *
 have HLB:=v9h hLb;have hxlt:w.heap.size<w2.heap.size:=hbx2.lt;clear hLb hbx hb2 hb0;obtain⟨AL,cL,rfl,hcL,hsL⟩:=jr.of_own hown2;clear hown2
 go_wp2_with fail
 go_loopw [21] (fun i wr=>∃k:Nat,k≤L.length∧i = .int .i64 k∧lookL cs m L=lookL cs m (L.drop k)∧Below w2.heap.size w2 wr) (fun i _=>L.length-(intOf i).toNat)
 case atStart=>exact⟨0,Nat.zero_le _,rfl,rfl,v9r⟩
 case round=>
  obtain⟨k,hk,rfl,HQ0,hbw⟩:=hrel;have HQ:=v9h HQ0;clear HQ0
  by_cases hlt:k<L.length
  ·obtain⟨bL,oL,rfl,hbL,dL⟩:=(hsL.mono hbw).int_at hlt
   have hj:=HLB.out L[k] (List.getElem_mem hlt);have HN:=v9h (@aha cs m L k hlt);have HY:=v9h (@agh cs m L k hlt);obtain⟨j,hjj⟩:∃j:Nat,L[k]=j:=⟨L[k].toNat,by omega⟩
   rw[hjj] at dL hj HN HY;clear hjj;have hjl:j<cs.length:=by omega
   rw[kS hjl] at HN HY;have hbx3:=hbx2.mono hbw;have e0:=hbx3.cell 0 rfl;have hxl:=hbx3.lt;obtain⟨b0,o,A2,c2,A3,c3,rfl,hb,d0,d1,d2,d3,hc2,hs2,hc3,hs3⟩:=(hT.sl.mono (za hbw2 hbw)).cls_at hjl;have hml:=(hlk.out _ (List.getElem_mem hjl)).2.1
   go_wp2_with fail
   refine(aai cs[j] A2 A3 c2 c3 m _ (by omega) hs3).mono ?_;rintro e w3 ⟨rfl,hb3⟩
   by_cases hq:0≤idxI (isSg m) cs[j].methods
   ·have HE:=v9h (HY.out hq)
    go_wp2_with fail
    go_ret2
    exact⟨by rw[HLK.out,HQ.out,HE.out];rfl,za hbw2 (za hbw hb3)⟩
   ·have HE:=v9h (HN.out (by omega))
    go_wp2_with fail
    go_roundw
    case rel=>exact⟨k+1,by omega,by go_num,by rw[HQ.out,HE.out],za hbw hb3⟩
    case measure=>simp[intOf];omega
  ·have HE:=v9h (@agi cs m L k hlt)
   go_wp2_with fail
   go_ret2
   exact⟨by rw[HLK.out,HQ.out,HE.out];rfl,za hbw2 hbw⟩
def fIdx(cs:List Cls)(n:ByteArray)(j:Int):Int:=match cs[j.toNat]? with
 |some x=>idxI (ye n) x.fields
 |none=> -1
theorem jj{cs:List Cls}{n:ByteArray}{j:Nat}(hj:j<cs.length):fIdx cs n j=idxI (ye n) cs[j].fields:=by unfold fIdx;rw[Int.toNat_natCast,List.getElem?_eq_getElem hj]
def fTyp(cs:List Cls)(n:ByteArray)(j:Int):ByteArray:=match cs[j.toNat]? with
 |some x=>((x.fields[(fIdx cs n j).toNat]?).map (·.typ)).getD ByteArray.empty
 |none=>ByteArray.empty
def ya(cs:List Cls)(n:ByteArray):List Int→ByteArray×ByteArray×Bool
 |[]=>(ByteArray.empty,ByteArray.empty,false)
 |j::r=>if 0≤fIdx cs n j then(nmAt cs j,fTyp cs n j,true) else ya cs n r
def zz(cs:List Cls)(s n:ByteArray):ByteArray×ByteArray×Bool:=ya cs n (chR cs (fnd cs s)).1
theorem acs{cs:List Cls}{m:ByteArray}{l:List Int}{k:Nat}(hk:k<l.length)(h:¬0≤fIdx cs m l[k]):ya cs m (l.drop k)=ya cs m (l.drop (k+1)):=by
 rw[List.drop_eq_getElem_cons hk,ya,if_neg h]
theorem abm{cs:List Cls}{m:ByteArray}{l:List Int}{k:Nat}(hk:k<l.length)(h:0≤fIdx cs m l[k]):ya cs m (l.drop k)=(nmAt cs l[k],fTyp cs m l[k],true):=by
 rw[List.drop_eq_getElem_cons hk,ya,if_pos h]
theorem abn{cs:List Cls}{m:ByteArray}{l:List Int}{k:Nat}(hk:¬k<l.length):ya cs m (l.drop k)=(ByteArray.empty,ByteArray.empty,false):=by
 rw[List.drop_eq_nil_of_le (by omega)];rfl
theorem adx{cs:List Cls}{n:ByteArray}{j k:Nat}(hj:j<cs.length)(hk:k<cs[j].fields.length)(h:idxI (ye n) cs[j].fields=k):fTyp cs n j=cs[j].fields[k].typ:=by
 unfold fTyp;rw[jj hj,h,Int.toNat_natCast,Int.toNat_natCast,List.getElem?_eq_getElem hj];simp only[List.getElem?_eq_getElem hk]
 rfl
theorem acu(A:Option Addr)(c:Nat)(cs:List Cls)(s n:ByteArray)(w:World)(hl:cs.length≤8796093022208)(hcc:cs.length≤c)(hsl:Sl Lay.cls w A cs)(hok:Hid (qq cs))(hlk:Hid (yp cs))(hs:zG s) :
  Calls Tryz.prog 161 #[.agg #[.slice A cs.length c],.string s,.string n] w fun e w'=>e = .returned (.tuple #[.string (zz cs s n).1,.string (zz cs s n).2.1,.bool (zz cs s n).2.2])∧Below w.heap.size w w':=by
 go_enter Tryz.func161,Tryz.ntmps161
 go_wp2_with fail
 have hb0:Below w.heap.size w (w.alloc (.cells #[.slice A cs.length c] 29)):=(by repeat(first|assumption|exact v9r|apply zc|apply zd|apply zg|apply ze|apply zi))
 refine(km A c cs _ (by omega) hcc (hsl.mono hb0) hok).mono ?_;rintro e w1 ⟨⟨b,rfl,hT⟩,hb1⟩;have hbw1:=za hb0 hb1
 go_wp2_with fail
 have hbx:=Box.new w1 [.slice A cs.length c,.map (some b)] 155;have hbw2:Below w.heap.size w (w1.alloc (.cells #[.slice A cs.length c,.map (some b)] 155)):=zc hbw1;refine(abl A c b cs s _ hl (hT.mono (by repeat(first|assumption|exact v9r|apply zc|apply zd|apply zg|apply ze|apply zi))) hok hs).mono ?_;rintro e w2 ⟨⟨v2,rfl,hown2⟩,hb2⟩;have hbx2:=hbx.mono hb2;have hbw3:=za hbw2 hb2;have hLb:=(qj (yb cs s).2).1;have hLl:=kh (yb cs s).2;have HSP:Hid (zz cs s n=ya cs n (chR cs (fnd cs s)).1):=rfl;generalize(chR cs (fnd cs s)).1=L at *
 have HLB:=v9h hLb;have hxlt:w1.heap.size<w2.heap.size:=hbx2.lt;clear hLb hbx hb2 hb1 hb0 hbw2 hT;obtain⟨AL,cL,rfl,hcL,hsL⟩:=jr.of_own hown2;clear hown2
 go_wp2_with fail
 go_loopw [20] (fun i wr=>∃k:Nat,k≤L.length∧i = .int .i64 k∧ya cs n L=ya cs n (L.drop k)∧Below w2.heap.size w2 wr) (fun i _=>L.length-(intOf i).toNat)
 case atStart=>exact⟨0,Nat.zero_le _,rfl,rfl,v9r⟩
 case round=>
  obtain⟨k,hk,rfl,HQ0,hbw⟩:=hrel;have HQ:=v9h HQ0;clear HQ0
  by_cases hlt:k<L.length
  ·obtain⟨bL,oL,rfl,hbL,dL⟩:=(hsL.mono hbw).int_at hlt
   have hj:=HLB.out L[k] (List.getElem_mem hlt);have HN:=v9h (@acs cs n L k hlt);have HY:=v9h (@abm cs n L k hlt);obtain⟨j,hjj⟩:∃j:Nat,L[k]=j:=⟨L[k].toNat,by omega⟩
   rw[hjj] at dL hj HN HY;clear hjj;have hjl:j<cs.length:=by omega
   rw[jj hjl] at HN HY;rw[qh hjl] at HY;have hbx3:=hbx2.mono hbw;have e0:=hbx3.cell 0 rfl;have hxl:=hbx3.lt;obtain⟨b0,o,A2,c2,A3,c3,rfl,hb,d0,d1,d2,d3,hc2,hs2,hc3,hs3⟩:=(hsl.mono (za hbw3 hbw)).cls_at hjl;have hml:=(hlk.out _ (List.getElem_mem hjl)).1
   go_wp2_with fail
   have hb4:Below wr.heap.size wr (wr.alloc (.cells #[.string cs[j].name,.string cs[j].super,.slice A2 cs[j].fields.length c2,.slice A3 cs[j].methods.length c3] 94)):=(by repeat(first|assumption|exact v9r|apply zc|apply zd|apply zg|apply ze|apply zi))
   have hbx4:=Box.new wr [.string cs[j].name,.string cs[j].super,.slice A2 cs[j].fields.length c2,.slice A3 cs[j].methods.length c3] 94;refine(xh cs[j] A2 A3 c2 c3 n _ (by omega) (hs2.mono hb4)).mono ?_;rintro e w3 ⟨rfl,hb3⟩
   by_cases hq:0≤idxI (ye n) cs[j].fields
   ·obtain⟨q,hqq⟩:∃q:Nat,idxI (ye n) cs[j].fields=q:=⟨_,(Int.toNat_of_nonneg hq).symm⟩
    have hql:q<cs[j].fields.length:=by have:=(aaz (ye n) cs[j].fields).2;omega
    have HE:=v9h (HY.out hq);rw[adx hjl hql hqq] at HE;rw[hqq] at hq ⊢;clear hqq;have hbx5:=hbx4.mono hb3;have f0:=hbx5.cell 0 rfl;have f2:=hbx5.cell 2 rfl;have hxl5:=hbx5.lt;obtain⟨bF,oF,rfl,hbF,g0,g1⟩:=((hs2.mono hb4).mono hb3).fld_at hql;have hqi:(q:Int)<(cs[j].fields.length:Int):=by omega
    clear d0 d1 d2 d3 e0 dL
    go_wp2_with fail
    refine yy 11 (by kernel_rfl) (by kernel_rfl) ?_;refine RW.chunk (f:=0) [0,1,2,3,4,5,6,7,8,9,10] (by kernel_rfl) ?_
    ((simp only[zo,List.filterMap,List.getElem?_toArray,List.getElem?_cons_zero,List.getElem?_cons_succ]);(repeat(go_big_quiet_step (fail)));refine wpQuiet_nil ?_)
    (refine RW.done (by kernel_rfl) (by kernel_rfl) ?_)
    go_wp2_with fail
    go_ret3
    exact⟨by rw[HSP.out,HQ.out,HE.out];rfl,(za hbw3 (za hbw (za hb4 hb3))).drew⟩
   ·have HE:=v9h (HN.out (by omega))
    go_wp2_with fail
    go_roundw
    case rel=>exact⟨k+1,by omega,by go_num,by rw[HQ.out,HE.out],za hbw (za hb4 hb3)⟩
    case measure=>simp[intOf];omega
  ·have HE:=v9h (@abn cs n L k hlt)
   go_wp2_with fail
   go_ret3
   exact⟨by rw[HSP.out,HQ.out,HE.out];rfl,za hbw3 hbw⟩
theorem ac2(A:Option Addr)(c:Nat)(l:List ByteArray)(w:World)(hl:l.length≤8796093022208)(hs:Sl Lay.str w A l) :
  Calls Tryz.prog 79 #[.slice A l.length c] w fun e w'=>(∃v,e = .returned v∧Own yd 1 w.heap.size 9 w' v l)∧Below w.heap.size w w':=by
 cases A with
 |none=>
  have hn:l=[]:=by
   cases l with
   |nil=>rfl
   |cons x r=>obtain⟨b,o,vs,e,_⟩:=hs 0 x rfl;cases e
  subst hn;refine(Tryz.slices_Clone_string_nil 0 c w).mono ?_;rintro e w' ⟨rfl,rfl⟩;exact⟨⟨_,rfl,Own.nil⟩,v9r⟩
 |some a=>
  cases l with
  |nil=>
   refine(Tryz.slices_Clone_string_zero a c w).mono ?_;rintro e w' ⟨v',rfl,h1,_,h2⟩;exact⟨⟨_,rfl,h1⟩,h2⟩
  |cons x r=>
   obtain⟨b,o,e,_,_⟩:=hs.str_at (i:=0) (by simp);obtain rfl:=Option.some.inj e
   have hq:=Tryz.slices_Clone_string b o (x::r).length c (x::r) w (Nat.le_refl _) (by omega) (fun j hj=>by
    obtain⟨b',o',e,_,h⟩:=hs.str_at hj;simp only[Option.some.injEq,Addr.mk.injEq] at e;obtain⟨rfl,rfl,_⟩:=e;rw[h,List.getD_eq_getElem?_getD,List.getElem?_eq_getElem hj]
    rfl)
   refine hq.mono ?_;rintro e w' ⟨v',rfl,h1,_,h2⟩;refine⟨⟨_,rfl,?_⟩,h2⟩;rw[List.take_length] at h1;unfold Own;rw[show(x::r).flatMap yd=(x::r).map (fun x=>Value.string x) from xf (c:=fun x=>Value.string x) _];exact h1
structure abo(cs:List Cls)(q:Int×Int)(e:Ending)(w':World):Prop where
 no:q=(-1,-1)→e = .returned (.tuple #[.string ByteArray.empty,.agg #[.string ByteArray.empty,.bool false,.slice none 0 0,.string ByteArray.empty],.bool false])
 yes:∀(j k:Nat) (hj:j<cs.length) (hk:k<cs[j].methods.length),q=((j:Int),(k:Int))→
  ∃v,e = .returned (.tuple #[.string cs[j].name,.agg #[.string cs[j].methods[k].name,.bool cs[j].methods[k].static,v,.string cs[j].methods[k].result],.bool true])∧qN w' v cs[j].methods[k].params
def zU(cs:List Cls)(s m:ByteArray):Int×Int:=aaB cs m (fnd cs s)
theorem abp(A:Option Addr)(c:Nat)(cs:List Cls)(s m:ByteArray)(w:World)(hl:cs.length≤8796093022208)(hcc:cs.length≤c)(hsl:Sl Lay.cls w A cs)(hok:Hid (qq cs))(hlk:Hid (yp cs))(hs:zG s) :
  Calls Tryz.prog 38 #[.agg #[.slice A cs.length c],.string s,.string m] w fun e w'=>abo cs (zU cs s m) e w'∧Below w.heap.size w w':=by
 have hfb:=yb cs s;have hcase:=kT (cs:=cs) (m:=m) (qj hfb.2).1;have HLS:Hid (zU cs s m=lookL cs m (chR cs (fnd cs s)).1):=rfl
 go_enter Tryz.func38,Tryz.ntmps38
 go_wp2_with fail
 have hb0:Below w.heap.size w ((w.alloc (.cells #[.slice A cs.length c] 29)).alloc (.cells #[.string ByteArray.empty,.bool false,.slice none 0 0,.string ByteArray.empty] 36)):=(by repeat(first|assumption|exact v9r|apply zc|apply zd|apply zg|apply ze|apply zi))
 have hbs:=Box.new (w.alloc (.cells #[.slice A cs.length c] 29)) [.string ByteArray.empty,.bool false,.slice none 0 0,.string ByteArray.empty] 36;rw[show(w.alloc (.cells #[.slice A cs.length c] 29)).heap.size=w.heap.size+1 by simp] at hbs;refine(km A c cs _ (by omega) hcc (hsl.mono hb0) hok).mono ?_;rintro e w1 ⟨⟨b,rfl,hT⟩,hb1⟩;have hbw1:=za hb0 hb1;have hbs1:=hbs.mono hb1;clear hbs;have hz1:=hbs1.lt
 go_wp2_with fail
 have hbx:=Box.new w1 [.slice A cs.length c,.map (some b)] 155;have hbw2:Below w.heap.size w (w1.alloc (.cells #[.slice A cs.length c,.map (some b)] 155)):=zc hbw1;have hbt:Below w1.heap.size w1 (w1.alloc (.cells #[.slice A cs.length c,.map (some b)] 155)).drew:=(by repeat(first|assumption|exact v9r|apply zc|apply zd|apply zg|apply ze|apply zi))
 refine yy 11 (by kernel_rfl) (by kernel_rfl) ?_;refine RW.chunk (f:=7) [0,1,2,4] (by kernel_rfl) ?_
 ((simp only[zo,List.filterMap,List.getElem?_toArray,List.getElem?_cons_zero,List.getElem?_cons_succ]);(repeat(go_big_quiet_step (fail)));refine wpQuiet_nil ?_)
 refine RW.single 3 rfl (by kernel_rfl) (by omega) ?_;intro K hK
 go_wp2_with fail
 refine(jK A c b cs s _ (hT.mono hbt) hs).mono ?_;rintro e w2 ⟨rfl,hb2⟩
 go_wp2_with fail
 refine hK _ _ hb2 ?_;clear hK;refine RW.single 5 rfl (by kernel_rfl) (by omega) ?_;intro K hK
 go_wp2_with fail
 refine(aer A c b cs (fnd cs s) m _ hl (by omega) hfb.2 (hT.mono (za hbt hb2)) hok hlk).mono ?_;rintro e w3 ⟨rfl,hb3⟩
 go_wp2_with fail
 refine hK _ _ hb3 ?_;clear hK;refine RW.chunk (f:=0) [6,7,8,9,10] (by kernel_rfl) ?_
 ((simp only[zo,List.filterMap,List.getElem?_toArray,List.getElem?_cons_zero,List.getElem?_cons_succ]);(repeat(go_big_quiet_step (fail)));refine wpQuiet_nil ?_)
 (refine RW.done (by kernel_rfl) (by kernel_rfl) ?_)
 have hb13:=za (za hbt hb2) hb3;have hbw3:=za hbw1 hb13;have hbs3:=hbs1.mono hb13;have hbx3:=(hbx.drew.mono hb2).mono hb3;have HL2:Hid (aaB cs m (fnd cs s)=lookL cs m (chR cs (fnd cs s)).1):=rfl;clear hb2 hb3 hbt hbw2 hbw1 hb1 hb0 hbx hbs1 hb13;rw[HL2.out]
 rcases hcase with hno|⟨j,k,hj,hk,hyes,hmem,hidx⟩
 ·rw[hno]
  have c0:=hbs3.cell 0 rfl;have c1:=hbs3.cell 1 rfl;have c2:=hbs3.cell 2 rfl;have c3:=hbs3.cell 3 rfl;have f0:=hbs3.free 0;have f1:=hbs3.free 1;have f2:=hbs3.free 2;have f3:=hbs3.free 3;have hz3:=hbs3.lt
  go_wp2_with fail
  obtain⟨hbz,hgz⟩:=hbs3.store4 (.string { data:=#[]}) (.bool false) (.slice none 0 0) (.string { data:=#[]});have hbw4:=hbw3.grown hgz hbw3.size (fun k hk=>by injection hk with hk;omega);generalize((((w3.setCell ⟨w.heap.size+1,0,none⟩ (.string { data:=#[]})).setCell ⟨w.heap.size+1,1,none⟩ (.bool false)).setCell ⟨w.heap.size+1,2,none⟩ (.slice none 0 0)).setCell ⟨w.heap.size+1,3,none⟩ (.string { data:=#[]}))=wz at *
  have q0:=hbz.cell 0 rfl;have q1:=hbz.cell 1 rfl;have q2:=hbz.cell 2 rfl;have q3:=hbz.cell 3 rfl;refine bodyPost_ret (v:= .tuple #[.string { data:=#[]},.agg #[.string { data:=#[]},.bool false,.slice none 0 0,.string { data:=#[]}],.bool false]) (by simp[results,Tryz.results38,go_sem,q0,q1,q2,q3]) rfl ⟨⟨fun _=>rfl,fun j k hj hk h=>?_⟩,hbw4⟩;rw[HLS.out,hno] at h;injection h with h1 h2
  omega
 ·have c0:=hbs3.cell 0 rfl
  have c1:=hbs3.cell 1 rfl;have c2:=hbs3.cell 2 rfl;have c3:=hbs3.cell 3 rfl;have f0:=hbs3.free 0;have f1:=hbs3.free 1;have f2:=hbs3.free 2;have f3:=hbs3.free 3;have hz3:=hbs3.lt;have hzx:=hbx3.lt;have e0:=hbx3.cell 0 rfl;obtain⟨b0,o,A2,cc2,A3,cc3,rfl,hb,d0,d1,d2,d3,hc2,hs2,hc3,hs3⟩:=hsl.cls_at hj;obtain⟨bM,oM,A4,cc4,rfl,hbM,m0,m1,m2,m3,hc4,hs4⟩:=hs3.sg_at hk;have d0':=keptC d0 hb hbw3;have d3':=keptC d3 hb hbw3;have m0':=keptC m0 hbM hbw3;have m1':=keptC m1 hbM hbw3;have m2':=keptC m2 hbM hbw3;have m3':=keptC m3 hbM hbw3;have hpl:=(hlk.out _ (List.getElem_mem hj)).2.2 _ (List.getElem_mem hk);rw[hyes]
  go_wp2_with fail
  obtain⟨hbz,hgz⟩:=hbs3.store4 (.string cs[j].methods[k].name) (.bool cs[j].methods[k].static) (.slice A4 cs[j].methods[k].params.length cc4) (.string cs[j].methods[k].result);have hbw4:=hbw3.grown hgz hbw3.size (fun k hk=>by injection hk with hk;omega);have hbx4:=hbx3.grown hgz (fun h=>by have:=Option.some.inj h;omega);generalize((((w3.setCell ⟨w.heap.size+1,0,none⟩ (.string cs[j].methods[k].name)).setCell ⟨w.heap.size+1,1,none⟩ (.bool cs[j].methods[k].static)).setCell ⟨w.heap.size+1,2,none⟩ (.slice A4 cs[j].methods[k].params.length cc4)).setCell ⟨w.heap.size+1,3,none⟩ (.string cs[j].methods[k].result))=wz at *
  clear c0 c1 c2 c3 f0 f1 f2 f3 d0' d3' m0' m1' m2' m3' hbs3 hbx3 hgz e0;refine(ac2 A4 cc4 cs[j].methods[k].params _ (by omega) (hs4.mono hbw4)).mono ?_;rintro e w5 ⟨⟨v5,rfl,hown5⟩,hb5⟩;have hbw5:=za hbw4 hb5;have hbs5:=hbz.mono hb5;have hbx5:=hbx4.mono hb5;have c0:=hbs5.cell 0 rfl;have c1:=hbs5.cell 1 rfl;have c2:=hbs5.cell 2 rfl;have c3:=hbs5.cell 3 rfl;have f0:=hbs5.free 0;have f1:=hbs5.free 1;have f2:=hbs5.free 2;have f3:=hbs5.free 3;have hz5:=hbs5.lt;have hx5:=hbx5.lt;have e0:=hbx5.cell 0 rfl;have d0':=keptC d0 hb hbw5;obtain⟨A5,cc5,rfl,hc5,hs5⟩:=qN.of_own hown5
  go_wp2_with fail
  have hbs6:=hbs5.set 2 (.slice A5 cs[j].methods[k].params.length cc5);have hg6:=zq w5 (w.heap.size+1) 2 (.slice A5 cs[j].methods[k].params.length cc5);have hbw6:=hbw5.grown hg6 hbw5.size (fun k hk=>by injection hk with hk;omega);have hbx6:=hbx5.grown hg6 (fun h=>by have:=Option.some.inj h;omega);have hown6:=World.ownsRow.kept hown5 hg6 (adw hown5 (by have:=hbz.lt;omega));generalize w5.setCell ⟨w.heap.size+1,2,none⟩ (.slice A5 cs[j].methods[k].params.length cc5)=w6 at *
  clear c0 c1 c2 c3 f0 f1 f2 f3 d0' e0 hbs5 hbx5 hg6 hs5;have c0:=hbs6.cell 0 rfl;have c1:=hbs6.cell 1 rfl;have c2:=hbs6.cell 2 rfl;have c3:=hbs6.cell 3 rfl;have f0:=hbs6.free 0;have f1:=hbs6.free 1;have f2:=hbs6.free 2;have f3:=hbs6.free 3;have hz6:=hbs6.lt;have hx6:=hbx6.lt;have e0:=hbx6.cell 0 rfl;have d0':=keptC d0 hb hbw6;have hb6:=Nat.lt_of_lt_of_le hb hbw6.size;refine yy 8 (by kernel_rfl) (by kernel_rfl) ?_;refine RW.chunk (f:=0) [0,1,2,3,4,5,6,7] (by kernel_rfl) ?_
  ((simp only[zo,List.filterMap,List.getElem?_toArray,List.getElem?_cons_zero,List.getElem?_cons_succ]);(repeat(go_big_quiet_step (fail)));refine wpQuiet_nil ?_)
  (refine RW.tail (by kernel_rfl) ?_;(simp only[List.drop_succ_cons,List.drop_zero]))
  go_wp2_with fail
  obtain⟨hbs7,hg7⟩:=hbs6.store4 (.string cs[j].methods[k].name) (.bool cs[j].methods[k].static) (.slice A5 cs[j].methods[k].params.length cc5) (.string cs[j].methods[k].result);have hbw7:=hbw6.grown hg7 hbw6.size (fun k hk=>by injection hk with hk;omega);have hown7:=World.ownsRow.kept hown6 hg7 (adw hown5 (by have:=hbz.lt;omega));generalize((((w6.setCell ⟨w.heap.size+1,0,none⟩ (.string cs[j].methods[k].name)).setCell ⟨w.heap.size+1,1,none⟩ (.bool cs[j].methods[k].static)).setCell ⟨w.heap.size+1,2,none⟩ (.slice A5 cs[j].methods[k].params.length cc5)).setCell ⟨w.heap.size+1,3,none⟩ (.string cs[j].methods[k].result))=w7 at *
  have q0:=hbs7.cell 0 rfl;have q1:=hbs7.cell 1 rfl;have q2:=hbs7.cell 2 rfl;have q3:=hbs7.cell 3 rfl;have hsv:=qN.of_own (show Own yd 1 wz.heap.size 9 w7.drew _ cs[j].methods[k].params from hown7);refine bodyPost_ret (v:= .tuple #[.string cs[j].name,.agg #[.string cs[j].methods[k].name,.bool cs[j].methods[k].static,.slice A5 cs[j].methods[k].params.length cc5,.string cs[j].methods[k].result],.bool true]) (by simp[results,Tryz.results38,go_sem,q0,q1,q2,q3]) rfl ⟨⟨fun h=>?_,fun j' k' hj' hk' h=>?_⟩,hbw7.drew⟩
  ·rw[HLS.out,hyes] at h
   injection h with h1 h2
   omega
  ·rw[HLS.out,hyes] at h
   injection h with h1 h2
   obtain rfl:j=j':=by omega
   obtain rfl:k=k':=by omega
   exact⟨_,rfl,hsv⟩
end Go.Proofs.YtmhdambkchlilaaGreatDoor
