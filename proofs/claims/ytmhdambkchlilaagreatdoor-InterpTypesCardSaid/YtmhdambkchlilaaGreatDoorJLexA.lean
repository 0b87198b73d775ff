/- Package lex: identifiers. -/
import Derived.Test.YtmhdambkchlilaaGreatDoorProg
import Derived.Test.YtmhdambkchlilaaGreatDoorJGa
namespace Go.Proofs.YtmhdambkchlilaaGreatDoor
open Go.RowKit
set_option linter.unusedVariables false
def yi(c:Int):Bool:=(decide (97≤c)&&decide (c≤122))||(decide (65≤c)&&decide (c≤90))
def qF(c:Int):Bool:=decide (48≤c)&&decide (c≤57)
def xF(c:Int):Bool:=yi c||qF c||c==95
theorem abq(c:Int)(w:World):Calls Tryz.prog 285 #[.int .u8 c] w fun e w'=>e = .returned (.bool (yi c))∧w=w':=by
 by_cases h1:97≤c
 ·by_cases h2:c≤122
  ·have e:yi c=true:=by simp[yi,h1,h2]
   have d1:decide (97≤c)=true:=decide_eq_true h1;have d2:decide (c≤122)=true:=decide_eq_true h2;rw[e]
   go_enter Tryz.func285,Tryz.ntmps285
   go_wp2_with fail
   go_ret
   exact⟨rfl,rfl⟩
  ·have e:yi c=false:=by simp[yi];omega
   have d1:decide (97≤c)=true:=decide_eq_true h1;have d2:decide (c≤122)=false:=decide_eq_false h2;have d3:decide (65≤c)=true:=decide_eq_true (by omega);have d4:decide (c≤90)=false:=decide_eq_false (by omega);rw[e]
   go_enter Tryz.func285,Tryz.ntmps285
   go_wp2_with fail
   go_ret
   exact⟨rfl,rfl⟩
 ·have d1:decide (97≤c)=false:=decide_eq_false h1
  by_cases h3:65≤c
  ·by_cases h4:c≤90
   ·have e:yi c=true:=by simp[yi,h3,h4]
    have d3:decide (65≤c)=true:=decide_eq_true h3;have d4:decide (c≤90)=true:=decide_eq_true h4;rw[e]
    go_enter Tryz.func285,Tryz.ntmps285
    go_wp2_with fail
    go_ret
    exact⟨rfl,rfl⟩
   ·have e:yi c=false:=by simp[yi];omega
    have d3:decide (65≤c)=true:=decide_eq_true h3;have d4:decide (c≤90)=false:=decide_eq_false h4;rw[e]
    go_enter Tryz.func285,Tryz.ntmps285
    go_wp2_with fail
    go_ret
    exact⟨rfl,rfl⟩
  ·have e:yi c=false:=by simp[yi];omega
   have d3:decide (65≤c)=false:=decide_eq_false h3;rw[e]
   go_enter Tryz.func285,Tryz.ntmps285
   go_wp2_with fail
   go_ret
   exact⟨rfl,rfl⟩
theorem agj(c:Int)(w:World):Calls Tryz.prog 325 #[.int .u8 c] w fun e w'=>e = .returned (.bool (qF c))∧w=w':=by
 by_cases h1:48≤c
 ·have d1:decide (48≤c)=true:=decide_eq_true h1
  have e:qF c=decide (c≤57):=by simp[qF,h1]
  rw[e]
  go_enter Tryz.func325,Tryz.ntmps325
  go_wp2_with fail
  go_ret
  exact⟨rfl,rfl⟩
 ·have d1:decide (48≤c)=false:=decide_eq_false h1
  have e:qF c=false:=by simp[qF];omega
  rw[e]
  go_enter Tryz.func325,Tryz.ntmps325
  go_wp2_with fail
  go_ret
  exact⟨rfl,rfl⟩
theorem ahb(c:Int)(w:World):Calls Tryz.prog 287 #[.int .u8 c] w fun e w'=>e = .returned (.bool (xF c))∧w=w':=by
 have e:xF c=(yi c||qF c||c==95):=rfl;rw[e];clear e
 go_enter Tryz.func287,Tryz.ntmps287
 go_wp2_with fail
 refine(abq c _).mono ?_;rintro e w1 ⟨rfl,rfl⟩
 cases hq:yi c with
 |true=>
  go_wp2_with fail
  go_ret
  exact⟨by rw[hq];rfl,rfl⟩
 |false=>
  go_wp2_with fail
  refine(agj c _).mono ?_;rintro e w1 ⟨rfl,rfl⟩
  cases hq2:qF c with
  |true=>
   go_wp2_with fail
   go_ret
   exact⟨by rw[hq,hq2];rfl,rfl⟩
  |false=>
   go_wp2_with fail
   go_ret
   exact⟨by rw[hq,hq2];rfl,rfl⟩
def kwL:List ByteArray:=[⟨#[99,108,97,115,115]⟩,⟨#[101,120,116,101,110,100,115]⟩,⟨#[118,97,114]⟩,⟨#[100,101,102]⟩,⟨#[115,116,97,116,105,99]⟩,⟨#[105,102]⟩,⟨#[101,108,115,101]⟩,⟨#[119,104,105,108,101]⟩,⟨#[116,114,121]⟩,⟨#[99,97,116,99,104]⟩,⟨#[116,104,114,111,119]⟩,⟨#[114,101,116,117,114,110]⟩,⟨#[110,101,119]⟩,⟨#[110,117,108,108]⟩,⟨#[116,104,105,115]⟩,⟨#[105,110,112,117,116]⟩,⟨#[105,110,116]⟩]
structure KwAt(w:World):Prop where
 at_:∀i,i<17→∃k:ByteArray,w.cell? ⟨2,i,none⟩=some (.string k)
theorem KwAt.lt{w:World}(h:KwAt w):2<w.heap.size:=by
 obtain⟨k,hk⟩:=h.at_ 0 (by omega);unfold World.cell? at hk
 split at hk
 ·rename_i hh;exact(Array.getElem?_eq_some_iff.1 hh).1
 ·cases hk
theorem KwAt.mono{w w':World}(h:KwAt w)(hb:Below w.heap.size w w'):KwAt w':=
 ⟨fun i hi=>(h.at_ i hi).imp fun k hk=>by rw[hb.cell (p:=⟨_,i,none⟩) h.lt];exact hk⟩
end Go.Proofs.YtmhdambkchlilaaGreatDoor
