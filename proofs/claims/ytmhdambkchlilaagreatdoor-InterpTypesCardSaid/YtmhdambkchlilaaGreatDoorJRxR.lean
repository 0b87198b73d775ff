/- Chapter 15: interp.Run at any input: an error, or the plain machine's run. -/
import Derived.Test.YtmhdambkchlilaaGreatDoorJMg
import Derived.Test.YtmhdambkchlilaaGreatDoorJRs
import Derived.Test.YtmhdambkchlilaaGreatDoorJGk
namespace Go.Proofs.YtmhdambkchlilaaGreatDoor
open Go.RowKit
set_option linter.unusedVariables false
def aaP(u:Unt)(l:List Int)(S:Int)(w':World)(e:Ending):Prop:=abS e∨((chkE u).2.2=0∧(0≤S∧S≤5000)∧aia (runM u S.toNat (yD u l)) w' e)
theorem afi(u:Unt)(w:World)(AC AF:Option Addr)(cC cF:Nat)(H:Hid (UnH w u AC AF cC))(AI:Option Addr)(cI:Nat)(l:List Int)(hcI:l.length≤cI)(hsI:Sl Lay.int w AI l)(S:Int) :
  Calls Tryz.prog 16 #[.agg #[.slice AC u.classes.length cC,.slice AF u.funcs.length cF,.int .i64 u.main],.slice AI l.length cI,.int .i64 S] w fun e w'=>aaP u l S w' e∧Below w.heap.size w w':=by
 rcases Classical.em ((chkE u).2.2=0) with h1|h1
 ·rcases Classical.em (l.length≤1000) with h2|h2
  ·rcases Classical.em (S<0) with h3|h3
   ·exact(aiV u w AC AF cC cF H AI cI l.length S h1 h2 h3).mono (fun e w' h=>⟨Or.inl h.1,h.2⟩)
   ·rcases Classical.em (5000<S) with h4|h4
    ·exact(aiW u w AC AF cC cF H AI cI l.length S h1 h2 h4).mono (fun e w' h=>⟨Or.inl h.1,h.2⟩)
    ·have:=ag1 u w AC AF cC cF H h1 AI cI l hcI hsI h2 S.toNat (by omega)
     rw[show((S.toNat:Nat):Int)=S by omega] at this;exact this.mono (fun e w' h=>⟨Or.inr ⟨h1,⟨by omega,by omega⟩,h.1⟩,h.2⟩)
  ·exact(ahW u w AC AF cC cF H AI cI l.length S h1 (by omega)).mono (fun e w' h=>⟨Or.inl h.1,h.2⟩)
 ·exact(aiU u w AC AF cC cF H AI cI l.length S h1).mono (fun e w' h=>⟨Or.inl h.1,h.2⟩)
end Go.Proofs.YtmhdambkchlilaaGreatDoor
