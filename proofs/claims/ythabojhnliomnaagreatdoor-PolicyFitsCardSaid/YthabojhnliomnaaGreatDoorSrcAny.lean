/-
  A slice of which nothing is read.
-/
import Derived.Test.YthabojhnliomnaaGreatDoorOpenW
namespace Go.Proofs.YthabojhnliomnaaGreatDoor
open Go.RowKit Go.ChangeShapes Go.WideShapes Go.Deep
set_option linter.unusedVariables false

structure AnySl where
  A : Option Addr
  n : Nat
  c : Nat
def Lay.any : Lay AnySl := Lay.plain 1 (fun x => [.slice x.A x.n x.c]) fun _ => rfl
theorem Opens.any {P : Program} {t e : TypeId} (ht : P.underlying t = some (.slice e)) : Opens P t Lay.any (fun _ => True) := fun H enc w spare held fuel cs x h => by
  rcases open_slice ht h with ⟨rfl, _⟩ | ⟨a, len, cap, m, n, D, Pl, rfl, _⟩
  · exact ⟨⟨none, 0, 0⟩, rfl, trivial⟩
  · exact ⟨⟨some a, len, cap⟩, rfl, trivial⟩
theorem OpensW.any {P : Program} {t e : TypeId} (ht : P.underlying t = some (.slice e)) : OpensW P t Lay.any (fun _ => True) := (Opens.any ht).light
end Go.Proofs.YthabojhnliomnaaGreatDoor
