/-
  A region that draws, whose ends are alike but for where its new blocks lie: what follows is shown once.
-/
import Derived.Test.YtjiaepphnddpoaaHeld
namespace Go.Proofs.Ytjiaepphnddpoaa
theorem wpAnyH_fin {P : Program} {ops : Array Oper} {Q : Exit → Act → World → Prop} {md : Region.Mode} {S : World → Prop} {fuel : Nat} {listed : Array Bool} {a : Act} {w : World} {α : Type} (f : Act → α → Act) (B : α → World → Prop)
    (h1 : ∀ g W, B g W → Q .normal (f a g) W) (h2 : (∀ g W, B g W → Q .normal (f a g) W) → wpAnyH P md ops Q S fuel listed a w) : wpAnyH P md ops Q S fuel listed a w := h2 h1
end Go.Proofs.Ytjiaepphnddpoaa
