import Derived.Deep.AppendLies
import Derived.Test.YtpfgimohginbdaaDoorBn16
set_option linter.unusedVariables false
set_option linter.unusedSimpArgs false
namespace Go.Proofs.YtpfgimohginbdaaDoor
open Go.RowKit

def RdG (w : World) (S : Nat → Prop) (fs : List PFun) (A : Option Addr) : Prop := RdF w S fs A
theorem RdG.keep {w w' : World} {S S' : Nat → Prop} (k : KeepsIn S w w') (hS : ∀ n, S n → S' n) {fs : List PFun} {A : Option Addr} (h : RdG w S fs A) : RdG w' S' fs A := RdF.keep k hS h
end Go.Proofs.YtpfgimohginbdaaDoor
