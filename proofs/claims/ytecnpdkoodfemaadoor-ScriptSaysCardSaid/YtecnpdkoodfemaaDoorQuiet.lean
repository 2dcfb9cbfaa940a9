
/- Regions that draw their order, whose callees make memory alone. -/
import Derived.Test.YtecnpdkoodfemaaDoorFacts
import Derived.Lib.QuietBelow
namespace Go.Proofs.YtecnpdkoodfemaaDoor
open Go.RowKit Go.Sort

theorem mixed : Tryd.prog.follows .mixedOrders = true := by kernel_rfl
theorem bcell {W w1 : World} (hb : Below W.heap.size W w1) : (∀ b o, b < W.heap.size → w1.cell? ⟨b, o, none⟩ = W.cell? ⟨b, o, none⟩) ∧ (∀ b o, b < W.heap.size → w1.frozen? ⟨b, o, none⟩ = W.frozen? ⟨b, o, none⟩) :=
  ⟨fun b o h => hb.cell (p := ⟨b, o, none⟩) h, fun b o h => hb.frozen (p := ⟨b, o, none⟩) h⟩
theorem Calls.rg {f : FuncId} {args : Array Value} {w : World} {d : Nat} {os : Array Obj} {v : Value}
    (h : Calls Tryd.prog f args (grow (redrawn w d) os) (Ret v (grow (redrawn w d) os))) : Calls Tryd.prog f args (grow (redrawn w d) os) fun e w'' => e = .returned v ∧ ∃ p : Regrown, w'' = grow (redrawn w p.d) p.os :=
  Calls.regrown_of h
theorem Calls.rgSame {f : FuncId} {args : Array Value} {w : World} {d : Nat} {os : Array Obj} {v : Value}
    (h : Calls Tryd.prog f args (grow (redrawn w d) os) (RetSame v (grow (redrawn w d) os))) : Calls Tryd.prog f args (grow (redrawn w d) os) fun e w'' => e = .returned v ∧ ∃ p : Regrown, w'' = grow (redrawn w p.d) p.os :=
  Calls.regrown_of (h.mono fun _ _ h => h.ret)
end Go.Proofs.YtecnpdkoodfemaaDoor
