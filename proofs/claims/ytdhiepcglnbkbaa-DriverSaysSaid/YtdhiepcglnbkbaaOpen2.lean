
/- More openers: a request that came in by value; how long a list of requests may be. -/
import Derived.Test.YtdhiepcglnbkbaaOpen
import Derived.SizedLaws
namespace Go.Proofs.Ytdhiepcglnbkbaa
set_option linter.unusedSimpArgs false
set_option linter.unusedVariables false
open Go.ChangeShapes Go.WideShapes Go.ChangeAt Go.RowKit Go.Joins Go.Deep

section
variable {H : Type} {enc : TypeId × Value → H} {W : World} {base b0 : Nat} {v : Value} {d : DataW H} {p : List MemPlace}

set_option maxRecDepth 100000 in
theorem open_req (hv : Value.okWide Try.prog W .any b0 38 v) (h : DataW.Trod enc Try.prog W base (fun _ => true) true 38 v d p) :
    ∃ c : Rc, v = rqV c.r c.dv c.tv ∧ RcOk Any W c := by
  obtain ⟨cs, rfl, hsz⟩ := okWide_struct Try.underlying38 hv
  obtain ⟨fuel, hf⟩ := h
  obtain ⟨c, hc, hok⟩ := req_of hf
  refine ⟨c, ?_, hok⟩
  have : cs = c.cells.toArray := by
    apply Array.toList_inj.1
    simpa [Value.cells] using hc
  rw [this]; rfl

theorem reqs_len {ts : List TypeId} {ds : List (DataW H)} {j : Nat} {A : Option Addr} {n c : Nat} (h : DataW.Trod enc Try.prog W base (fun _ => true) true 30 (.slice A n c) d p)
    (hsz : (DataW.weightsEach Try.prog ts ds).all (· ≤ reachBytes) = true) (ht : ts[j]? = some 30) (hd : ds[j]? = some d) : n * 80 ≤ 140737488351232 := by
  obtain ⟨fuel, hf⟩ := h
  rcases open_slice Try.underlying30 hf with ⟨hcs, _⟩ | ⟨a, len, cap, m, k, D, Pl, hcs, _, hl, hm, hmm, hx, hi⟩
  · simp [Value.cells] at hcs
    obtain ⟨rfl, rfl, rfl⟩ := hcs
    omega
  · simp [Value.cells] at hcs
    obtain ⟨rfl, rfl, rfl⟩ := hcs
    simp only [Prod.mk.injEq] at hx
    rw [hx.1] at hd
    have := sized_slice hsz ht hd Try.underlying30
    have hb : Try.prog.bytesOf 38 = 80 := by kernel_rfl
    rw [hb] at this
    simp only [List.length_map, List.length_range, reachBytes] at this
    omega
end
end Go.Proofs.Ytdhiepcglnbkbaa
