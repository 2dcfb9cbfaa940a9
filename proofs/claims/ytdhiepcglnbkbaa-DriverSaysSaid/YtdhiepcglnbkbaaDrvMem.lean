
/- The driver: its pure model, and how it lies in memory. -/
import Derived.Test.YtdhiepcglnbkbaaMapAt
import Derived.Test.YtdhiepcglnbkbaaTwo
namespace Go.Proofs.Ytdhiepcglnbkbaa
set_option linter.unusedSimpArgs false
set_option linter.unusedVariables false
open Go.RowKit

structure Drv where
  d : Dv
  tries : Int → Int
def tagOf (r : Rq) : Int := r.tags.headD 0
/-- The driver ends the request i: what it has then, the result, is it done, what is wrong. -/
def Drv.endAt (v : Drv) (i : Int) (f : Bool) : Drv × Rs × Bool × Nat :=
  let q := v.d.endAt i f
  if q.2.2 ≠ 0 then ({ v with d := q.1 }, zeroRs, false, q.2.2)
  else if q.2.1.err = 0 then (⟨q.1, upd v.tries (tagOf q.2.1.req) 0⟩, q.2.1, true, 0)
  else if v.tries (tagOf q.2.1.req) + 1 < 3 then (⟨(q.1.start q.2.1.req).1, upd v.tries (tagOf q.2.1.req) (v.tries (tagOf q.2.1.req) + 1)⟩, zeroRs, false, (q.1.start q.2.1.req).2)
  else (⟨q.1, upd v.tries (tagOf q.2.1.req) 0⟩, q.2.1, true, 0)
/-- The driver v lies at bv, its disk at bd, its counts at bt. -/
structure DrvAt (TD TP TV : TypeId) (S F : Nat → Prop) (w : World) (bv bd bt n : Nat) (v : Drv) : Prop where
  row : w.heap[bv]? = some (.cells #[.pointer (some ⟨bd, 0, none⟩), .map (some bt)] TV (0, 0))
  map : ∃ f, MapAt w bt n f ∧ ∀ k, i64 k → f k = v.tries k
  dev : DevAt TD TP S F w bd v.d
  nv : ¬ F bv
  nt : ¬ F bt
  sv : ∀ k, S k → k ≠ bv ∧ k ≠ bt
section
variable {TD TP TV : TypeId} {S F : Nat → Prop} {w w' : World} {bv bd bt n : Nat} {v : Drv}
theorem DrvAt.ne (h : DrvAt TD TP TV S F w bv bd bt n v) : bv ≠ bt := by
  rintro rfl
  obtain ⟨f, ⟨D, ⟨es, clock, hb, _⟩, _⟩, _⟩ := h.map
  rw [h.row] at hb
  cases hb
theorem DrvAt.below (h : DrvAt TD TP TV S F w bv bd bt n v) (hb : Below w.heap.size w w') : DrvAt TD TP TV S F w' bv bd bt n v := by
  obtain ⟨f, hf, hv⟩ := h.map
  exact ⟨(hb.block _ (Array.getElem?_eq_some_iff.1 h.row).1).trans h.row, ⟨f, hf.keep (hb.block _ hf.lt), hv⟩, h.dev.below hb, h.nv, h.nt, h.sv⟩
end
end Go.Proofs.Ytdhiepcglnbkbaa
