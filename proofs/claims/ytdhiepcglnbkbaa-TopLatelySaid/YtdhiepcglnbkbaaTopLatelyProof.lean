
/- For all lists of sectors and one more: the law TopLately returns true, and its arguments read as they did. No condition. -/
import Derived.Test.YtdhiepcglnbkbaaOpenBufs
import Derived.Test.YtdhiepcglnbkbaaLawLately
namespace Go.Proofs.Ytdhiepcglnbkbaa.topLately
open Go.ChangeShapes Go.WideShapes Go.ChangeAt Go.RowKit Go.Joins

set_option maxRecDepth 100000 in
theorem lifted (os : Os) (started : os.Started) (H : Type) (enc : TypeId × Value → H) :
    ReturnsInHanded {} Try.checked os 11 .any (Rows.topLatelySpec.pre6 enc Try.prog Try.f11 Rows.topLatelyRow.domain false) (Rows.topLatelySpec.post enc Try.prog Try.f11 false true false false) := by
  refine returnsInHanded_of_change (C := Try.checked) own started (by kernel_rfl) Try.func11
    (ChangeSpec.witness6 (enc := enc) (C := Try.checked) false ⟨#[], #[.slice none 0 0, .agg #[.int .i64 0, .string ⟨#[]⟩, .bool false, .int .i64 0]], []⟩ 8 (by kernel_rfl) (by kernel_rfl) (by kernel_rfl) (by kernel_rfl)) ?_
  intro W base args ds gs before hval0 hW _ _
  have hval : ∀ (j : Nat) t v, Try.f11.params[j]? = some t → args[j]? = some v → Value.okWide Try.prog W .any base t v := hval0
  refine law_contract (fn := Try.f11) rfl rfl (fun ds h => ?_) (by rw [Try.params11]; intro t ht; simp at ht; rcases ht with rfl | rfl <;> exact ⟨by kernel_rfl, of_decide_eq_true (by kernel_rfl)⟩) hW ?_
  · match ds, h with
    | [_, _], _ => rfl
  · intro p hA hlt
    rw [Try.params11] at hA hval
    obtain ⟨v0, vs0, d0, ds0, p0, q0, hargs, rfl, rfl, h0, r0⟩ := trodAll_cons hA
    obtain ⟨v1, vs1, d1, ds1, p1, q1, rfl, rfl, rfl, h1, r1⟩ := trodAll_cons r0
    obtain ⟨rfl, rfl, rfl⟩ := trodAll_nil r1
    obtain rfl : args = #[v0, v1] := by cases args; simp_all
    obtain ⟨l0, hl0⟩ := bufs_of h0 (okWide_slice Try.underlying70 (hval 0 70 v0 rfl rfl))
    obtain ⟨b1, rfl, hb1⟩ := open_buf (hval 1 72 v1 rfl rfl) h1
    exact lately_walk l0 b1 v0 W hl0 hb1

theorem over : Rows.topLatelyRow.holds Try.pinned (OpenSpec.ofChange Rows.topLatelySpec) :=
  OpenClaim.holds_of_wide 11 Try.f11 rfl rfl rfl rfl rfl rfl rfl ⟨rfl, rfl, rfl, rfl, rfl⟩ rfl rfl rfl rfl rfl (by kernel_rfl) Try.func11 (by kernel_rfl)
    (of_decide_eq_true (by kernel_rfl)) (by unfold Func.isWrapper; rw [if_neg (of_decide_eq_false (by kernel_rfl))]; exact ⟨rfl, rfl⟩)
    (fun os started H enc _ => lifted os started H enc)

theorem proved : Rows.TopLatelySaid :=
  over
#print axioms proved
end Go.Proofs.Ytdhiepcglnbkbaa.topLately
