/- The law SpanSays: its walk. -/
import Derived.Test.YtfklcfpkbnddfaaSpan2
import Derived.Lib.QuietBelow
namespace Go.Proofs.Ytfklcfpkbnddfaa
open Go.RowKit Go.Sort

theorem mixed : Try.prog.follows .mixedOrders = true := by kernel_rfl

theorem Calls.rg {f : FuncId} {args : Array Value} {w : World} {d : Nat} {os : Array Obj} {v : Value}
    (h : Calls Try.prog f args (grow (redrawn w d) os) (Ret v (grow (redrawn w d) os))) : Calls Try.prog f args (grow (redrawn w d) os) fun e w'' => e = .returned v ∧ ∃ p : Regrown, w'' = grow (redrawn w p.d) p.os :=
  Calls.regrown_of h
theorem Calls.rgSame {f : FuncId} {args : Array Value} {w : World} {d : Nat} {os : Array Obj} {v : Value}
    (h : Calls Try.prog f args (grow (redrawn w d) os) (RetSame v (grow (redrawn w d) os))) : Calls Try.prog f args (grow (redrawn w d) os) fun e w'' => e = .returned v ∧ ∃ p : Regrown, w'' = grow (redrawn w p.d) p.os :=
  Calls.regrown_of (h.mono fun _ _ h => h.ret)

theorem TwoSpans.rg {B : Nat} {w wr : World} {af am bf bm : Int} (h : TwoSpans B w wr af am bf bm) :
    (∀ d os, (grow (redrawn wr d) os).cell? ⟨B, 0, none⟩ = some (.int .i64 af)) ∧ (∀ d os, (grow (redrawn wr d) os).cell? ⟨B, 1, none⟩ = some (.int .i64 am)) ∧
    (∀ d os, (grow (redrawn wr d) os).cell? ⟨B + 1, 0, none⟩ = some (.int .i64 bf)) ∧ (∀ d os, (grow (redrawn wr d) os).cell? ⟨B + 1, 1, none⟩ = some (.int .i64 bm)) :=
  ⟨fun _ _ => cell_regrown h.c.1 _ _, fun _ _ => cell_regrown h.c.2.1 _ _, fun _ _ => cell_regrown h.c.2.2.1 _ _, fun _ _ => cell_regrown h.c.2.2.2 _ _⟩

theorem spansays_walk (af am bf bm at_ most : Int) (w : World) (h3 : -9223372036854775808 ≤ at_) (h4 : at_ ≤ 9223372036854775807) (hm : most ≤ 9223372036854775807) :
    Calls Try.prog 3 #[spanV af am, spanV bf bm, .int .i64 at_, .int .i64 most] w (Ret (.bool true) w) := by
  have m1 : meetB 1 2 2 1 = true := by decide
  go_enter Try.func3, Try.ntmps3
  go_wp2_with (first
    | (go_at_call 14; refine (meet_any _ _ _ _ _ (by omega) (by omega) (by omega) (by omega) (by omega) (by omega) (by omega) (by omega)).mono ?_; rintro e w1 ⟨rfl, hb1⟩; obtain ⟨hc1, hf1⟩ := bcell hb1; have hz1 := hb1.size)
    | (go_at_call 15; refine (next_any _ _ _ _ _ (by omega) (by omega) (by omega) (by omega)).mono ?_; rintro e w2 ⟨rfl, hb2⟩; obtain ⟨hc2, hf2⟩ := bcell hb2; have hz2 := hb2.size))
  have hT2 : TwoSpans w.heap.size w w2 af am bf bm :=
    (TwoSpans.next (TwoSpans.next (wr := (w.alloc (Obj.cells #[Value.int IntKind.i64 af, Value.int IntKind.i64 am] 23)).alloc (Obj.cells #[Value.int IntKind.i64 bf, Value.int IntKind.i64 bm] 23))
      ⟨((Below.refl _ _).alloc (Nat.le_refl _) _).alloc (by simp) _, by simp, heap_alloc2_old _ _ _, heap_alloc2_new _ _ _⟩ hb1 (by simp; omega)) hb2 (by simp at hz1; omega))
  clear hb1 hb2 hc1 hf1 hc2 hf2 hz1 hz2
  obtain ⟨g1, g2, g3, g4⟩ := hT2.rg
  refine wp_region_quiet_below mixed (by kernel_rfl) ?_
  repeat (quiet_step (first
    | (go_at_call 17; exact Calls.rg (check_any _ _ _ _ hm))
    | (go_at_call 18; exact Calls.rg (spanfault_any _ _ _ _))
    | (go_at_call 16; exact Calls.rgSame (same_any _ _ _))))
  refine wpQuiet_nil ?_
  intro _ hw'
  obtain ⟨⟨dq, osq⟩, hw''⟩ := hw'
  subst hw''
  have hT3 := hT2.next (below_regrown w2 dq osq) (by have := hT2.lt; omega)
  clear hT2 g1 g2 g3 g4
  generalize grow (redrawn w2 dq) osq = w3 at hT3 ⊢
  obtain ⟨c1, c2, c3, c4⟩ := hT3.c
  have hlt := hT3.lt
  by_cases ha : SpanOk af am 32
  · have fa := spanF_pos ha
    by_cases hb : SpanOk bf bm 32
    · have fb := spanF_pos hb
      have Ha := Lib.hid ha
      have Hb := Lib.hid hb
      obtain ⟨a1, a2, a3, a4, a5⟩ := ha
      obtain ⟨b1, b2, b3, b4, b5⟩ := hb
      go_wp2_with (go_at_call 18; refine (spanfault_any _ _ _ _).mono ?_; rintro e w' ⟨rfl, hb'⟩; obtain ⟨hc', hf'⟩ := bcell hb'; have hz' := hb'.size)
      have hT4 := (hT3.next ‹Below w3.heap.size w3 _› (by omega)).next hb' (by omega)
      clear c1 c2 c3 c4 hc' hf' hz' hb' hT3
      obtain ⟨g1, g2, g3, g4⟩ := hT4.rg
      have hs : IntKind.i64.wrap (af + am) = af + am := IntWalk.i64_in _ (by omega)
      refine wp_region_quiet_below mixed (by kernel_rfl) ?_
      repeat (quiet_step (first
        | (go_at_call 14; exact Calls.rg (meet_any _ _ _ _ _ (by omega) (by omega) (by omega) (by omega) (by omega) (by omega) (by omega) (by omega)))
        | (go_at_call 19; exact Calls.rg (rmeet_any _ _ _ _ _ Ha.out Hb.out))
        | (go_at_call 15; exact Calls.rg (next_any _ _ _ _ _ (by omega) (by omega) (by omega) (by omega)))
        | (go_at_call 20; exact Calls.rg (has_any _ _ _ _ (by omega) (by omega) h3 h4))
        | (go_at_call 21; exact Calls.rg (rhas_any _ _ _ _ (by omega) (by omega) (by omega) (by omega)))))
      refine wpQuiet_nil ?_
      intro _ hw'
      obtain ⟨⟨dq2, osq2⟩, hw''⟩ := hw'
      subst hw''
      go_wp2
      go_ret
      exact ⟨rfl, hT4.below.trans (Below.mono (below_regrown _ _ _) (by have := hT4.lt; omega))⟩
    · have fb := spanF_neg hb
      clear ha hb
      go_wp2_with (go_at_call 18; refine (spanfault_any _ _ _ _).mono ?_; rintro e w' ⟨rfl, hb'⟩; obtain ⟨hc', hf'⟩ := bcell hb'; have hz' := hb'.size)
      go_ret
      exact ⟨rfl, hT3.below.trans ((Below.mono ‹_› (by omega)).trans (Below.mono ‹_› (by omega)))⟩
  · have fa := spanF_neg ha
    clear ha
    go_wp2_with (go_at_call 18; refine (spanfault_any _ _ _ _).mono ?_; rintro e w' ⟨rfl, hb'⟩; obtain ⟨hc', hf'⟩ := bcell hb'; have hz' := hb'.size)
    go_ret
    exact ⟨rfl, hT3.below.trans (Below.mono ‹_› (by omega))⟩
end Go.Proofs.Ytfklcfpkbnddfaa
