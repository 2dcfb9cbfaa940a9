/- The law TopRight: its walk. For all lists of steps: the law TopRight returns true, and its argument reads as it did. No condition. -/
import Derived.Test.YtojmnfelecnenaaQ16
import Derived.Test.YtojmnfelecnenaaQ1
namespace Go.Proofs.Ytojmnfelecnenaa
set_option linter.unusedSimpArgs false
set_option linter.unusedVariables false
open Go.RowKit Go.Sort

def vs0 : List Value := List.replicate 32 (.slice none 0 0)
def al0 : Al := ⟨List.replicate 32 noB, List.replicate 32 [], 0, 0, noB⟩
theorem getD_replicate {α : Type} {n i : Nat} {x d : α} : (List.replicate n x).getD i d = if i < n then x else d := by
  rw [List.getD_eq_getElem?_getD, List.getElem?_replicate]
  split <;> rfl
/-- A new block of the colour 9. -/
theorem StAt.paint {T : Tys} {col : Nat → Nat} {w w' : World} {b bd N n : Nat} {x : Sv} {s : St} (h : StAt T col w b bd N x s) (hb : Below w.heap.size w w') (hlt : n < w'.heap.size) (hn : w.heap.size ≤ n) : StAt T (fun k => if k = n then 9 else col k) w' b bd N x s := by
  have h0 : col n = 0 := h.s0 n hn
  have hF : Fd (fun k => if k = n then 9 else col k) = Fd col := funext fun k => propext ⟨fun hk => by
    have hk : (if k = n then 9 else col k) = 4 := hk
    split at hk
    · cases hk
    · exact hk, fun hk => by
    show (if k = n then 9 else col k) = 4
    have hk : col k = 4 := hk
    rw [if_neg (fun e => by rw [e, h0] at hk; cases hk)]; exact hk⟩
  have hA : ∀ c, c < 3 → Fa (fun k => if k = n then 9 else col k) c = Fa col c := fun c hc => funext fun k => propext ⟨fun hk => by
    have hk : (if k = n then 9 else col k) = 5 + c := hk
    split at hk
    · omega
    · exact hk, fun hk => by
    show (if k = n then 9 else col k) = 5 + c
    have hk : col k = 5 + c := hk
    rw [if_neg (fun e => by rw [e, h0] at hk; omega)]; exact hk⟩
  have him : ∀ k, Im w col k → Im w' (fun k => if k = n then 9 else col k) k := fun k hk => ⟨Nat.lt_of_lt_of_le hk.1 hb.size, by
    show (if k = n then 9 else col k) = 0
    rw [if_neg (by have := hk.1; omega)]; exact hk.2⟩
  have hc : ∀ {j m : Nat}, col j = m → m ≠ 0 → (if j = n then 9 else col j) = m := fun {j m} hj hm => by
    rw [if_neg (fun e => by rw [e, h0] at hj; exact hm hj.symm)]; exact hj
  have hnv : ∀ k, Im w' (fun k => if k = n then 9 else col k) k → k ≠ x.bv ∧ k ≠ x.bt := by
    intro k hk
    have h1 : (if k = n then 9 else col k) = 0 := hk.2
    refine ⟨fun e => ?_, fun e => ?_⟩
    · rw [e, hc h.cv (by decide)] at h1; omega
    · rw [e, hc h.ct (by decide)] at h1; omega
  refine ⟨(hb.block _ (Array.getElem?_eq_some_iff.1 h.row).1).trans h.row, ?_, h.n, (h.bufs.below hb).more him, (h.wait.below hb).more him, h.asks, fun c hc3 => ?_, h.done, h.errs, hc h.cb (by decide), hc h.cv (by decide), hc h.ct (by decide), fun k hk => ?_⟩
  · rw [hF]
    exact (h.drv.below hb).more him hnv
  · rw [hA c hc3]
    exact (h.ask c hc3).keep (fun k _ hk => hb.block k hk)
  · have hk : (if k = n then 9 else col k) ≠ 0 := hk
    split at hk
    · rename_i e; rw [e]; exact hlt
    · exact Nat.lt_of_lt_of_le (h.lt k hk) hb.size
theorem Alst.new {W0 w : World} {col : Nat → Nat} {b bd N : Nat} {K : Int} {x : Sv} {s : St} (h : Lst W0 w col b bd N K x s []) :
    ∃ col', Alst W0 (w.alloc (.cells (alRow b bd al0 vs0).toArray tAl)) col' b bd N K x s w.heap.size 1 al0 := by
  have hb := (Below.refl w.heap.size w).alloc (Nat.le_refl _) (.cells (alRow b bd al0 vs0).toArray tAl)
  have hl : w.heap.size < (w.alloc (.cells (alRow b bd al0 vs0).toArray tAl)).heap.size := by simp
  refine ⟨fun k => if k = w.heap.size then 9 else col k, ⟨⟨h.st.paint hb hl (Nat.le_refl _), h.inv, h.bnd, h.k0, h.below.trans (hb.mono h.below.size), fun k hk => ?_, by simp⟩, ⟨⟨vs0, heap_alloc_new _ _, rfl, fun i v hv => ?_⟩, rfl, rfl, fun i => ?_, ⟨by decide, by decide⟩, by decide, fun i => ?_⟩, if_pos rfl, h.below.size⟩⟩
  · obtain ⟨h1, h2⟩ := hk
    have h1 : (if k = w.heap.size then 9 else col k) ≠ 0 := h1
    have h2 : (if k = w.heap.size then 9 else col k) ≠ 9 := h2
    split at h1
    · rename_i e; rw [if_pos e] at h2; exact absurd rfl h2
    · rename_i e; rw [if_neg e] at h2; exact h.own k ⟨h1, h2⟩
  · have : v = .slice none 0 0 := by
      unfold vs0 at hv
      rw [List.getElem?_replicate] at hv
      split at hv
      · exact (Option.some.inj hv).symm
      · cases hv
    subst this
    have e : al0.since.getD i [] = [] := by show (List.replicate 32 []).getD i [] = []; rw [getD_replicate]; split <;> rfl
    rw [e]
    exact strs_nil _ _
  · have e : al0.since.getD i [] = [] := by show (List.replicate 32 []).getD i [] = []; rw [getD_replicate]; split <;> rfl
    rw [e]; simp
  · have e : al0.now.getD i noB = noB := by show (List.replicate 32 noB).getD i noB = noB; rw [getD_replicate]; split <;> rfl
    rw [e]; decide
theorem js0 : JS st0 := by
  refine ⟨inv0, ⟨rfl, rfl⟩, fun a ha => ?_, fun p d hp => ?_⟩
  · have : st0.askAt 0 = none := rfl
    rw [this] at ha; cases ha
  · have : atB st0.bufs p = none := rfl
    rw [this] at hp; cases hp
theorem alok0 : AlOk false st0 al0 := by
  refine ⟨js0, rfl, rfl, fun p hp => ?_, .inl ⟨rfl, rfl⟩, fun h => by cases h⟩
  have e : curS st0 (p : Int) = nowAt st0 p := rfl
  rw [e]
  rfl
set_option maxRecDepth 100000 in
set_option maxHeartbeats 2000000 in
theorem right_walk (l : List Sp) (v : Value) (w : World) (h : StepsAt Any w v l) : Calls Try.prog 5 #[v] w (Ret (.bool true) w) := by
  obtain ⟨A, cap, rfl, hcl, hcap⟩ := h.form
  have H := Lib.hid h
  unfold maxLen at hcap
  clear h
  go_enter Try.func5, Try.ntmps5
  go_wp2_with fail
  refine (works_any w).mono ?_
  rintro e w0 ⟨rfl, hb0⟩
  have HB0 := Lib.hid hb0
  clear hb0
  go_wp2_with fail
  refine (lightsteps_any Any l _ 120 w0 (H.out.below HB0.out) (by omega)).mono ?_
  rintro e w1 ⟨rfl, rfl⟩
  cases hl : lightSp l 120 with
  | false =>
    clear hl
    go_wp2_with fail
    go_ret
    exact ⟨rfl, HB0.out⟩
  | true =>
    have hlen := lightSp_len hl
    clear hl
    go_wp2_with fail
    refine (devnew_any w0).mono ?_
    rintro e w1 ⟨rfl, hd1, hb1, hs1⟩
    go_wp2_with fail
    refine (stnew_any (fun _ => False) (fun k => k = w0.heap.size) w1 w0.heap.size Dv.new (hd1 _) (fun k hk => by omega) (fun k hk => hk.elim) (fun k hk => hk.elim)).mono ?_
    rintro e w2 ⟨b, col, y, rfl, hst, hb2, hfl, _⟩
    have hL := Lst.begin HB0.out (hd1 _) hb1 hs1 hst hb2 hfl
    obtain ⟨bd, hbd⟩ : ∃ n, w0.heap.size = n := ⟨_, rfl⟩
    rw [hbd] at hL ⊢
    obtain ⟨col3, hA3⟩ := Alst.new hL
    clear hd1 hb1 hs1 hst hb2 hfl hL hbd
    go_wp2_with fail
    change Code.wp _ _ _ _ (w2.alloc (.cells (alRow b bd al0 vs0).toArray tAl))
    have H3 := Lib.hid hA3
    obtain ⟨ba, hba⟩ : ∃ ba, w2.heap.size = ba := ⟨_, rfl⟩
    rw [hba] at H3 ⊢
    clear hA3 hba
    generalize w2.alloc (.cells (alRow b bd al0 vs0).toArray tAl) = w3 at H3 ⊢
    go_loopw [6, 7] (fun i _ wr => ∃ (k : Nat) (col : Nat → Nat) (y : Sv) (s : St) (A : Al), k ≤ l.length ∧ i = .int .i64 k ∧ Hid (Alst w wr col b bd k (15 * (k : Int)) y s ba (k + 1) A) ∧ Hid (AlOk false s A)) (fun i _ _ => l.length - (intOf i).toNat)
    case atStart => exact ⟨0, col3, y, st0, al0, by omega, rfl, H3.out, alok0⟩
    case round =>
      obtain ⟨k, col, y, s, A, hk, rfl, HL, HA⟩ := hrel
      by_cases hlt : k < l.length
      · have hlt2 : (k : Int) < (l.length : Int) := by omega
        have hst := H.out.below HL.out.lst.below
        obtain ⟨g, off, z, rfl, hgl, hx, c0, c1, c2, c3⟩ := hst.cells hlt
        have hok := hst.2 z (List.mem_of_getElem? hx)
        clear hst hx
        go_wp2_with fail
        refine (alstep_any w wr col b bd k (15 * (k : Int)) y s ba (k + 1) A z false HL.out HA.out hok.b hok.data (by omega) (by omega) (by omega)).mono ?_
        rintro e w4 ⟨rfl, col4, y4, h4⟩
        have H4 : Hid (Alst w w4 col4 b bd (k + 1) (15 * ((k + 1 : Nat) : Int)) y4 (alStep s A z).1 ba (k + 1 + 1) (alStep s A z).2) := by
          have e : 15 * (k : Int) + 15 = 15 * ((k + 1 : Nat) : Int) := by omega
          rw [← e]; exact h4
        have HA4 := Lib.hid (HA.out.step z)
        clear h4 c0 c1 c2 c3 hok
        go_wp2_with fail
        go_roundw
        case rel => exact ⟨k + 1, col4, y4, _, _, by omega, by go_num, H4.out, HA4.out⟩
        case measure => simp [intOf]; omega
      · obtain rfl : k = l.length := by omega
        have hlt2 : ¬ (l.length : Int) < (l.length : Int) := by omega
        go_wp2_with fail
        go_ret
        exact ⟨rfl, HL.out.lst.below⟩
end Go.Proofs.Ytojmnfelecnenaa
namespace Go.Proofs.Ytojmnfelecnenaa.topRight
open Go.ChangeShapes Go.WideShapes Go.ChangeAt Go.RowKit Go.Joins

set_option maxRecDepth 100000 in
theorem lifted (os : Os) (started : os.Started) (H : Type) (enc : TypeId × Value → H) :
    ReturnsInHanded {} Try.checked os 5 .any (Rows.topRightSpec.pre6 enc Try.prog Try.f5 Rows.topRightRow.domain false) (Rows.topRightSpec.post enc Try.prog Try.f5 false true false false) := by
  refine returnsInHanded_of_change (C := Try.checked) own started (by kernel_rfl) Try.func5
    (ChangeSpec.witness6 (enc := enc) (C := Try.checked) false ⟨#[], #[.slice none 0 0], []⟩ 8 (by kernel_rfl) (by kernel_rfl) (by kernel_rfl) (by kernel_rfl)) ?_
  intro W base args ds gs before hval0 hW _ _
  have hval : ∀ (j : Nat) t v, Try.f5.params[j]? = some t → args[j]? = some v → Value.okWide Try.prog W .any base t v := hval0
  refine law_contract (fn := Try.f5) rfl rfl (fun ds h => ?_) (by rw [Try.params5]; intro t ht; simp at ht; subst ht; exact ⟨by kernel_rfl, of_decide_eq_true (by kernel_rfl)⟩) hW ?_
  · match ds, h with
    | [_], _ => rfl
  · intro p hA hlt
    rw [Try.params5] at hA hval
    obtain ⟨v0, vs0, d0, ds0, p0, q0, hargs, rfl, rfl, h0, r0⟩ := trodAll_cons hA
    obtain ⟨rfl, rfl, rfl⟩ := trodAll_nil r0
    obtain rfl : args = #[v0] := by cases args; simp_all
    obtain ⟨l0, hl0⟩ := steps_of h0 (okWide_slice Try.underlying22 (hval 0 22 v0 rfl rfl))
    exact right_walk l0 v0 W hl0

theorem over : Rows.topRightRow.holds Try.pinned (OpenSpec.ofChange Rows.topRightSpec) :=
  OpenClaim.holds_of_wide 5 Try.f5 rfl rfl rfl rfl rfl rfl rfl ⟨rfl, rfl, rfl, rfl, rfl⟩ rfl rfl rfl rfl rfl (by kernel_rfl) Try.func5 (by kernel_rfl)
    (of_decide_eq_true (by kernel_rfl)) (by unfold Func.isWrapper; rw [if_neg (of_decide_eq_false (by kernel_rfl))]; exact ⟨rfl, rfl⟩)
    (fun os started H enc _ => lifted os started H enc)

theorem proved : Rows.TopRightSaid :=
  over
#print axioms proved
end Go.Proofs.Ytojmnfelecnenaa.topRight
