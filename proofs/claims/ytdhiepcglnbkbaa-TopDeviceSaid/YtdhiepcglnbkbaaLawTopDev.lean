
/- The law TopDevice: its walk. -/
import Derived.Test.YtdhiepcglnbkbaaOne
namespace Go.Proofs.Ytdhiepcglnbkbaa
set_option linter.unusedSimpArgs false
set_option linter.unusedVariables false
open Go.RowKit

namespace Dv
def putsOf : Nat → List ByteArray → List (Nat × ByteArray)
  | _, [] => []
  | p, s :: l => (p, s) :: putsOf (p + 1) l
theorem wrote_waits : ∀ (l : List ByteArray) (d : Dv) (p : Nat), (d.wrote p l).waits = d.waits ++ putsOf p l
  | [], d, p => by simp [wrote, putsOf]
  | s :: l, d, p => by
    rw [wrote, wrote_waits l (d.put p s) (p + 1)]
    simp [put, putsOf]
theorem putsOf_len : ∀ (l : List ByteArray) (p : Nat), (putsOf p l).length = l.length
  | [], _ => rfl
  | s :: l, p => by simp [putsOf, putsOf_len l]
theorem putsOf_app (s : ByteArray) : ∀ (l : List ByteArray) (p : Nat), putsOf p (l ++ [s]) = putsOf p l ++ [(p + l.length, s)]
  | [], p => by simp [putsOf]
  | x :: l, p => by
    simp only [List.cons_append, putsOf, List.length_cons]
    rw [putsOf_app s l, show p + 1 + l.length = p + (l.length + 1) by omega]
theorem putsOf_succ {p k : Nat} {l : List ByteArray} {s : ByteArray} (h : l[k]? = some s) : putsOf p (l.take (k + 1)) = putsOf p (l.take k) ++ [(p + k, s)] := by
  have hk := (List.getElem?_eq_some_iff.1 h).1
  rw [List.take_add_one, h, Option.toList_some, putsOf_app, List.length_take, Nat.min_eq_left (by omega)]
end Dv
theorem DevAt.any_s {TD TP : TypeId} {S S' F : Nat → Prop} {w : World} {b : Nat} {d : Dv} (h : DevAt TD TP S F w b d) (hl : d.l = []) : DevAt TD TP S' F w b d := by
  obtain ⟨hb, h1, h2, wv, lv, cs, hr, hw, hl', he, hc⟩ := h
  rw [hl] at he
  obtain rfl : cs = [] := by simpa using he
  exact ⟨hb, h1, h2, wv, lv, [], hr, hw, hl', by rw [hl]; rfl, by simp⟩
/-- The cells of an array of texts. -/
def txt (l : List ByteArray) : Array Value := (l.map Value.string).toArray
theorem txt_set (l : List ByteArray) (i : Nat) (s : ByteArray) : (txt l).setIfInBounds i (.string s) = txt (l.set i s) := by
  unfold txt
  rw [List.setIfInBounds_toArray, List.map_set]
section
variable {W0 w : World} {bd : Nat} {F : Nat → Prop} {d : Dv} {l : List (Nat × TypeId × Array Value)}
theorem One.set (h : One W0 w bd F d l) (i : Nat) {b : Nat} {T : TypeId} {cs : Array Value} (hi : l[i]? = some (b, T, cs)) (k : Nat) (v : Value) : One W0 (w.setCell ⟨b, k, none⟩ v) bd F d (l.set i (b, T, cs.setIfInBounds k v)) := by
  have hm := List.mem_of_getElem? hi
  have ho := h.lay.own _ hm
  simp only at ho
  have hc : Chg (fun q => q = b) w (w.setCell ⟨b, k, none⟩ v) := Chg.setCell (F := fun q => q = b) Chg.refl (.inl rfl) _
  refine ⟨h.lay.set i hi k v, h.p.apart hc (fun q hq e => h.nf _ hm (e ▸ hq)) (fun q hq e => by omega), fun q hq => ⟨(h.fl q hq).1, Nat.lt_of_lt_of_le (h.fl q hq).2 hc.size⟩, h.ok, fun x hx hf => ?_⟩
  rcases List.mem_or_eq_of_mem_set hx with hx | rfl
  · exact h.nf x hx hf
  · exact h.nf _ hm hf
theorem One.tail {x : Nat × TypeId × Array Value} (h : One W0 w bd F d (x :: l)) : One W0 w bd F d l :=
  ⟨⟨h.lay.below, fun y hy => h.lay.row y (List.mem_cons_of_mem _ hy), fun y hy => h.lay.own y (List.mem_cons_of_mem _ hy), by have := h.lay.nd; rw [List.map_cons, List.nodup_cons] at this; exact this.2⟩, h.p, h.fl, h.ok, fun y hy => h.nf y (List.mem_cons_of_mem _ hy)⟩
end
theorem txt_at {l : List ByteArray} {q : Nat} {s : ByteArray} (h : l[q]? = some s) : (txt l)[q]? = some (.string s) := by
  unfold txt; simp [List.getElem?_map, h]
def eS : ByteArray := ⟨#[]⟩
theorem fill_set {l : List ByteArray} {q : Nat} {y : ByteArray} (hl : l.length = 32) (hq : q < 32) (hy : l[q]? = some y) : (l.take q ++ List.replicate (32 - q) eS).set q y = l.take (q + 1) ++ List.replicate (32 - (q + 1)) eS := by
  rw [List.set_append_right _ _ (by simp; omega), List.take_add_one, hy]
  have : 32 - q = (32 - (q + 1)) + 1 := by omega
  rw [this, List.replicate_succ]
  simp [hl, Nat.min_eq_left (show q ≤ 32 by omega)]
theorem fill_at {l : List ByteArray} {q : Nat} (hl : l.length = 32) (hq : q < 32) : (l.take q ++ List.replicate (32 - q) eS)[q]? = some eS := by
  rw [List.getElem?_append_right (by simp; omega), List.getElem?_replicate, if_pos (by simp; omega)]
theorem want_succ {keep p k : Nat} {K : List ByteArray} {W : List (Nat × ByteArray)} {D : List ByteArray} {x : ByteArray} (h : D[k]? = some x) :
    Dv.keepFrom keep K (W ++ Dv.putsOf p (D.take (k + 1))) 0 = if Dv.bit keep (W.length + k) then (Dv.keepFrom keep K (W ++ Dv.putsOf p (D.take k)) 0).set (p + k) x else Dv.keepFrom keep K (W ++ Dv.putsOf p (D.take k)) 0 := by
  have hk := (List.getElem?_eq_some_iff.1 h).1
  rw [Dv.putsOf_succ h, ← List.append_assoc, Dv.keepFrom_app, List.length_append, Dv.putsOf_len, List.length_take, Nat.min_eq_left (by omega), Nat.zero_add]
theorem writtenM_more {d : Dv} {r : Rq} (h : reqF r = 0) (hl : d.l = []) : (writtenM d r).2 = true ∧ (writtenM d r).1.kept = d.kept ∧ (writtenM d r).1.waits = d.waits ++ Dv.putsOf r.lo.toNat (if r.write = true then r.data else []) := by
  have hst : d.start r = ({ d with l := [r] }, 0) := by unfold Dv.start; rw [if_neg (by rw [hl]; simp), hl]; rfl
  unfold writtenM
  rw [if_pos h, hst]
  refine ⟨rfl, ?_, ?_⟩
  · show (Dv.ended { d with l := [r] } r 0 false).1.kept = _
    unfold Dv.ended
    rw [if_neg (by simp)]
    split
    · rw [(Dv.wrote_same _ _ _).1]; rfl
    · rfl
  · show (Dv.ended { d with l := [r] } r 0 false).1.waits = _
    unfold Dv.ended
    rw [if_neg (by simp)]
    by_cases hw : r.write = true
    · rw [if_pos hw, if_pos hw, Dv.wrote_waits]; rfl
    · rw [if_neg hw, if_neg hw]; simp [Dv.putsOf, Dv.drop]
/-- The closed part: what is written is there. -/
def d0 : Dv := ((Dv.new.start litW).1.ended litW 0 false).1
theorem d0_ok : DvOk d0 := ((DvOk.new.start (reqF_ok litW_ok)).ended litW_ok 0 false).1
theorem d0_l : d0.l = [] := rfl
theorem d0_w : d0.waits.length = 1 := rfl

set_option maxRecDepth 100000 in
set_option maxHeartbeats 4000000 in
theorem topdev_walk (l m : List Ac) (v mv : Value) (keep : Nat) (hkeep : keep < 18446744073709551616) (w : World) (h : ActsAt (fun _ => True) w v l) (hm : ActsAt (fun _ => True) w mv m) :
    Calls Try.prog 8 #[v, mv, .int .u64 (keep : Int)] w (Ret (.bool true) w) := by
  obtain ⟨A, cap, rfl, hc1, hc2⟩ := h.1.form
  obtain ⟨B, bcap, rfl, hm1, hm2⟩ := hm.1.form
  unfold maxLen at hc2 hm2
  have H := Lib.hid (h.lt.more (S' := fun k => k < w.heap.size) (fun b hb => hb.2))
  have HM := Lib.hid (hm.lt.more (S' := fun k => k < w.heap.size) (fun b hb => hb.2))
  clear h hm
  go_enter Try.func8, Try.ntmps8
  go_wp2_with fail
  refine (devnew_any _).mono ?_
  rintro e w1 ⟨rfl, hd1, hb1, hs1⟩
  obtain ⟨bd, hbd⟩ : ∃ x, w.heap.size = x := ⟨_, rfl⟩
  have hd1 := hd1 (fun k => k = w.heap.size + 1 ∨ k = w.heap.size + 2)
  have Hs1 := Lib.hid hs1
  have Hbd := Lib.hid hbd
  obtain ⟨b1, hb1e⟩ : ∃ x, w1.heap.size = x := ⟨_, rfl⟩
  have Hb1e := Lib.hid hb1e
  clear hs1
  go_wp2_with fail
  have hbA : Below w1.heap.size w1 _ := ((Below.refl w1.heap.size w1).alloc (Nat.le_refl _) (Obj.cells #[Value.string sX] 9)).alloc (by simp) (Obj.cells #[Value.int IntKind.i64 1] 3)
  have g1 : ((w1.alloc (Obj.cells #[Value.string sX] 9)).alloc (Obj.cells #[Value.int IntKind.i64 1] 3)).heap[b1]? = some (.cells #[.string sX] 9 (0, 0)) := by
    rw [Below.heap_alloc _ _ _ (by simp; omega), ← hb1e]; exact heap_alloc_new _ _
  have g2 : ((w1.alloc (Obj.cells #[Value.string sX] 9)).alloc (Obj.cells #[Value.int IntKind.i64 1] 3)).heap[b1 + 1]? = some (.cells #[.int .i64 1] 3 (0, 0)) := by
    have := heap_alloc_new (w1.alloc (Obj.cells #[Value.string sX] 9)) (Obj.cells #[Value.int IntKind.i64 1] 3)
    rwa [show (w1.alloc (Obj.cells #[Value.string sX] 9)).heap.size = b1 + 1 by simp; omega] at this
  have g3 : ((w1.alloc (Obj.cells #[Value.string sX] 9)).alloc (Obj.cells #[Value.int IntKind.i64 1] 3)).heap.size = b1 + 2 := by simp; omega
  unfold sX at hbA g1 g2 g3
  generalize World.alloc _ _ = W2 at hbA g1 g2 g3 ⊢
  have hs1 := Hs1.out
  rw [hb1e, hbd] at hs1
  rw [hbd] at hd1
  have hd2 := hd1.below hbA
  have hb2 := hb1.trans (hbA.mono hb1.size)
  have hF : ∀ k, k = bd → k < W2.heap.size := fun k hk => by omega
  have hS : ∀ k, (k = bd + 1 ∨ k = bd + 2) → ¬ k = bd := fun k hk => by omega
  have hrc := rc_litW (S := fun k => k = bd + 1 ∨ k = bd + 2) g1 g2 (.inl (by omega)) (.inr (by omega))
  have hrq := hrc.req
  refine (devstart_any _ _ W2 bd Dv.new litW _ hd2 hrq hF hS (by decide)).mono ?_
  rintro e w3 ⟨rfl, hd3, hc3⟩
  rw [show (Dv.new.start litW).2 = 0 from rfl]
  have hF3 := Grow.lt (w' := w3) hF hc3.size
  have hS3 : ∀ k, (k = bd + 1 ∨ k = bd + 2) → ¬ Grow (fun k => k = bd) W2 w3 k := fun k hk hg => hg.elim (hS k hk) (fun h => by omega)
  have hb3 := hb2.trans (hc3.below (B := w.heap.size) (fun k hk => by omega) (by omega))
  have hz3 : W2.heap.size ≤ w3.heap.size := hc3.size
  have Hd3 := Lib.hid hd3
  have Hb3 := Lib.hid hb3
  have HF3 := Lib.hid hF3
  have HS3 := Lib.hid hS3
  have Hz3 := Lib.hid (And.intro hz3 (And.intro g3 hs1))
  clear hd3 hb3 hc3 hd2 hd1 hb2 hb1 hbA hrc hrq g1 g2 hF3 hS3 hF hS hz3 g3 hs1
  go_wp2_with fail
  have hnow : ∀ s ∈ (Dv.new.start litW).1.now, s.size ≤ maxLen := fun s hs => by
    obtain rfl := List.eq_of_mem_replicate hs
    exact Nat.zero_le _
  refine (devend_some _ _ w3 bd (Dv.new.start litW).1 0 litW false Hd3.out rfl litW_ok (by decide) (by decide) hnow HF3.out HS3.out (fun k hk => by have := Hz3.out; omega)).mono ?_
  rintro e w4 ⟨v4, F4, S4, rfl, hrs, hd4, hc4, _, hF4, _, hS4, _⟩
  obtain ⟨Ad, cd, At, ct, Ao, co, rfl⟩ := hrs.opened
  have hb4 := Hb3.out.trans (hc4.below (B := w.heap.size) (fun k hk => hk.elim (fun h => by omega) (fun h => by have := Hz3.out; omega)) (by have := Hz3.out; omega))
  have hO4 : One w w4 bd F4 d0 [] := ⟨⟨hb4, by simp, by simp, by simp⟩, (hd4 : DevAt _ _ _ _ _ _ d0).any_s d0_l, fun k hk => by
    have h1 := Hz3.out
    have h2 := hc4.size
    rcases hF4 k hk with hk | hk
    · rcases hk with hk | hk
      · omega
      · omega
    · omega, d0_ok, by simp⟩
  have HO4 := Lib.hid hO4
  clear hd4 hb4 hc4 hF4 hS4 hrs hnow hO4 Hd3 Hb3 HF3 HS3 Hz3
  go_wp2_with fail
  generalize hW5 : World.alloc _ _ = W5
  have HO5 := Lib.hid (HO4.out.step (hW5 ▸ (Below.refl _ _).alloc (Nat.le_refl _) _))
  clear hW5 HO4
  refine (devpeek_any _ _ _ _ _ 3 (by decide) HO5.out.p).mono ?_
  rintro e w6 ⟨rfl, rfl⟩
  rw [show d0.peek 3 = sX from rfl]
  unfold sX
  go_wp2_with fail
  refine (lightacts_any _ l 30 _ _ (H.out.below HO5.out.lay.below) (by omega)).mono ?_
  rintro e w7 ⟨rfl, hb7⟩
  have HO7 := Lib.hid (HO5.out.step hb7)
  clear HO5 hb7
  cases g1 : lightActs l 30 with
  | false =>
    have hb := Lib.hid HO7.out.lay.below
    go_wp2_with fail
    go_ret
    exact ⟨rfl, hb.out⟩
  | true =>
    have hlen : l.length ≤ 30 := by unfold lightActs at g1; simp at g1; exact g1.1
    clear g1
    go_wp2_with fail
    refine (lightacts_any _ m 30 _ _ (HM.out.below HO7.out.lay.below) (by omega)).mono ?_
    rintro e w8 ⟨rfl, hb8⟩
    have HO8 := Lib.hid (HO7.out.step hb8)
    clear HO7 hb8
    cases g1 : lightActs m 30 with
    | false =>
      have hb := Lib.hid HO8.out.lay.below
      go_wp2_with fail
      go_ret
      exact ⟨rfl, hb.out⟩
    | true =>
      have hlem : m.length ≤ 30 := by unfold lightActs at g1; simp at g1; exact g1.1
      clear g1
      go_wp2_with fail
      go_loopw [10] (fun j wr => ∃ (i : Nat) (F : Nat → Prop) (d : Dv), i ≤ l.length ∧ j = .int .i64 i ∧ Hid (One w wr bd F d []) ∧ Hid (d.l = []) ∧ d.waits.length ≤ 4 * i + 1) (fun j _ => l.length - (intOf j).toNat)
      case atStart => exact ⟨0, _, d0, by omega, rfl, HO8.out, d0_l, by rw [d0_w]; omega⟩
      case round =>
        obtain ⟨i, F, d, hi, rfl, hO, hl, hwl⟩ := hrel
        by_cases hlt : i < l.length
        · -- ROUND1 BEGIN
          have hx : l[i]? = some l[i] := List.getElem?_eq_getElem hlt
          generalize l[i] = a at hx
          obtain ⟨b, off, rfl, _, _, k0, k1, k2, k3, k4, k5, k6, k7, k8⟩ := (H.out.below hO.out.lay.below).at_ hx
          have hok := H.out.2 a (List.mem_of_getElem? hx)
          obtain ⟨Bd, dd, e1, _, _⟩ := hok.rc.data.form
          obtain ⟨Bt, dt, e2, _, _⟩ := hok.rc.tags.form
          have hW := written_any _ F wr bd d a hO.out.p hO.out.ok hl.out (by omega) (hok.keep (fun k hk hlt => hO.out.lay.below.block k hlt)) hO.out.flt hO.out.sf hO.out.slt
          have ecells : a.cells.toArray = #[Value.string a.kind, Value.bool a.c.r.write, Value.int IntKind.i64 a.c.r.lo, Value.int IntKind.i64 a.c.r.many, Value.slice Bd a.c.r.data.length dd, Value.slice Bt a.c.r.tags.length dt, Value.int IntKind.i64 a.c.r.born, Value.int IntKind.i64 a.n, Value.int IntKind.u64 (a.k : Int)] := by
            simp [Ac.cells, Rc.cells, e1, e2]
          rw [ecells] at hW
          rw [e1] at k4
          rw [e2] at k5
          have HW := Lib.hid hW
          have hi1 : (i : Int) < (l.length : Int) := by omega
          clear hx hok e1 e2 ecells hW
          go_wp2_with fail
          refine HW.out.mono ?_
          rintro e w6 ⟨F6, rfl, hd6, hc6, hF6⟩
          have hwo := writtenM_ok hO.out.ok hl.out a.c.r
          have HO6 := Lib.hid (hO.out.prog hd6 hc6 hF6 hwo.1)
          have Hwo := Lib.hid hwo
          clear hd6 hc6 hF6 hwo HW k0 k1 k2 k3 k4 k5 k6 k7 k8
          go_wp2_with fail
          go_roundw
          case rel => exact ⟨i + 1, F6, _, by omega, by go_num, HO6.out, Hwo.out.2.1, by have := Hwo.out.2.2; omega⟩
          case measure => simp [intOf]; omega
          -- ROUND1 END
        · obtain rfl : i = l.length := by omega
          go_wp2_with fail
          refine (devflush_any _ F wr bd d hO.out.p hO.out.sf).mono ?_
          rintro e w9 ⟨rfl, hd9, hc9, hz9⟩
          have HO9 := Lib.hid (hO.out.prog hd9 hc9 (fun k h => .inl h) hO.out.ok.flush)
          clear hd9 hc9 hz9 hO HO8
          go_wp2_with fail
          generalize hW10 : World.alloc _ _ = W10
          have hO10 := HO9.out.alloc w9.heap.size (txt (List.replicate 32 eS)) 28 rfl
          rw [show (w9.alloc (Obj.cells (txt (List.replicate 32 eS)) 28)) = W10 from hW10] at hO10
          have HO10 := Lib.hid hO10
          have Hnl := Lib.hid hO10.ok.kept
          clear hO10 hW10 HO9
          go_loopw [12] (fun j wr => ∃ (q : Nat), q ≤ 32 ∧ j = .int .i64 q ∧ Hid (One w wr bd F d.flush [(w9.heap.size, 28, txt (d.now.take q ++ List.replicate (32 - q) eS))])) (fun j _ => 32 - (intOf j).toNat)
          case atStart => exact ⟨0, by omega, rfl, HO10.out⟩
          case round =>
            obtain ⟨q, hq, rfl, hO⟩ := hrel
            by_cases hq2 : q < 32
            · -- ROUND2 BEGIN
              have hnl : d.now.length = 32 := Hnl.out
              obtain ⟨y, hy⟩ : ∃ y, d.now[q]? = some y := ⟨_, List.getElem?_eq_getElem (by omega)⟩
              have hpk : d.flush.peek q = y := by unfold Dv.peek; rw [List.getD_eq_getElem?_getD]; show (d.now[q]?).getD _ = _; rw [hy]; rfl
              have hcell : wr.cell? ⟨w9.heap.size, q, none⟩ = some (.string eS) := by rw [hO.out.lay.cell 0 rfl q]; exact txt_at (fill_at hnl hq2)
              have hfr := hO.out.lay.frozen 0 rfl q
              have hO2 := hO.out.set 0 rfl q (.string y)
              simp only [List.set_cons_zero] at hO2
              rw [txt_set, fill_set hnl hq2 hy] at hO2
              have HO2 := Lib.hid hO2
              have Hpk := Lib.hid hpk
              have hq3 : (q : Int) < 32 := by omega
              clear hO2 hpk hy hnl
              go_wp2_with fail
              refine (devpeek_any _ _ _ bd _ q hq2 hO.out.p).mono ?_
              rintro e u1 ⟨rfl, rfl⟩
              rw [Hpk.out]
              go_wp2_with fail
              go_roundw
              case rel => exact ⟨q + 1, by omega, by go_num, HO2.out⟩
              case measure => simp [intOf]; omega
              -- ROUND2 END
            · obtain rfl : q = 32 := by omega
              have hO11 := hO.out
              have hnl : d.now.length = 32 := Hnl.out
              rw [List.take_of_length_le (by omega)] at hO11
              simp only [Nat.sub_self, List.replicate_zero, List.append_nil] at hO11
              have HO11 := Lib.hid hO11
              have Hnl2 := Lib.hid hnl
              obtain ⟨K, hK⟩ : ∃ x, d.now = x := ⟨_, rfl⟩
              have hkd : Hid (d.flush.kept = K) := hK
              have hld : Hid (d.flush.l = []) := hl.out
              have hwd : d.flush.waits = [] := rfl
              rw [hK] at HO11 Hnl2
              generalize d.flush = d1 at HO11 hkd hld hwd
              have Hwd := Lib.hid hwd
              clear hO11 hO hnl hwl hK hwd HO10
              go_wp2_with fail
              go_loopw [13, 14] (fun nn j wr => ∃ (i : Nat) (F : Nat → Prop) (d : Dv) (N : Nat), i ≤ m.length ∧ j = .int .i64 i ∧ nn = .int .i64 N ∧ Hid (N = d.waits.length) ∧ Hid (One w wr bd F d [(w9.heap.size, 28, txt (Dv.keepFrom keep K d.waits 0))]) ∧ Hid (d.l = []) ∧ Hid (d.kept = K) ∧ d.waits.length ≤ 4 * i) (fun _ j _ => m.length - (intOf j).toNat)
              case atStart => exact ⟨0, F, d1, 0, by omega, rfl, rfl, by show _ = _; rw [Hwd.out]; rfl, by show One _ _ _ _ _ _; rw [Hwd.out]; exact HO11.out, hld.out, hkd.out, by rw [Hwd.out]; simp⟩
              case round =>
                obtain ⟨i, F2, d2, N, hi, rfl, rfl, hN, hO2, hl2, hk2, hwl2⟩ := hrel
                by_cases hlt2 : i < m.length
                · have hx : m[i]? = some m[i] := List.getElem?_eq_getElem hlt2
                  generalize m[i] = a at hx
                  obtain ⟨b, off, rfl, _, _, k0, k1, k2, k3, k4, k5, k6, k7, k8⟩ := (HM.out.below hO2.out.lay.below).at_ hx
                  have hok := HM.out.2 a (List.mem_of_getElem? hx)
                  obtain ⟨Bd, dd, e1, _, _⟩ := hok.rc.data.form
                  obtain ⟨Bt, dt, e2, _, _⟩ := hok.rc.tags.form
                  have hW := written_any _ F2 wr bd d2 a hO2.out.p hO2.out.ok hl2.out (by omega) (hok.keep (fun k hk hlt => hO2.out.lay.below.block k hlt)) hO2.out.flt hO2.out.sf hO2.out.slt
                  have ecells : a.cells.toArray = #[Value.string a.kind, Value.bool a.c.r.write, Value.int IntKind.i64 a.c.r.lo, Value.int IntKind.i64 a.c.r.many, Value.slice Bd a.c.r.data.length dd, Value.slice Bt a.c.r.tags.length dt, Value.int IntKind.i64 a.c.r.born, Value.int IntKind.i64 a.n, Value.int IntKind.u64 (a.k : Int)] := by
                    simp [Ac.cells, Rc.cells, e1, e2]
                  rw [ecells] at hW
                  rw [e1] at k4
                  rw [e2] at k5
                  have HW := Lib.hid hW
                  have Hx := Lib.hid hx
                  have He := Lib.hid (And.intro e1 e2)
                  have hdat := hok.rc.data
                  rw [e1] at hdat
                  have Hdat := Lib.hid hdat
                  have hi1 : (i : Int) < (m.length : Int) := by omega
                  clear hx hok e1 e2 ecells hW hdat
                  go_wp2_with fail
                  refine HW.out.mono ?_
                  rintro e w6 ⟨F6, rfl, hd6, hc6, hF6⟩
                  have hwo := writtenM_ok hO2.out.ok hl2.out a.c.r
                  have HO6 := Lib.hid (hO2.out.prog hd6 hc6 hF6 hwo.1)
                  have Hwo := Lib.hid hwo
                  clear hd6 hc6 hF6 hwo HW k0 k1 k2 k3 k4 k5 k6 k7 k8
                  by_cases hf : reqF a.c.r = 0
                  rotate_left
                  · have he : writtenM d2 a.c.r = (d2, false) := if_neg hf
                    rw [he] at HO6 ⊢
                    go_wp2_with fail
                    go_roundw
                    case rel =>
                      (repeat apply Exists.intro)
                      refine ⟨?rel, ?fr⟩
                      case fr => (repeat' (first | rfl | apply And.intro))
                      case rel => exact ⟨i + 1, F6, d2, N, by omega, by go_num, rfl, hN.out, HO6.out, hl2.out, hk2.out, by omega⟩
                    case measure => simp [intOf]; omega
                  obtain ⟨m1, m2, m3⟩ := writtenM_more hf hl2.out
                  rw [m1]
                  have HR := Lib.hid (reqF_zero hf)
                  obtain ⟨dn, hdn⟩ : ∃ x, (writtenM d2 a.c.r).1 = x := ⟨_, rfl⟩
                  rw [hdn] at HO6 m2 m3 Hwo
                  have Hm2 := Lib.hid m2
                  have Hm3 := Lib.hid m3
                  clear m1 m2 m3 hf hdn
                  obtain ⟨b', off', e, _, _, k0, k1, k2, k3, k4, k5, k6, k7, k8⟩ := (HM.out.below HO6.out.lay.below).at_ Hx.out
                  cases e
                  rw [He.out.1] at k4
                  rw [He.out.2] at k5
                  generalize a.c.r = r at *
                  go_wp2_with fail
                  generalize hW7 : World.alloc _ _ = W7
                  have hO7 := HO6.out.alloc w6.heap.size #[Value.bool r.write, Value.int IntKind.i64 r.lo, Value.int IntKind.i64 r.many, Value.slice Bd r.data.length dd, Value.slice Bt r.tags.length dt, Value.int IntKind.i64 r.born] 38 rfl
                  rw [hW7] at hO7
                  have HO7 := Lib.hid hO7
                  clear hO7 hW7 HO6 k0 k1 k2 k3 k4 k5 k6 k7 k8
                  rcases Bool.eq_false_or_eq_true r.write with hwr | hwr
                  · have hw3 : dn.waits = d2.waits ++ Dv.putsOf r.lo.toNat r.data := by rw [Hm3.out, if_pos hwr]
                    have Hw3 := Lib.hid hw3
                    obtain ⟨p, n, hlo, hmany, hpn, hn1, hn4⟩ := HR.out.nats
                    have hdl : r.data.length = n := by have := HR.out.len hwr; omega
                    have hpl : r.lo.toNat = p := by omega
                    rw [hpl] at Hw3
                    have Hkl : Hid (∀ W, (Dv.keepFrom keep K W 0).length = 32) := fun W => by rw [Dv.keepFrom_len]; exact Hnl2.out
                    have hNl := hN.out
                    have HNl := Lib.hid hNl
                    clear hw3 hpl hNl
                    simp only [hwr, hlo, hmany, hdl] at HO7
                    go_loopw [13, 16] (fun nn jj wq => ∃ (k N' : Nat), k ≤ n ∧ jj = .int .i64 k ∧ nn = .int .i64 N' ∧ Hid (N' = d2.waits.length + k) ∧ Hid (One w wq bd F6 dn [(w6.heap.size, 38, #[Value.bool true, Value.int IntKind.i64 (p : Int), Value.int IntKind.i64 (n : Int), Value.slice Bd n dd, Value.slice Bt r.tags.length dt, Value.int IntKind.i64 r.born]), (w9.heap.size, 28, txt (Dv.keepFrom keep K (d2.waits ++ Dv.putsOf p (r.data.take k)) 0))])) (fun _ jj _ => n - (intOf jj).toNat)
                    case atStart => exact ⟨0, N, by omega, rfl, rfl, HNl.out, by show One _ _ _ _ _ _; simp only [List.take_zero, Dv.putsOf, List.append_nil]; exact HO7.out⟩
                    case round =>
                      obtain ⟨k, N', hk, rfl, rfl, hN', hOq⟩ := hrel
                      obtain ⟨c0, c1, c2, c3, c4, c5⟩ := hOq.out.lay.c6 0 rfl
                      by_cases hkn : k < n
                      · have hx : r.data[k]? = some r.data[k] := List.getElem?_eq_getElem (by omega)
                        have hDat := Hdat.out
                        obtain ⟨bs, os, rfl, _, hbs, hcell⟩ := hDat.at_ (show 0 < r.data.length by omega)
                        obtain ⟨hcx, _⟩ := hcell k _ hx
                        have hcx : wr.cell? ⟨bs, os + k, none⟩ = _ := (hOq.out.lay.below.cell (p := ⟨bs, os + k, none⟩) hbs).trans hcx
                        generalize r.data[k] = x at hx hcx
                        obtain ⟨y, hy⟩ : ∃ y, (Dv.keepFrom keep K (d2.waits ++ Dv.putsOf p (r.data.take k)) 0)[p + k]? = some y := ⟨_, List.getElem?_eq_getElem (by rw [Hkl.out]; omega)⟩
                        have hcy : wr.cell? ⟨w9.heap.size, p + k, none⟩ = some (.string y) := by rw [hOq.out.lay.cell 1 rfl (p + k)]; exact txt_at hy
                        have hfy := hOq.out.lay.frozen 1 rfl (p + k)
                        have hat : IntKind.i64.wrap ((p : Int) + (k : Int)) = ((p + k : Nat) : Int) := by rw [IntWalk.i64_in _ (by omega)]; omega
                        have hat1 : (0 : Int) ≤ ((p + k : Nat) : Int) := by omega
                        have hat2 : ((p + k : Nat) : Int) < 32 := by omega
                        have hat3 : (0 : Int) ≤ (p : Int) + (k : Int) := by omega
                        have hat4 : (p : Int) + (k : Int) < 32 := by omega
                        have hat5 : ((p : Int) + (k : Int)).toNat = p + k := by omega
                        have hk1 : (k : Int) < (n : Int) := by omega
                        have hNb : IntKind.i64.wrap ((N' : Int) + 1) = (N' : Int) + 1 := IntWalk.i64_in _ (by have := hN'.out; omega)
                        have hO2' := hOq.out.set 1 rfl (p + k) (.string x)
                        simp only [List.set_cons_succ, List.set_cons_zero] at hO2'
                        rw [txt_set] at hO2'
                        have hws := want_succ (keep := keep) (p := p) (K := K) (W := d2.waits) hx
                        rw [← hN'.out] at hws
                        have HO2' := Lib.hid hO2'
                        have Hws := Lib.hid hws
                        have HOq := Lib.hid hOq.out
                        clear hO2' hws hx hcell hy hDat hOq
                        rcases Bool.eq_false_or_eq_true (Dv.bit keep N') with hb | hb
                        · have hbit : (bits BinOp.and IntKind.u64 ((keep : Int) / 2 ^ (N' % 64)) 1 == 1) = true := by rw [keep_bit hkeep]; exact hb
                          have Hb := Lib.hid hb
                          clear hb
                          go_wp2_with fail
                          go_region
                          go_wp2_with fail
                          go_roundw
                          case rel => exact ⟨k + 1, N' + 1, by omega, by go_num, by go_num, by have := hN'.out; show _ = _; omega, by show One _ _ _ _ _ _; rw [Hws.out, Hb.out]; exact HO2'.out.step (Below.refl _ _).drew⟩
                          case measure => simp [intOf]; omega
                        · have hbit : (bits BinOp.and IntKind.u64 ((keep : Int) / 2 ^ (N' % 64)) 1 == 1) = false := by rw [keep_bit hkeep]; exact hb
                          have Hb := Lib.hid hb
                          clear hb
                          go_wp2_with fail
                          go_roundw
                          case rel => exact ⟨k + 1, N' + 1, by omega, by go_num, by go_num, by have := hN'.out; show _ = _; omega, by show One _ _ _ _ _ _; rw [Hws.out, Hb.out]; exact HOq.out⟩
                          case measure => simp [intOf]; omega
                      · obtain rfl : k = n := by omega
                        have hfin := hOq.out.tail
                        rw [List.take_of_length_le (by omega), ← Hw3.out] at hfin
                        have Hfin := Lib.hid hfin
                        have hNf : N' = dn.waits.length := by rw [Hw3.out, List.length_append, Dv.putsOf_len]; have := hN'.out; omega
                        have HNf := Lib.hid hNf
                        clear hfin hOq hNf
                        go_wp2_with fail
                        go_roundw
                        case rel =>
                          first
                            | exact ⟨i + 1, F6, dn, N', by omega, by go_num, rfl, HNf.out, Hfin.out, Hwo.out.2.1, by show _ = _; rw [Hm2.out]; exact hk2.out, by have := Hwo.out.2.2; omega⟩
                            | exact ⟨i + 1, by omega, by omega, F6, dn, N', rfl, HNf.out, Hfin.out, Hwo.out.2.1, by show _ = _; rw [Hm2.out]; exact hk2.out, by have := Hwo.out.2.2; omega⟩
                            | ((repeat apply Exists.intro)
                               refine ⟨?rel, ?fr⟩
                               case fr => (repeat' (first | rfl | apply And.intro))
                               case rel => first | exact ⟨i + 1, F6, dn, N', by omega, by go_num, rfl, HNf.out, Hfin.out, Hwo.out.2.1, by show _ = _; rw [Hm2.out]; exact hk2.out, by have := Hwo.out.2.2; omega⟩ | exact ⟨i + 1, by omega, by omega, F6, dn, N', rfl, HNf.out, Hfin.out, Hwo.out.2.1, by show _ = _; rw [Hm2.out]; exact hk2.out, by have := Hwo.out.2.2; omega⟩)
                        case measure => simp [intOf]; omega
                  · have hw3 : dn.waits = d2.waits := by rw [Hm3.out, if_neg (by rw [hwr]; simp)]; simp [Dv.putsOf]
                    have Hw3 := Lib.hid hw3
                    clear hw3
                    go_loopw [13, 16] (fun nn jj wq => nn = .int .i64 N ∧ jj = .int .i64 0 ∧ Hid (W7 = wq)) (fun _ _ _ => 0)
                    case atStart => exact ⟨rfl, rfl, rfl⟩
                    case round =>
                      obtain ⟨rfl, rfl, hq⟩ := hrel
                      have hq' := hq.out
                      subst hq'
                      obtain ⟨c0, c1, c2, c3, c4, c5⟩ := HO7.out.lay.c6 0 rfl
                      have hmp : (0 : Int) < r.many := by have := HR.out.span; unfold SpanOk at this; omega
                      go_wp2_with fail
                      go_roundw
                      case rel =>
                        first
                          | exact ⟨i + 1, F6, dn, N, by omega, by go_num, rfl, by show _ = _; rw [Hw3.out]; exact hN.out, by show One _ _ _ _ _ _; rw [Hw3.out]; exact HO7.out.tail, Hwo.out.2.1, by show _ = _; rw [Hm2.out]; exact hk2.out, by rw [Hw3.out]; omega⟩
                          | exact ⟨i + 1, by omega, by omega, F6, dn, N, rfl, by show _ = _; rw [Hw3.out]; exact hN.out, by show One _ _ _ _ _ _; rw [Hw3.out]; exact HO7.out.tail, Hwo.out.2.1, by show _ = _; rw [Hm2.out]; exact hk2.out, by rw [Hw3.out]; omega⟩
                          | ((repeat apply Exists.intro)
                             refine ⟨?rel, ?fr⟩
                             case fr => (repeat' (first | rfl | apply And.intro))
                             case rel => first | exact ⟨i + 1, F6, dn, N, by omega, by go_num, rfl, by show _ = _; rw [Hw3.out]; exact hN.out, by show One _ _ _ _ _ _; rw [Hw3.out]; exact HO7.out.tail, Hwo.out.2.1, by show _ = _; rw [Hm2.out]; exact hk2.out, by rw [Hw3.out]; omega⟩ | exact ⟨i + 1, by omega, by omega, F6, dn, N, rfl, by show _ = _; rw [Hw3.out]; exact hN.out, by show One _ _ _ _ _ _; rw [Hw3.out]; exact HO7.out.tail, Hwo.out.2.1, by show _ = _; rw [Hm2.out]; exact hk2.out, by rw [Hw3.out]; omega⟩)
                      case measure => simp [intOf]; omega
                · obtain rfl : i = m.length := by omega
                  go_wp2_with fail
                  refine (devcrash_any _ F2 wr bd d2 keep hkeep hO2.out.p (fun q hq => (hO2.out.ok.waits q hq).1) (by omega) hO2.out.flt hO2.out.sf).mono ?_
                  rintro e w12 ⟨rfl, hd12, hc12⟩
                  have hO12 := hO2.out.prog hd12 hc12 (fun k h => .inl h) (hO2.out.ok.crash keep)
                  have hnw : (d2.crash keep).now = Dv.keepFrom keep K d2.waits 0 := by show Dv.keepFrom keep d2.kept d2.waits 0 = _; rw [hk2.out]
                  rw [← hnw] at hO12
                  have hlc : (d2.crash keep).l = [] := rfl
                  generalize d2.crash keep = dc at hO12 hlc
                  have HO12 := Lib.hid hO12
                  have Hlc := Lib.hid hlc
                  clear hd12 hc12 hO12 hnw hlc hO2
                  go_wp2_with fail
                  go_loopw [17] (fun j wr => ∃ (q : Nat), q ≤ 32 ∧ j = .int .i64 q ∧ Hid (One w wr bd F2 dc [(w9.heap.size, 28, txt dc.now)])) (fun j _ => 32 - (intOf j).toNat)
                  case atStart => exact ⟨0, by omega, rfl, HO12.out⟩
                  case round =>
                    obtain ⟨q, hq, rfl, hOq⟩ := hrel
                    by_cases hq2 : q < 32
                    · obtain ⟨y, hy⟩ : ∃ y, dc.now[q]? = some y := ⟨_, List.getElem?_eq_getElem (by rw [hOq.out.p.now]; omega)⟩
                      have hcy : wr.cell? ⟨w9.heap.size, q, none⟩ = some (.string y) := by rw [hOq.out.lay.cell 0 rfl q]; exact txt_at hy
                      have hpy : dc.peek q = y := by unfold Dv.peek; rw [List.getD_eq_getElem?_getD, hy]; rfl
                      have Hpy := Lib.hid hpy
                      have hq3 : (q : Int) < 32 := by omega
                      clear hy hpy
                      go_wp2_with fail
                      go_region_held3 (fun u => u.cell? ⟨w9.heap.size, q, none⟩ = some (.string y))
                        (((with_reducible refine cell_b ?hb hcy); case hb => repeat (first | (with_reducible exact Below.refl _ _) | (with_reducible refine Below.drew ?_))))
                        (first
                          | (go_at_call 29; refine (devpeek_any _ _ _ bd _ q hq2 (hOq.out.p.below (Below.refl _ _).drew)).mono ?_; rintro e u1 ⟨rfl, rfl⟩; rw [Hpy.out]))
                      go_wp2_with fail
                      have HOd := Lib.hid (hOq.out.step (Below.refl _ _).drew)
                      clear hcy hOq
                      go_roundw
                      case rel => exact ⟨q + 1, by omega, by go_num, HOd.out⟩
                      case measure => simp [intOf]; omega
                    · obtain rfl : q = 32 := by omega
                      go_wp2_with fail
                      refine (devbusy_any _ _ _ bd dc hOq.out.p hOq.out.ok.two).mono ?_
                      rintro e w13 ⟨v13, rfl, hv13, hb13⟩
                      obtain ⟨A13, c13, rfl, _, _⟩ := hv13.form
                      rw [Hlc.out]
                      have hb := Lib.hid (hOq.out.step hb13).lay.below
                      clear hv13 hb13 hOq
                      go_wp2_with fail
                      go_ret
                      exact ⟨rfl, hb.out⟩
end Go.Proofs.Ytdhiepcglnbkbaa
