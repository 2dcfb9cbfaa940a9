/- victim, Pick: who was used least lately, of those that are (not) dirty, and that nobody holds; a function value tells who is held. gen_victim.py prints this text. GoodBufs, SameBufs. held: does a request for a sector wait, or has the disk one? Queue, Busy, Got. queue: a request of one sector, if it may be. gen_stqueue.py prints this text. What Put and Pick bring about, in plain words on lists. What the operations on sectors at hand do, in the words: what a sector has, and is it dirty; how many have something. -/
import Derived.Test.YtojmnfelecnenaaQ6
import Derived.Test.YtojmnfelecnenaaQ1
import Derived.Test.YtojmnfelecnenaaQ4
import Derived.BigQuiet
import Derived.Deep.RegionHeld3
import Derived.Test.YtojmnfelecnenaaQ5
namespace Go.Proofs.Ytojmnfelecnenaa
set_option linter.unusedSimpArgs false
set_option linter.unusedVariables false
open Go.RowKit Go.Sort

/-- A call of a function that has a body: it is entered. -/
theorem enters {f : FuncId} {fn : Func} {c : Code} (hf : Try.prog.funcs[f]? = some fn) (hname : (fn.name == "runtime.NumGoroutine") = false) (hb : fn.body = some c) (args : Array Value) (w : World) : (callFunc f args).run Try.prog w = .ok (.enter f args) w := by
  have h1 : fn.name ≠ "runtime.NumGoroutine" := by simpa using hname
  simp [callFunc, hf, h1, hb]
/-- The function value tells, of each sector that there is, whether it is held; nothing that was there is written. -/
structure HeldBy (w : World) (f : FuncId) (first caps : Array Value) (held : Int → Bool) : Prop where
  enter : ∀ args w', (callFunc f args).run Try.prog w' = .ok (.enter f args) w'
  calls : ∀ (w' : World) (p : Int), Below w.heap.size w w' → 0 ≤ p → p ≤ 31 → Calls Try.prog f (first.push (.int .i64 p) ++ caps) w' (Ret (.bool (held p)) w')
theorem HeldBy.step {w w1 : World} {f : FuncId} {first caps : Array Value} {held : Int → Bool} (h : HeldBy w f first caps held) (hb : Below w.heap.size w w1) : HeldBy w1 f first caps held :=
  ⟨h.enter, fun w' p h1 => h.calls w' p (hb.trans (h1.mono hb.size))⟩
theorem HeldBy.at_ {w w' : World} {f : FuncId} {first caps : Array Value} {held : Int → Bool} {p : Int} {v : Bool} (h : HeldBy w f first caps held) (hv : held p = v) (h0 : 0 ≤ p) (h31 : p ≤ 31) (hb : Below w.heap.size w w') :
    Calls Try.prog f (first.push (.int .i64 p) ++ caps) w' (Ret (.bool v) w') := by rw [← hv]; exact h.calls w' p hb h0 h31
/-- Sectors that there are. -/
def InB (l : List Bf) : Prop := ∀ b ∈ l, 0 ≤ b.pos ∧ b.pos ≤ 31
def okB (dirty : Bool) (held : Int → Bool) (b : Bf) : Bool := (b.dirty == dirty) && !held b.pos
theorem leastB_eq (l : List Bf) (dirty : Bool) (held : Int → Bool) : leastB l dirty held = bestB (okB dirty held) l l.length := rfl
set_option maxRecDepth 100000 in
set_option maxHeartbeats 400000 in
/-- The one that goes. -/
theorem victim_any (S : Nat → Prop) (l : List Bf) (v : Value) (f : FuncId) (first caps : Array Value) (held : Int → Bool) (w : World) (h : BufsAt S w v l) (hin : InB l) (hh : HeldBy w f first caps held) (hn : l.length ≤ 65536) :
    Calls Try.prog 83 #[v, .func (.func f) first caps] w (Ret (.int .i64 (leastB l false held)) w) := by
  obtain ⟨A, cap, rfl, h1, h2⟩ := h.form
  unfold maxLen at h2
  have H := Lib.hid h
  have HH := Lib.hid hh
  have HI := Lib.hid hin
  have hen := hh.enter
  clear h hh hin
  obtain ⟨ok, hok⟩ : ∃ ok, okB false held = ok := ⟨_, rfl⟩
  have HO := Lib.hid hok
  have Hone : Hid (∀ x, ok x = okB false held x) := fun x => by rw [hok]
  clear hok
  go_enter Try.func83, Try.ntmps83
  go_wp2_with fail
  go_loopw [5, 10] (fun b i wr => ∃ k : Nat, k ≤ l.length ∧ i = .int .i64 k ∧ b = .int .i64 (bestB ok l k) ∧ Below w.heap.size w wr) (fun _ i _ => l.length - (intOf i).toNat)
  case atStart => exact ⟨0, by omega, rfl, rfl, Below.refl _ _⟩
  case round =>
    obtain ⟨k, hk, rfl, rfl, hb⟩ := hrel
    have hrange := bestB_range ok l k
    by_cases hlt : k < l.length
    · have hkl : (k : Int) < (l.length : Int) := by omega
      have Hm := Lib.hid (H.out.below hb)
      obtain ⟨b, off, rfl, _, hbl, hc⟩ := Hm.out.at_ (by omega)
      have hx : l[k]? = some l[k] := List.getElem?_eq_getElem hlt
      obtain ⟨_, k0, k1, k2, k3⟩ := hc k _ hx
      have Hp := Lib.hid (HI.out _ (List.mem_of_getElem? hx))
      have Hx := Lib.hid hx
      have Hc := Lib.hid hc
      clear hx hc
      generalize l[k] = x at *
      have Hok := Lib.hid (Hone.out x)
      cases hd : x.dirty with
      | true =>
        rw [hd] at k2
        have Hd := Lib.hid hd
        go_wp2_with fail
        have L := (Lay.refl wr).alloc' wr.heap.size #[.int .i64 x.pos, .string x.data, .bool true, .int .i64 x.used] 92 rfl
        generalize World.alloc _ _ = W at L ⊢
        have hbW := hb.trans (L.below.mono hb.size)
        obtain ⟨c0, c1, c2, c3⟩ := L.c4 0 rfl
        have g0 : ∀ d os, (grow (redrawn W d) os).cell? ⟨wr.heap.size, 0, none⟩ = some (.int .i64 x.pos) := fun _ _ => cell_regrown c0 _ _
        have g2 : ∀ d os, (grow (redrawn W d) os).cell? ⟨wr.heap.size, 2, none⟩ = some (.bool true) := fun _ _ => cell_regrown c2 _ _
        have g3 : ∀ d os, (grow (redrawn W d) os).cell? ⟨wr.heap.size, 3, none⟩ = some (.int .i64 x.used) := fun _ _ => cell_regrown c3 _ _
        have HbW := Lib.hid hbW
        have HL := Lib.hid L
        clear c0 c1 c2 c3 k0 k1 k2 k3 hbW L hb
        clear hrange hd
        refine wp_region_quiet_below mixed (by kernel_rfl) ?_
        repeat (first | go_big_quiet_step ((fail)) | quiet_step ((fail)))
        refine wpQuiet_nil ?_
        intro _ hw'
        obtain ⟨⟨dq, osq⟩, hw''⟩ := hw'
        subst hw''
        have hb4 := HbW.out.trans (Below.mono (below_regrown W dq osq) HbW.out.size)
        clear g0 g2 g3
        generalize grow (redrawn W dq) osq = w4 at hb4 ⊢
        go_wp2
        go_roundw
        case rel => exact ⟨k + 1, by omega, by go_num, by rw [bestB_no Hx.out (by rw [Hok.out]; unfold okB; rw [Hd.out]; rfl)], hb4⟩
        case measure => simp [intOf]; omega
      | false =>
        rw [hd] at k2
        have Hd := Lib.hid hd
        cases hhx : held x.pos with
        | true =>
          have Hhx := Lib.hid hhx
          go_wp2_with fail
          have L := (Lay.refl wr).alloc' wr.heap.size #[.int .i64 x.pos, .string x.data, .bool false, .int .i64 x.used] 92 rfl
          generalize World.alloc _ _ = W at L ⊢
          have hbW := hb.trans (L.below.mono hb.size)
          obtain ⟨c0, c1, c2, c3⟩ := L.c4 0 rfl
          have g0 : ∀ d os, (grow (redrawn W d) os).cell? ⟨wr.heap.size, 0, none⟩ = some (.int .i64 x.pos) := fun _ _ => cell_regrown c0 _ _
          have g2 : ∀ d os, (grow (redrawn W d) os).cell? ⟨wr.heap.size, 2, none⟩ = some (.bool false) := fun _ _ => cell_regrown c2 _ _
          have g3 : ∀ d os, (grow (redrawn W d) os).cell? ⟨wr.heap.size, 3, none⟩ = some (.int .i64 x.used) := fun _ _ => cell_regrown c3 _ _
          have HbW := Lib.hid hbW
          have HL := Lib.hid L
          clear c0 c1 c2 c3 k0 k1 k2 k3 hbW L hb
          clear hrange hd
          refine wp_region_quiet_below mixed (by kernel_rfl) ?_
          repeat (first | go_big_quiet_step ((exact Calls.rg (HH.out.at_ Hhx.out Hp.out.1 Hp.out.2 (HbW.out.trans (Below.mono (below_regrown W _ _) HbW.out.size))))) | quiet_step ((exact Calls.rg (HH.out.at_ Hhx.out Hp.out.1 Hp.out.2 (HbW.out.trans (Below.mono (below_regrown W _ _) HbW.out.size))))))
          refine wpQuiet_nil ?_
          intro _ hw'
          obtain ⟨⟨dq, osq⟩, hw''⟩ := hw'
          subst hw''
          have hb4 := HbW.out.trans (Below.mono (below_regrown W dq osq) HbW.out.size)
          clear g0 g2 g3
          generalize grow (redrawn W dq) osq = w4 at hb4 ⊢
          go_wp2
          go_roundw
          case rel => exact ⟨k + 1, by omega, by go_num, by rw [bestB_no Hx.out (by rw [Hok.out]; unfold okB; rw [Hd.out, Hhx.out]; rfl)], hb4⟩
          case measure => simp [intOf]; omega
        | false =>
          have Hhx := Lib.hid hhx
          by_cases hneg : bestB ok l k < 0
          · have hm1 : bestB ok l k = -1 := by omega
            have Hm1 := Lib.hid hm1
            rw [hm1]
            clear hm1 hneg
            go_wp2_with fail
            have L := (Lay.refl wr).alloc' wr.heap.size #[.int .i64 x.pos, .string x.data, .bool false, .int .i64 x.used] 92 rfl
            generalize World.alloc _ _ = W at L ⊢
            have hbW := hb.trans (L.below.mono hb.size)
            obtain ⟨c0, c1, c2, c3⟩ := L.c4 0 rfl
            have g0 : ∀ d os, (grow (redrawn W d) os).cell? ⟨wr.heap.size, 0, none⟩ = some (.int .i64 x.pos) := fun _ _ => cell_regrown c0 _ _
            have g2 : ∀ d os, (grow (redrawn W d) os).cell? ⟨wr.heap.size, 2, none⟩ = some (.bool false) := fun _ _ => cell_regrown c2 _ _
            have g3 : ∀ d os, (grow (redrawn W d) os).cell? ⟨wr.heap.size, 3, none⟩ = some (.int .i64 x.used) := fun _ _ => cell_regrown c3 _ _
            have HbW := Lib.hid hbW
            have HL := Lib.hid L
            clear c0 c1 c2 c3 k0 k1 k2 k3 hbW L hb
            clear hrange hd
            refine wp_region_quiet_below mixed (by kernel_rfl) ?_
            repeat (first | go_big_quiet_step ((exact Calls.rg (HH.out.at_ Hhx.out Hp.out.1 Hp.out.2 (HbW.out.trans (Below.mono (below_regrown W _ _) HbW.out.size))))) | quiet_step ((exact Calls.rg (HH.out.at_ Hhx.out Hp.out.1 Hp.out.2 (HbW.out.trans (Below.mono (below_regrown W _ _) HbW.out.size))))))
            refine wpQuiet_nil ?_
            intro _ hw'
            obtain ⟨⟨dq, osq⟩, hw''⟩ := hw'
            subst hw''
            have hb4 := HbW.out.trans (Below.mono (below_regrown W dq osq) HbW.out.size)
            clear g0 g2 g3
            generalize grow (redrawn W dq) osq = w4 at hb4 ⊢
            go_wp2
            go_roundw
            case rel => exact ⟨k + 1, by omega, by go_num, by rw [bestB_first Hx.out (by rw [Hok.out]; unfold okB; rw [Hd.out, Hhx.out]; rfl) (by rw [Hm1.out]; omega)], hb4⟩
            case measure => simp [intOf]; omega
          · obtain ⟨j, hj⟩ : ∃ j : Nat, bestB ok l k = j := ⟨(bestB ok l k).toNat, by omega⟩
            have Hj := Lib.hid hj
            rw [hj]
            have hjk : j < k := by omega
            have hjl : (j : Int) < (l.length : Int) := by omega
            have hj0 : ¬ (j : Int) < 0 := by omega
            clear hj hneg
            have hxj : l[j]? = some l[j] := List.getElem?_eq_getElem (by omega)
            have Hxj := Lib.hid hxj
            clear hxj
            generalize l[j] = y at *
            by_cases hless : x.used < y.used
            · have Hless := Lib.hid hless
              go_wp2_with fail
              have L := (Lay.refl wr).alloc' wr.heap.size #[.int .i64 x.pos, .string x.data, .bool false, .int .i64 x.used] 92 rfl
              generalize World.alloc _ _ = W at L ⊢
              have hbW := hb.trans (L.below.mono hb.size)
              obtain ⟨c0, c1, c2, c3⟩ := L.c4 0 rfl
              have g0 : ∀ d os, (grow (redrawn W d) os).cell? ⟨wr.heap.size, 0, none⟩ = some (.int .i64 x.pos) := fun _ _ => cell_regrown c0 _ _
              have g2 : ∀ d os, (grow (redrawn W d) os).cell? ⟨wr.heap.size, 2, none⟩ = some (.bool false) := fun _ _ => cell_regrown c2 _ _
              have g3 : ∀ d os, (grow (redrawn W d) os).cell? ⟨wr.heap.size, 3, none⟩ = some (.int .i64 x.used) := fun _ _ => cell_regrown c3 _ _
              obtain ⟨_, j0, j1, j2, j3⟩ := Hc.out j _ Hxj.out
              have g4 : ∀ d os, (grow (redrawn W d) os).cell? ⟨b, off + j * 4 + 3, none⟩ = some (.int .i64 y.used) := fun _ _ => cell_regrown (cell_b L.below j3) _ _
              clear j0 j1 j2 j3
              have HbW := Lib.hid hbW
              have HL := Lib.hid L
              clear c0 c1 c2 c3 k0 k1 k2 k3 hbW L hb
              clear hrange hd
              refine wp_region_quiet_below mixed (by kernel_rfl) ?_
              repeat (first | go_big_quiet_step ((exact Calls.rg (HH.out.at_ Hhx.out Hp.out.1 Hp.out.2 (HbW.out.trans (Below.mono (below_regrown W _ _) HbW.out.size))))) | quiet_step ((exact Calls.rg (HH.out.at_ Hhx.out Hp.out.1 Hp.out.2 (HbW.out.trans (Below.mono (below_regrown W _ _) HbW.out.size))))))
              refine wpQuiet_nil ?_
              intro _ hw'
              obtain ⟨⟨dq, osq⟩, hw''⟩ := hw'
              subst hw''
              have hb4 := HbW.out.trans (Below.mono (below_regrown W dq osq) HbW.out.size)
              clear g0 g2 g3
              generalize grow (redrawn W dq) osq = w4 at hb4 ⊢
              go_wp2
              go_roundw
              case rel => exact ⟨k + 1, by omega, by go_num, by rw [bestB_less Hx.out (by rw [Hok.out]; unfold okB; rw [Hd.out, Hhx.out]; rfl) Hj.out Hxj.out Hless.out], hb4⟩
              case measure => simp [intOf]; omega
            · have Hless := Lib.hid hless
              have hless2 : decide (x.used < y.used) = false := decide_eq_false hless
              go_wp2_with fail
              have L := (Lay.refl wr).alloc' wr.heap.size #[.int .i64 x.pos, .string x.data, .bool false, .int .i64 x.used] 92 rfl
              generalize World.alloc _ _ = W at L ⊢
              have hbW := hb.trans (L.below.mono hb.size)
              obtain ⟨c0, c1, c2, c3⟩ := L.c4 0 rfl
              have g0 : ∀ d os, (grow (redrawn W d) os).cell? ⟨wr.heap.size, 0, none⟩ = some (.int .i64 x.pos) := fun _ _ => cell_regrown c0 _ _
              have g2 : ∀ d os, (grow (redrawn W d) os).cell? ⟨wr.heap.size, 2, none⟩ = some (.bool false) := fun _ _ => cell_regrown c2 _ _
              have g3 : ∀ d os, (grow (redrawn W d) os).cell? ⟨wr.heap.size, 3, none⟩ = some (.int .i64 x.used) := fun _ _ => cell_regrown c3 _ _
              obtain ⟨_, j0, j1, j2, j3⟩ := Hc.out j _ Hxj.out
              have g4 : ∀ d os, (grow (redrawn W d) os).cell? ⟨b, off + j * 4 + 3, none⟩ = some (.int .i64 y.used) := fun _ _ => cell_regrown (cell_b L.below j3) _ _
              clear j0 j1 j2 j3
              have HbW := Lib.hid hbW
              have HL := Lib.hid L
              clear c0 c1 c2 c3 k0 k1 k2 k3 hbW L hb
              clear hrange hd
              refine wp_region_quiet_below mixed (by kernel_rfl) ?_
              repeat (first | go_big_quiet_step ((exact Calls.rg (HH.out.at_ Hhx.out Hp.out.1 Hp.out.2 (HbW.out.trans (Below.mono (below_regrown W _ _) HbW.out.size))))) | quiet_step ((exact Calls.rg (HH.out.at_ Hhx.out Hp.out.1 Hp.out.2 (HbW.out.trans (Below.mono (below_regrown W _ _) HbW.out.size))))))
              refine wpQuiet_nil ?_
              intro _ hw'
              obtain ⟨⟨dq, osq⟩, hw''⟩ := hw'
              subst hw''
              have hb4 := HbW.out.trans (Below.mono (below_regrown W dq osq) HbW.out.size)
              clear g0 g2 g3
              generalize grow (redrawn W dq) osq = w4 at hb4 ⊢
              go_wp2
              go_roundw
              case rel => exact ⟨k + 1, by omega, by go_num, by rw [bestB_more Hx.out Hj.out Hxj.out (by have := Hless.out; omega)], hb4⟩
              case measure => simp [intOf]; omega
    · obtain rfl : k = l.length := by omega
      clear hrange
      go_wp2
      go_ret
      refine ⟨?_, hb⟩
      rw [leastB_eq, HO.out]; rfl
set_option maxRecDepth 100000 in
set_option maxHeartbeats 400000 in
/-- The one that is written. -/
theorem pick_any (S : Nat → Prop) (l : List Bf) (v : Value) (f : FuncId) (first caps : Array Value) (held : Int → Bool) (w : World) (h : BufsAt S w v l) (hin : InB l) (hh : HeldBy w f first caps held) (hn : l.length ≤ 65536) :
    Calls Try.prog 49 #[v, .func (.func f) first caps] w (Ret (.int .i64 (pickB l held)) w) := by
  obtain ⟨A, cap, rfl, h1, h2⟩ := h.form
  unfold maxLen at h2
  have H := Lib.hid h
  have HH := Lib.hid hh
  have HI := Lib.hid hin
  have hen := hh.enter
  clear h hh hin
  obtain ⟨ok, hok⟩ : ∃ ok, okB true held = ok := ⟨_, rfl⟩
  have HO := Lib.hid hok
  have Hone : Hid (∀ x, ok x = okB true held x) := fun x => by rw [hok]
  clear hok
  go_enter Try.func49, Try.ntmps49
  go_wp2_with fail
  go_loopw [5, 10] (fun b i wr => ∃ k : Nat, k ≤ l.length ∧ i = .int .i64 k ∧ b = .int .i64 (bestB ok l k) ∧ Below w.heap.size w wr) (fun _ i _ => l.length - (intOf i).toNat)
  case atStart => exact ⟨0, by omega, rfl, rfl, Below.refl _ _⟩
  case round =>
    obtain ⟨k, hk, rfl, rfl, hb⟩ := hrel
    have hrange := bestB_range ok l k
    by_cases hlt : k < l.length
    · have hkl : (k : Int) < (l.length : Int) := by omega
      have Hm := Lib.hid (H.out.below hb)
      obtain ⟨b, off, rfl, _, hbl, hc⟩ := Hm.out.at_ (by omega)
      have hx : l[k]? = some l[k] := List.getElem?_eq_getElem hlt
      obtain ⟨_, k0, k1, k2, k3⟩ := hc k _ hx
      have Hp := Lib.hid (HI.out _ (List.mem_of_getElem? hx))
      have Hx := Lib.hid hx
      have Hc := Lib.hid hc
      clear hx hc
      generalize l[k] = x at *
      have Hok := Lib.hid (Hone.out x)
      cases hd : x.dirty with
      | false =>
        rw [hd] at k2
        have Hd := Lib.hid hd
        go_wp2_with fail
        have L := (Lay.refl wr).alloc' wr.heap.size #[.int .i64 x.pos, .string x.data, .bool false, .int .i64 x.used] 92 rfl
        generalize World.alloc _ _ = W at L ⊢
        have hbW := hb.trans (L.below.mono hb.size)
        obtain ⟨c0, c1, c2, c3⟩ := L.c4 0 rfl
        have g0 : ∀ d os, (grow (redrawn W d) os).cell? ⟨wr.heap.size, 0, none⟩ = some (.int .i64 x.pos) := fun _ _ => cell_regrown c0 _ _
        have g2 : ∀ d os, (grow (redrawn W d) os).cell? ⟨wr.heap.size, 2, none⟩ = some (.bool false) := fun _ _ => cell_regrown c2 _ _
        have g3 : ∀ d os, (grow (redrawn W d) os).cell? ⟨wr.heap.size, 3, none⟩ = some (.int .i64 x.used) := fun _ _ => cell_regrown c3 _ _
        have HbW := Lib.hid hbW
        have HL := Lib.hid L
        clear c0 c1 c2 c3 k0 k1 k2 k3 hbW L hb
        clear hrange hd
        refine wp_region_quiet_below mixed (by kernel_rfl) ?_
        repeat (first | go_big_quiet_step ((fail)) | quiet_step ((fail)))
        refine wpQuiet_nil ?_
        intro _ hw'
        obtain ⟨⟨dq, osq⟩, hw''⟩ := hw'
        subst hw''
        have hb4 := HbW.out.trans (Below.mono (below_regrown W dq osq) HbW.out.size)
        clear g0 g2 g3
        generalize grow (redrawn W dq) osq = w4 at hb4 ⊢
        go_wp2
        go_roundw
        case rel => exact ⟨k + 1, by omega, by go_num, by rw [bestB_no Hx.out (by rw [Hok.out]; unfold okB; rw [Hd.out]; rfl)], hb4⟩
        case measure => simp [intOf]; omega
      | true =>
        rw [hd] at k2
        have Hd := Lib.hid hd
        cases hhx : held x.pos with
        | true =>
          have Hhx := Lib.hid hhx
          go_wp2_with fail
          have L := (Lay.refl wr).alloc' wr.heap.size #[.int .i64 x.pos, .string x.data, .bool true, .int .i64 x.used] 92 rfl
          generalize World.alloc _ _ = W at L ⊢
          have hbW := hb.trans (L.below.mono hb.size)
          obtain ⟨c0, c1, c2, c3⟩ := L.c4 0 rfl
          have g0 : ∀ d os, (grow (redrawn W d) os).cell? ⟨wr.heap.size, 0, none⟩ = some (.int .i64 x.pos) := fun _ _ => cell_regrown c0 _ _
          have g2 : ∀ d os, (grow (redrawn W d) os).cell? ⟨wr.heap.size, 2, none⟩ = some (.bool true) := fun _ _ => cell_regrown c2 _ _
          have g3 : ∀ d os, (grow (redrawn W d) os).cell? ⟨wr.heap.size, 3, none⟩ = some (.int .i64 x.used) := fun _ _ => cell_regrown c3 _ _
          have HbW := Lib.hid hbW
          have HL := Lib.hid L
          clear c0 c1 c2 c3 k0 k1 k2 k3 hbW L hb
          clear hrange hd
          refine wp_region_quiet_below mixed (by kernel_rfl) ?_
          repeat (first | go_big_quiet_step ((exact Calls.rg (HH.out.at_ Hhx.out Hp.out.1 Hp.out.2 (HbW.out.trans (Below.mono (below_regrown W _ _) HbW.out.size))))) | quiet_step ((exact Calls.rg (HH.out.at_ Hhx.out Hp.out.1 Hp.out.2 (HbW.out.trans (Below.mono (below_regrown W _ _) HbW.out.size))))))
          refine wpQuiet_nil ?_
          intro _ hw'
          obtain ⟨⟨dq, osq⟩, hw''⟩ := hw'
          subst hw''
          have hb4 := HbW.out.trans (Below.mono (below_regrown W dq osq) HbW.out.size)
          clear g0 g2 g3
          generalize grow (redrawn W dq) osq = w4 at hb4 ⊢
          go_wp2
          go_roundw
          case rel => exact ⟨k + 1, by omega, by go_num, by rw [bestB_no Hx.out (by rw [Hok.out]; unfold okB; rw [Hd.out, Hhx.out]; rfl)], hb4⟩
          case measure => simp [intOf]; omega
        | false =>
          have Hhx := Lib.hid hhx
          by_cases hneg : bestB ok l k < 0
          · have hm1 : bestB ok l k = -1 := by omega
            have Hm1 := Lib.hid hm1
            rw [hm1]
            clear hm1 hneg
            go_wp2_with fail
            have L := (Lay.refl wr).alloc' wr.heap.size #[.int .i64 x.pos, .string x.data, .bool true, .int .i64 x.used] 92 rfl
            generalize World.alloc _ _ = W at L ⊢
            have hbW := hb.trans (L.below.mono hb.size)
            obtain ⟨c0, c1, c2, c3⟩ := L.c4 0 rfl
            have g0 : ∀ d os, (grow (redrawn W d) os).cell? ⟨wr.heap.size, 0, none⟩ = some (.int .i64 x.pos) := fun _ _ => cell_regrown c0 _ _
            have g2 : ∀ d os, (grow (redrawn W d) os).cell? ⟨wr.heap.size, 2, none⟩ = some (.bool true) := fun _ _ => cell_regrown c2 _ _
            have g3 : ∀ d os, (grow (redrawn W d) os).cell? ⟨wr.heap.size, 3, none⟩ = some (.int .i64 x.used) := fun _ _ => cell_regrown c3 _ _
            have HbW := Lib.hid hbW
            have HL := Lib.hid L
            clear c0 c1 c2 c3 k0 k1 k2 k3 hbW L hb
            clear hrange hd
            refine wp_region_quiet_below mixed (by kernel_rfl) ?_
            repeat (first | go_big_quiet_step ((exact Calls.rg (HH.out.at_ Hhx.out Hp.out.1 Hp.out.2 (HbW.out.trans (Below.mono (below_regrown W _ _) HbW.out.size))))) | quiet_step ((exact Calls.rg (HH.out.at_ Hhx.out Hp.out.1 Hp.out.2 (HbW.out.trans (Below.mono (below_regrown W _ _) HbW.out.size))))))
            refine wpQuiet_nil ?_
            intro _ hw'
            obtain ⟨⟨dq, osq⟩, hw''⟩ := hw'
            subst hw''
            have hb4 := HbW.out.trans (Below.mono (below_regrown W dq osq) HbW.out.size)
            clear g0 g2 g3
            generalize grow (redrawn W dq) osq = w4 at hb4 ⊢
            go_wp2
            go_roundw
            case rel => exact ⟨k + 1, by omega, by go_num, by rw [bestB_first Hx.out (by rw [Hok.out]; unfold okB; rw [Hd.out, Hhx.out]; rfl) (by rw [Hm1.out]; omega)], hb4⟩
            case measure => simp [intOf]; omega
          · obtain ⟨j, hj⟩ : ∃ j : Nat, bestB ok l k = j := ⟨(bestB ok l k).toNat, by omega⟩
            have Hj := Lib.hid hj
            rw [hj]
            have hjk : j < k := by omega
            have hjl : (j : Int) < (l.length : Int) := by omega
            have hj0 : ¬ (j : Int) < 0 := by omega
            clear hj hneg
            have hxj : l[j]? = some l[j] := List.getElem?_eq_getElem (by omega)
            have Hxj := Lib.hid hxj
            clear hxj
            generalize l[j] = y at *
            by_cases hless : x.used < y.used
            · have Hless := Lib.hid hless
              go_wp2_with fail
              have L := (Lay.refl wr).alloc' wr.heap.size #[.int .i64 x.pos, .string x.data, .bool true, .int .i64 x.used] 92 rfl
              generalize World.alloc _ _ = W at L ⊢
              have hbW := hb.trans (L.below.mono hb.size)
              obtain ⟨c0, c1, c2, c3⟩ := L.c4 0 rfl
              have g0 : ∀ d os, (grow (redrawn W d) os).cell? ⟨wr.heap.size, 0, none⟩ = some (.int .i64 x.pos) := fun _ _ => cell_regrown c0 _ _
              have g2 : ∀ d os, (grow (redrawn W d) os).cell? ⟨wr.heap.size, 2, none⟩ = some (.bool true) := fun _ _ => cell_regrown c2 _ _
              have g3 : ∀ d os, (grow (redrawn W d) os).cell? ⟨wr.heap.size, 3, none⟩ = some (.int .i64 x.used) := fun _ _ => cell_regrown c3 _ _
              obtain ⟨_, j0, j1, j2, j3⟩ := Hc.out j _ Hxj.out
              have g4 : ∀ d os, (grow (redrawn W d) os).cell? ⟨b, off + j * 4 + 3, none⟩ = some (.int .i64 y.used) := fun _ _ => cell_regrown (cell_b L.below j3) _ _
              clear j0 j1 j2 j3
              have HbW := Lib.hid hbW
              have HL := Lib.hid L
              clear c0 c1 c2 c3 k0 k1 k2 k3 hbW L hb
              clear hrange hd
              refine wp_region_quiet_below mixed (by kernel_rfl) ?_
              repeat (first | go_big_quiet_step ((exact Calls.rg (HH.out.at_ Hhx.out Hp.out.1 Hp.out.2 (HbW.out.trans (Below.mono (below_regrown W _ _) HbW.out.size))))) | quiet_step ((exact Calls.rg (HH.out.at_ Hhx.out Hp.out.1 Hp.out.2 (HbW.out.trans (Below.mono (below_regrown W _ _) HbW.out.size))))))
              refine wpQuiet_nil ?_
              intro _ hw'
              obtain ⟨⟨dq, osq⟩, hw''⟩ := hw'
              subst hw''
              have hb4 := HbW.out.trans (Below.mono (below_regrown W dq osq) HbW.out.size)
              clear g0 g2 g3
              generalize grow (redrawn W dq) osq = w4 at hb4 ⊢
              go_wp2
              go_roundw
              case rel => exact ⟨k + 1, by omega, by go_num, by rw [bestB_less Hx.out (by rw [Hok.out]; unfold okB; rw [Hd.out, Hhx.out]; rfl) Hj.out Hxj.out Hless.out], hb4⟩
              case measure => simp [intOf]; omega
            · have Hless := Lib.hid hless
              have hless2 : decide (x.used < y.used) = false := decide_eq_false hless
              go_wp2_with fail
              have L := (Lay.refl wr).alloc' wr.heap.size #[.int .i64 x.pos, .string x.data, .bool true, .int .i64 x.used] 92 rfl
              generalize World.alloc _ _ = W at L ⊢
              have hbW := hb.trans (L.below.mono hb.size)
              obtain ⟨c0, c1, c2, c3⟩ := L.c4 0 rfl
              have g0 : ∀ d os, (grow (redrawn W d) os).cell? ⟨wr.heap.size, 0, none⟩ = some (.int .i64 x.pos) := fun _ _ => cell_regrown c0 _ _
              have g2 : ∀ d os, (grow (redrawn W d) os).cell? ⟨wr.heap.size, 2, none⟩ = some (.bool true) := fun _ _ => cell_regrown c2 _ _
              have g3 : ∀ d os, (grow (redrawn W d) os).cell? ⟨wr.heap.size, 3, none⟩ = some (.int .i64 x.used) := fun _ _ => cell_regrown c3 _ _
              obtain ⟨_, j0, j1, j2, j3⟩ := Hc.out j _ Hxj.out
              have g4 : ∀ d os, (grow (redrawn W d) os).cell? ⟨b, off + j * 4 + 3, none⟩ = some (.int .i64 y.used) := fun _ _ => cell_regrown (cell_b L.below j3) _ _
              clear j0 j1 j2 j3
              have HbW := Lib.hid hbW
              have HL := Lib.hid L
              clear c0 c1 c2 c3 k0 k1 k2 k3 hbW L hb
              clear hrange hd
              refine wp_region_quiet_below mixed (by kernel_rfl) ?_
              repeat (first | go_big_quiet_step ((exact Calls.rg (HH.out.at_ Hhx.out Hp.out.1 Hp.out.2 (HbW.out.trans (Below.mono (below_regrown W _ _) HbW.out.size))))) | quiet_step ((exact Calls.rg (HH.out.at_ Hhx.out Hp.out.1 Hp.out.2 (HbW.out.trans (Below.mono (below_regrown W _ _) HbW.out.size))))))
              refine wpQuiet_nil ?_
              intro _ hw'
              obtain ⟨⟨dq, osq⟩, hw''⟩ := hw'
              subst hw''
              have hb4 := HbW.out.trans (Below.mono (below_regrown W dq osq) HbW.out.size)
              clear g0 g2 g3
              generalize grow (redrawn W dq) osq = w4 at hb4 ⊢
              go_wp2
              go_roundw
              case rel => exact ⟨k + 1, by omega, by go_num, by rw [bestB_more Hx.out Hj.out Hxj.out (by have := Hless.out; omega)], hb4⟩
              case measure => simp [intOf]; omega
    · obtain rfl : k = l.length := by omega
      have hpk : pickB l held = if bestB ok l l.length < 0 then -1 else (l.getD (bestB ok l l.length).toNat default).pos := by unfold pickB; rw [leastB_eq, HO.out]
      by_cases hneg : bestB ok l l.length < 0
      · rw [if_pos hneg] at hpk
        have Hpk := Lib.hid hpk
        have hm1 : bestB ok l l.length = -1 := by omega
        rw [hm1]
        clear hrange hneg hpk hm1
        go_wp2
        go_ret
        refine ⟨?_, hb⟩
        rw [Hpk.out]; rfl
      · rw [if_neg hneg] at hpk
        obtain ⟨j, hj⟩ : ∃ j : Nat, bestB ok l l.length = j := ⟨(bestB ok l l.length).toNat, by omega⟩
        rw [hj] at hpk ⊢
        have hjk : j < l.length := by omega
        have hxj : l[j]? = some l[j] := List.getElem?_eq_getElem (by omega)
        rw [Int.toNat_natCast, List.getD_eq_getElem?_getD, hxj, Option.getD_some] at hpk
        have Hpk := Lib.hid hpk
        obtain ⟨b, off, rfl, _, hbl, hc⟩ := (H.out.below hb).at_ (by omega)
        obtain ⟨_, k0, k1, k2, k3⟩ := hc j _ hxj
        generalize l[j] = y at *
        have hjl : (j : Int) < (l.length : Int) := by omega
        have hj0 : ¬ (j : Int) < 0 := by omega
        clear hxj hpk hrange hneg hc hj
        go_wp2
        go_ret
        refine ⟨?_, hb⟩
        rw [Hpk.out]; rfl
end Go.Proofs.Ytojmnfelecnenaa
namespace Go.Proofs.Ytojmnfelecnenaa
set_option linter.unusedSimpArgs false
set_option linter.unusedVariables false
open Go.RowKit

theorem belowN {B : Nat} {a w : World} (h : Below B a w) (n : Nat) : Below B a (w.drewN n) := h.trans ⟨rfl, rfl, rfl, Nat.le_refl _, fun _ _ => rfl⟩
theorem bytes_ne {s t : ByteArray} (h : ¬ s = t) : ¬ s.toList = t.toList := fun e => h (by
  rw [ByteArray.toList_eq, ByteArray.toList_eq] at e
  exact ByteArray.ext (Array.toList_inj.1 e))
theorem run_buf (a b : Bf) (w : World) : (Op.equalIn 10000 92 (bfV a) (bfV b)).run Try.prog w = .ok (decide (a = b)) w := by
  have u1 := Try.underlying3
  have u2 := Try.underlying9
  have u3 := Try.underlying4
  have hS : Try.prog.underlying 92 = some (.struct (Try.prog.fieldsOf 92)) := by kernel_rfl
  have hp : Try.prog.stoodInHeld 92 = false := by kernel_rfl
  rw [show (10000 : Nat) = 9999 + 1 from rfl, run_equalIn_agg w 9999 92 _ _ hS hp]
  simp only [Program.fieldsOf, Try.underlying92]
  obtain ⟨p, d, y, u⟩ := a
  obtain ⟨p', d', y', u'⟩ := b
  go_simp
  by_cases h2 : d = d'
  · subst h2
    by_cases h1 : p = p' <;> by_cases h3 : y = y' <;> by_cases h4 : u = u' <;> simp [h1, h3, h4]
  · have h5 := bytes_ne h2
    by_cases h1 : p = p' <;> by_cases h3 : y = y' <;> by_cases h4 : u = u' <;> simp [h1, h2, h3, h4, h5]
@[go_sem high] theorem buf_eq (a b : Bf) (w : World) : (binOp .eql 92 (bfV a) (bfV b)).run Try.prog w = .ok (.bool (decide (a = b))) w := by
  rw [run_eql_struct, run_buf]; rfl
@[go_sem high] theorem buf_ne (a b : Bf) (w : World) : (binOp .neq 92 (bfV a) (bfV b)).run Try.prog w = .ok (.bool (!decide (a = b))) w := by
  rw [run_neq_struct, run_buf]; rfl
def sameBB (a b : List Bf) : Bool := decide (a = b)
instance (l : List Bf) : Decidable (goodB l) := by unfold goodB Rises; infer_instance
theorem goodB_len {l : List Bf} (h : goodB l) : l.length ≤ 65536 := by have := h.1; omega
end Go.Proofs.Ytojmnfelecnenaa
namespace Go.Proofs.Ytojmnfelecnenaa
set_option linter.unusedSimpArgs false
set_option linter.unusedVariables false
open Go.RowKit Go.Sort

def hasR (p : Int) (x : Rq) : Bool := hasB x.lo x.many p
set_option maxRecDepth 100000 in
theorem held1_any (S : Nat → Prop) (x : Rq) (v : Value) (B : Nat) (T : TypeId) (p : Int) (w : World) (h : ReqAt S w v x) (hB : w.heap[B]? = some (.cells #[.int .i64 p] T (0, 0))) (hx : SpanOk x.lo x.many 4) (hp : 0 ≤ p ∧ p ≤ 31) :
    Calls Try.prog 69 #[v, .pointer (some ⟨B, 0, none⟩)] w (Ret (.bool (hasR p x)) w) := by
  obtain ⟨Ad, cd, At, ct, rfl, _, _, _, _, _, _, _⟩ := h.opened
  obtain ⟨a1, a2, a3, a4, a5⟩ := hx
  obtain ⟨b1, b2⟩ := hp
  have hlt : B < w.heap.size := by
    rcases Nat.lt_or_ge B w.heap.size with h | h
    · exact h
    · rw [Array.getElem?_eq_none h] at hB; cases hB
  have c0 : ∀ o, (w.alloc o).cell? ⟨B, 0, none⟩ = some (.int .i64 p) := fun o => cell_of_row _ _ 0 _ _ _ ((Below.heap_alloc _ _ _ hlt).trans hB)
  clear hB h
  go_enter Try.func69, Try.ntmps69
  go_wp2_with fail
  refine (has_any x.lo x.many p _ a1 (by omega) (by omega) (by omega)).mono ?_
  rintro e w1 ⟨rfl, hb1⟩
  go_wp2
  go_ret
  exact ⟨rfl, ((Below.refl _ _).alloc (Nat.le_refl _) _).trans (hb1.mono (by simp))⟩
set_option maxRecDepth 100000 in
theorem index3_any (S : Nat → Prop) (l : List Rq) (v : Value) (B : Nat) (T : TypeId) (p : Int) (w : World) (h : ReqsAt S w v l) (hB : w.heap[B]? = some (.cells #[.int .i64 p] T (0, 0))) (hl : ∀ x ∈ l, SpanOk x.lo x.many 4) (hr : 0 ≤ p ∧ p ≤ 31) :
    Calls Try.prog 91 #[v, .func (.func 69) #[] #[.pointer (some ⟨B, 0, none⟩)]] w (RetIdxB (fun n => idxTells n (l.any (hasR p))) w) := by
  obtain ⟨A, cap, rfl, h1, h2⟩ := h.form
  unfold maxLen at h2
  have Hl := Lib.hid h
  have HB := Lib.hid hB
  have Hs := Lib.hid hl
  have Hr := Lib.hid hr
  have hlt : B < w.heap.size := by
    rcases Nat.lt_or_ge B w.heap.size with h | h
    · exact h
    · rw [Array.getElem?_eq_none h] at hB; cases hB
  clear h hB hl hr
  go_enter Try.func91, Try.ntmps91
  go_wp2
  go_loopw [8] (fun i wr => ∃ k : Nat, k ≤ l.length ∧ i = .int .i64 k ∧ Below w.heap.size w wr ∧ Hid ((l.take k).any (hasR p) = false)) (fun i _ => l.length - (intOf i).toNat)
  case atStart => exact ⟨0, by omega, rfl, Below.refl _ _, rfl⟩
  case round =>
    obtain ⟨k, hk, rfl, hw, hall⟩ := hrel
    by_cases hlt : k < l.length
    · obtain ⟨b, off, rfl, _, hb, hc⟩ := (Hl.out.below hw).at_ (by omega)
      have hx : l[k]? = some l[k] := List.getElem?_eq_getElem hlt
      obtain ⟨Ad, cd, At, ct, hok, k0, k1, k2, k3, k4, k5⟩ := hc k _ hx
      have Hok := Lib.hid hok
      clear hc hok
      have Hx := Lib.hid hx
      clear hx
      generalize l[k] = s at *
      have Hsx := Lib.hid (Hs.out s (List.mem_of_getElem? Hx.out))
      go_wp2_with fail
      refine (held1_any S s _ B T p _ Hok.out ((hw.block _ (by assumption)).trans HB.out) Hsx.out Hr.out).mono ?_
      rintro e w1 ⟨rfl, hb1⟩
      have hw1 := hw.trans (hb1.mono hw.size)
      clear k0 k1 k2 k3 k4 k5 hb1
      cases hs : hasR p s with
      | false =>
        have Hm := Lib.hid hs
        clear hs
        go_wp2_with fail
        go_roundw
        case rel => exact ⟨k + 1, by omega, by go_num, hw1, by show _ = false; rw [any_take_succ _ _ _ _ Hx.out, hall.out, Hm.out]; rfl⟩
        case measure => simp [intOf]; omega
      | true =>
        have Hm := Lib.hid hs
        clear hs
        go_wp2_with fail
        go_ret
        refine ⟨k, rfl, ?_, hw1⟩
        rw [any_yes _ _ _ _ Hx.out Hm.out]
        simp [idxTells]
    · go_wp2
      go_ret
      refine ⟨-1, rfl, ?_, hw⟩
      rw [any_end _ _ _ (by omega) hall.out]
      simp [idxTells]
theorem contains3_any (S : Nat → Prop) (l : List Rq) (v : Value) (B : Nat) (T : TypeId) (p : Int) (w : World) (h : ReqsAt S w v l) (hB : w.heap[B]? = some (.cells #[.int .i64 p] T (0, 0))) (hl : ∀ x ∈ l, SpanOk x.lo x.many 4) (hr : 0 ≤ p ∧ p ≤ 31) :
    Calls Try.prog 71 #[v, .func (.func 69) #[] #[.pointer (some ⟨B, 0, none⟩)]] w (Ret (.bool (l.any (hasR p))) w) := by
  go_enter Try.func71, Try.ntmps71
  go_wp2_with fail
  refine (index3_any S l _ B T p _ h hB hl hr).mono ?_
  rintro e w1 ⟨n, rfl, hn, hb1⟩
  go_wp2_with fail
  go_ret
  refine ⟨?_, hb1⟩
  cases hb : (l.any (hasR p)) with
  | true => rw [hb] at hn; have := hn.2 rfl; simp [this]
  | false => rw [hb] at hn; have : ¬ 0 ≤ n := fun h => by cases hn.1 h
             simp; omega
section
variable {S S' : Nat → Prop} {w w' : World} {v : Value}
/-- What a callee made is nobody's to write. -/
theorem Im.of {T : Tys} {col : Nat → Nat} {b bd N : Nat} {x : Sv} {s : St} (h : StAt T col w b bd N x s) (hs : w.heap.size ≤ w'.heap.size) : ∀ k, ((Im w col k ∨ w.heap.size ≤ k) ∧ k < w'.heap.size) → Im w' col k := fun k hk => by
  refine ⟨hk.2, ?_⟩
  rcases hk.1 with h1 | h1
  · exact h1.2
  · rcases Nat.eq_zero_or_pos (col k) with h2 | h2
    · exact h2
    · have := h.lt k (by omega); omega
end
/-- It returns a list of requests; nothing that was there was written. -/
def RetReqs (S : Nat → Prop) (l : List Rq) (w : World) : Ending → World → Prop := fun e w' => ∃ v, e = .returned v ∧ ReqsAt (fun b => S b ∨ w.heap.size ≤ b) w' v l ∧ Below w.heap.size w w'
set_option maxRecDepth 100000 in
set_option maxHeartbeats 1000000 in
theorem stbusy_any (col : Nat → Nat) (w : World) (b bd N : Nat) (x : Sv) (s : St) (h : StAt Ts col w b bd N x s) (h2 : s.v.d.l.length ≤ 2) :
    Calls Try.prog 21 #[.pointer (some ⟨b, 0, none⟩)] w (RetReqs (Im w col) s.v.d.l w) := by
  have c0 : w.cell? ⟨b, 0, none⟩ = some (.pointer (some ⟨bd, 0, none⟩)) := h.cell 0
  have H := Lib.hid h
  clear h
  go_enter Try.func21, Try.ntmps21
  go_wp2_with fail
  refine (devbusy_any _ _ _ bd _ H.out.drv.dev h2).mono ?_
  rintro e w1 ⟨v1, rfl, hv1, hb1⟩
  go_wp2_with fail
  go_ret
  exact ⟨v1, rfl, hv1, hb1⟩
set_option maxRecDepth 100000 in
set_option maxHeartbeats 1000000 in
theorem stqueue_any (col : Nat → Nat) (w : World) (b bd N : Nat) (x : Sv) (s : St) (h : StAt Ts col w b bd N x s) (h6 : s.wait.length ≤ 6) :
    Calls Try.prog 20 #[.pointer (some ⟨b, 0, none⟩)] w (RetReqs (Im w col) s.wait w) := by
  have c3 : w.cell? ⟨b, 3, none⟩ = some x.wait := h.cell 3
  obtain ⟨cs, hcs, hrd, hok⟩ := h.wait
  have hlen : cs.length ≤ 65536 := by have : s.wait.length = cs.length := by rw [← hcs, List.length_map]
                                      omega
  have hone : ∀ u ∈ cs.flatMap Rc.cells, u.oneCell' = true := fun u hu => by
    obtain ⟨c, hc, hu⟩ := List.mem_flatMap.1 hu
    exact rc_one _ (hok c hc) u hu
  have Hrd := Lib.hid hrd
  have Hok := Lib.hid hok
  have Hcs := Lib.hid hcs
  clear h hrd hok hcs
  go_enter Try.func20, Try.ntmps20
  go_wp2_with fail
  refine (clone_any _ _ cs.length _ _ Hrd.out hone hlen).mono ?_
  rintro e w1 ⟨v1, rfl, hown, hb1⟩
  have Hown := Lib.hid hown
  clear hown
  go_wp2_with fail
  go_ret
  exact ⟨v1, rfl, ⟨cs, Hcs.out, Rd.of_own w1 (fun k hk => .inr hk) Hown.out, fun c hc => ((Hok.out c hc).below hb1).more (fun k hk => .inl hk)⟩, hb1⟩
set_option maxRecDepth 100000 in
set_option maxHeartbeats 1000000 in
theorem held_any (col : Nat → Nat) (w : World) (b bd N : Nat) (x : Sv) (s : St) (p : Int) (h : StAt Ts col w b bd N x s) (hw : ∀ r ∈ s.wait, SpanOk r.lo r.many 4) (hl : ∀ r ∈ s.v.d.l, SpanOk r.lo r.many 4) (h2 : s.v.d.l.length ≤ 2) (hp : 0 ≤ p ∧ p ≤ 31) :
    Calls Try.prog 50 #[.pointer (some ⟨b, 0, none⟩), .int .i64 p] w (Ret (.bool (s.heldP p)) w) := by
  have H := Lib.hid h
  have Hw := Lib.hid hw
  have Hl := Lib.hid hl
  have Hp := Lib.hid hp
  have e : s.heldP p = (s.wait.any (hasR p) || s.v.d.l.any (hasR p)) := rfl
  have He := Lib.hid e
  rw [e]
  clear h hw hl hp e
  obtain ⟨n0, hn0⟩ : ∃ n, w.heap.size = n := ⟨_, rfl⟩
  have hb0 := (Below.refl w.heap.size w).alloc (Nat.le_refl _) (.cells #[.int .i64 p] 3)
  have hrow := heap_alloc_new w (.cells #[.int .i64 p] 3)
  rw [hn0] at hrow
  have H1 := Lib.hid (H.out.below hb0)
  have c3 := H1.out.cell 3
  have c0 := H1.out.cell 0
  rw [show (x.row s bd)[3]? = some x.wait from rfl] at c3
  rw [show (x.row s bd)[0]? = some (.pointer (some ⟨bd, 0, none⟩)) from rfl] at c0
  have Hb0 := Lib.hid hb0
  have Hrow := Lib.hid hrow
  clear hb0 hrow
  cases hA : s.wait.any (hasR p) with
  | true =>
    go_enter Try.func50, Try.ntmps50
    go_wp2_with fail
    refine (contains3_any _ s.wait _ n0 3 p _ H1.out.wait Hrow.out Hw.out Hp.out).mono ?_
    rw [hA]
    rintro e w1 ⟨rfl, hb1⟩
    clear c3 c0
    go_wp2_with fail
    go_ret
    exact ⟨rfl, Hb0.out.trans (hb1.mono Hb0.out.size)⟩
  | false =>
    go_enter Try.func50, Try.ntmps50
    go_wp2_with fail
    refine (contains3_any _ s.wait _ n0 3 p _ H1.out.wait Hrow.out Hw.out Hp.out).mono ?_
    rw [hA]
    rintro e w1 ⟨rfl, hb1⟩
    have H2 := Lib.hid (H1.out.below hb1)
    have Hb1 := Lib.hid hb1
    clear c3 c0 hb1
    have c0 := H2.out.cell 0
    rw [show (x.row s bd)[0]? = some (.pointer (some ⟨bd, 0, none⟩)) from rfl] at c0
    go_wp2_with fail
    refine (devbusy_any _ _ _ bd _ H2.out.drv.dev h2).mono ?_
    rintro e w2 ⟨v2, rfl, hv2, hb2⟩
    have Hv2 := Lib.hid hv2
    have Hr2 := Lib.hid ((hb2.block _ (Array.getElem?_eq_some_iff.1 ((Hb1.out.block _ (Array.getElem?_eq_some_iff.1 Hrow.out).1).trans Hrow.out)).1).trans ((Hb1.out.block _ (Array.getElem?_eq_some_iff.1 Hrow.out).1).trans Hrow.out))
    have Hb2 := Lib.hid hb2
    clear hv2 hb2 c0
    go_wp2_with fail
    refine (contains3_any _ s.v.d.l _ n0 3 p _ Hv2.out Hr2.out Hl.out Hp.out).mono ?_
    rintro e w3 ⟨rfl, hb3⟩
    have hb4 := Hb0.out.trans ((Hb1.out.trans ((Hb2.out.trans (hb3.mono Hb2.out.size)).mono Hb1.out.size)).mono Hb0.out.size)
    clear hb3
    go_wp2_with fail
    go_ret
    exact ⟨rfl, hb4⟩
/-- The method value s.held tells who is held. -/
theorem held_by (col : Nat → Nat) (w : World) (b bd N : Nat) (x : Sv) (s : St) (h : StAt Ts col w b bd N x s) (hi : ∀ r ∈ s.wait ++ s.v.d.l, ReqOk r) (h2 : s.v.d.l.length ≤ 2) : HeldBy w 50 #[.pointer (some ⟨b, 0, none⟩)] #[] s.heldP :=
  ⟨enters Try.func50 (by kernel_rfl) rfl, fun w' p hb h0 h1 => held_any col w' b bd N x s p (h.below hb) (fun r hr => (hi r (List.mem_append.2 (.inl hr))).span) (fun r hr => (hi r (List.mem_append.2 (.inr hr))).span) h2 ⟨h0, h1⟩⟩
def Sv.dn (x : Sv) : Nat → ByteArray
  | 0 => x.d0
  | 1 => x.d1
  | _ => x.d2
def Sv.er (x : Sv) : Nat → Nat
  | 0 => x.e0
  | 1 => x.e1
  | _ => x.e2
theorem StAt.got_eq {T : Tys} {col : Nat → Nat} {w : World} {b bd N : Nat} {x : Sv} {s : St} (h : StAt T col w b bd N x s) {c : Nat} (hc : c < 3) : s.got c = if x.er c = 0 then (x.dn c, 0) else (noB, x.er c) := by
  unfold St.got
  rw [h.done, h.errs]
  match c, hc with | 0, _ => rfl | 1, _ => rfl | 2, _ => rfl
set_option maxRecDepth 100000 in
set_option maxHeartbeats 1000000 in
theorem got_any (col : Nat → Nat) (w : World) (b bd N : Nat) (x : Sv) (s : St) (c : Nat) (h : StAt Ts col w b bd N x s) (hc : c < 3) :
    Calls Try.prog 26 #[.pointer (some ⟨b, 0, none⟩), .int .i64 (c : Int)] w (Ret (.tuple #[.string (s.got c).1, errV (s.got c).2]) w) := by
  rw [h.got_eq hc]
  match c, hc with
  | 0, _ =>
    have c1 : w.cell? ⟨b, 14, none⟩ = some (.string (x.dn 0)) := h.cell 14
    have c2 : w.cell? ⟨b, 17, none⟩ = some (.int .i64 (x.er 0 : Int)) := h.cell 17
    clear h
    generalize x.dn 0 = D at *
    generalize x.er 0 = E at *
    by_cases he : E = 0
    · subst he
      go_enter Try.func26, Try.ntmps26
      go_wp2_with fail
      go_ret2
      exact ⟨rfl, Below.refl _ _⟩
    · have hne : ((E : Int) != 0) = true := by simp; omega
      rw [if_neg he, errV_pos he]
      go_enter Try.func26, Try.ntmps26
      go_wp2_with fail
      go_quiet (fail)
      go_wp2_with fail
      go_ret2
      exact ⟨rfl, belowN (Below.refl _ _) _⟩
  | 1, _ =>
    have c1 : w.cell? ⟨b, 15, none⟩ = some (.string (x.dn 1)) := h.cell 15
    have c2 : w.cell? ⟨b, 18, none⟩ = some (.int .i64 (x.er 1 : Int)) := h.cell 18
    clear h
    generalize x.dn 1 = D at *
    generalize x.er 1 = E at *
    by_cases he : E = 0
    · subst he
      go_enter Try.func26, Try.ntmps26
      go_wp2_with fail
      go_ret2
      exact ⟨rfl, Below.refl _ _⟩
    · have hne : ((E : Int) != 0) = true := by simp; omega
      rw [if_neg he, errV_pos he]
      go_enter Try.func26, Try.ntmps26
      go_wp2_with fail
      go_quiet (fail)
      go_wp2_with fail
      go_ret2
      exact ⟨rfl, belowN (Below.refl _ _) _⟩
  | 2, _ =>
    have c1 : w.cell? ⟨b, 16, none⟩ = some (.string (x.dn 2)) := h.cell 16
    have c2 : w.cell? ⟨b, 19, none⟩ = some (.int .i64 (x.er 2 : Int)) := h.cell 19
    clear h
    generalize x.dn 2 = D at *
    generalize x.er 2 = E at *
    by_cases he : E = 0
    · subst he
      go_enter Try.func26, Try.ntmps26
      go_wp2_with fail
      go_ret2
      exact ⟨rfl, Below.refl _ _⟩
    · have hne : ((E : Int) != 0) = true := by simp; omega
      rw [if_neg he, errV_pos he]
      go_enter Try.func26, Try.ntmps26
      go_wp2_with fail
      go_quiet (fail)
      go_wp2_with fail
      go_ret2
      exact ⟨rfl, belowN (Below.refl _ _) _⟩
end Go.Proofs.Ytojmnfelecnenaa
namespace Go.Proofs.Ytojmnfelecnenaa
set_option linter.unusedSimpArgs false
set_option linter.unusedVariables false
open Go.RowKit Go.Sort

/-- Who asks does so by the same pointer, or no more. -/
def Avs (x y : Sv) (t : St) : Prop := ∀ j, j < 3 → y.av j = x.av j ∨ t.askAt j = none
theorem Avs.refl {x : Sv} {t : St} : Avs x x t := fun _ _ => .inl rfl
theorem Avs.wait {x : Sv} {t : St} {v : Value} : Avs x { x with wait := v } t := fun _ _ => .inl (by unfold Sv.av; split <;> rfl)
theorem Avs.bufs {x : Sv} {t : St} {v : Value} : Avs x { x with bufs := v } t := fun _ _ => .inl (by unfold Sv.av; split <;> rfl)
theorem Avs.ans {x y : Sv} {t : St} {c : Nat} {d : ByteArray} {e : Nat} (h : Avs x y t) (h3 : t.asks.length = 3) (hc : c < 3) : Avs x (y.ans c d e) (t.answer c d e) := fun j hj => by
  rw [askAt_answer h3 hc]
  by_cases hj' : j = c
  · right; rw [if_pos hj']
  · rw [if_neg hj']
    refine (h j hj).imp (fun h => ?_) id
    rw [← h]
    match c, hc, j, hj with
    | 0, _, 0, _ => exact absurd rfl hj'
    | 0, _, 1, _ => rfl
    | 0, _, 2, _ => rfl
    | 1, _, 0, _ => rfl
    | 1, _, 1, _ => exact absurd rfl hj'
    | 1, _, 2, _ => rfl
    | 2, _, 0, _ => rfl
    | 2, _, 1, _ => rfl
    | 2, _, 2, _ => exact absurd rfl hj'
theorem Avs.trans {x y z : Sv} {t u : St} (h : Avs x y t) (k : Avs y z u) (hn : ∀ j, t.askAt j = none → u.askAt j = none) : Avs x z u := fun j hj => by
  rcases k j hj with k | k
  · rcases h j hj with h | h
    · exact .inl (k.trans h)
    · exact .inr (hn j h)
  · exact .inr k
/-- It returns v; of what was there only the stack's own block was written; what it may write is what it was. -/
def Ret2 (T : Tys) (col : Nat → Nat) (w : World) (b bd N : Nat) (x : Sv) (t : St) (v : Value) : Ending → World → Prop := fun e w' => ∃ y, e = .returned v ∧ StAt T col w' b bd N y t ∧ Chg (fun k => k = b) w w' ∧ Avs x y t
def S0 (col : Nat → Nat) : Nat → Prop := fun k => col k = 0
theorem rd_1 {S : Nat → Prop} {w : World} {b : Nat} {T : TypeId} {u : Value} (hb : w.heap[b]? = some (.cells #[u] T (0, 0))) (hS : S b) : Rd S w 1 (.slice (some ⟨b, 0, none⟩) 1 1) 1 [u] :=
  ⟨_, _, rfl, by omega, by simp [maxLen], rfl, fun _ => ⟨b, 0, rfl, hS, fun j v hv => by rw [Nat.zero_add, cell_of_row _ _ _ _ _ _ hb]; simpa using hv⟩⟩
section
variable {T : Tys} {col : Nat → Nat} {w w1 w2 w' : World} {b bd N : Nat} {x : Sv} {s : St}
theorem StAt.s0 (h : StAt T col w b bd N x s) : ∀ k, w.heap.size ≤ k → S0 col k := fun k hk => by
  rcases Nat.eq_zero_or_pos (col k) with h2 | h2
  · exact h2
  · have := h.lt k (by omega); omega
theorem S0.im {v : Value} {l : List Rq} (h : ReqsAt (S0 col) w v l) : ReqsAt (Im w col) w v l := h.lt.more (fun k hk => ⟨hk.2, hk.1⟩)
/-- The list of requests that wait, and the tag, are others now. -/
theorem StAt.queued (h : StAt T col w b bd N x s) (hb : Same1 b w w') {v : Value} {l : List Rq} {t : Int} (hv : ReqsAt (S0 col) w v l) (hrow : w'.heap[b]? = some (.cells (({ x with wait := v } : Sv).row { s with wait := l, tag := t } bd) T.S (0, 0))) :
    StAt T col w' b bd N { x with wait := v } { s with wait := l, tag := t } := by
  refine h.turn1 hb hrow rfl rfl rfl rfl h.bufs (S0.im hv) h.asks (fun c hc => ?_) h.done h.errs
  have := h.ask c hc
  match c, hc with | 0, _ => exact this | 1, _ => exact this | 2, _ => exact this
end
set_option maxRecDepth 100000 in
set_option maxHeartbeats 4000000 in
theorem queue_any (col : Nat → Nat) (w : World) (b bd N : Nat) (x : Sv) (s : St) (wb : Bool) (p : Int) (d : ByteArray) (h : StAt Ts col w b bd N x s) (hi : ∀ r ∈ s.wait, ReqOk r) (h6 : s.wait.length ≤ 6) (ht : 0 ≤ s.tag ∧ s.tag ≤ 1000000000) (hn : 0 ≤ s.now ∧ s.now ≤ 1000000000) (hp : 0 ≤ p ∧ p ≤ 31) (hd : d.size ≤ 16) :
    Calls Try.prog 52 #[.pointer (some ⟨b, 0, none⟩), .bool wb, .int .i64 p, .string d] w (Ret2 Ts col w b bd N x (s.queue wb p d).1 (.bool (s.queue wb p d).2)) := by
  have H := Lib.hid h
  have Hi := Lib.hid hi
  have H6 := Lib.hid h6
  have c8 : w.cell? ⟨b, 8, none⟩ = some (.int .i64 s.now) := h.cell 8
  have c10 : w.cell? ⟨b, 10, none⟩ = some (.int .i64 s.tag) := h.cell 10
  have hw : IntKind.i64.wrap (s.tag + 1) = s.tag + 1 := by rw [IntKind.wrap_i64]; omega
  have hbl := h.bl
  have Hs0 := Lib.hid h.s0
  obtain ⟨rq, hrq⟩ : ∃ r, s.reqOf wb p d = r := ⟨_, rfl⟩
  have Hrq := Lib.hid hrq
  clear h hi h6 hrq
  cases wb with
  | true =>
    go_enter Try.func52, Try.ntmps52
    go_wp2_with fail
    go_region
    · have L := ((((LayF.refl (fun _ => False) w).alloc' (w.heap.size) #[.int .i64 (s.tag + 1)] 3 rfl).alloc' (w.heap.size + 1) #[.bool true, .int .i64 p, .int .i64 1, .slice none 0 0, .slice (some ⟨w.heap.size, 0, none⟩) 1 1, .int .i64 s.now] 44 (by simp)).drew)
      generalize World.drew _ = W1 at L ⊢
      have Hz1 : Hid (w.heap.size < W1.heap.size) := show _ < _ by have := L.lt (List.mem_cons_self ..); have := L.own _ (List.mem_cons_self ..); omega
      obtain ⟨n2, hn2⟩ : ∃ n, W1.heap.size = n := ⟨_, rfl⟩
      have L2 := L.alloc' n2 #[.string d] 9 hn2
      obtain ⟨q0, q1, q2, q3, q4, q5⟩ := L2.c6 1 rfl
      have hfr := L2.frozen 1 rfl 3
      go_wp2_with fail
      have L3 := L2.set 1 rfl 3 (.slice (some ⟨n2, 0, none⟩) 1 1)
      clear q0 q1 q2 q3 q4 q5 hfr hn2 L2 L
      generalize World.setCell _ _ _ = W3 at L3 ⊢
      have HL3 := Lib.hid L3
      have HB : Hid (Below w.heap.size w W3) := show Below _ _ _ from L3.chg.below (fun _ h => h.elim) (Nat.le_refl _)
      clear L3 c8 c10
      have H3 := Lib.hid (H.out.below HB.out)
      have H3d := Lib.hid (H3.out.below (Below.refl _ _).drew)
      have c3 := H3.out.cell 3
      rw [show (x.row s bd)[3]? = some x.wait from rfl] at c3
      obtain ⟨q0, q1, q2, q3, q4, q5⟩ := HL3.out.c6 1 rfl
      have hrq : ReqAt (S0 col) W3.drew (.agg #[.bool true, .int .i64 p, .int .i64 1, .slice (some ⟨n2, 0, none⟩) 1 1, .slice (some ⟨w.heap.size, 0, none⟩) 1 1, .int .i64 s.now]) rq := by
        rw [← Hrq.out]
        refine ReqAt.below (w := W3) ⟨⟨⟨true, p, 1, [d], [s.tag + 1], s.now⟩, .slice (some ⟨n2, 0, none⟩) 1 1, .slice (some ⟨w.heap.size, 0, none⟩) 1 1⟩, rfl, rfl, ?_, ⟨rd_1 (HL3.out.at_ 2 rfl) (Hs0.out _ (by omega)), fun y hy => by simp at hy; subst hy; omega⟩, by unfold i64; simp only; omega, by unfold i64; simp only; omega, by unfold i64; simp only; omega⟩ (Below.refl _ _).drew
        exact ⟨rd_1 (HL3.out.at_ 0 rfl) (Hs0.out _ (by have := HL3.out.own _ (List.mem_cons_self ..); simpa using this)), fun y hy => by simp at hy; subst hy; simp only [maxLen]; omega⟩
      have Hrqa := Lib.hid hrq
      have HWt : Hid (ReqsAt (S0 col) W3.drew x.wait s.wait) := H3d.out.wait.more (fun k hk => hk.2)
      have Hsz0 := Lib.hid H3d.out.s0
      have H6' : Hid (s.wait.length ≤ 60000) := show _ ≤ _ by have := H6.out; omega
      clear hrq
      go_wp2_with fail
      have K0 : W3.drew.cell? ⟨b, 3, none⟩ = some x.wait ∧ W3.drew.cell? ⟨w.heap.size + 1, 0, none⟩ = some (.bool true) ∧ W3.drew.cell? ⟨w.heap.size + 1, 1, none⟩ = some (.int .i64 p) ∧ W3.drew.cell? ⟨w.heap.size + 1, 2, none⟩ = some (.int .i64 1) ∧ W3.drew.cell? ⟨w.heap.size + 1, 3, none⟩ = some (.slice (some ⟨n2, 0, none⟩) 1 1) ∧ W3.drew.cell? ⟨w.heap.size + 1, 4, none⟩ = some (.slice (some ⟨w.heap.size, 0, none⟩) 1 1) ∧ W3.drew.cell? ⟨w.heap.size + 1, 5, none⟩ = some (.int .i64 s.now) := ⟨c3, q0, q1, q2, q3, q4, q5⟩
      go_region_held3 (fun u => u.cell? ⟨b, 3, none⟩ = some x.wait ∧ u.cell? ⟨w.heap.size + 1, 0, none⟩ = some (.bool true) ∧ u.cell? ⟨w.heap.size + 1, 1, none⟩ = some (.int .i64 p) ∧ u.cell? ⟨w.heap.size + 1, 2, none⟩ = some (.int .i64 1) ∧ u.cell? ⟨w.heap.size + 1, 3, none⟩ = some (.slice (some ⟨n2, 0, none⟩) 1 1) ∧ u.cell? ⟨w.heap.size + 1, 4, none⟩ = some (.slice (some ⟨w.heap.size, 0, none⟩) 1 1) ∧ u.cell? ⟨w.heap.size + 1, 5, none⟩ = some (.int .i64 s.now))
        (first | exact K1 | exact K0)
        (first
          | ((with_reducible refine (add_any (S0 col) s.wait rq _ _ _ Hsz0.out HWt.out Hrqa.out Hi.out H6'.out).mono ?_); rintro e u1 ⟨v1, rfl, hv1, hb1⟩; have HB1 := Lib.hid hb1; have Hv1 := Lib.hid hv1; have K1 : u1.cell? ⟨b, 3, none⟩ = some x.wait ∧ u1.cell? ⟨w.heap.size + 1, 0, none⟩ = some (.bool true) ∧ u1.cell? ⟨w.heap.size + 1, 1, none⟩ = some (.int .i64 p) ∧ u1.cell? ⟨w.heap.size + 1, 2, none⟩ = some (.int .i64 1) ∧ u1.cell? ⟨w.heap.size + 1, 3, none⟩ = some (.slice (some ⟨n2, 0, none⟩) 1 1) ∧ u1.cell? ⟨w.heap.size + 1, 4, none⟩ = some (.slice (some ⟨w.heap.size, 0, none⟩) 1 1) ∧ u1.cell? ⟨w.heap.size + 1, 5, none⟩ = some (.int .i64 s.now) := (by obtain ⟨a0, a1, a2, a3, a4, a5, a6⟩ := K0; exact ⟨cell_b hb1 a0, cell_b hb1 a1, cell_b hb1 a2, cell_b hb1 a3, cell_b hb1 a4, cell_b hb1 a5, cell_b hb1 a6⟩); clear hv1 hb1)
          | fail)
      have H4 := Lib.hid (H3d.out.below HB1.out)
      have c10 := H4.out.cell 10
      have c3' := H4.out.cell 3
      rw [show (x.row s bd)[10]? = some (.int .i64 s.tag) from rfl] at c10
      rw [show (x.row s bd)[3]? = some x.wait from rfl] at c3'
      have f3 := H4.out.frozen 3
      have f10 := H4.out.frozen 10
      have HC : Hid (Chg (fun k => k = b) w u1) := show Chg _ _ _ from Chg.of_below (HB.out.trans (((Below.refl _ _).drew.trans HB1.out).mono HB.out.size))
      clear K0 K1 c3 q0 q1 q2 q3 q4 q5
      have hqe : s.queue true p d = if (addM s.wait rq).2 = 0 then ({ s with wait := (addM s.wait rq).1, tag := s.tag + 1 }, true) else (s, false) := by rw [← Hrq.out]; rfl
      by_cases h0 : (addM s.wait rq).2 = 0
      · rw [if_pos h0] at hqe
        have Hqe := Lib.hid hqe
        rw [h0]
        have he0 := errV_zero
        obtain ⟨A1, cp1, e1, _, _⟩ := Hv1.out.form
        subst e1
        clear hqe h0
        go_wp2_with fail
        go_ret
        rw [Hqe.out]
        have hS := ((Same1.refl (b := b) (w := u1)).setCell 3 (.slice A1 (addM s.wait rq).1.length cp1)).setCell 10 (.int .i64 (s.tag + 1))
        exact ⟨_, rfl, H4.out.queued hS Hv1.out (heap_setCell_same _ _ 10 _ _ _ (heap_setCell_same _ _ 3 _ _ _ H4.out.row)), HC.out.trans ((hS.chg (F := fun k => k = b) rfl).mono (fun k hk => .inl hk)), .wait⟩
      · rw [if_neg h0] at hqe
        have Hqe := Lib.hid hqe
        have hb0 : ((addM s.wait rq).2 == 0) = false := by simpa using h0
        clear hqe h0
        go_wp2_with fail
        go_ret
        rw [Hqe.out]
        exact ⟨_, rfl, H4.out, HC.out, .refl⟩
    · have L := ((((LayF.refl (fun _ => False) w).alloc' (w.heap.size) #[.bool true, .int .i64 p, .int .i64 1, .slice none 0 0, .slice (some ⟨w.heap.size + 1, 0, none⟩) 1 1, .int .i64 s.now] 44 rfl).alloc' (w.heap.size + 1) #[.int .i64 (s.tag + 1)] 3 (by simp)).drew)
      generalize World.drew _ = W1 at L ⊢
      have Hz1 : Hid (w.heap.size < W1.heap.size) := show _ < _ by have := L.lt (List.mem_cons_self ..); have := L.own _ (List.mem_cons_self ..); omega
      obtain ⟨n2, hn2⟩ : ∃ n, W1.heap.size = n := ⟨_, rfl⟩
      have L2 := L.alloc' n2 #[.string d] 9 hn2
      obtain ⟨q0, q1, q2, q3, q4, q5⟩ := L2.c6 2 rfl
      have hfr := L2.frozen 2 rfl 3
      go_wp2_with fail
      have L3 := L2.set 2 rfl 3 (.slice (some ⟨n2, 0, none⟩) 1 1)
      clear q0 q1 q2 q3 q4 q5 hfr hn2 L2 L
      generalize World.setCell _ _ _ = W3 at L3 ⊢
      have HL3 := Lib.hid L3
      have HB : Hid (Below w.heap.size w W3) := show Below _ _ _ from L3.chg.below (fun _ h => h.elim) (Nat.le_refl _)
      clear L3 c8 c10
      have H3 := Lib.hid (H.out.below HB.out)
      have H3d := Lib.hid (H3.out.below (Below.refl _ _).drew)
      have c3 := H3.out.cell 3
      rw [show (x.row s bd)[3]? = some x.wait from rfl] at c3
      obtain ⟨q0, q1, q2, q3, q4, q5⟩ := HL3.out.c6 2 rfl
      have hrq : ReqAt (S0 col) W3.drew (.agg #[.bool true, .int .i64 p, .int .i64 1, .slice (some ⟨n2, 0, none⟩) 1 1, .slice (some ⟨w.heap.size + 1, 0, none⟩) 1 1, .int .i64 s.now]) rq := by
        rw [← Hrq.out]
        refine ReqAt.below (w := W3) ⟨⟨⟨true, p, 1, [d], [s.tag + 1], s.now⟩, .slice (some ⟨n2, 0, none⟩) 1 1, .slice (some ⟨w.heap.size + 1, 0, none⟩) 1 1⟩, rfl, rfl, ?_, ⟨rd_1 (HL3.out.at_ 1 rfl) (Hs0.out _ (by omega)), fun y hy => by simp at hy; subst hy; omega⟩, by unfold i64; simp only; omega, by unfold i64; simp only; omega, by unfold i64; simp only; omega⟩ (Below.refl _ _).drew
        exact ⟨rd_1 (HL3.out.at_ 0 rfl) (Hs0.out _ (by have := HL3.out.own _ (List.mem_cons_self ..); simpa using this)), fun y hy => by simp at hy; subst hy; simp only [maxLen]; omega⟩
      have Hrqa := Lib.hid hrq
      have HWt : Hid (ReqsAt (S0 col) W3.drew x.wait s.wait) := H3d.out.wait.more (fun k hk => hk.2)
      have Hsz0 := Lib.hid H3d.out.s0
      have H6' : Hid (s.wait.length ≤ 60000) := show _ ≤ _ by have := H6.out; omega
      clear hrq
      go_wp2_with fail
      have K0 : W3.drew.cell? ⟨b, 3, none⟩ = some x.wait ∧ W3.drew.cell? ⟨w.heap.size, 0, none⟩ = some (.bool true) ∧ W3.drew.cell? ⟨w.heap.size, 1, none⟩ = some (.int .i64 p) ∧ W3.drew.cell? ⟨w.heap.size, 2, none⟩ = some (.int .i64 1) ∧ W3.drew.cell? ⟨w.heap.size, 3, none⟩ = some (.slice (some ⟨n2, 0, none⟩) 1 1) ∧ W3.drew.cell? ⟨w.heap.size, 4, none⟩ = some (.slice (some ⟨w.heap.size + 1, 0, none⟩) 1 1) ∧ W3.drew.cell? ⟨w.heap.size, 5, none⟩ = some (.int .i64 s.now) := ⟨c3, q0, q1, q2, q3, q4, q5⟩
      go_region_held3 (fun u => u.cell? ⟨b, 3, none⟩ = some x.wait ∧ u.cell? ⟨w.heap.size, 0, none⟩ = some (.bool true) ∧ u.cell? ⟨w.heap.size, 1, none⟩ = some (.int .i64 p) ∧ u.cell? ⟨w.heap.size, 2, none⟩ = some (.int .i64 1) ∧ u.cell? ⟨w.heap.size, 3, none⟩ = some (.slice (some ⟨n2, 0, none⟩) 1 1) ∧ u.cell? ⟨w.heap.size, 4, none⟩ = some (.slice (some ⟨w.heap.size + 1, 0, none⟩) 1 1) ∧ u.cell? ⟨w.heap.size, 5, none⟩ = some (.int .i64 s.now))
        (first | exact K1 | exact K0)
        (first
          | ((with_reducible refine (add_any (S0 col) s.wait rq _ _ _ Hsz0.out HWt.out Hrqa.out Hi.out H6'.out).mono ?_); rintro e u1 ⟨v1, rfl, hv1, hb1⟩; have HB1 := Lib.hid hb1; have Hv1 := Lib.hid hv1; have K1 : u1.cell? ⟨b, 3, none⟩ = some x.wait ∧ u1.cell? ⟨w.heap.size, 0, none⟩ = some (.bool true) ∧ u1.cell? ⟨w.heap.size, 1, none⟩ = some (.int .i64 p) ∧ u1.cell? ⟨w.heap.size, 2, none⟩ = some (.int .i64 1) ∧ u1.cell? ⟨w.heap.size, 3, none⟩ = some (.slice (some ⟨n2, 0, none⟩) 1 1) ∧ u1.cell? ⟨w.heap.size, 4, none⟩ = some (.slice (some ⟨w.heap.size + 1, 0, none⟩) 1 1) ∧ u1.cell? ⟨w.heap.size, 5, none⟩ = some (.int .i64 s.now) := (by obtain ⟨a0, a1, a2, a3, a4, a5, a6⟩ := K0; exact ⟨cell_b hb1 a0, cell_b hb1 a1, cell_b hb1 a2, cell_b hb1 a3, cell_b hb1 a4, cell_b hb1 a5, cell_b hb1 a6⟩); clear hv1 hb1)
          | fail)
      have H4 := Lib.hid (H3d.out.below HB1.out)
      have c10 := H4.out.cell 10
      have c3' := H4.out.cell 3
      rw [show (x.row s bd)[10]? = some (.int .i64 s.tag) from rfl] at c10
      rw [show (x.row s bd)[3]? = some x.wait from rfl] at c3'
      have f3 := H4.out.frozen 3
      have f10 := H4.out.frozen 10
      have HC : Hid (Chg (fun k => k = b) w u1) := show Chg _ _ _ from Chg.of_below (HB.out.trans (((Below.refl _ _).drew.trans HB1.out).mono HB.out.size))
      clear K0 K1 c3 q0 q1 q2 q3 q4 q5
      have hqe : s.queue true p d = if (addM s.wait rq).2 = 0 then ({ s with wait := (addM s.wait rq).1, tag := s.tag + 1 }, true) else (s, false) := by rw [← Hrq.out]; rfl
      by_cases h0 : (addM s.wait rq).2 = 0
      · rw [if_pos h0] at hqe
        have Hqe := Lib.hid hqe
        rw [h0]
        have he0 := errV_zero
        obtain ⟨A1, cp1, e1, _, _⟩ := Hv1.out.form
        subst e1
        clear hqe h0
        go_wp2_with fail
        go_ret
        rw [Hqe.out]
        have hS := ((Same1.refl (b := b) (w := u1)).setCell 3 (.slice A1 (addM s.wait rq).1.length cp1)).setCell 10 (.int .i64 (s.tag + 1))
        exact ⟨_, rfl, H4.out.queued hS Hv1.out (heap_setCell_same _ _ 10 _ _ _ (heap_setCell_same _ _ 3 _ _ _ H4.out.row)), HC.out.trans ((hS.chg (F := fun k => k = b) rfl).mono (fun k hk => .inl hk)), .wait⟩
      · rw [if_neg h0] at hqe
        have Hqe := Lib.hid hqe
        have hb0 : ((addM s.wait rq).2 == 0) = false := by simpa using h0
        clear hqe h0
        go_wp2_with fail
        go_ret
        rw [Hqe.out]
        exact ⟨_, rfl, H4.out, HC.out, .refl⟩
  | false =>
    go_enter Try.func52, Try.ntmps52
    go_wp2_with fail
    go_region
    · have L := ((((LayF.refl (fun _ => False) w).alloc' (w.heap.size) #[.int .i64 (s.tag + 1)] 3 rfl).alloc' (w.heap.size + 1) #[.bool false, .int .i64 p, .int .i64 1, .slice none 0 0, .slice (some ⟨w.heap.size, 0, none⟩) 1 1, .int .i64 s.now] 44 (by simp)).drew)
      generalize World.drew _ = W1 at L ⊢
      have Hz1 : Hid (w.heap.size < W1.heap.size) := show _ < _ by have := L.lt (List.mem_cons_self ..); have := L.own _ (List.mem_cons_self ..); omega
      have L3 := L
      clear L
      obtain ⟨W3, hW3⟩ : ∃ W3, W1 = W3 := ⟨_, rfl⟩
      rw [hW3] at L3 ⊢
      clear hW3
      have HL3 := Lib.hid L3
      have HB : Hid (Below w.heap.size w W3) := show Below _ _ _ from L3.chg.below (fun _ h => h.elim) (Nat.le_refl _)
      clear L3 c8 c10
      have H3 := Lib.hid (H.out.below HB.out)
      have H3d := Lib.hid (H3.out.below (Below.refl _ _).drew)
      have c3 := H3.out.cell 3
      rw [show (x.row s bd)[3]? = some x.wait from rfl] at c3
      obtain ⟨q0, q1, q2, q3, q4, q5⟩ := HL3.out.c6 0 rfl
      have hrq : ReqAt (S0 col) W3.drew (.agg #[.bool false, .int .i64 p, .int .i64 1, .slice none 0 0, .slice (some ⟨w.heap.size, 0, none⟩) 1 1, .int .i64 s.now]) rq := by
        rw [← Hrq.out]
        refine ReqAt.below (w := W3) ⟨⟨⟨false, p, 1, [], [s.tag + 1], s.now⟩, .slice none 0 0, .slice (some ⟨w.heap.size, 0, none⟩) 1 1⟩, rfl, rfl, ?_, ⟨rd_1 (HL3.out.at_ 1 rfl) (Hs0.out _ (by omega)), fun y hy => by simp at hy; subst hy; omega⟩, by unfold i64; simp only; omega, by unfold i64; simp only; omega, by unfold i64; simp only; omega⟩ (Below.refl _ _).drew
        exact ⟨Rd.nil, by simp⟩
      have Hrqa := Lib.hid hrq
      have HWt : Hid (ReqsAt (S0 col) W3.drew x.wait s.wait) := H3d.out.wait.more (fun k hk => hk.2)
      have Hsz0 := Lib.hid H3d.out.s0
      have H6' : Hid (s.wait.length ≤ 60000) := show _ ≤ _ by have := H6.out; omega
      clear hrq
      go_wp2_with fail
      have K0 : W3.drew.cell? ⟨b, 3, none⟩ = some x.wait ∧ W3.drew.cell? ⟨w.heap.size + 1, 0, none⟩ = some (.bool false) ∧ W3.drew.cell? ⟨w.heap.size + 1, 1, none⟩ = some (.int .i64 p) ∧ W3.drew.cell? ⟨w.heap.size + 1, 2, none⟩ = some (.int .i64 1) ∧ W3.drew.cell? ⟨w.heap.size + 1, 3, none⟩ = some (.slice none 0 0) ∧ W3.drew.cell? ⟨w.heap.size + 1, 4, none⟩ = some (.slice (some ⟨w.heap.size, 0, none⟩) 1 1) ∧ W3.drew.cell? ⟨w.heap.size + 1, 5, none⟩ = some (.int .i64 s.now) := ⟨c3, q0, q1, q2, q3, q4, q5⟩
      go_region_held3 (fun u => u.cell? ⟨b, 3, none⟩ = some x.wait ∧ u.cell? ⟨w.heap.size + 1, 0, none⟩ = some (.bool false) ∧ u.cell? ⟨w.heap.size + 1, 1, none⟩ = some (.int .i64 p) ∧ u.cell? ⟨w.heap.size + 1, 2, none⟩ = some (.int .i64 1) ∧ u.cell? ⟨w.heap.size + 1, 3, none⟩ = some (.slice none 0 0) ∧ u.cell? ⟨w.heap.size + 1, 4, none⟩ = some (.slice (some ⟨w.heap.size, 0, none⟩) 1 1) ∧ u.cell? ⟨w.heap.size + 1, 5, none⟩ = some (.int .i64 s.now))
        (first | exact K1 | exact K0)
        (first
          | ((with_reducible refine (add_any (S0 col) s.wait rq _ _ _ Hsz0.out HWt.out Hrqa.out Hi.out H6'.out).mono ?_); rintro e u1 ⟨v1, rfl, hv1, hb1⟩; have HB1 := Lib.hid hb1; have Hv1 := Lib.hid hv1; have K1 : u1.cell? ⟨b, 3, none⟩ = some x.wait ∧ u1.cell? ⟨w.heap.size + 1, 0, none⟩ = some (.bool false) ∧ u1.cell? ⟨w.heap.size + 1, 1, none⟩ = some (.int .i64 p) ∧ u1.cell? ⟨w.heap.size + 1, 2, none⟩ = some (.int .i64 1) ∧ u1.cell? ⟨w.heap.size + 1, 3, none⟩ = some (.slice none 0 0) ∧ u1.cell? ⟨w.heap.size + 1, 4, none⟩ = some (.slice (some ⟨w.heap.size, 0, none⟩) 1 1) ∧ u1.cell? ⟨w.heap.size + 1, 5, none⟩ = some (.int .i64 s.now) := (by obtain ⟨a0, a1, a2, a3, a4, a5, a6⟩ := K0; exact ⟨cell_b hb1 a0, cell_b hb1 a1, cell_b hb1 a2, cell_b hb1 a3, cell_b hb1 a4, cell_b hb1 a5, cell_b hb1 a6⟩); clear hv1 hb1)
          | fail)
      have H4 := Lib.hid (H3d.out.below HB1.out)
      have c10 := H4.out.cell 10
      have c3' := H4.out.cell 3
      rw [show (x.row s bd)[10]? = some (.int .i64 s.tag) from rfl] at c10
      rw [show (x.row s bd)[3]? = some x.wait from rfl] at c3'
      have f3 := H4.out.frozen 3
      have f10 := H4.out.frozen 10
      have HC : Hid (Chg (fun k => k = b) w u1) := show Chg _ _ _ from Chg.of_below (HB.out.trans (((Below.refl _ _).drew.trans HB1.out).mono HB.out.size))
      clear K0 K1 c3 q0 q1 q2 q3 q4 q5
      have hqe : s.queue false p d = if (addM s.wait rq).2 = 0 then ({ s with wait := (addM s.wait rq).1, tag := s.tag + 1 }, true) else (s, false) := by rw [← Hrq.out]; rfl
      by_cases h0 : (addM s.wait rq).2 = 0
      · rw [if_pos h0] at hqe
        have Hqe := Lib.hid hqe
        rw [h0]
        have he0 := errV_zero
        obtain ⟨A1, cp1, e1, _, _⟩ := Hv1.out.form
        subst e1
        clear hqe h0
        go_wp2_with fail
        go_ret
        rw [Hqe.out]
        have hS := ((Same1.refl (b := b) (w := u1)).setCell 3 (.slice A1 (addM s.wait rq).1.length cp1)).setCell 10 (.int .i64 (s.tag + 1))
        exact ⟨_, rfl, H4.out.queued hS Hv1.out (heap_setCell_same _ _ 10 _ _ _ (heap_setCell_same _ _ 3 _ _ _ H4.out.row)), HC.out.trans ((hS.chg (F := fun k => k = b) rfl).mono (fun k hk => .inl hk)), .wait⟩
      · rw [if_neg h0] at hqe
        have Hqe := Lib.hid hqe
        have hb0 : ((addM s.wait rq).2 == 0) = false := by simpa using h0
        clear hqe h0
        go_wp2_with fail
        go_ret
        rw [Hqe.out]
        exact ⟨_, rfl, H4.out, HC.out, .refl⟩
    · have L := ((((LayF.refl (fun _ => False) w).alloc' (w.heap.size) #[.bool false, .int .i64 p, .int .i64 1, .slice none 0 0, .slice (some ⟨w.heap.size + 1, 0, none⟩) 1 1, .int .i64 s.now] 44 rfl).alloc' (w.heap.size + 1) #[.int .i64 (s.tag + 1)] 3 (by simp)).drew)
      generalize World.drew _ = W1 at L ⊢
      have Hz1 : Hid (w.heap.size < W1.heap.size) := show _ < _ by have := L.lt (List.mem_cons_self ..); have := L.own _ (List.mem_cons_self ..); omega
      have L3 := L
      clear L
      obtain ⟨W3, hW3⟩ : ∃ W3, W1 = W3 := ⟨_, rfl⟩
      rw [hW3] at L3 ⊢
      clear hW3
      have HL3 := Lib.hid L3
      have HB : Hid (Below w.heap.size w W3) := show Below _ _ _ from L3.chg.below (fun _ h => h.elim) (Nat.le_refl _)
      clear L3 c8 c10
      have H3 := Lib.hid (H.out.below HB.out)
      have H3d := Lib.hid (H3.out.below (Below.refl _ _).drew)
      have c3 := H3.out.cell 3
      rw [show (x.row s bd)[3]? = some x.wait from rfl] at c3
      obtain ⟨q0, q1, q2, q3, q4, q5⟩ := HL3.out.c6 1 rfl
      have hrq : ReqAt (S0 col) W3.drew (.agg #[.bool false, .int .i64 p, .int .i64 1, .slice none 0 0, .slice (some ⟨w.heap.size + 1, 0, none⟩) 1 1, .int .i64 s.now]) rq := by
        rw [← Hrq.out]
        refine ReqAt.below (w := W3) ⟨⟨⟨false, p, 1, [], [s.tag + 1], s.now⟩, .slice none 0 0, .slice (some ⟨w.heap.size + 1, 0, none⟩) 1 1⟩, rfl, rfl, ?_, ⟨rd_1 (HL3.out.at_ 0 rfl) (Hs0.out _ (by omega)), fun y hy => by simp at hy; subst hy; omega⟩, by unfold i64; simp only; omega, by unfold i64; simp only; omega, by unfold i64; simp only; omega⟩ (Below.refl _ _).drew
        exact ⟨Rd.nil, by simp⟩
      have Hrqa := Lib.hid hrq
      have HWt : Hid (ReqsAt (S0 col) W3.drew x.wait s.wait) := H3d.out.wait.more (fun k hk => hk.2)
      have Hsz0 := Lib.hid H3d.out.s0
      have H6' : Hid (s.wait.length ≤ 60000) := show _ ≤ _ by have := H6.out; omega
      clear hrq
      go_wp2_with fail
      have K0 : W3.drew.cell? ⟨b, 3, none⟩ = some x.wait ∧ W3.drew.cell? ⟨w.heap.size, 0, none⟩ = some (.bool false) ∧ W3.drew.cell? ⟨w.heap.size, 1, none⟩ = some (.int .i64 p) ∧ W3.drew.cell? ⟨w.heap.size, 2, none⟩ = some (.int .i64 1) ∧ W3.drew.cell? ⟨w.heap.size, 3, none⟩ = some (.slice none 0 0) ∧ W3.drew.cell? ⟨w.heap.size, 4, none⟩ = some (.slice (some ⟨w.heap.size + 1, 0, none⟩) 1 1) ∧ W3.drew.cell? ⟨w.heap.size, 5, none⟩ = some (.int .i64 s.now) := ⟨c3, q0, q1, q2, q3, q4, q5⟩
      go_region_held3 (fun u => u.cell? ⟨b, 3, none⟩ = some x.wait ∧ u.cell? ⟨w.heap.size, 0, none⟩ = some (.bool false) ∧ u.cell? ⟨w.heap.size, 1, none⟩ = some (.int .i64 p) ∧ u.cell? ⟨w.heap.size, 2, none⟩ = some (.int .i64 1) ∧ u.cell? ⟨w.heap.size, 3, none⟩ = some (.slice none 0 0) ∧ u.cell? ⟨w.heap.size, 4, none⟩ = some (.slice (some ⟨w.heap.size + 1, 0, none⟩) 1 1) ∧ u.cell? ⟨w.heap.size, 5, none⟩ = some (.int .i64 s.now))
        (first | exact K1 | exact K0)
        (first
          | ((with_reducible refine (add_any (S0 col) s.wait rq _ _ _ Hsz0.out HWt.out Hrqa.out Hi.out H6'.out).mono ?_); rintro e u1 ⟨v1, rfl, hv1, hb1⟩; have HB1 := Lib.hid hb1; have Hv1 := Lib.hid hv1; have K1 : u1.cell? ⟨b, 3, none⟩ = some x.wait ∧ u1.cell? ⟨w.heap.size, 0, none⟩ = some (.bool false) ∧ u1.cell? ⟨w.heap.size, 1, none⟩ = some (.int .i64 p) ∧ u1.cell? ⟨w.heap.size, 2, none⟩ = some (.int .i64 1) ∧ u1.cell? ⟨w.heap.size, 3, none⟩ = some (.slice none 0 0) ∧ u1.cell? ⟨w.heap.size, 4, none⟩ = some (.slice (some ⟨w.heap.size + 1, 0, none⟩) 1 1) ∧ u1.cell? ⟨w.heap.size, 5, none⟩ = some (.int .i64 s.now) := (by obtain ⟨a0, a1, a2, a3, a4, a5, a6⟩ := K0; exact ⟨cell_b hb1 a0, cell_b hb1 a1, cell_b hb1 a2, cell_b hb1 a3, cell_b hb1 a4, cell_b hb1 a5, cell_b hb1 a6⟩); clear hv1 hb1)
          | fail)
      have H4 := Lib.hid (H3d.out.below HB1.out)
      have c10 := H4.out.cell 10
      have c3' := H4.out.cell 3
      rw [show (x.row s bd)[10]? = some (.int .i64 s.tag) from rfl] at c10
      rw [show (x.row s bd)[3]? = some x.wait from rfl] at c3'
      have f3 := H4.out.frozen 3
      have f10 := H4.out.frozen 10
      have HC : Hid (Chg (fun k => k = b) w u1) := show Chg _ _ _ from Chg.of_below (HB.out.trans (((Below.refl _ _).drew.trans HB1.out).mono HB.out.size))
      clear K0 K1 c3 q0 q1 q2 q3 q4 q5
      have hqe : s.queue false p d = if (addM s.wait rq).2 = 0 then ({ s with wait := (addM s.wait rq).1, tag := s.tag + 1 }, true) else (s, false) := by rw [← Hrq.out]; rfl
      by_cases h0 : (addM s.wait rq).2 = 0
      · rw [if_pos h0] at hqe
        have Hqe := Lib.hid hqe
        rw [h0]
        have he0 := errV_zero
        obtain ⟨A1, cp1, e1, _, _⟩ := Hv1.out.form
        subst e1
        clear hqe h0
        go_wp2_with fail
        go_ret
        rw [Hqe.out]
        have hS := ((Same1.refl (b := b) (w := u1)).setCell 3 (.slice A1 (addM s.wait rq).1.length cp1)).setCell 10 (.int .i64 (s.tag + 1))
        exact ⟨_, rfl, H4.out.queued hS Hv1.out (heap_setCell_same _ _ 10 _ _ _ (heap_setCell_same _ _ 3 _ _ _ H4.out.row)), HC.out.trans ((hS.chg (F := fun k => k = b) rfl).mono (fun k hk => .inl hk)), .wait⟩
      · rw [if_neg h0] at hqe
        have Hqe := Lib.hid hqe
        have hb0 : ((addM s.wait rq).2 == 0) = false := by simpa using h0
        clear hqe h0
        go_wp2_with fail
        go_ret
        rw [Hqe.out]
        exact ⟨_, rfl, H4.out, HC.out, .refl⟩
end Go.Proofs.Ytojmnfelecnenaa
namespace Go.Proofs.Ytojmnfelecnenaa

theorem bestB_none {ok : Bf → Bool} {l : List Bf} : ∀ {n : Nat}, bestB ok l n < 0 → ∀ i x, i < n → l[i]? = some x → ok x = false
  | 0, _, i, x, hi, _ => by omega
  | n + 1, h, i, x, hi, hx => by
    rcases Nat.eq_or_lt_of_le (Nat.le_of_lt_succ hi) with e | e
    · subst e
      cases ho : ok x with
      | false => rfl
      | true =>
        exfalso
        by_cases hb : bestB ok l i < 0
        · rw [bestB_first hx ho hb] at h; omega
        · rw [bestB, hx] at h
          simp only at h
          split at h <;> omega
    · refine bestB_none (n := n) ?_ i x e hx
      rw [bestB] at h
      cases hn : l[n]? with
      | none => simpa [hn] using h
      | some r =>
        rw [hn] at h
        simp only at h
        split at h
        · omega
        · exact h
theorem bestB_some {ok : Bf → Bool} {l : List Bf} : ∀ {n j : Nat}, bestB ok l n = (j : Int) → ∃ x, l[j]? = some x ∧ ok x = true ∧ ∀ i y, i < n → l[i]? = some y → ok y = true → x.used ≤ y.used
  | 0, j, h => by simp [bestB] at h
  | n + 1, j, h => by
    cases hn : l[n]? with
    | none =>
      have e : bestB ok l (n + 1) = bestB ok l n := by rw [bestB, hn]
      rw [e] at h
      obtain ⟨x, h1, h2, h3⟩ := bestB_some h
      refine ⟨x, h1, h2, fun i y hi hy ho => ?_⟩
      rcases Nat.eq_or_lt_of_le (Nat.le_of_lt_succ hi) with e | e
      · subst e; rw [hn] at hy; cases hy
      · exact h3 i y e hy ho
    | some r =>
      by_cases ho : ok r = true
      · by_cases hb : bestB ok l n < 0
        · rw [bestB_first hn ho hb] at h
          obtain rfl : n = j := by omega
          refine ⟨r, hn, ho, fun i y hi hy hoy => ?_⟩
          rcases Nat.eq_or_lt_of_le (Nat.le_of_lt_succ hi) with e | e
          · subst e; rw [hn] at hy; cases hy; exact Int.le_refl _
          · have := bestB_none hb i y e hy; rw [this] at hoy; cases hoy
        · obtain ⟨k, hk⟩ : ∃ k : Nat, bestB ok l n = (k : Int) := ⟨(bestB ok l n).toNat, by omega⟩
          obtain ⟨x, h1, h2, h3⟩ := bestB_some hk
          by_cases hl : r.used < x.used
          · rw [bestB_less hn ho hk h1 hl] at h
            obtain rfl : n = j := by omega
            refine ⟨r, hn, ho, fun i y hi hy hoy => ?_⟩
            rcases Nat.eq_or_lt_of_le (Nat.le_of_lt_succ hi) with e | e
            · subst e; rw [hn] at hy; cases hy; exact Int.le_refl _
            · have := h3 i y e hy hoy; omega
          · rw [bestB_more hn hk h1 hl] at h
            obtain rfl : k = j := by omega
            refine ⟨x, h1, h2, fun i y hi hy hoy => ?_⟩
            rcases Nat.eq_or_lt_of_le (Nat.le_of_lt_succ hi) with e | e
            · subst e; rw [hn] at hy; cases hy; omega
            · exact h3 i y e hy hoy
      · have ho : ok r = false := by simpa using ho
        rw [bestB_no hn ho] at h
        obtain ⟨x, h1, h2, h3⟩ := bestB_some h
        refine ⟨x, h1, h2, fun i y hi hy hoy => ?_⟩
        rcases Nat.eq_or_lt_of_le (Nat.le_of_lt_succ hi) with e | e
        · subst e; rw [hn] at hy; cases hy; rw [ho] at hoy; cases hoy
        · exact h3 i y e hy hoy
theorem getB_mem {l : List Bf} (h : Rises l) {x : Bf} (hx : x ∈ l) : getB l x.pos = (x, true) := by
  obtain ⟨i, hi⟩ := List.mem_iff_getElem?.1 hx
  exact getB_of h hi rfl
theorem mem_insB {l : List Bf} {b y : Bf} : y ∈ insB l b ↔ y = b ∨ y ∈ l := by
  unfold insB
  constructor
  · intro h
    rcases List.mem_append.1 h with h | h
    · exact .inr (List.mem_of_mem_take h)
    · rcases List.mem_cons.1 h with rfl | h
      · exact .inl rfl
      · exact .inr (List.mem_of_mem_drop h)
  · rintro (rfl | h)
    · simp
    · have := List.take_append_drop (posB l b.pos) l
      rw [← this] at h
      rcases List.mem_append.1 h with h | h
      · exact List.mem_append.2 (.inl h)
      · exact List.mem_append.2 (.inr (List.mem_cons_of_mem _ h))
theorem insB_length (l : List Bf) (b : Bf) : (insB l b).length = l.length + 1 := by
  have := posB_le l b.pos
  unfold insB; simp; omega
/-- What Put brings about: the one of the place J goes (there is none, where the list has no such place). -/
structure PutSpec (l m : List Bf) (b : Bf) (held : Int → Bool) (J : Nat) : Prop where
  rises : Rises m
  len : m.length ≤ 8
  own : getB m b.pos = (b, true)
  stay : ∀ i x, l[i]? = some x → x.pos ≠ b.pos → i ≠ J → getB m x.pos = (x, true)
  gone : ∀ x, l[J]? = some x → x.pos ≠ b.pos ∧ getB m x.pos = (zeroBf, false) ∧ x.dirty = false ∧ held x.pos = false ∧ l.length = 8 ∧ ∀ (k : Nat) (y : Bf), l[k]? = some y → y.dirty = false → held y.pos = false → x.used ≤ y.used
theorem put_spec {l m : List Bf} {b : Bf} {held : Int → Bool} (hr : Rises l) (h8 : l.length ≤ 8) (hp : putB l b held = some m) : ∃ J, PutSpec l m b held J := by
  have hrm := putB_rises hr hp
  unfold putB at hp
  cases hi : isB l b.pos with
  | true =>
    rw [hi, if_pos rfl] at hp
    cases hp
    refine ⟨l.length, hrm, by simpa using h8, ?_, fun i x hx hne _ => ?_, fun x hx => by simp at hx⟩
    · refine getB_mem hrm ?_
      obtain ⟨c, hc, hcp⟩ := isB_iff.1 hi
      exact List.mem_map.2 ⟨c, hc, if_pos hcp⟩
    · exact getB_mem hrm (List.mem_map.2 ⟨x, List.mem_of_getElem? hx, if_neg hne⟩)
  | false =>
    rw [hi, if_neg (by simp)] at hp
    by_cases hl8 : 8 ≤ l.length
    · rw [if_pos hl8] at hp
      by_cases hv : leastB l false held < 0
      · rw [if_pos hv] at hp; cases hp
      · rw [if_neg hv] at hp
        cases hp
        obtain ⟨j, hj⟩ : ∃ j : Nat, leastB l false held = (j : Int) := ⟨(leastB l false held).toNat, by omega⟩
        rw [hj, Int.toNat_natCast] at hrm ⊢
        obtain ⟨x, hx, hox, hmin⟩ := bestB_some hj
        have hjl := (List.getElem?_eq_some_iff.1 hx).1
        refine ⟨j, hrm, ?_, getB_mem hrm (mem_insB.2 (.inl rfl)), fun i y hy hne hij => ?_, fun y hy => ?_⟩
        · rw [insB_length, List.length_eraseIdx_of_lt hjl]; omega
        · refine getB_mem hrm (mem_insB.2 (.inr ?_))
          exact List.mem_eraseIdx_iff_getElem?.2 ⟨i, hij, hy⟩
        · rw [hx] at hy
          cases hy
          simp at hox
          refine ⟨isB_false.1 hi x (List.mem_of_getElem? hx), getB_no (isB_false.2 fun y hy => ?_), hox.1, hox.2, by omega, fun k y hy hd hh => hmin k y (List.getElem?_eq_some_iff.1 hy).1 hy (by simp [hd, hh])⟩
          rcases mem_insB.1 hy with rfl | hy
          · exact fun e => isB_false.1 hi x (List.mem_of_getElem? hx) e.symm
          · obtain ⟨i, hij, hy⟩ := List.mem_eraseIdx_iff_getElem?.1 hy
            exact fun e => hij (hr.inj hy hx e)
    · rw [if_neg hl8] at hp
      cases hp
      refine ⟨l.length, hrm, by rw [insB_length]; omega, getB_mem hrm (mem_insB.2 (.inl rfl)), fun i x hx hne _ => getB_mem hrm (mem_insB.2 (.inr (List.mem_of_getElem? hx))), fun x hx => by simp at hx⟩
theorem put_fail {l : List Bf} {b : Bf} {held : Int → Bool} (hp : putB l b held = none) : 8 ≤ l.length := by
  unfold putB at hp
  split at hp
  · cases hp
  · split at hp
    · rename_i h; exact h
    · cases hp
/-- What Pick brings about. -/
theorem pick_none {l : List Bf} {held : Int → Bool} (h0 : ∀ b ∈ l, 0 ≤ b.pos) (h : pickB l held < 0) : pickB l held = -1 ∧ getB l (-1) = (zeroBf, false) ∧ ∀ x ∈ l, x.dirty = true → held x.pos = true := by
  unfold pickB at h ⊢
  by_cases hv : leastB l true held < 0
  · rw [if_pos hv]
    refine ⟨rfl, getB_no (isB_false.2 fun x hx e => by have := h0 x hx; omega), fun x hx hd => ?_⟩
    obtain ⟨i, hi⟩ := List.mem_iff_getElem?.1 hx
    have := bestB_none hv i x (List.getElem?_eq_some_iff.1 hi).1 hi
    simpa [hd] using this
  · exfalso
    rw [if_neg hv] at h
    obtain ⟨j, hj⟩ : ∃ j : Nat, leastB l true held = (j : Int) := ⟨(leastB l true held).toNat, by omega⟩
    obtain ⟨x, hx, _, _⟩ := bestB_some hj
    rw [hj, Int.toNat_natCast, List.getD_eq_getElem?_getD, hx, Option.getD_some] at h
    have := h0 x (List.mem_of_getElem? hx)
    omega
theorem pick_some {l : List Bf} {held : Int → Bool} (hr : Rises l) (h : ¬ pickB l held < 0) : ∃ x ∈ l, x.pos = pickB l held ∧ getB l (pickB l held) = (x, true) ∧ x.dirty = true ∧ held x.pos = false ∧ ∀ y ∈ l, y.dirty = true → held y.pos = false → x.used ≤ y.used := by
  unfold pickB at h ⊢
  by_cases hv : leastB l true held < 0
  · rw [if_pos hv] at h; omega
  · rw [if_neg hv]
    obtain ⟨j, hj⟩ : ∃ j : Nat, leastB l true held = (j : Int) := ⟨(leastB l true held).toNat, by omega⟩
    obtain ⟨x, hx, ho, hmin⟩ := bestB_some hj
    rw [hj, Int.toNat_natCast, List.getD_eq_getElem?_getD, hx, Option.getD_some]
    simp at ho
    refine ⟨x, List.mem_of_getElem? hx, rfl, getB_of hr hx rfl, ho.1, ho.2, fun y hy hd hh => ?_⟩
    obtain ⟨i, hi⟩ := List.mem_iff_getElem?.1 hy
    exact hmin i y (List.getElem?_eq_some_iff.1 hi).1 hi (by simp [hd, hh])
end Go.Proofs.Ytojmnfelecnenaa
namespace Go.Proofs.Ytojmnfelecnenaa
set_option linter.unusedSimpArgs false
set_option linter.unusedVariables false

/-- What is at hand of a sector, and is it dirty. -/
def atB (l : List Bf) (p : Int) : Option (ByteArray × Bool) := if (getB l p).2 then some ((getB l p).1.data, (getB l p).1.dirty) else none
/-- How many have it? -/
def cnt (f : Int → ByteArray → Bool → Bool) (l : List Bf) : Nat := l.countP (fun b => f b.pos b.data b.dirty)
theorem atB_mem {l : List Bf} (h : Rises l) {x : Bf} (hx : x ∈ l) : atB l x.pos = some (x.data, x.dirty) := by unfold atB; rw [getB_mem h hx]; rfl
theorem atB_no {l : List Bf} {p : Int} (h : ∀ x ∈ l, x.pos ≠ p) : atB l p = none := by unfold atB; rw [getB_no (isB_false.2 h)]; rfl
theorem atB_some {l : List Bf} (h : Rises l) {p : Int} {d : ByteArray} {y : Bool} (ha : atB l p = some (d, y)) : ∃ x ∈ l, x.pos = p ∧ x.data = d ∧ x.dirty = y ∧ getB l p = (x, true) := by
  cases hi : isB l p with
  | false => rw [atB_no (isB_false.1 hi)] at ha; cases ha
  | true =>
    obtain ⟨x, hx, rfl⟩ := isB_iff.1 hi
    rw [atB_mem h hx] at ha
    cases ha
    exact ⟨x, hx, rfl, rfl, rfl, getB_mem h hx⟩
theorem atB_none {l : List Bf} (h : Rises l) {p : Int} (ha : atB l p = none) : ∀ x ∈ l, x.pos ≠ p := by
  rintro x hx rfl
  rw [atB_mem h hx] at ha; cases ha
theorem atB_is {l : List Bf} (h : Rises l) (p : Int) : (getB l p).2 = (atB l p).isSome := by unfold atB; split <;> simp_all
theorem atB_ext {l m : List Bf} (hl : Rises l) (hm : Rises m) {p q : Int} (h : ∀ d y, (∃ x ∈ l, x.pos = p ∧ x.data = d ∧ x.dirty = y) ↔ (∃ x ∈ m, x.pos = q ∧ x.data = d ∧ x.dirty = y)) : atB l p = atB m q := by
  cases ha : atB l p with
  | none =>
    cases hb : atB m q with
    | none => rfl
    | some v =>
      obtain ⟨x, hx, h1, h2, h3, _⟩ := atB_some hm hb
      obtain ⟨y, hy, h4, _⟩ := (h _ _).2 ⟨x, hx, h1, h2, h3⟩
      exact absurd h4 (atB_none hl ha y hy)
  | some v =>
    obtain ⟨x, hx, h1, h2, h3, _⟩ := atB_some hl ha
    obtain ⟨y, hy, h4, h5, h6⟩ := (h _ _).1 ⟨x, hx, h1, h2, h3⟩
    rw [← h4, atB_mem hm hy, h5, h6]
theorem atB_use {l : List Bf} (h : Rises l) (p n q : Int) : atB (useB l p n) q = atB l q := by
  refine atB_ext (useB_rises h p n) h fun d y => ?_
  constructor
  · rintro ⟨x, hx, h1, h2, h3⟩
    obtain ⟨z, hz, rfl⟩ := List.mem_map.1 hx
    refine ⟨z, hz, ?_⟩
    split at h1 <;> simp_all
  · rintro ⟨x, hx, h1, h2, h3⟩
    refine ⟨_, List.mem_map.2 ⟨x, hx, rfl⟩, ?_⟩
    split <;> simp_all
theorem atB_clean_ne {l : List Bf} (h : Rises l) {p q : Int} (d : ByteArray) (hne : q ≠ p) : atB (cleanB l p d) q = atB l q := by
  refine atB_ext (cleanB_rises h p d) h fun e y => ?_
  constructor
  · rintro ⟨x, hx, h1, h2, h3⟩
    obtain ⟨z, hz, rfl⟩ := List.mem_map.1 hx
    refine ⟨z, hz, ?_⟩
    split at h1
    · rename_i hc
      exact absurd (h1.symm.trans hc.1) hne
    · rename_i hc
      rw [if_neg hc] at h2 h3
      exact ⟨h1, h2, h3⟩
  · rintro ⟨x, hx, h1, h2, h3⟩
    refine ⟨_, List.mem_map.2 ⟨x, hx, rfl⟩, ?_⟩
    rw [if_neg (fun hc => hne (h1.symm.trans hc.1))]
    exact ⟨h1, h2, h3⟩
theorem atB_clean {l : List Bf} (h : Rises l) (p : Int) (d : ByteArray) : atB (cleanB l p d) p = (atB l p).map (fun v => (v.1, if v.1 = d then false else v.2)) := by
  cases ha : atB l p with
  | none =>
    refine atB_no fun x hx => ?_
    obtain ⟨z, hz, rfl⟩ := List.mem_map.1 hx
    have := atB_none h ha z hz
    split <;> exact this
  | some v =>
    obtain ⟨x, hx, rfl, h2, h3, _⟩ := atB_some h ha
    have hm : (if x.pos = x.pos ∧ x.data = d then { x with dirty := false } else x) ∈ cleanB l x.pos d := List.mem_map.2 ⟨x, hx, rfl⟩
    have := atB_mem (cleanB_rises h x.pos d) hm
    by_cases hd : x.data = d
    · rw [if_pos ⟨rfl, hd⟩] at this
      rw [this]
      simp [← h2, hd]
    · rw [if_neg (fun c => hd c.2)] at this
      rw [this]
      simp [← h2, ← h3, hd]
theorem put_mem {l m : List Bf} {b : Bf} {held : Int → Bool} (hr : Rises l) (hp : putB l b held = some m) : b ∈ m ∧ ∀ y ∈ m, y = b ∨ (y ∈ l ∧ y.pos ≠ b.pos) := by
  unfold putB at hp
  cases hi : isB l b.pos with
  | true =>
    rw [hi, if_pos rfl] at hp
    cases hp
    obtain ⟨c, hc, hcp⟩ := isB_iff.1 hi
    refine ⟨List.mem_map.2 ⟨c, hc, if_pos hcp⟩, fun y hy => ?_⟩
    obtain ⟨z, hz, rfl⟩ := List.mem_map.1 hy
    split
    · exact .inl rfl
    · rename_i hne; exact .inr ⟨hz, hne⟩
  | false =>
    have hno := isB_false.1 hi
    rw [hi, if_neg (by simp)] at hp
    split at hp
    · split at hp
      · cases hp
      · cases hp
        refine ⟨mem_insB.2 (.inl rfl), fun y hy => ?_⟩
        rcases mem_insB.1 hy with h | h
        · exact .inl h
        · exact .inr ⟨List.mem_of_mem_eraseIdx h, hno y (List.mem_of_mem_eraseIdx h)⟩
    · cases hp
      refine ⟨mem_insB.2 (.inl rfl), fun y hy => ?_⟩
      rcases mem_insB.1 hy with h | h
      · exact .inl h
      · exact .inr ⟨h, hno y h⟩
theorem atB_put {l m : List Bf} {b : Bf} {held : Int → Bool} (hr : Rises l) (h8 : l.length ≤ 8) (hp : putB l b held = some m) : atB m b.pos = some (b.data, b.dirty) := atB_mem (putB_rises hr hp) (put_mem hr hp).1
theorem atB_put_ne {l m : List Bf} {b : Bf} {held : Int → Bool} (hr : Rises l) (h8 : l.length ≤ 8) (hp : putB l b held = some m) {q : Int} (hq : q ≠ b.pos) :
    atB m q = atB l q ∨ (atB m q = none ∧ held q = false ∧ ∃ d, atB l q = some (d, false)) := by
  obtain ⟨J, hJ⟩ := put_spec hr h8 hp
  cases ha : atB l q with
  | none =>
    left
    refine atB_no fun y hy e => ?_
    rcases (put_mem hr hp).2 y hy with rfl | ⟨h1, _⟩
    · exact hq e.symm
    · exact atB_none hr ha y h1 e
  | some v =>
    obtain ⟨x, hx, rfl, h2, h3, _⟩ := atB_some hr ha
    obtain ⟨i, hi⟩ := List.mem_iff_getElem?.1 hx
    by_cases hij : i = J
    · subst hij
      right
      obtain ⟨_, h4, h5, h6, _⟩ := hJ.gone x hi
      refine ⟨by unfold atB; rw [h4]; rfl, h6, v.1, ?_⟩
      obtain ⟨v1, v2⟩ := v
      simp only at h3 ⊢
      rw [← h3, h5]
    · left
      have := hJ.stay i x hi hq hij
      obtain ⟨v1, v2⟩ := v
      simp only at h2 h3
      unfold atB
      rw [this, h2, h3]
      rfl
theorem still_iff {l : List Bf} {p : Int} : ((getB l p).2 && (getB l p).1.dirty) = true ↔ ∃ d, atB l p = some (d, true) := by
  unfold atB
  cases (getB l p).2 <;> cases (getB l p).1.dirty <;> simp
/-- How many are dirty, and the like: of what counts only dirty ones. -/
theorem cnt_use (f : Int → ByteArray → Bool → Bool) (l : List Bf) (p n : Int) : cnt f (useB l p n) = cnt f l := by
  unfold cnt useB
  rw [List.countP_map]
  congr 1
  funext b
  simp only [Function.comp]
  split <;> rfl
theorem cnt_clean (f : Int → ByteArray → Bool → Bool) (hf : ∀ p d, f p d false = false) (l : List Bf) (p : Int) (d : ByteArray) : cnt f (cleanB l p d) ≤ cnt f l := by
  unfold cnt cleanB
  rw [List.countP_map]
  apply List.countP_mono_left
  intro b hb h
  simp only [Function.comp] at h
  split at h
  · rw [hf] at h; cases h
  · exact h
theorem cnt_insB (f : Int → ByteArray → Bool → Bool) (l : List Bf) (b : Bf) : cnt f (insB l b) = cnt f l + if f b.pos b.data b.dirty then 1 else 0 := by
  unfold cnt insB
  conv => rhs; rw [← List.take_append_drop (posB l b.pos) l]
  simp only [List.countP_append, List.countP_cons]
  omega
theorem cnt_erase (f : Int → ByteArray → Bool → Bool) : ∀ (l : List Bf) (j : Nat) (x : Bf), l[j]? = some x → cnt f l = cnt f (l.eraseIdx j) + if f x.pos x.data x.dirty then 1 else 0
  | [], j, x, h => by simp at h
  | y :: l, 0, x, h => by simp at h; subst h; unfold cnt; rw [List.countP_cons]; rfl
  | y :: l, j + 1, x, h => by
    have := cnt_erase f l j x (by simpa using h)
    unfold cnt at *
    rw [List.eraseIdx_cons_succ, List.countP_cons, List.countP_cons, this]
    omega
theorem cnt_map (f : Int → ByteArray → Bool → Bool) (b : Bf) : ∀ (l : List Bf) (x : Bf), Rises l → x ∈ l → x.pos = b.pos → cnt f (l.map fun y => if y.pos = b.pos then b else y) + (if f x.pos x.data x.dirty then 1 else 0) = cnt f l + if f b.pos b.data b.dirty then 1 else 0 := by
  intro l x hr hx hp
  obtain ⟨j, hj⟩ := List.mem_iff_getElem?.1 hx
  obtain ⟨hlt, hxe⟩ := List.getElem?_eq_some_iff.1 hj
  have e : (l.map fun y => if y.pos = b.pos then b else y) = l.set j b := by
    have := map_one hr hj hp (fun y => if y.pos = b.pos then b else y) (fun y hy => if_neg hy)
    rw [if_pos hp] at this; exact this
  rw [e, cnt_erase f l j x hj]
  have h2 := cnt_erase f (l.set j b) j b (by rw [List.getElem?_set, if_pos rfl, if_pos hlt])
  rw [List.eraseIdx_set_eq] at h2
  rw [h2]; omega
/-- Put: of what counts only dirty ones, at most one more; none more, if what was there of the sector counted. -/
theorem cnt_put (f : Int → ByteArray → Bool → Bool) (hf : ∀ p d, f p d false = false) {l m : List Bf} {b : Bf} {held : Int → Bool} (hr : Rises l) (hp : putB l b held = some m) :
    cnt f m ≤ cnt f l + (if f b.pos b.data b.dirty then 1 else 0) ∧ ∀ x ∈ l, x.pos = b.pos → cnt f m + (if f x.pos x.data x.dirty then 1 else 0) = cnt f l + if f b.pos b.data b.dirty then 1 else 0 := by
  unfold putB at hp
  cases hi : isB l b.pos with
  | true =>
    rw [hi, if_pos rfl] at hp
    cases hp
    obtain ⟨c, hc, hcp⟩ := isB_iff.1 hi
    have := cnt_map f b l c hr hc hcp
    exact ⟨by omega, fun x hx hxp => cnt_map f b l x hr hx hxp⟩
  | false =>
    have hno := isB_false.1 hi
    rw [hi, if_neg (by simp)] at hp
    refine ⟨?_, fun x hx hxp => absurd hxp (hno x hx)⟩
    split at hp
    · split at hp
      · cases hp
      · rename_i hv
        cases hp
        obtain ⟨j, hj⟩ : ∃ j : Nat, leastB l false held = (j : Int) := ⟨(leastB l false held).toNat, by omega⟩
        obtain ⟨x, hx, hox, _⟩ := bestB_some hj
        rw [hj, Int.toNat_natCast, cnt_insB, cnt_erase f l j x hx]
        omega
    · cases hp
      rw [cnt_insB]; omega
theorem dirty_cnt (l : List Bf) : dirtyB l = cnt (fun _ _ y => y) l := rfl
theorem cnt_pos {f : Int → ByteArray → Bool → Bool} {l : List Bf} (h : 0 < cnt f l) : ∃ x ∈ l, f x.pos x.data x.dirty = true := by
  unfold cnt at h
  obtain ⟨x, hx, h1⟩ := List.countP_pos_iff.1 h
  exact ⟨x, hx, h1⟩
theorem cnt_mem {f : Int → ByteArray → Bool → Bool} {l : List Bf} {x : Bf} (hx : x ∈ l) (h : f x.pos x.data x.dirty = true) : 0 < cnt f l := by
  unfold cnt
  exact List.countP_pos_iff.2 ⟨x, hx, h⟩
end Go.Proofs.Ytojmnfelecnenaa
