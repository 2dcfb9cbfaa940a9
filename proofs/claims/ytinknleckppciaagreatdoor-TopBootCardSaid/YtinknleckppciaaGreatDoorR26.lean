/- victim, Pick: who was used least lately, of those that are (not) dirty, and that nobody holds; a function value tells who is held. gen_victim.py prints this text. GoodBufs, SameBufs. -/
import Derived.Test.YtinknleckppciaaGreatDoorR24
import Derived.Test.YtinknleckppciaaGreatDoorR5
import Derived.Test.YtinknleckppciaaGreatDoorR14
import Derived.BigQuiet
namespace Go.Proofs.YtinknleckppciaaGreatDoor
set_option linter.unusedSimpArgs false
set_option linter.unusedVariables false
open Go.RowKit Go.Sort

/-- A call of a function that has a body: it is entered. -/
theorem enters {f : FuncId} {fn : Func} {c : Code} (hf : Tryz.prog.funcs[f]? = some fn) (hname : (fn.name == "runtime.NumGoroutine") = false) (hb : fn.body = some c) (args : Array Value) (w : World) : (callFunc f args).run Tryz.prog w = .ok (.enter f args) w := by
  have h1 : fn.name ≠ "runtime.NumGoroutine" := by simpa using hname
  simp [callFunc, hf, h1, hb]
/-- The function value tells, of each sector that there is, whether it is held; nothing that was there is written. -/
structure HeldBy (w : World) (f : FuncId) (first caps : Array Value) (held : Int → Bool) : Prop where
  enter : ∀ args w', (callFunc f args).run Tryz.prog w' = .ok (.enter f args) w'
  calls : ∀ (w' : World) (p : Int), Below w.heap.size w w' → 0 ≤ p → p ≤ 31 → Calls Tryz.prog f (first.push (.int .i64 p) ++ caps) w' (Ret (.bool (held p)) w')
theorem HeldBy.step {w w1 : World} {f : FuncId} {first caps : Array Value} {held : Int → Bool} (h : HeldBy w f first caps held) (hb : Below w.heap.size w w1) : HeldBy w1 f first caps held :=
  ⟨h.enter, fun w' p h1 => h.calls w' p (hb.trans (h1.mono hb.size))⟩
theorem HeldBy.at_ {w w' : World} {f : FuncId} {first caps : Array Value} {held : Int → Bool} {p : Int} {v : Bool} (h : HeldBy w f first caps held) (hv : held p = v) (h0 : 0 ≤ p) (h31 : p ≤ 31) (hb : Below w.heap.size w w') :
    Calls Tryz.prog f (first.push (.int .i64 p) ++ caps) w' (Ret (.bool v) w') := by rw [← hv]; exact h.calls w' p hb h0 h31
/-- Sectors that there are. -/
def InB (l : List Bf) : Prop := ∀ b ∈ l, 0 ≤ b.pos ∧ b.pos ≤ 31
def okB (dirty : Bool) (held : Int → Bool) (b : Bf) : Bool := (b.dirty == dirty) && !held b.pos
theorem leastB_eq (l : List Bf) (dirty : Bool) (held : Int → Bool) : leastB l dirty held = bestB (okB dirty held) l l.length := rfl
set_option maxRecDepth 100000 in
set_option maxHeartbeats 400000 in
/-- The one that goes. -/
theorem victim_any (S : Nat → Prop) (l : List Bf) (v : Value) (f : FuncId) (first caps : Array Value) (held : Int → Bool) (w : World) (h : BufsAt S w v l) (hin : InB l) (hh : HeldBy w f first caps held) (hn : l.length ≤ 65536) :
    Calls Tryz.prog 81 #[v, .func (.func f) first caps] w (Ret (.int .i64 (leastB l false held)) w) := by
  obtain ⟨A, cap, rfl, h1, h2⟩ := h.form
  unfold maxLen at h2
  have H := Lib.hid h
  have HH := Lib.hid hh
  have HI := Lib.hid hin
  have hen := hh.enter
  clear h hh hin
  obtain ⟨ok, hok⟩ : ∃ ok, okB false held = ok := ⟨_, rfl⟩
  have HO := Lib.hid hok
  have Hone : Hid (∀ x, ok x = okB false held x) := fun x => by rw [hok]
  clear hok
  go_enter Tryz.func81, Tryz.ntmps81
  go_wp2_with fail
  go_loopw [5, 10] (fun b i wr => ∃ k : Nat, k ≤ l.length ∧ i = .int .i64 k ∧ b = .int .i64 (bestB ok l k) ∧ Below w.heap.size w wr) (fun _ i _ => l.length - (intOf i).toNat)
  case atStart => exact ⟨0, by omega, rfl, rfl, Below.refl _ _⟩
  case round =>
    obtain ⟨k, hk, rfl, rfl, hb⟩ := hrel
    have hrange := bestB_range ok l k
    by_cases hlt : k < l.length
    · have hkl : (k : Int) < (l.length : Int) := by omega
      have Hm := Lib.hid (H.out.below hb)
      obtain ⟨b, off, rfl, _, hbl, hc⟩ := Hm.out.at_ (by omega)
      have hx : l[k]? = some l[k] := List.getElem?_eq_getElem hlt
      obtain ⟨_, k0, k1, k2, k3⟩ := hc k _ hx
      have Hp := Lib.hid (HI.out _ (List.mem_of_getElem? hx))
      have Hx := Lib.hid hx
      have Hc := Lib.hid hc
      clear hx hc
      generalize l[k] = x at *
      have Hok := Lib.hid (Hone.out x)
      cases hd : x.dirty with
      | true =>
        rw [hd] at k2
        have Hd := Lib.hid hd
        go_wp2_with fail
        have L := (Lay.refl wr).alloc' wr.heap.size #[.int .i64 x.pos, .string x.data, .bool true, .int .i64 x.used] 83 rfl
        generalize World.alloc _ _ = W at L ⊢
        have hbW := hb.trans (L.below.mono hb.size)
        obtain ⟨c0, c1, c2, c3⟩ := L.c4 0 rfl
        have g0 : ∀ d os, (grow (redrawn W d) os).cell? ⟨wr.heap.size, 0, none⟩ = some (.int .i64 x.pos) := fun _ _ => cell_regrown c0 _ _
        have g2 : ∀ d os, (grow (redrawn W d) os).cell? ⟨wr.heap.size, 2, none⟩ = some (.bool true) := fun _ _ => cell_regrown c2 _ _
        have g3 : ∀ d os, (grow (redrawn W d) os).cell? ⟨wr.heap.size, 3, none⟩ = some (.int .i64 x.used) := fun _ _ => cell_regrown c3 _ _
        have HbW := Lib.hid hbW
        have HL := Lib.hid L
        clear c0 c1 c2 c3 k0 k1 k2 k3 hbW L hb
        clear hrange hd
        refine wp_region_quiet_below mixed (by kernel_rfl) ?_
        repeat (first | go_big_quiet_step ((fail)) | quiet_step ((fail)))
        refine wpQuiet_nil ?_
        intro _ hw'
        obtain ⟨⟨dq, osq⟩, hw''⟩ := hw'
        subst hw''
        have hb4 := HbW.out.trans (Below.mono (below_regrown W dq osq) HbW.out.size)
        clear g0 g2 g3
        generalize grow (redrawn W dq) osq = w4 at hb4 ⊢
        go_wp2
        go_roundw
        case rel => exact ⟨k + 1, by omega, by go_num, by rw [bestB_no Hx.out (by rw [Hok.out]; unfold okB; rw [Hd.out]; rfl)], hb4⟩
        case measure => simp [intOf]; omega
      | false =>
        rw [hd] at k2
        have Hd := Lib.hid hd
        cases hhx : held x.pos with
        | true =>
          have Hhx := Lib.hid hhx
          go_wp2_with fail
          have L := (Lay.refl wr).alloc' wr.heap.size #[.int .i64 x.pos, .string x.data, .bool false, .int .i64 x.used] 83 rfl
          generalize World.alloc _ _ = W at L ⊢
          have hbW := hb.trans (L.below.mono hb.size)
          obtain ⟨c0, c1, c2, c3⟩ := L.c4 0 rfl
          have g0 : ∀ d os, (grow (redrawn W d) os).cell? ⟨wr.heap.size, 0, none⟩ = some (.int .i64 x.pos) := fun _ _ => cell_regrown c0 _ _
          have g2 : ∀ d os, (grow (redrawn W d) os).cell? ⟨wr.heap.size, 2, none⟩ = some (.bool false) := fun _ _ => cell_regrown c2 _ _
          have g3 : ∀ d os, (grow (redrawn W d) os).cell? ⟨wr.heap.size, 3, none⟩ = some (.int .i64 x.used) := fun _ _ => cell_regrown c3 _ _
          have HbW := Lib.hid hbW
          have HL := Lib.hid L
          clear c0 c1 c2 c3 k0 k1 k2 k3 hbW L hb
          clear hrange hd
          refine wp_region_quiet_below mixed (by kernel_rfl) ?_
          repeat (first | go_big_quiet_step ((exact Calls.rg (HH.out.at_ Hhx.out Hp.out.1 Hp.out.2 (HbW.out.trans (Below.mono (below_regrown W _ _) HbW.out.size))))) | quiet_step ((exact Calls.rg (HH.out.at_ Hhx.out Hp.out.1 Hp.out.2 (HbW.out.trans (Below.mono (below_regrown W _ _) HbW.out.size))))))
          refine wpQuiet_nil ?_
          intro _ hw'
          obtain ⟨⟨dq, osq⟩, hw''⟩ := hw'
          subst hw''
          have hb4 := HbW.out.trans (Below.mono (below_regrown W dq osq) HbW.out.size)
          clear g0 g2 g3
          generalize grow (redrawn W dq) osq = w4 at hb4 ⊢
          go_wp2
          go_roundw
          case rel => exact ⟨k + 1, by omega, by go_num, by rw [bestB_no Hx.out (by rw [Hok.out]; unfold okB; rw [Hd.out, Hhx.out]; rfl)], hb4⟩
          case measure => simp [intOf]; omega
        | false =>
          have Hhx := Lib.hid hhx
          by_cases hneg : bestB ok l k < 0
          · have hm1 : bestB ok l k = -1 := by omega
            have Hm1 := Lib.hid hm1
            rw [hm1]
            clear hm1 hneg
            go_wp2_with fail
            have L := (Lay.refl wr).alloc' wr.heap.size #[.int .i64 x.pos, .string x.data, .bool false, .int .i64 x.used] 83 rfl
            generalize World.alloc _ _ = W at L ⊢
            have hbW := hb.trans (L.below.mono hb.size)
            obtain ⟨c0, c1, c2, c3⟩ := L.c4 0 rfl
            have g0 : ∀ d os, (grow (redrawn W d) os).cell? ⟨wr.heap.size, 0, none⟩ = some (.int .i64 x.pos) := fun _ _ => cell_regrown c0 _ _
            have g2 : ∀ d os, (grow (redrawn W d) os).cell? ⟨wr.heap.size, 2, none⟩ = some (.bool false) := fun _ _ => cell_regrown c2 _ _
            have g3 : ∀ d os, (grow (redrawn W d) os).cell? ⟨wr.heap.size, 3, none⟩ = some (.int .i64 x.used) := fun _ _ => cell_regrown c3 _ _
            have HbW := Lib.hid hbW
            have HL := Lib.hid L
            clear c0 c1 c2 c3 k0 k1 k2 k3 hbW L hb
            clear hrange hd
            refine wp_region_quiet_below mixed (by kernel_rfl) ?_
            repeat (first | go_big_quiet_step ((exact Calls.rg (HH.out.at_ Hhx.out Hp.out.1 Hp.out.2 (HbW.out.trans (Below.mono (below_regrown W _ _) HbW.out.size))))) | quiet_step ((exact Calls.rg (HH.out.at_ Hhx.out Hp.out.1 Hp.out.2 (HbW.out.trans (Below.mono (below_regrown W _ _) HbW.out.size))))))
            refine wpQuiet_nil ?_
            intro _ hw'
            obtain ⟨⟨dq, osq⟩, hw''⟩ := hw'
            subst hw''
            have hb4 := HbW.out.trans (Below.mono (below_regrown W dq osq) HbW.out.size)
            clear g0 g2 g3
            generalize grow (redrawn W dq) osq = w4 at hb4 ⊢
            go_wp2
            go_roundw
            case rel => exact ⟨k + 1, by omega, by go_num, by rw [bestB_first Hx.out (by rw [Hok.out]; unfold okB; rw [Hd.out, Hhx.out]; rfl) (by rw [Hm1.out]; omega)], hb4⟩
            case measure => simp [intOf]; omega
          · obtain ⟨j, hj⟩ : ∃ j : Nat, bestB ok l k = j := ⟨(bestB ok l k).toNat, by omega⟩
            have Hj := Lib.hid hj
            rw [hj]
            have hjk : j < k := by omega
            have hjl : (j : Int) < (l.length : Int) := by omega
            have hj0 : ¬ (j : Int) < 0 := by omega
            clear hj hneg
            have hxj : l[j]? = some l[j] := List.getElem?_eq_getElem (by omega)
            have Hxj := Lib.hid hxj
            clear hxj
            generalize l[j] = y at *
            by_cases hless : x.used < y.used
            · have Hless := Lib.hid hless
              go_wp2_with fail
              have L := (Lay.refl wr).alloc' wr.heap.size #[.int .i64 x.pos, .string x.data, .bool false, .int .i64 x.used] 83 rfl
              generalize World.alloc _ _ = W at L ⊢
              have hbW := hb.trans (L.below.mono hb.size)
              obtain ⟨c0, c1, c2, c3⟩ := L.c4 0 rfl
              have g0 : ∀ d os, (grow (redrawn W d) os).cell? ⟨wr.heap.size, 0, none⟩ = some (.int .i64 x.pos) := fun _ _ => cell_regrown c0 _ _
              have g2 : ∀ d os, (grow (redrawn W d) os).cell? ⟨wr.heap.size, 2, none⟩ = some (.bool false) := fun _ _ => cell_regrown c2 _ _
              have g3 : ∀ d os, (grow (redrawn W d) os).cell? ⟨wr.heap.size, 3, none⟩ = some (.int .i64 x.used) := fun _ _ => cell_regrown c3 _ _
              obtain ⟨_, j0, j1, j2, j3⟩ := Hc.out j _ Hxj.out
              have g4 : ∀ d os, (grow (redrawn W d) os).cell? ⟨b, off + j * 4 + 3, none⟩ = some (.int .i64 y.used) := fun _ _ => cell_regrown (cell_b L.below j3) _ _
              clear j0 j1 j2 j3
              have HbW := Lib.hid hbW
              have HL := Lib.hid L
              clear c0 c1 c2 c3 k0 k1 k2 k3 hbW L hb
              clear hrange hd
              refine wp_region_quiet_below mixed (by kernel_rfl) ?_
              repeat (first | go_big_quiet_step ((exact Calls.rg (HH.out.at_ Hhx.out Hp.out.1 Hp.out.2 (HbW.out.trans (Below.mono (below_regrown W _ _) HbW.out.size))))) | quiet_step ((exact Calls.rg (HH.out.at_ Hhx.out Hp.out.1 Hp.out.2 (HbW.out.trans (Below.mono (below_regrown W _ _) HbW.out.size))))))
              refine wpQuiet_nil ?_
              intro _ hw'
              obtain ⟨⟨dq, osq⟩, hw''⟩ := hw'
              subst hw''
              have hb4 := HbW.out.trans (Below.mono (below_regrown W dq osq) HbW.out.size)
              clear g0 g2 g3
              generalize grow (redrawn W dq) osq = w4 at hb4 ⊢
              go_wp2
              go_roundw
              case rel => exact ⟨k + 1, by omega, by go_num, by rw [bestB_less Hx.out (by rw [Hok.out]; unfold okB; rw [Hd.out, Hhx.out]; rfl) Hj.out Hxj.out Hless.out], hb4⟩
              case measure => simp [intOf]; omega
            · have Hless := Lib.hid hless
              have hless2 : decide (x.used < y.used) = false := decide_eq_false hless
              go_wp2_with fail
              have L := (Lay.refl wr).alloc' wr.heap.size #[.int .i64 x.pos, .string x.data, .bool false, .int .i64 x.used] 83 rfl
              generalize World.alloc _ _ = W at L ⊢
              have hbW := hb.trans (L.below.mono hb.size)
              obtain ⟨c0, c1, c2, c3⟩ := L.c4 0 rfl
              have g0 : ∀ d os, (grow (redrawn W d) os).cell? ⟨wr.heap.size, 0, none⟩ = some (.int .i64 x.pos) := fun _ _ => cell_regrown c0 _ _
              have g2 : ∀ d os, (grow (redrawn W d) os).cell? ⟨wr.heap.size, 2, none⟩ = some (.bool false) := fun _ _ => cell_regrown c2 _ _
              have g3 : ∀ d os, (grow (redrawn W d) os).cell? ⟨wr.heap.size, 3, none⟩ = some (.int .i64 x.used) := fun _ _ => cell_regrown c3 _ _
              obtain ⟨_, j0, j1, j2, j3⟩ := Hc.out j _ Hxj.out
              have g4 : ∀ d os, (grow (redrawn W d) os).cell? ⟨b, off + j * 4 + 3, none⟩ = some (.int .i64 y.used) := fun _ _ => cell_regrown (cell_b L.below j3) _ _
              clear j0 j1 j2 j3
              have HbW := Lib.hid hbW
              have HL := Lib.hid L
              clear c0 c1 c2 c3 k0 k1 k2 k3 hbW L hb
              clear hrange hd
              refine wp_region_quiet_below mixed (by kernel_rfl) ?_
              repeat (first | go_big_quiet_step ((exact Calls.rg (HH.out.at_ Hhx.out Hp.out.1 Hp.out.2 (HbW.out.trans (Below.mono (below_regrown W _ _) HbW.out.size))))) | quiet_step ((exact Calls.rg (HH.out.at_ Hhx.out Hp.out.1 Hp.out.2 (HbW.out.trans (Below.mono (below_regrown W _ _) HbW.out.size))))))
              refine wpQuiet_nil ?_
              intro _ hw'
              obtain ⟨⟨dq, osq⟩, hw''⟩ := hw'
              subst hw''
              have hb4 := HbW.out.trans (Below.mono (below_regrown W dq osq) HbW.out.size)
              clear g0 g2 g3
              generalize grow (redrawn W dq) osq = w4 at hb4 ⊢
              go_wp2
              go_roundw
              case rel => exact ⟨k + 1, by omega, by go_num, by rw [bestB_more Hx.out Hj.out Hxj.out (by have := Hless.out; omega)], hb4⟩
              case measure => simp [intOf]; omega
    · obtain rfl : k = l.length := by omega
      clear hrange
      go_wp2
      go_ret
      refine ⟨?_, hb⟩
      rw [leastB_eq, HO.out]; rfl
set_option maxRecDepth 100000 in
set_option maxHeartbeats 400000 in
/-- The one that is written. -/
theorem pick_any (S : Nat → Prop) (l : List Bf) (v : Value) (f : FuncId) (first caps : Array Value) (held : Int → Bool) (w : World) (h : BufsAt S w v l) (hin : InB l) (hh : HeldBy w f first caps held) (hn : l.length ≤ 65536) :
    Calls Tryz.prog 41 #[v, .func (.func f) first caps] w (Ret (.int .i64 (pickB l held)) w) := by
  obtain ⟨A, cap, rfl, h1, h2⟩ := h.form
  unfold maxLen at h2
  have H := Lib.hid h
  have HH := Lib.hid hh
  have HI := Lib.hid hin
  have hen := hh.enter
  clear h hh hin
  obtain ⟨ok, hok⟩ : ∃ ok, okB true held = ok := ⟨_, rfl⟩
  have HO := Lib.hid hok
  have Hone : Hid (∀ x, ok x = okB true held x) := fun x => by rw [hok]
  clear hok
  go_enter Tryz.func41, Tryz.ntmps41
  go_wp2_with fail
  go_loopw [5, 10] (fun b i wr => ∃ k : Nat, k ≤ l.length ∧ i = .int .i64 k ∧ b = .int .i64 (bestB ok l k) ∧ Below w.heap.size w wr) (fun _ i _ => l.length - (intOf i).toNat)
  case atStart => exact ⟨0, by omega, rfl, rfl, Below.refl _ _⟩
  case round =>
    obtain ⟨k, hk, rfl, rfl, hb⟩ := hrel
    have hrange := bestB_range ok l k
    by_cases hlt : k < l.length
    · have hkl : (k : Int) < (l.length : Int) := by omega
      have Hm := Lib.hid (H.out.below hb)
      obtain ⟨b, off, rfl, _, hbl, hc⟩ := Hm.out.at_ (by omega)
      have hx : l[k]? = some l[k] := List.getElem?_eq_getElem hlt
      obtain ⟨_, k0, k1, k2, k3⟩ := hc k _ hx
      have Hp := Lib.hid (HI.out _ (List.mem_of_getElem? hx))
      have Hx := Lib.hid hx
      have Hc := Lib.hid hc
      clear hx hc
      generalize l[k] = x at *
      have Hok := Lib.hid (Hone.out x)
      cases hd : x.dirty with
      | false =>
        rw [hd] at k2
        have Hd := Lib.hid hd
        go_wp2_with fail
        have L := (Lay.refl wr).alloc' wr.heap.size #[.int .i64 x.pos, .string x.data, .bool false, .int .i64 x.used] 83 rfl
        generalize World.alloc _ _ = W at L ⊢
        have hbW := hb.trans (L.below.mono hb.size)
        obtain ⟨c0, c1, c2, c3⟩ := L.c4 0 rfl
        have g0 : ∀ d os, (grow (redrawn W d) os).cell? ⟨wr.heap.size, 0, none⟩ = some (.int .i64 x.pos) := fun _ _ => cell_regrown c0 _ _
        have g2 : ∀ d os, (grow (redrawn W d) os).cell? ⟨wr.heap.size, 2, none⟩ = some (.bool false) := fun _ _ => cell_regrown c2 _ _
        have g3 : ∀ d os, (grow (redrawn W d) os).cell? ⟨wr.heap.size, 3, none⟩ = some (.int .i64 x.used) := fun _ _ => cell_regrown c3 _ _
        have HbW := Lib.hid hbW
        have HL := Lib.hid L
        clear c0 c1 c2 c3 k0 k1 k2 k3 hbW L hb
        clear hrange hd
        refine wp_region_quiet_below mixed (by kernel_rfl) ?_
        repeat (first | go_big_quiet_step ((fail)) | quiet_step ((fail)))
        refine wpQuiet_nil ?_
        intro _ hw'
        obtain ⟨⟨dq, osq⟩, hw''⟩ := hw'
        subst hw''
        have hb4 := HbW.out.trans (Below.mono (below_regrown W dq osq) HbW.out.size)
        clear g0 g2 g3
        generalize grow (redrawn W dq) osq = w4 at hb4 ⊢
        go_wp2
        go_roundw
        case rel => exact ⟨k + 1, by omega, by go_num, by rw [bestB_no Hx.out (by rw [Hok.out]; unfold okB; rw [Hd.out]; rfl)], hb4⟩
        case measure => simp [intOf]; omega
      | true =>
        rw [hd] at k2
        have Hd := Lib.hid hd
        cases hhx : held x.pos with
        | true =>
          have Hhx := Lib.hid hhx
          go_wp2_with fail
          have L := (Lay.refl wr).alloc' wr.heap.size #[.int .i64 x.pos, .string x.data, .bool true, .int .i64 x.used] 83 rfl
          generalize World.alloc _ _ = W at L ⊢
          have hbW := hb.trans (L.below.mono hb.size)
          obtain ⟨c0, c1, c2, c3⟩ := L.c4 0 rfl
          have g0 : ∀ d os, (grow (redrawn W d) os).cell? ⟨wr.heap.size, 0, none⟩ = some (.int .i64 x.pos) := fun _ _ => cell_regrown c0 _ _
          have g2 : ∀ d os, (grow (redrawn W d) os).cell? ⟨wr.heap.size, 2, none⟩ = some (.bool true) := fun _ _ => cell_regrown c2 _ _
          have g3 : ∀ d os, (grow (redrawn W d) os).cell? ⟨wr.heap.size, 3, none⟩ = some (.int .i64 x.used) := fun _ _ => cell_regrown c3 _ _
          have HbW := Lib.hid hbW
          have HL := Lib.hid L
          clear c0 c1 c2 c3 k0 k1 k2 k3 hbW L hb
          clear hrange hd
          refine wp_region_quiet_below mixed (by kernel_rfl) ?_
          repeat (first | go_big_quiet_step ((exact Calls.rg (HH.out.at_ Hhx.out Hp.out.1 Hp.out.2 (HbW.out.trans (Below.mono (below_regrown W _ _) HbW.out.size))))) | quiet_step ((exact Calls.rg (HH.out.at_ Hhx.out Hp.out.1 Hp.out.2 (HbW.out.trans (Below.mono (below_regrown W _ _) HbW.out.size))))))
          refine wpQuiet_nil ?_
          intro _ hw'
          obtain ⟨⟨dq, osq⟩, hw''⟩ := hw'
          subst hw''
          have hb4 := HbW.out.trans (Below.mono (below_regrown W dq osq) HbW.out.size)
          clear g0 g2 g3
          generalize grow (redrawn W dq) osq = w4 at hb4 ⊢
          go_wp2
          go_roundw
          case rel => exact ⟨k + 1, by omega, by go_num, by rw [bestB_no Hx.out (by rw [Hok.out]; unfold okB; rw [Hd.out, Hhx.out]; rfl)], hb4⟩
          case measure => simp [intOf]; omega
        | false =>
          have Hhx := Lib.hid hhx
          by_cases hneg : bestB ok l k < 0
          · have hm1 : bestB ok l k = -1 := by omega
            have Hm1 := Lib.hid hm1
            rw [hm1]
            clear hm1 hneg
            go_wp2_with fail
            have L := (Lay.refl wr).alloc' wr.heap.size #[.int .i64 x.pos, .string x.data, .bool true, .int .i64 x.used] 83 rfl
            generalize World.alloc _ _ = W at L ⊢
            have hbW := hb.trans (L.below.mono hb.size)
            obtain ⟨c0, c1, c2, c3⟩ := L.c4 0 rfl
            have g0 : ∀ d os, (grow (redrawn W d) os).cell? ⟨wr.heap.size, 0, none⟩ = some (.int .i64 x.pos) := fun _ _ => cell_regrown c0 _ _
            have g2 : ∀ d os, (grow (redrawn W d) os).cell? ⟨wr.heap.size, 2, none⟩ = some (.bool true) := fun _ _ => cell_regrown c2 _ _
            have g3 : ∀ d os, (grow (redrawn W d) os).cell? ⟨wr.heap.size, 3, none⟩ = some (.int .i64 x.used) := fun _ _ => cell_regrown c3 _ _
            have HbW := Lib.hid hbW
            have HL := Lib.hid L
            clear c0 c1 c2 c3 k0 k1 k2 k3 hbW L hb
            clear hrange hd
            refine wp_region_quiet_below mixed (by kernel_rfl) ?_
            repeat (first | go_big_quiet_step ((exact Calls.rg (HH.out.at_ Hhx.out Hp.out.1 Hp.out.2 (HbW.out.trans (Below.mono (below_regrown W _ _) HbW.out.size))))) | quiet_step ((exact Calls.rg (HH.out.at_ Hhx.out Hp.out.1 Hp.out.2 (HbW.out.trans (Below.mono (below_regrown W _ _) HbW.out.size))))))
            refine wpQuiet_nil ?_
            intro _ hw'
            obtain ⟨⟨dq, osq⟩, hw''⟩ := hw'
            subst hw''
            have hb4 := HbW.out.trans (Below.mono (below_regrown W dq osq) HbW.out.size)
            clear g0 g2 g3
            generalize grow (redrawn W dq) osq = w4 at hb4 ⊢
            go_wp2
            go_roundw
            case rel => exact ⟨k + 1, by omega, by go_num, by rw [bestB_first Hx.out (by rw [Hok.out]; unfold okB; rw [Hd.out, Hhx.out]; rfl) (by rw [Hm1.out]; omega)], hb4⟩
            case measure => simp [intOf]; omega
          · obtain ⟨j, hj⟩ : ∃ j : Nat, bestB ok l k = j := ⟨(bestB ok l k).toNat, by omega⟩
            have Hj := Lib.hid hj
            rw [hj]
            have hjk : j < k := by omega
            have hjl : (j : Int) < (l.length : Int) := by omega
            have hj0 : ¬ (j : Int) < 0 := by omega
            clear hj hneg
            have hxj : l[j]? = some l[j] := List.getElem?_eq_getElem (by omega)
            have Hxj := Lib.hid hxj
            clear hxj
            generalize l[j] = y at *
            by_cases hless : x.used < y.used
            · have Hless := Lib.hid hless
              go_wp2_with fail
              have L := (Lay.refl wr).alloc' wr.heap.size #[.int .i64 x.pos, .string x.data, .bool true, .int .i64 x.used] 83 rfl
              generalize World.alloc _ _ = W at L ⊢
              have hbW := hb.trans (L.below.mono hb.size)
              obtain ⟨c0, c1, c2, c3⟩ := L.c4 0 rfl
              have g0 : ∀ d os, (grow (redrawn W d) os).cell? ⟨wr.heap.size, 0, none⟩ = some (.int .i64 x.pos) := fun _ _ => cell_regrown c0 _ _
              have g2 : ∀ d os, (grow (redrawn W d) os).cell? ⟨wr.heap.size, 2, none⟩ = some (.bool true) := fun _ _ => cell_regrown c2 _ _
              have g3 : ∀ d os, (grow (redrawn W d) os).cell? ⟨wr.heap.size, 3, none⟩ = some (.int .i64 x.used) := fun _ _ => cell_regrown c3 _ _
              obtain ⟨_, j0, j1, j2, j3⟩ := Hc.out j _ Hxj.out
              have g4 : ∀ d os, (grow (redrawn W d) os).cell? ⟨b, off + j * 4 + 3, none⟩ = some (.int .i64 y.used) := fun _ _ => cell_regrown (cell_b L.below j3) _ _
              clear j0 j1 j2 j3
              have HbW := Lib.hid hbW
              have HL := Lib.hid L
              clear c0 c1 c2 c3 k0 k1 k2 k3 hbW L hb
              clear hrange hd
              refine wp_region_quiet_below mixed (by kernel_rfl) ?_
              repeat (first | go_big_quiet_step ((exact Calls.rg (HH.out.at_ Hhx.out Hp.out.1 Hp.out.2 (HbW.out.trans (Below.mono (below_regrown W _ _) HbW.out.size))))) | quiet_step ((exact Calls.rg (HH.out.at_ Hhx.out Hp.out.1 Hp.out.2 (HbW.out.trans (Below.mono (below_regrown W _ _) HbW.out.size))))))
              refine wpQuiet_nil ?_
              intro _ hw'
              obtain ⟨⟨dq, osq⟩, hw''⟩ := hw'
              subst hw''
              have hb4 := HbW.out.trans (Below.mono (below_regrown W dq osq) HbW.out.size)
              clear g0 g2 g3
              generalize grow (redrawn W dq) osq = w4 at hb4 ⊢
              go_wp2
              go_roundw
              case rel => exact ⟨k + 1, by omega, by go_num, by rw [bestB_less Hx.out (by rw [Hok.out]; unfold okB; rw [Hd.out, Hhx.out]; rfl) Hj.out Hxj.out Hless.out], hb4⟩
              case measure => simp [intOf]; omega
            · have Hless := Lib.hid hless
              have hless2 : decide (x.used < y.used) = false := decide_eq_false hless
              go_wp2_with fail
              have L := (Lay.refl wr).alloc' wr.heap.size #[.int .i64 x.pos, .string x.data, .bool true, .int .i64 x.used] 83 rfl
              generalize World.alloc _ _ = W at L ⊢
              have hbW := hb.trans (L.below.mono hb.size)
              obtain ⟨c0, c1, c2, c3⟩ := L.c4 0 rfl
              have g0 : ∀ d os, (grow (redrawn W d) os).cell? ⟨wr.heap.size, 0, none⟩ = some (.int .i64 x.pos) := fun _ _ => cell_regrown c0 _ _
              have g2 : ∀ d os, (grow (redrawn W d) os).cell? ⟨wr.heap.size, 2, none⟩ = some (.bool true) := fun _ _ => cell_regrown c2 _ _
              have g3 : ∀ d os, (grow (redrawn W d) os).cell? ⟨wr.heap.size, 3, none⟩ = some (.int .i64 x.used) := fun _ _ => cell_regrown c3 _ _
              obtain ⟨_, j0, j1, j2, j3⟩ := Hc.out j _ Hxj.out
              have g4 : ∀ d os, (grow (redrawn W d) os).cell? ⟨b, off + j * 4 + 3, none⟩ = some (.int .i64 y.used) := fun _ _ => cell_regrown (cell_b L.below j3) _ _
              clear j0 j1 j2 j3
              have HbW := Lib.hid hbW
              have HL := Lib.hid L
              clear c0 c1 c2 c3 k0 k1 k2 k3 hbW L hb
              clear hrange hd
              refine wp_region_quiet_below mixed (by kernel_rfl) ?_
              repeat (first | go_big_quiet_step ((exact Calls.rg (HH.out.at_ Hhx.out Hp.out.1 Hp.out.2 (HbW.out.trans (Below.mono (below_regrown W _ _) HbW.out.size))))) | quiet_step ((exact Calls.rg (HH.out.at_ Hhx.out Hp.out.1 Hp.out.2 (HbW.out.trans (Below.mono (below_regrown W _ _) HbW.out.size))))))
              refine wpQuiet_nil ?_
              intro _ hw'
              obtain ⟨⟨dq, osq⟩, hw''⟩ := hw'
              subst hw''
              have hb4 := HbW.out.trans (Below.mono (below_regrown W dq osq) HbW.out.size)
              clear g0 g2 g3
              generalize grow (redrawn W dq) osq = w4 at hb4 ⊢
              go_wp2
              go_roundw
              case rel => exact ⟨k + 1, by omega, by go_num, by rw [bestB_more Hx.out Hj.out Hxj.out (by have := Hless.out; omega)], hb4⟩
              case measure => simp [intOf]; omega
    · obtain rfl : k = l.length := by omega
      have hpk : pickB l held = if bestB ok l l.length < 0 then -1 else (l.getD (bestB ok l l.length).toNat default).pos := by unfold pickB; rw [leastB_eq, HO.out]
      by_cases hneg : bestB ok l l.length < 0
      · rw [if_pos hneg] at hpk
        have Hpk := Lib.hid hpk
        have hm1 : bestB ok l l.length = -1 := by omega
        rw [hm1]
        clear hrange hneg hpk hm1
        go_wp2
        go_ret
        refine ⟨?_, hb⟩
        rw [Hpk.out]; rfl
      · rw [if_neg hneg] at hpk
        obtain ⟨j, hj⟩ : ∃ j : Nat, bestB ok l l.length = j := ⟨(bestB ok l l.length).toNat, by omega⟩
        rw [hj] at hpk ⊢
        have hjk : j < l.length := by omega
        have hxj : l[j]? = some l[j] := List.getElem?_eq_getElem (by omega)
        rw [Int.toNat_natCast, List.getD_eq_getElem?_getD, hxj, Option.getD_some] at hpk
        have Hpk := Lib.hid hpk
        obtain ⟨b, off, rfl, _, hbl, hc⟩ := (H.out.below hb).at_ (by omega)
        obtain ⟨_, k0, k1, k2, k3⟩ := hc j _ hxj
        generalize l[j] = y at *
        have hjl : (j : Int) < (l.length : Int) := by omega
        have hj0 : ¬ (j : Int) < 0 := by omega
        clear hxj hpk hrange hneg hc hj
        go_wp2
        go_ret
        refine ⟨?_, hb⟩
        rw [Hpk.out]; rfl
end Go.Proofs.YtinknleckppciaaGreatDoor
namespace Go.Proofs.YtinknleckppciaaGreatDoor
set_option linter.unusedSimpArgs false
set_option linter.unusedVariables false
open Go.RowKit

theorem belowN {B : Nat} {a w : World} (h : Below B a w) (n : Nat) : Below B a (w.drewN n) := h.trans ⟨rfl, rfl, rfl, Nat.le_refl _, fun _ _ => rfl⟩
theorem bytes_ne {s t : ByteArray} (h : ¬ s = t) : ¬ s.toList = t.toList := fun e => h (by
  rw [ByteArray.toList_eq, ByteArray.toList_eq] at e
  exact ByteArray.ext (Array.toList_inj.1 e))
theorem run_buf (a b : Bf) (w : World) : (Op.equalIn 10000 83 (bfV a) (bfV b)).run Tryz.prog w = .ok (decide (a = b)) w := by
  have u1 := Tryz.underlying3
  have u2 := Tryz.underlying9
  have u3 := Tryz.underlying4
  have hS : Tryz.prog.underlying 83 = some (.struct (Tryz.prog.fieldsOf 83)) := by kernel_rfl
  have hp : Tryz.prog.stoodInHeld 83 = false := by kernel_rfl
  rw [show (10000 : Nat) = 9999 + 1 from rfl, run_equalIn_agg w 9999 83 _ _ hS hp]
  simp only [Program.fieldsOf, Tryz.underlying83]
  obtain ⟨p, d, y, u⟩ := a
  obtain ⟨p', d', y', u'⟩ := b
  go_simp
  by_cases h2 : d = d'
  · subst h2
    by_cases h1 : p = p' <;> by_cases h3 : y = y' <;> by_cases h4 : u = u' <;> simp [h1, h3, h4]
  · have h5 := bytes_ne h2
    by_cases h1 : p = p' <;> by_cases h3 : y = y' <;> by_cases h4 : u = u' <;> simp [h1, h2, h3, h4, h5]
@[go_sem high] theorem buf_eq (a b : Bf) (w : World) : (binOp .eql 83 (bfV a) (bfV b)).run Tryz.prog w = .ok (.bool (decide (a = b))) w := by
  rw [run_eql_struct, run_buf]; rfl
@[go_sem high] theorem buf_ne (a b : Bf) (w : World) : (binOp .neq 83 (bfV a) (bfV b)).run Tryz.prog w = .ok (.bool (!decide (a = b))) w := by
  rw [run_neq_struct, run_buf]; rfl
def sameBB (a b : List Bf) : Bool := decide (a = b)
instance (l : List Bf) : Decidable (goodB l) := by unfold goodB Rises; infer_instance
theorem goodB_len {l : List Bf} (h : goodB l) : l.length ≤ 65536 := by have := h.1; omega
end Go.Proofs.YtinknleckppciaaGreatDoor
