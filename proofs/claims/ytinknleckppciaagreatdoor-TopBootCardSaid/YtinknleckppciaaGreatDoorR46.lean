/- Play: a step is played. gen_play.py prints this text. -/
import Derived.Test.YtinknleckppciaaGreatDoorR44
import Derived.Test.YtinknleckppciaaGreatDoorR45
import Derived.Deep.RegionHeld3
namespace Go.Proofs.YtinknleckppciaaGreatDoor
set_option linter.unusedSimpArgs false
set_option linter.unusedVariables false
open Go.RowKit Go.Sort

theorem wait_ok {s : St} (h : Inv s) : ∀ r ∈ s.wait, ReqOk r := fun r hr => by
  obtain ⟨i, hi⟩ := List.getElem?_of_mem (List.mem_append_left s.v.d.l hr)
  exact good_mem h.good hi
theorem busy_ok {s : St} (h : Inv s) : ∀ r ∈ s.v.d.l, ReqOk r := fun r hr => by
  obtain ⟨i, hi⟩ := List.getElem?_of_mem (List.mem_append_right s.wait hr)
  exact good_mem h.good hi
theorem ask_err (s : St) (a k p : Int) (d : ByteArray) : (s.ask a k p d).2 ≤ 1000 := by
  unfold St.ask
  split
  · exact Nat.le_of_ble_eq_true rfl
  · split
    · exact Nat.le_of_ble_eq_true rfl
    · split <;> exact Nat.le_of_ble_eq_true rfl
theorem endAt_err (v : Drv) (i : Int) (f : Bool) : (v.endAt i f).2.2.2 ≤ 1000 := by
  unfold Drv.endAt
  simp only
  split
  · show (v.d.endAt i f).2.2 ≤ 1000
    unfold Dv.endAt
    split
    · exact Nat.le_of_ble_eq_true rfl
    · split <;> exact Nat.le_of_ble_eq_true rfl
  · split
    · exact Nat.zero_le _
    · split
      · show (Dv.start _ _).2 ≤ 1000
        unfold Dv.start
        split <;> exact Nat.le_of_ble_eq_true rfl
      · exact Nat.zero_le _

theorem end_err (s : St) (i : Int) (f : Bool) : (s.end_ i f).2 ≤ 1000 := by
  unfold St.end_
  simp only
  split
  · exact endAt_err _ _ _
  · split <;> exact Nat.le_of_ble_eq_true rfl
theorem yesB_size (b : Bool) : (yesB b).size ≤ 3 := by cases b <;> decide
/-- What a walk of Play reads: the player's block and the step's box. -/
def Ks (p b bd bb : Nat) (z : Stp) (u : World) : Prop :=
  u.cell? ⟨p, 0, none⟩ = some (.pointer (some ⟨bd, 0, none⟩)) ∧ u.cell? ⟨p, 1, none⟩ = some (.pointer (some ⟨b, 0, none⟩)) ∧ u.cell? ⟨bb, 0, none⟩ = some (.string z.word) ∧ u.cell? ⟨bb, 1, none⟩ = some (.int .i64 z.a) ∧ u.cell? ⟨bb, 2, none⟩ = some (.int .i64 z.b) ∧ u.cell? ⟨bb, 3, none⟩ = some (.string z.data)
section
variable {W0 w w1 u1 u2 u3 : World} {col col1 : Nat → Nat} {p b bd bb N N1 : Nat} {K K1 : Int} {x y1 : Sv} {s t : St} {z : Stp} {T : TypeId}
theorem Ks.keep {F : Nat → Prop} (h : Ks p b bd bb z w) (hc : Chg F w w1) (hp : ¬ F p) (hb : ¬ F bb) (hpl : p < w.heap.size) (hbl : bb < w.heap.size) : Ks p b bd bb z w1 := by
  obtain ⟨h0, h1, h2, h3, h4, h5⟩ := h
  have e1 := hc.block p hpl hp
  have e2 := hc.block bb hbl hb
  exact ⟨(World.cell?_of_block e1).trans h0, (World.cell?_of_block e1).trans h1, (World.cell?_of_block e2).trans h2, (World.cell?_of_block e2).trans h3, (World.cell?_of_block e2).trans h4, (World.cell?_of_block e2).trans h5⟩
theorem Ks.below (h : Ks p b bd bb z w) (hb : Below w.heap.size w w1) (hpl : p < w.heap.size) (hbl : bb < w.heap.size) : Ks p b bd bb z w1 := h.keep (F := fun _ => False) (Chg.of_below hb) id id hpl hbl
theorem play_done (h1 : PlAt W0 u1 col1 p b bd N1 K1 y1 t) (hB : Below w.heap.size w w1) (hp : Pr col col1 p w1 u1) (hb : Below u1.heap.size u1 u2) (h9 : col p = 9) (hN : N1 ≤ N + 1000) (hK : K1 ≤ K + 15000) :
    ∃ (col' : Nat → Nat) (b' : Nat) (y : Sv), PlAt W0 u2 col' p b' bd (N + 1000) (K + 15000) y t ∧ Pr col col' p w u2 :=
  ⟨col1, b, y1, (h1.mono hN hK).step hb, (hp.before hB).after (Pr.rest hb) h9⟩
end
/-- It returns what is answered; the player is as it should be. -/
def RetPlay (W0 : World) (col : Nat → Nat) (w : World) (p bd N : Nat) (K : Int) (s : St) (z : Stp) : Ending → World → Prop := fun e w' =>
  e = .returned (.string (playM s z).2) ∧ ∃ (col' : Nat → Nat) (b' : Nat) (y : Sv), PlAt W0 w' col' p b' bd (N + 1000) (K + 15000) y (playM s z).1 ∧ Pr col col' p w w'
theorem PlAt.call_cells {W0 w u : World} {col col2 : Nat → Nat} {p b bd bb N N2 : Nat} {K K2 : Int} {x y : Sv} {s t : St} {z : Stp} (h : PlAt W0 w col p b bd N K x s) (h2 : PlAt W0 u col2 p b bd N2 K2 y t) (hp : Pr col col2 p w u) (k : Ks p b bd bb z w) (hcb : ¬ Fl col bb) (hbn : bb ≠ p) (hbl : bb < w.heap.size) :
    Ks p b bd bb z u ∧ p < u.heap.size ∧ bb < u.heap.size := by
  obtain ⟨_, _, k2, k3, k4, k5⟩ := k
  obtain ⟨c0, c1⟩ := h2.cell
  have e := hp.chg.block bb hbl (fun e => e.elim hcb hbn)
  exact ⟨⟨c0, c1, (World.cell?_of_block e).trans k2, (World.cell?_of_block e).trans k3, (World.cell?_of_block e).trans k4, (World.cell?_of_block e).trans k5⟩, (Array.getElem?_eq_some_iff.1 h2.row).1, Nat.lt_of_lt_of_le hbl hp.chg.size⟩
theorem settle_le' (s : St) {m : Nat} (hm : m ≤ 999) : (St.settle m s).2 ≤ 999 := by
  have : ∀ (n : Nat) (s : St), (St.settle n s).2 ≤ n := by
    intro n
    induction n with
    | zero => intro s; exact Nat.le_refl _
    | succ n ih =>
      intro s
      unfold St.settle
      split
      · exact Nat.zero_le _
      · have := ih s.round
        show (St.settle n s.round).2 + 1 ≤ n + 1
        omega
  exact Nat.le_trans (this m s) hm
set_option maxRecDepth 100000 in
set_option maxHeartbeats 4000000 in
theorem play_read (W0 : World) (col : Nat → Nat) (w : World) (p b bd N : Nat) (x : Sv) (s : St) (z : Stp) (K : Int) (h : PlAt W0 w col p b bd N K x s) (hE : Env W0) (hK : K ≤ 500000000) (hN : N ≤ 800000000) (ha : 0 ≤ z.a ∧ z.a ≤ 999) (h0 : (z.word.toList == [114, 101, 97, 100]) = true) :
    Calls Tryz.prog 6 #[.pointer (some ⟨p, 0, none⟩), stpV z] w (RetPlay W0 col w p bd N K s z) := by
  obtain ⟨bb, hbb⟩ : ∃ n, w.heap.size = n := ⟨_, rfl⟩
  obtain ⟨w1, hw1⟩ : ∃ w1, w.alloc (.cells #[.string z.word, .int .i64 z.a, .int .i64 z.b, .string z.data] 27) = w1 := ⟨_, rfl⟩
  have hX : StpBox 27 w.heap.size z w w1 := hw1 ▸ StpBox.new _ z w
  have hpl := (Array.getElem?_eq_some_iff.1 h.row).1
  have hbn : bb ≠ p := by omega
  have hcb : ¬ Fl col bb := fun hf => hf.1 (h.st.s0 bb (by omega))
  have k0 := h.st.lt
  rw [hbb] at hX
  obtain ⟨d0, d1, d2, d3⟩ := hX.c
  have H1 := Lib.hid (h.step hX.bel)
  obtain ⟨c0, c1⟩ := H1.out.cell
  have hpl1 : p < w1.heap.size := Nat.lt_of_lt_of_le hpl hX.bel.size
  have KS : Hid (Ks p b bd bb z w1) := ⟨c0, c1, d0, d1, d2, d3⟩
  obtain ⟨pc0, pc1⟩ : (∀ o, (w.alloc o).cell? ⟨p, 0, none⟩ = some (.pointer (some ⟨bd, 0, none⟩))) ∧ (∀ o, (w.alloc o).cell? ⟨p, 1, none⟩ = some (.pointer (some ⟨b, 0, none⟩))) := by
    have k : ∀ o, (w.alloc o).heap[p]? = _ := fun o => (Below.heap_alloc _ _ _ hpl).trans h.row
    exact ⟨fun o => cell_of_row _ _ 0 _ _ _ (k o), fun o => cell_of_row _ _ 1 _ _ _ (k o)⟩
  have HX := Lib.hid hX
  have HW := Lib.hid hw1
  have HBB := Lib.hid hbb
  have Hpl := Lib.hid hpl1
  have Hbl := Lib.hid hX.hi
  have Hbn := Lib.hid hbn
  have Hcb : Hid (¬ Fl col bb) := hcb
  have HEE := Lib.hid hE
  have Ha := Lib.hid ha
  have H0 := Lib.hid h
  have q0 := h.k0
  clear h hX hw1 hpl hpl1 hcb hbn hE ha k0
  have HD := Lib.hid (H1.out.step (Below.refl _ _).drew)
  have KD : Hid (Ks p b bd bb z w1.drew) := ⟨c0, c1, d0, d1, d2, d3⟩
  have HXD := Lib.hid (HX.out.bel.trans (((Below.refl w1.heap.size w1).drew).mono HX.out.bel.size))
  have He : Hid (playM s z = ((s.ask z.a 1 z.b noB).1, doneB (s.ask z.a 1 z.b noB).2)) := show _ = _ by unfold playM; rw [pc_read h0]
  go_enter Tryz.func6, Tryz.ntmps6
  go_wp2_with fail
  rw [HW.out]
  go_region_held3 (fun u => u.cell? ⟨p, 0, none⟩ = some (.pointer (some ⟨bd, 0, none⟩)) ∧ u.cell? ⟨p, 1, none⟩ = some (.pointer (some ⟨b, 0, none⟩)) ∧ u.cell? ⟨bb, 0, none⟩ = some (.string z.word) ∧ u.cell? ⟨bb, 1, none⟩ = some (.int .i64 z.a) ∧ u.cell? ⟨bb, 2, none⟩ = some (.int .i64 z.b) ∧ u.cell? ⟨bb, 3, none⟩ = some (.string z.data))
    (first | exact K2 | exact K1 | exact KD.out | exact KS.out)
    (first
      | (go_at_call 15; refine (ask_any col w1.drew b bd N x s z.a 1 z.b noB K HD.out.st HD.out.inv HD.out.bnd q0 (by omega)).mono ?_; rintro e u1 hr; obtain ⟨rfl, col2, y2, h2, hp2⟩ := HD.out.five hr (HD.out.inv.ask_ ..) (HD.out.bnd.ask q0 ..) (by omega); have hl1 := HD.out.call_cells h2 hp2 KD.out Hcb.out Hbn.out Hbl.out; have K1 := hl1.1; have H2 := Lib.hid h2; have HP := Lib.hid hp2; have HL := Lib.hid hl1.2; clear hr h2 hp2 hl1)
      | (go_at_call 20; refine (done_any _ u1 (ask_err ..) (H2.out.env HEE.out)).mono ?_; rintro e u2 ⟨rfl, hb2⟩; have K2 := Ks.below K1 hb2 HL.out.1 HL.out.2; have HB2 := Lib.hid hb2; clear hb2))
  go_wp2_with fail
  go_ret
  unfold RetPlay
  rw [He.out]
  exact ⟨rfl, play_done H2.out HXD.out HP.out HB2.out H0.out.c9 (by omega) (by omega)⟩

set_option maxRecDepth 100000 in
set_option maxHeartbeats 4000000 in
theorem play_write (W0 : World) (col : Nat → Nat) (w : World) (p b bd N : Nat) (x : Sv) (s : St) (z : Stp) (K : Int) (h : PlAt W0 w col p b bd N K x s) (hE : Env W0) (hK : K ≤ 500000000) (hN : N ≤ 800000000) (ha : 0 ≤ z.a ∧ z.a ≤ 999) (h0 : (z.word.toList == [114, 101, 97, 100]) = false) (h1 : (z.word.toList == [119, 114, 105, 116, 101]) = true) :
    Calls Tryz.prog 6 #[.pointer (some ⟨p, 0, none⟩), stpV z] w (RetPlay W0 col w p bd N K s z) := by
  obtain ⟨bb, hbb⟩ : ∃ n, w.heap.size = n := ⟨_, rfl⟩
  obtain ⟨w1, hw1⟩ : ∃ w1, w.alloc (.cells #[.string z.word, .int .i64 z.a, .int .i64 z.b, .string z.data] 27) = w1 := ⟨_, rfl⟩
  have hX : StpBox 27 w.heap.size z w w1 := hw1 ▸ StpBox.new _ z w
  have hpl := (Array.getElem?_eq_some_iff.1 h.row).1
  have hbn : bb ≠ p := by omega
  have hcb : ¬ Fl col bb := fun hf => hf.1 (h.st.s0 bb (by omega))
  have k0 := h.st.lt
  rw [hbb] at hX
  obtain ⟨d0, d1, d2, d3⟩ := hX.c
  have H1 := Lib.hid (h.step hX.bel)
  obtain ⟨c0, c1⟩ := H1.out.cell
  have hpl1 : p < w1.heap.size := Nat.lt_of_lt_of_le hpl hX.bel.size
  have KS : Hid (Ks p b bd bb z w1) := ⟨c0, c1, d0, d1, d2, d3⟩
  obtain ⟨pc0, pc1⟩ : (∀ o, (w.alloc o).cell? ⟨p, 0, none⟩ = some (.pointer (some ⟨bd, 0, none⟩))) ∧ (∀ o, (w.alloc o).cell? ⟨p, 1, none⟩ = some (.pointer (some ⟨b, 0, none⟩))) := by
    have k : ∀ o, (w.alloc o).heap[p]? = _ := fun o => (Below.heap_alloc _ _ _ hpl).trans h.row
    exact ⟨fun o => cell_of_row _ _ 0 _ _ _ (k o), fun o => cell_of_row _ _ 1 _ _ _ (k o)⟩
  have HX := Lib.hid hX
  have HW := Lib.hid hw1
  have HBB := Lib.hid hbb
  have Hpl := Lib.hid hpl1
  have Hbl := Lib.hid hX.hi
  have Hbn := Lib.hid hbn
  have Hcb : Hid (¬ Fl col bb) := hcb
  have HEE := Lib.hid hE
  have Ha := Lib.hid ha
  have H0 := Lib.hid h
  have q0 := h.k0
  clear h hX hw1 hpl hpl1 hcb hbn hE ha k0
  have HD := Lib.hid (H1.out.step (Below.refl _ _).drew)
  have KD : Hid (Ks p b bd bb z w1.drew) := ⟨c0, c1, d0, d1, d2, d3⟩
  have HXD := Lib.hid (HX.out.bel.trans (((Below.refl w1.heap.size w1).drew).mono HX.out.bel.size))
  have He : Hid (playM s z = ((s.ask z.a 2 z.b z.data).1, doneB (s.ask z.a 2 z.b z.data).2)) := show _ = _ by unfold playM; rw [pc_write h0 h1]
  go_enter Tryz.func6, Tryz.ntmps6
  go_wp2_with fail
  rw [HW.out]
  go_region_held3 (fun u => u.cell? ⟨p, 0, none⟩ = some (.pointer (some ⟨bd, 0, none⟩)) ∧ u.cell? ⟨p, 1, none⟩ = some (.pointer (some ⟨b, 0, none⟩)) ∧ u.cell? ⟨bb, 0, none⟩ = some (.string z.word) ∧ u.cell? ⟨bb, 1, none⟩ = some (.int .i64 z.a) ∧ u.cell? ⟨bb, 2, none⟩ = some (.int .i64 z.b) ∧ u.cell? ⟨bb, 3, none⟩ = some (.string z.data))
    (first | exact K2 | exact K1 | exact KD.out | exact KS.out)
    (first
      | (go_at_call 15; refine (ask_any col w1.drew b bd N x s z.a 2 z.b z.data K HD.out.st HD.out.inv HD.out.bnd q0 (by omega)).mono ?_; rintro e u1 hr; obtain ⟨rfl, col2, y2, h2, hp2⟩ := HD.out.five hr (HD.out.inv.ask_ ..) (HD.out.bnd.ask q0 ..) (by omega); have hl1 := HD.out.call_cells h2 hp2 KD.out Hcb.out Hbn.out Hbl.out; have K1 := hl1.1; have H2 := Lib.hid h2; have HP := Lib.hid hp2; have HL := Lib.hid hl1.2; clear hr h2 hp2 hl1)
      | (go_at_call 20; refine (done_any _ u1 (ask_err ..) (H2.out.env HEE.out)).mono ?_; rintro e u2 ⟨rfl, hb2⟩; have K2 := Ks.below K1 hb2 HL.out.1 HL.out.2; have HB2 := Lib.hid hb2; clear hb2))
  go_wp2_with fail
  go_ret
  unfold RetPlay
  rw [He.out]
  exact ⟨rfl, play_done H2.out HXD.out HP.out HB2.out H0.out.c9 (by omega) (by omega)⟩

set_option maxRecDepth 100000 in
set_option maxHeartbeats 4000000 in
theorem play_sync (W0 : World) (col : Nat → Nat) (w : World) (p b bd N : Nat) (x : Sv) (s : St) (z : Stp) (K : Int) (h : PlAt W0 w col p b bd N K x s) (hE : Env W0) (hK : K ≤ 500000000) (hN : N ≤ 800000000) (ha : 0 ≤ z.a ∧ z.a ≤ 999) (h0 : (z.word.toList == [114, 101, 97, 100]) = false) (h1 : (z.word.toList == [119, 114, 105, 116, 101]) = false) (h2 : (z.word.toList == [115, 121, 110, 99]) = true) :
    Calls Tryz.prog 6 #[.pointer (some ⟨p, 0, none⟩), stpV z] w (RetPlay W0 col w p bd N K s z) := by
  obtain ⟨bb, hbb⟩ : ∃ n, w.heap.size = n := ⟨_, rfl⟩
  obtain ⟨w1, hw1⟩ : ∃ w1, w.alloc (.cells #[.string z.word, .int .i64 z.a, .int .i64 z.b, .string z.data] 27) = w1 := ⟨_, rfl⟩
  have hX : StpBox 27 w.heap.size z w w1 := hw1 ▸ StpBox.new _ z w
  have hpl := (Array.getElem?_eq_some_iff.1 h.row).1
  have hbn : bb ≠ p := by omega
  have hcb : ¬ Fl col bb := fun hf => hf.1 (h.st.s0 bb (by omega))
  have k0 := h.st.lt
  rw [hbb] at hX
  obtain ⟨d0, d1, d2, d3⟩ := hX.c
  have H1 := Lib.hid (h.step hX.bel)
  obtain ⟨c0, c1⟩ := H1.out.cell
  have hpl1 : p < w1.heap.size := Nat.lt_of_lt_of_le hpl hX.bel.size
  have KS : Hid (Ks p b bd bb z w1) := ⟨c0, c1, d0, d1, d2, d3⟩
  obtain ⟨pc0, pc1⟩ : (∀ o, (w.alloc o).cell? ⟨p, 0, none⟩ = some (.pointer (some ⟨bd, 0, none⟩))) ∧ (∀ o, (w.alloc o).cell? ⟨p, 1, none⟩ = some (.pointer (some ⟨b, 0, none⟩))) := by
    have k : ∀ o, (w.alloc o).heap[p]? = _ := fun o => (Below.heap_alloc _ _ _ hpl).trans h.row
    exact ⟨fun o => cell_of_row _ _ 0 _ _ _ (k o), fun o => cell_of_row _ _ 1 _ _ _ (k o)⟩
  have HX := Lib.hid hX
  have HW := Lib.hid hw1
  have HBB := Lib.hid hbb
  have Hpl := Lib.hid hpl1
  have Hbl := Lib.hid hX.hi
  have Hbn := Lib.hid hbn
  have Hcb : Hid (¬ Fl col bb) := hcb
  have HEE := Lib.hid hE
  have Ha := Lib.hid ha
  have H0 := Lib.hid h
  have q0 := h.k0
  clear h hX hw1 hpl hpl1 hcb hbn hE ha k0
  have HD := Lib.hid (H1.out.step (Below.refl _ _).drew)
  have KD : Hid (Ks p b bd bb z w1.drew) := ⟨c0, c1, d0, d1, d2, d3⟩
  have HXD := Lib.hid (HX.out.bel.trans (((Below.refl w1.heap.size w1).drew).mono HX.out.bel.size))
  have He : Hid (playM s z = ((s.ask z.a 3 0 noB).1, doneB (s.ask z.a 3 0 noB).2)) := show _ = _ by unfold playM; rw [pc_sync h0 h1 h2]
  go_enter Tryz.func6, Tryz.ntmps6
  go_wp2_with fail
  rw [HW.out]
  go_region_held3 (fun u => u.cell? ⟨p, 0, none⟩ = some (.pointer (some ⟨bd, 0, none⟩)) ∧ u.cell? ⟨p, 1, none⟩ = some (.pointer (some ⟨b, 0, none⟩)) ∧ u.cell? ⟨bb, 0, none⟩ = some (.string z.word) ∧ u.cell? ⟨bb, 1, none⟩ = some (.int .i64 z.a) ∧ u.cell? ⟨bb, 2, none⟩ = some (.int .i64 z.b) ∧ u.cell? ⟨bb, 3, none⟩ = some (.string z.data))
    (first | exact K2 | exact K1 | exact KD.out | exact KS.out)
    (first
      | (go_at_call 15; refine (ask_any col w1.drew b bd N x s z.a 3 0 noB K HD.out.st HD.out.inv HD.out.bnd q0 (by omega)).mono ?_; rintro e u1 hr; obtain ⟨rfl, col2, y2, h2, hp2⟩ := HD.out.five hr (HD.out.inv.ask_ ..) (HD.out.bnd.ask q0 ..) (by omega); have hl1 := HD.out.call_cells h2 hp2 KD.out Hcb.out Hbn.out Hbl.out; have K1 := hl1.1; have H2 := Lib.hid h2; have HP := Lib.hid hp2; have HL := Lib.hid hl1.2; clear hr h2 hp2 hl1)
      | (go_at_call 20; refine (done_any _ u1 (ask_err ..) (H2.out.env HEE.out)).mono ?_; rintro e u2 ⟨rfl, hb2⟩; have K2 := Ks.below K1 hb2 HL.out.1 HL.out.2; have HB2 := Lib.hid hb2; clear hb2))
  go_wp2_with fail
  go_ret
  unfold RetPlay
  rw [He.out]
  exact ⟨rfl, play_done H2.out HXD.out HP.out HB2.out H0.out.c9 (by omega) (by omega)⟩

set_option maxRecDepth 100000 in
set_option maxHeartbeats 4000000 in
theorem play_got (W0 : World) (col : Nat → Nat) (w : World) (p b bd N : Nat) (x : Sv) (s : St) (z : Stp) (K : Int) (h : PlAt W0 w col p b bd N K x s) (hE : Env W0) (hK : K ≤ 500000000) (hN : N ≤ 800000000) (ha : 0 ≤ z.a ∧ z.a ≤ 999) (h0 : (z.word.toList == [114, 101, 97, 100]) = false) (h1 : (z.word.toList == [119, 114, 105, 116, 101]) = false) (h2 : (z.word.toList == [115, 121, 110, 99]) = false) (h3 : (z.word.toList == [103, 111, 116]) = true) :
    Calls Tryz.prog 6 #[.pointer (some ⟨p, 0, none⟩), stpV z] w (RetPlay W0 col w p bd N K s z) := by
  obtain ⟨bb, hbb⟩ : ∃ n, w.heap.size = n := ⟨_, rfl⟩
  obtain ⟨w1, hw1⟩ : ∃ w1, w.alloc (.cells #[.string z.word, .int .i64 z.a, .int .i64 z.b, .string z.data] 27) = w1 := ⟨_, rfl⟩
  have hX : StpBox 27 w.heap.size z w w1 := hw1 ▸ StpBox.new _ z w
  have hpl := (Array.getElem?_eq_some_iff.1 h.row).1
  have hbn : bb ≠ p := by omega
  have hcb : ¬ Fl col bb := fun hf => hf.1 (h.st.s0 bb (by omega))
  have k0 := h.st.lt
  rw [hbb] at hX
  obtain ⟨d0, d1, d2, d3⟩ := hX.c
  have H1 := Lib.hid (h.step hX.bel)
  obtain ⟨c0, c1⟩ := H1.out.cell
  have hpl1 : p < w1.heap.size := Nat.lt_of_lt_of_le hpl hX.bel.size
  have KS : Hid (Ks p b bd bb z w1) := ⟨c0, c1, d0, d1, d2, d3⟩
  obtain ⟨pc0, pc1⟩ : (∀ o, (w.alloc o).cell? ⟨p, 0, none⟩ = some (.pointer (some ⟨bd, 0, none⟩))) ∧ (∀ o, (w.alloc o).cell? ⟨p, 1, none⟩ = some (.pointer (some ⟨b, 0, none⟩))) := by
    have k : ∀ o, (w.alloc o).heap[p]? = _ := fun o => (Below.heap_alloc _ _ _ hpl).trans h.row
    exact ⟨fun o => cell_of_row _ _ 0 _ _ _ (k o), fun o => cell_of_row _ _ 1 _ _ _ (k o)⟩
  have HX := Lib.hid hX
  have HW := Lib.hid hw1
  have HBB := Lib.hid hbb
  have Hpl := Lib.hid hpl1
  have Hbl := Lib.hid hX.hi
  have Hbn := Lib.hid hbn
  have Hcb : Hid (¬ Fl col bb) := hcb
  have HEE := Lib.hid hE
  have Ha := Lib.hid ha
  have H0 := Lib.hid h
  have q0 := h.k0
  clear h hX hw1 hpl hpl1 hcb hbn hE ha k0
  have HD := Lib.hid (H1.out.step (Below.refl _ _).drew)
  have KD : Hid (Ks p b bd bb z w1.drew) := ⟨c0, c1, d0, d1, d2, d3⟩
  have HXD := Lib.hid (HX.out.bel.trans (((Below.refl w1.heap.size w1).drew).mono HX.out.bel.size))
  have He : Hid (playM s z = (s, gotM s z.a)) := show _ = _ by unfold playM; rw [pc_got h0 h1 h2 h3]
  go_enter Tryz.func6, Tryz.ntmps6
  go_wp2_with fail
  rw [HW.out]
  refine (pgot_any W0 col w1 p b bd N x s K z.a H1.out HEE.out Ha.out.1).mono ?_
  rintro e u1 ⟨rfl, hb1⟩
  have HB1 := Lib.hid hb1
  clear hb1
  go_wp2_with fail
  go_ret
  unfold RetPlay
  rw [He.out]
  exact ⟨rfl, play_done H1.out HX.out.bel (Pr.rest (Below.refl _ _)) HB1.out H0.out.c9 (by omega) (by omega)⟩

set_option maxRecDepth 100000 in
set_option maxHeartbeats 4000000 in
theorem play_tick (W0 : World) (col : Nat → Nat) (w : World) (p b bd N : Nat) (x : Sv) (s : St) (z : Stp) (K : Int) (h : PlAt W0 w col p b bd N K x s) (hE : Env W0) (hK : K ≤ 500000000) (hN : N ≤ 800000000) (ha : 0 ≤ z.a ∧ z.a ≤ 999) (h0 : (z.word.toList == [114, 101, 97, 100]) = false) (h1 : (z.word.toList == [119, 114, 105, 116, 101]) = false) (h2 : (z.word.toList == [115, 121, 110, 99]) = false) (h3 : (z.word.toList == [103, 111, 116]) = false) (h4 : (z.word.toList == [116, 105, 99, 107]) = true) :
    Calls Tryz.prog 6 #[.pointer (some ⟨p, 0, none⟩), stpV z] w (RetPlay W0 col w p bd N K s z) := by
  obtain ⟨bb, hbb⟩ : ∃ n, w.heap.size = n := ⟨_, rfl⟩
  obtain ⟨w1, hw1⟩ : ∃ w1, w.alloc (.cells #[.string z.word, .int .i64 z.a, .int .i64 z.b, .string z.data] 27) = w1 := ⟨_, rfl⟩
  have hX : StpBox 27 w.heap.size z w w1 := hw1 ▸ StpBox.new _ z w
  have hpl := (Array.getElem?_eq_some_iff.1 h.row).1
  have hbn : bb ≠ p := by omega
  have hcb : ¬ Fl col bb := fun hf => hf.1 (h.st.s0 bb (by omega))
  have k0 := h.st.lt
  rw [hbb] at hX
  obtain ⟨d0, d1, d2, d3⟩ := hX.c
  have H1 := Lib.hid (h.step hX.bel)
  obtain ⟨c0, c1⟩ := H1.out.cell
  have hpl1 : p < w1.heap.size := Nat.lt_of_lt_of_le hpl hX.bel.size
  have KS : Hid (Ks p b bd bb z w1) := ⟨c0, c1, d0, d1, d2, d3⟩
  obtain ⟨pc0, pc1⟩ : (∀ o, (w.alloc o).cell? ⟨p, 0, none⟩ = some (.pointer (some ⟨bd, 0, none⟩))) ∧ (∀ o, (w.alloc o).cell? ⟨p, 1, none⟩ = some (.pointer (some ⟨b, 0, none⟩))) := by
    have k : ∀ o, (w.alloc o).heap[p]? = _ := fun o => (Below.heap_alloc _ _ _ hpl).trans h.row
    exact ⟨fun o => cell_of_row _ _ 0 _ _ _ (k o), fun o => cell_of_row _ _ 1 _ _ _ (k o)⟩
  have HX := Lib.hid hX
  have HW := Lib.hid hw1
  have HBB := Lib.hid hbb
  have Hpl := Lib.hid hpl1
  have Hbl := Lib.hid hX.hi
  have Hbn := Lib.hid hbn
  have Hcb : Hid (¬ Fl col bb) := hcb
  have HEE := Lib.hid hE
  have Ha := Lib.hid ha
  have H0 := Lib.hid h
  have q0 := h.k0
  clear h hX hw1 hpl hpl1 hcb hbn hE ha k0
  have HD := Lib.hid (H1.out.step (Below.refl _ _).drew)
  have KD : Hid (Ks p b bd bb z w1.drew) := ⟨c0, c1, d0, d1, d2, d3⟩
  have HXD := Lib.hid (HX.out.bel.trans (((Below.refl w1.heap.size w1).drew).mono HX.out.bel.size))
  have He : Hid (playM s z = (s.tick, p_okB)) := show _ = _ by unfold playM; rw [pc_tick h0 h1 h2 h3 h4]
  go_enter Tryz.func6, Tryz.ntmps6
  go_wp2_with fail
  rw [HW.out]
  refine (tick_any col w1 b bd N x s K H1.out.st H1.out.inv H1.out.bnd q0 (by omega)).mono ?_
  rintro e u1 hr
  obtain ⟨rfl, col2, y2, h2, hp2⟩ := H1.out.four hr (H1.out.inv.tick) (H1.out.bnd.tick q0) (by omega)
  have H2 := Lib.hid h2
  have HP := Lib.hid hp2
  clear hr h2 hp2
  go_wp2_with fail
  go_ret
  unfold RetPlay
  rw [He.out]
  exact ⟨rfl, play_done H2.out HX.out.bel HP.out (Below.refl _ _) H0.out.c9 (by omega) (by omega)⟩

set_option maxRecDepth 100000 in
set_option maxHeartbeats 4000000 in
theorem play_clean (W0 : World) (col : Nat → Nat) (w : World) (p b bd N : Nat) (x : Sv) (s : St) (z : Stp) (K : Int) (h : PlAt W0 w col p b bd N K x s) (hE : Env W0) (hK : K ≤ 500000000) (hN : N ≤ 800000000) (ha : 0 ≤ z.a ∧ z.a ≤ 999) (h0 : (z.word.toList == [114, 101, 97, 100]) = false) (h1 : (z.word.toList == [119, 114, 105, 116, 101]) = false) (h2 : (z.word.toList == [115, 121, 110, 99]) = false) (h3 : (z.word.toList == [103, 111, 116]) = false) (h4 : (z.word.toList == [116, 105, 99, 107]) = false) (h5 : (z.word.toList == [99, 108, 101, 97, 110]) = true) :
    Calls Tryz.prog 6 #[.pointer (some ⟨p, 0, none⟩), stpV z] w (RetPlay W0 col w p bd N K s z) := by
  obtain ⟨bb, hbb⟩ : ∃ n, w.heap.size = n := ⟨_, rfl⟩
  obtain ⟨w1, hw1⟩ : ∃ w1, w.alloc (.cells #[.string z.word, .int .i64 z.a, .int .i64 z.b, .string z.data] 27) = w1 := ⟨_, rfl⟩
  have hX : StpBox 27 w.heap.size z w w1 := hw1 ▸ StpBox.new _ z w
  have hpl := (Array.getElem?_eq_some_iff.1 h.row).1
  have hbn : bb ≠ p := by omega
  have hcb : ¬ Fl col bb := fun hf => hf.1 (h.st.s0 bb (by omega))
  have k0 := h.st.lt
  rw [hbb] at hX
  obtain ⟨d0, d1, d2, d3⟩ := hX.c
  have H1 := Lib.hid (h.step hX.bel)
  obtain ⟨c0, c1⟩ := H1.out.cell
  have hpl1 : p < w1.heap.size := Nat.lt_of_lt_of_le hpl hX.bel.size
  have KS : Hid (Ks p b bd bb z w1) := ⟨c0, c1, d0, d1, d2, d3⟩
  obtain ⟨pc0, pc1⟩ : (∀ o, (w.alloc o).cell? ⟨p, 0, none⟩ = some (.pointer (some ⟨bd, 0, none⟩))) ∧ (∀ o, (w.alloc o).cell? ⟨p, 1, none⟩ = some (.pointer (some ⟨b, 0, none⟩))) := by
    have k : ∀ o, (w.alloc o).heap[p]? = _ := fun o => (Below.heap_alloc _ _ _ hpl).trans h.row
    exact ⟨fun o => cell_of_row _ _ 0 _ _ _ (k o), fun o => cell_of_row _ _ 1 _ _ _ (k o)⟩
  have HX := Lib.hid hX
  have HW := Lib.hid hw1
  have HBB := Lib.hid hbb
  have Hpl := Lib.hid hpl1
  have Hbl := Lib.hid hX.hi
  have Hbn := Lib.hid hbn
  have Hcb : Hid (¬ Fl col bb) := hcb
  have HEE := Lib.hid hE
  have Ha := Lib.hid ha
  have H0 := Lib.hid h
  have q0 := h.k0
  clear h hX hw1 hpl hpl1 hcb hbn hE ha k0
  have HD := Lib.hid (H1.out.step (Below.refl _ _).drew)
  have KD : Hid (Ks p b bd bb z w1.drew) := ⟨c0, c1, d0, d1, d2, d3⟩
  have HXD := Lib.hid (HX.out.bel.trans (((Below.refl w1.heap.size w1).drew).mono HX.out.bel.size))
  have He : Hid (playM s z = (s.clean.1, yesB s.clean.2)) := show _ = _ by unfold playM; rw [pc_clean h0 h1 h2 h3 h4 h5]
  go_enter Tryz.func6, Tryz.ntmps6
  go_wp2_with fail
  rw [HW.out]
  refine (clean_st col w1 b bd N x s H1.out.st H1.out.inv ⟨by have := H1.out.bnd.use; omega, by have := H1.out.bnd.tag; omega⟩).mono ?_
  rintro e u1 hr
  obtain ⟨rfl, col2, y2, h2, hp2⟩ := H1.out.two hr (H1.out.inv.clean) (H1.out.bnd.clean) (by omega)
  have H2 := Lib.hid h2
  have HP := Lib.hid hp2
  clear hr h2 hp2
  go_wp2_with fail
  refine (yes_any _ u1).mono ?_
  rintro e u2 ⟨rfl, hb2⟩
  have HB2 := Lib.hid hb2
  clear hb2
  go_wp2_with fail
  go_ret
  unfold RetPlay
  rw [He.out]
  exact ⟨rfl, play_done H2.out HX.out.bel HP.out HB2.out H0.out.c9 (by omega) (by omega)⟩

set_option maxRecDepth 100000 in
set_option maxHeartbeats 4000000 in
theorem play_dispatch (W0 : World) (col : Nat → Nat) (w : World) (p b bd N : Nat) (x : Sv) (s : St) (z : Stp) (K : Int) (h : PlAt W0 w col p b bd N K x s) (hE : Env W0) (hK : K ≤ 500000000) (hN : N ≤ 800000000) (ha : 0 ≤ z.a ∧ z.a ≤ 999) (h0 : (z.word.toList == [114, 101, 97, 100]) = false) (h1 : (z.word.toList == [119, 114, 105, 116, 101]) = false) (h2 : (z.word.toList == [115, 121, 110, 99]) = false) (h3 : (z.word.toList == [103, 111, 116]) = false) (h4 : (z.word.toList == [116, 105, 99, 107]) = false) (h5 : (z.word.toList == [99, 108, 101, 97, 110]) = false) (h6 : (z.word.toList == [100, 105, 115, 112, 97, 116, 99, 104]) = true) :
    Calls Tryz.prog 6 #[.pointer (some ⟨p, 0, none⟩), stpV z] w (RetPlay W0 col w p bd N K s z) := by
  obtain ⟨bb, hbb⟩ : ∃ n, w.heap.size = n := ⟨_, rfl⟩
  obtain ⟨w1, hw1⟩ : ∃ w1, w.alloc (.cells #[.string z.word, .int .i64 z.a, .int .i64 z.b, .string z.data] 27) = w1 := ⟨_, rfl⟩
  have hX : StpBox 27 w.heap.size z w w1 := hw1 ▸ StpBox.new _ z w
  have hpl := (Array.getElem?_eq_some_iff.1 h.row).1
  have hbn : bb ≠ p := by omega
  have hcb : ¬ Fl col bb := fun hf => hf.1 (h.st.s0 bb (by omega))
  have k0 := h.st.lt
  rw [hbb] at hX
  obtain ⟨d0, d1, d2, d3⟩ := hX.c
  have H1 := Lib.hid (h.step hX.bel)
  obtain ⟨c0, c1⟩ := H1.out.cell
  have hpl1 : p < w1.heap.size := Nat.lt_of_lt_of_le hpl hX.bel.size
  have KS : Hid (Ks p b bd bb z w1) := ⟨c0, c1, d0, d1, d2, d3⟩
  obtain ⟨pc0, pc1⟩ : (∀ o, (w.alloc o).cell? ⟨p, 0, none⟩ = some (.pointer (some ⟨bd, 0, none⟩))) ∧ (∀ o, (w.alloc o).cell? ⟨p, 1, none⟩ = some (.pointer (some ⟨b, 0, none⟩))) := by
    have k : ∀ o, (w.alloc o).heap[p]? = _ := fun o => (Below.heap_alloc _ _ _ hpl).trans h.row
    exact ⟨fun o => cell_of_row _ _ 0 _ _ _ (k o), fun o => cell_of_row _ _ 1 _ _ _ (k o)⟩
  have HX := Lib.hid hX
  have HW := Lib.hid hw1
  have HBB := Lib.hid hbb
  have Hpl := Lib.hid hpl1
  have Hbl := Lib.hid hX.hi
  have Hbn := Lib.hid hbn
  have Hcb : Hid (¬ Fl col bb) := hcb
  have HEE := Lib.hid hE
  have Ha := Lib.hid ha
  have H0 := Lib.hid h
  have q0 := h.k0
  clear h hX hw1 hpl hpl1 hcb hbn hE ha k0
  have HD := Lib.hid (H1.out.step (Below.refl _ _).drew)
  have KD : Hid (Ks p b bd bb z w1.drew) := ⟨c0, c1, d0, d1, d2, d3⟩
  have HXD := Lib.hid (HX.out.bel.trans (((Below.refl w1.heap.size w1).drew).mono HX.out.bel.size))
  have He : Hid (playM s z = (s.dispatch.1, yesB s.dispatch.2)) := show _ = _ by unfold playM; rw [pc_dispatch h0 h1 h2 h3 h4 h5 h6]
  go_enter Tryz.func6, Tryz.ntmps6
  go_wp2_with fail
  rw [HW.out]
  refine (dispatch_any col w1 b bd N x s H1.out.st H1.out.inv).mono ?_
  rintro e u1 hr
  obtain ⟨rfl, col2, y2, h2, hp2⟩ := H1.out.five hr (H1.out.inv.dispatch) (H1.out.bnd.dispatch) (by omega)
  have H2 := Lib.hid h2
  have HP := Lib.hid hp2
  clear hr h2 hp2
  go_wp2_with fail
  refine (yes_any _ u1).mono ?_
  rintro e u2 ⟨rfl, hb2⟩
  have HB2 := Lib.hid hb2
  clear hb2
  go_wp2_with fail
  go_ret
  unfold RetPlay
  rw [He.out]
  exact ⟨rfl, play_done H2.out HX.out.bel HP.out HB2.out H0.out.c9 (by omega) (by omega)⟩

set_option maxRecDepth 100000 in
set_option maxHeartbeats 4000000 in
theorem play_end_ (W0 : World) (col : Nat → Nat) (w : World) (p b bd N : Nat) (x : Sv) (s : St) (z : Stp) (K : Int) (h : PlAt W0 w col p b bd N K x s) (hE : Env W0) (hK : K ≤ 500000000) (hN : N ≤ 800000000) (ha : 0 ≤ z.a ∧ z.a ≤ 999) (h0 : (z.word.toList == [114, 101, 97, 100]) = false) (h1 : (z.word.toList == [119, 114, 105, 116, 101]) = false) (h2 : (z.word.toList == [115, 121, 110, 99]) = false) (h3 : (z.word.toList == [103, 111, 116]) = false) (h4 : (z.word.toList == [116, 105, 99, 107]) = false) (h5 : (z.word.toList == [99, 108, 101, 97, 110]) = false) (h6 : (z.word.toList == [100, 105, 115, 112, 97, 116, 99, 104]) = false) (h7 : (z.word.toList == [101, 110, 100]) = true) :
    Calls Tryz.prog 6 #[.pointer (some ⟨p, 0, none⟩), stpV z] w (RetPlay W0 col w p bd N K s z) := by
  obtain ⟨bb, hbb⟩ : ∃ n, w.heap.size = n := ⟨_, rfl⟩
  obtain ⟨w1, hw1⟩ : ∃ w1, w.alloc (.cells #[.string z.word, .int .i64 z.a, .int .i64 z.b, .string z.data] 27) = w1 := ⟨_, rfl⟩
  have hX : StpBox 27 w.heap.size z w w1 := hw1 ▸ StpBox.new _ z w
  have hpl := (Array.getElem?_eq_some_iff.1 h.row).1
  have hbn : bb ≠ p := by omega
  have hcb : ¬ Fl col bb := fun hf => hf.1 (h.st.s0 bb (by omega))
  have k0 := h.st.lt
  rw [hbb] at hX
  obtain ⟨d0, d1, d2, d3⟩ := hX.c
  have H1 := Lib.hid (h.step hX.bel)
  obtain ⟨c0, c1⟩ := H1.out.cell
  have hpl1 : p < w1.heap.size := Nat.lt_of_lt_of_le hpl hX.bel.size
  have KS : Hid (Ks p b bd bb z w1) := ⟨c0, c1, d0, d1, d2, d3⟩
  obtain ⟨pc0, pc1⟩ : (∀ o, (w.alloc o).cell? ⟨p, 0, none⟩ = some (.pointer (some ⟨bd, 0, none⟩))) ∧ (∀ o, (w.alloc o).cell? ⟨p, 1, none⟩ = some (.pointer (some ⟨b, 0, none⟩))) := by
    have k : ∀ o, (w.alloc o).heap[p]? = _ := fun o => (Below.heap_alloc _ _ _ hpl).trans h.row
    exact ⟨fun o => cell_of_row _ _ 0 _ _ _ (k o), fun o => cell_of_row _ _ 1 _ _ _ (k o)⟩
  have HX := Lib.hid hX
  have HW := Lib.hid hw1
  have HBB := Lib.hid hbb
  have Hpl := Lib.hid hpl1
  have Hbl := Lib.hid hX.hi
  have Hbn := Lib.hid hbn
  have Hcb : Hid (¬ Fl col bb) := hcb
  have HEE := Lib.hid hE
  have Ha := Lib.hid ha
  have H0 := Lib.hid h
  have q0 := h.k0
  clear h hX hw1 hpl hpl1 hcb hbn hE ha k0
  have HD := Lib.hid (H1.out.step (Below.refl _ _).drew)
  have KD : Hid (Ks p b bd bb z w1.drew) := ⟨c0, c1, d0, d1, d2, d3⟩
  have HXD := Lib.hid (HX.out.bel.trans (((Below.refl w1.heap.size w1).drew).mono HX.out.bel.size))
  have He : Hid (playM s z = ((s.end_ z.a false).1, doneB (s.end_ z.a false).2)) := show _ = _ by unfold playM; rw [pc_end_ h0 h1 h2 h3 h4 h5 h6 h7]
  have h9 : (z.word.toList == [102, 97, 117, 108, 116]) = false := by have e := eq_of_beq h7; rw [e]; rfl
  go_enter Tryz.func6, Tryz.ntmps6
  go_wp2_with fail
  rw [HW.out]
  go_region_held3 (fun u => u.cell? ⟨p, 0, none⟩ = some (.pointer (some ⟨bd, 0, none⟩)) ∧ u.cell? ⟨p, 1, none⟩ = some (.pointer (some ⟨b, 0, none⟩)) ∧ u.cell? ⟨bb, 0, none⟩ = some (.string z.word) ∧ u.cell? ⟨bb, 1, none⟩ = some (.int .i64 z.a) ∧ u.cell? ⟨bb, 2, none⟩ = some (.int .i64 z.b) ∧ u.cell? ⟨bb, 3, none⟩ = some (.string z.data))
    (first | exact K2 | exact K1 | exact KD.out | exact KS.out)
    (first
      | (go_at_call 26; refine (end_any col w1.drew b bd N x s z.a false K HD.out.st HD.out.inv HD.out.bnd q0 (by omega) (by omega)).mono ?_; rintro e u1 hr; obtain ⟨rfl, col2, y2, h2, hp2⟩ := HD.out.five hr (HD.out.inv.end_ ..) (HD.out.bnd.end_ q0 HD.out.inv ..) (by omega); have hl1 := HD.out.call_cells h2 hp2 KD.out Hcb.out Hbn.out Hbl.out; have K1 := hl1.1; have H2 := Lib.hid h2; have HP := Lib.hid hp2; have HL := Lib.hid hl1.2; clear hr h2 hp2 hl1)
      | (go_at_call 20; refine (done_any _ u1 (end_err ..) (H2.out.env HEE.out)).mono ?_; rintro e u2 ⟨rfl, hb2⟩; have K2 := Ks.below K1 hb2 HL.out.1 HL.out.2; have HB2 := Lib.hid hb2; clear hb2))
  go_wp2_with fail
  go_ret
  unfold RetPlay
  rw [He.out]
  exact ⟨rfl, play_done H2.out HXD.out HP.out HB2.out H0.out.c9 (by omega) (by omega)⟩

set_option maxRecDepth 100000 in
set_option maxHeartbeats 4000000 in
theorem play_fault (W0 : World) (col : Nat → Nat) (w : World) (p b bd N : Nat) (x : Sv) (s : St) (z : Stp) (K : Int) (h : PlAt W0 w col p b bd N K x s) (hE : Env W0) (hK : K ≤ 500000000) (hN : N ≤ 800000000) (ha : 0 ≤ z.a ∧ z.a ≤ 999) (h0 : (z.word.toList == [114, 101, 97, 100]) = false) (h1 : (z.word.toList == [119, 114, 105, 116, 101]) = false) (h2 : (z.word.toList == [115, 121, 110, 99]) = false) (h3 : (z.word.toList == [103, 111, 116]) = false) (h4 : (z.word.toList == [116, 105, 99, 107]) = false) (h5 : (z.word.toList == [99, 108, 101, 97, 110]) = false) (h6 : (z.word.toList == [100, 105, 115, 112, 97, 116, 99, 104]) = false) (h7 : (z.word.toList == [101, 110, 100]) = false) (h8 : (z.word.toList == [102, 97, 117, 108, 116]) = true) :
    Calls Tryz.prog 6 #[.pointer (some ⟨p, 0, none⟩), stpV z] w (RetPlay W0 col w p bd N K s z) := by
  obtain ⟨bb, hbb⟩ : ∃ n, w.heap.size = n := ⟨_, rfl⟩
  obtain ⟨w1, hw1⟩ : ∃ w1, w.alloc (.cells #[.string z.word, .int .i64 z.a, .int .i64 z.b, .string z.data] 27) = w1 := ⟨_, rfl⟩
  have hX : StpBox 27 w.heap.size z w w1 := hw1 ▸ StpBox.new _ z w
  have hpl := (Array.getElem?_eq_some_iff.1 h.row).1
  have hbn : bb ≠ p := by omega
  have hcb : ¬ Fl col bb := fun hf => hf.1 (h.st.s0 bb (by omega))
  have k0 := h.st.lt
  rw [hbb] at hX
  obtain ⟨d0, d1, d2, d3⟩ := hX.c
  have H1 := Lib.hid (h.step hX.bel)
  obtain ⟨c0, c1⟩ := H1.out.cell
  have hpl1 : p < w1.heap.size := Nat.lt_of_lt_of_le hpl hX.bel.size
  have KS : Hid (Ks p b bd bb z w1) := ⟨c0, c1, d0, d1, d2, d3⟩
  obtain ⟨pc0, pc1⟩ : (∀ o, (w.alloc o).cell? ⟨p, 0, none⟩ = some (.pointer (some ⟨bd, 0, none⟩))) ∧ (∀ o, (w.alloc o).cell? ⟨p, 1, none⟩ = some (.pointer (some ⟨b, 0, none⟩))) := by
    have k : ∀ o, (w.alloc o).heap[p]? = _ := fun o => (Below.heap_alloc _ _ _ hpl).trans h.row
    exact ⟨fun o => cell_of_row _ _ 0 _ _ _ (k o), fun o => cell_of_row _ _ 1 _ _ _ (k o)⟩
  have HX := Lib.hid hX
  have HW := Lib.hid hw1
  have HBB := Lib.hid hbb
  have Hpl := Lib.hid hpl1
  have Hbl := Lib.hid hX.hi
  have Hbn := Lib.hid hbn
  have Hcb : Hid (¬ Fl col bb) := hcb
  have HEE := Lib.hid hE
  have Ha := Lib.hid ha
  have H0 := Lib.hid h
  have q0 := h.k0
  clear h hX hw1 hpl hpl1 hcb hbn hE ha k0
  have HD := Lib.hid (H1.out.step (Below.refl _ _).drew)
  have KD : Hid (Ks p b bd bb z w1.drew) := ⟨c0, c1, d0, d1, d2, d3⟩
  have HXD := Lib.hid (HX.out.bel.trans (((Below.refl w1.heap.size w1).drew).mono HX.out.bel.size))
  have He : Hid (playM s z = ((s.end_ z.a true).1, doneB (s.end_ z.a true).2)) := show _ = _ by unfold playM; rw [pc_fault h0 h1 h2 h3 h4 h5 h6 h7 h8]
  go_enter Tryz.func6, Tryz.ntmps6
  go_wp2_with fail
  rw [HW.out]
  go_region_held3 (fun u => u.cell? ⟨p, 0, none⟩ = some (.pointer (some ⟨bd, 0, none⟩)) ∧ u.cell? ⟨p, 1, none⟩ = some (.pointer (some ⟨b, 0, none⟩)) ∧ u.cell? ⟨bb, 0, none⟩ = some (.string z.word) ∧ u.cell? ⟨bb, 1, none⟩ = some (.int .i64 z.a) ∧ u.cell? ⟨bb, 2, none⟩ = some (.int .i64 z.b) ∧ u.cell? ⟨bb, 3, none⟩ = some (.string z.data))
    (first | exact K2 | exact K1 | exact KD.out | exact KS.out)
    (first
      | (go_at_call 26; refine (end_any col w1.drew b bd N x s z.a true K HD.out.st HD.out.inv HD.out.bnd q0 (by omega) (by omega)).mono ?_; rintro e u1 hr; obtain ⟨rfl, col2, y2, h2, hp2⟩ := HD.out.five hr (HD.out.inv.end_ ..) (HD.out.bnd.end_ q0 HD.out.inv ..) (by omega); have hl1 := HD.out.call_cells h2 hp2 KD.out Hcb.out Hbn.out Hbl.out; have K1 := hl1.1; have H2 := Lib.hid h2; have HP := Lib.hid hp2; have HL := Lib.hid hl1.2; clear hr h2 hp2 hl1)
      | (go_at_call 20; refine (done_any _ u1 (end_err ..) (H2.out.env HEE.out)).mono ?_; rintro e u2 ⟨rfl, hb2⟩; have K2 := Ks.below K1 hb2 HL.out.1 HL.out.2; have HB2 := Lib.hid hb2; clear hb2))
  go_wp2_with fail
  go_ret
  unfold RetPlay
  rw [He.out]
  exact ⟨rfl, play_done H2.out HXD.out HP.out HB2.out H0.out.c9 (by omega) (by omega)⟩

set_option maxRecDepth 100000 in
set_option maxHeartbeats 4000000 in
theorem play_round (W0 : World) (col : Nat → Nat) (w : World) (p b bd N : Nat) (x : Sv) (s : St) (z : Stp) (K : Int) (h : PlAt W0 w col p b bd N K x s) (hE : Env W0) (hK : K ≤ 500000000) (hN : N ≤ 800000000) (ha : 0 ≤ z.a ∧ z.a ≤ 999) (h0 : (z.word.toList == [114, 101, 97, 100]) = false) (h1 : (z.word.toList == [119, 114, 105, 116, 101]) = false) (h2 : (z.word.toList == [115, 121, 110, 99]) = false) (h3 : (z.word.toList == [103, 111, 116]) = false) (h4 : (z.word.toList == [116, 105, 99, 107]) = false) (h5 : (z.word.toList == [99, 108, 101, 97, 110]) = false) (h6 : (z.word.toList == [100, 105, 115, 112, 97, 116, 99, 104]) = false) (h7 : (z.word.toList == [101, 110, 100]) = false) (h8 : (z.word.toList == [102, 97, 117, 108, 116]) = false) (h9 : (z.word.toList == [114, 111, 117, 110, 100]) = true) :
    Calls Tryz.prog 6 #[.pointer (some ⟨p, 0, none⟩), stpV z] w (RetPlay W0 col w p bd N K s z) := by
  obtain ⟨bb, hbb⟩ : ∃ n, w.heap.size = n := ⟨_, rfl⟩
  obtain ⟨w1, hw1⟩ : ∃ w1, w.alloc (.cells #[.string z.word, .int .i64 z.a, .int .i64 z.b, .string z.data] 27) = w1 := ⟨_, rfl⟩
  have hX : StpBox 27 w.heap.size z w w1 := hw1 ▸ StpBox.new _ z w
  have hpl := (Array.getElem?_eq_some_iff.1 h.row).1
  have hbn : bb ≠ p := by omega
  have hcb : ¬ Fl col bb := fun hf => hf.1 (h.st.s0 bb (by omega))
  have k0 := h.st.lt
  rw [hbb] at hX
  obtain ⟨d0, d1, d2, d3⟩ := hX.c
  have H1 := Lib.hid (h.step hX.bel)
  obtain ⟨c0, c1⟩ := H1.out.cell
  have hpl1 : p < w1.heap.size := Nat.lt_of_lt_of_le hpl hX.bel.size
  have KS : Hid (Ks p b bd bb z w1) := ⟨c0, c1, d0, d1, d2, d3⟩
  obtain ⟨pc0, pc1⟩ : (∀ o, (w.alloc o).cell? ⟨p, 0, none⟩ = some (.pointer (some ⟨bd, 0, none⟩))) ∧ (∀ o, (w.alloc o).cell? ⟨p, 1, none⟩ = some (.pointer (some ⟨b, 0, none⟩))) := by
    have k : ∀ o, (w.alloc o).heap[p]? = _ := fun o => (Below.heap_alloc _ _ _ hpl).trans h.row
    exact ⟨fun o => cell_of_row _ _ 0 _ _ _ (k o), fun o => cell_of_row _ _ 1 _ _ _ (k o)⟩
  have HX := Lib.hid hX
  have HW := Lib.hid hw1
  have HBB := Lib.hid hbb
  have Hpl := Lib.hid hpl1
  have Hbl := Lib.hid hX.hi
  have Hbn := Lib.hid hbn
  have Hcb : Hid (¬ Fl col bb) := hcb
  have HEE := Lib.hid hE
  have Ha := Lib.hid ha
  have H0 := Lib.hid h
  have q0 := h.k0
  clear h hX hw1 hpl hpl1 hcb hbn hE ha k0
  have HD := Lib.hid (H1.out.step (Below.refl _ _).drew)
  have KD : Hid (Ks p b bd bb z w1.drew) := ⟨c0, c1, d0, d1, d2, d3⟩
  have HXD := Lib.hid (HX.out.bel.trans (((Below.refl w1.heap.size w1).drew).mono HX.out.bel.size))
  have He : Hid (playM s z = (s.round, p_okB)) := show _ = _ by unfold playM; rw [pc_round h0 h1 h2 h3 h4 h5 h6 h7 h8 h9]
  go_enter Tryz.func6, Tryz.ntmps6
  go_wp2_with fail
  rw [HW.out]
  refine (round_any col w1 b bd N x s K H1.out.st H1.out.inv H1.out.bnd q0 (by omega) (by omega)).mono ?_
  rintro e u1 hr
  obtain ⟨rfl, col2, y2, h2, hp2⟩ := H1.out.five hr (H1.out.inv.round) (H1.out.bnd.round q0 H1.out.inv) (by omega)
  have H2 := Lib.hid h2
  have HP := Lib.hid hp2
  clear hr h2 hp2
  go_wp2_with fail
  go_ret
  unfold RetPlay
  rw [He.out]
  exact ⟨rfl, play_done H2.out HX.out.bel HP.out (Below.refl _ _) H0.out.c9 (by omega) (by omega)⟩

set_option maxRecDepth 100000 in
set_option maxHeartbeats 4000000 in
theorem play_settle (W0 : World) (col : Nat → Nat) (w : World) (p b bd N : Nat) (x : Sv) (s : St) (z : Stp) (K : Int) (h : PlAt W0 w col p b bd N K x s) (hE : Env W0) (hK : K ≤ 500000000) (hN : N ≤ 800000000) (ha : 0 ≤ z.a ∧ z.a ≤ 999) (h0 : (z.word.toList == [114, 101, 97, 100]) = false) (h1 : (z.word.toList == [119, 114, 105, 116, 101]) = false) (h2 : (z.word.toList == [115, 121, 110, 99]) = false) (h3 : (z.word.toList == [103, 111, 116]) = false) (h4 : (z.word.toList == [116, 105, 99, 107]) = false) (h5 : (z.word.toList == [99, 108, 101, 97, 110]) = false) (h6 : (z.word.toList == [100, 105, 115, 112, 97, 116, 99, 104]) = false) (h7 : (z.word.toList == [101, 110, 100]) = false) (h8 : (z.word.toList == [102, 97, 117, 108, 116]) = false) (h9 : (z.word.toList == [114, 111, 117, 110, 100]) = false) (h10 : (z.word.toList == [115, 101, 116, 116, 108, 101]) = true) :
    Calls Tryz.prog 6 #[.pointer (some ⟨p, 0, none⟩), stpV z] w (RetPlay W0 col w p bd N K s z) := by
  obtain ⟨bb, hbb⟩ : ∃ n, w.heap.size = n := ⟨_, rfl⟩
  obtain ⟨w1, hw1⟩ : ∃ w1, w.alloc (.cells #[.string z.word, .int .i64 z.a, .int .i64 z.b, .string z.data] 27) = w1 := ⟨_, rfl⟩
  have hX : StpBox 27 w.heap.size z w w1 := hw1 ▸ StpBox.new _ z w
  have hpl := (Array.getElem?_eq_some_iff.1 h.row).1
  have hbn : bb ≠ p := by omega
  have hcb : ¬ Fl col bb := fun hf => hf.1 (h.st.s0 bb (by omega))
  have k0 := h.st.lt
  rw [hbb] at hX
  obtain ⟨d0, d1, d2, d3⟩ := hX.c
  have H1 := Lib.hid (h.step hX.bel)
  obtain ⟨c0, c1⟩ := H1.out.cell
  have hpl1 : p < w1.heap.size := Nat.lt_of_lt_of_le hpl hX.bel.size
  have KS : Hid (Ks p b bd bb z w1) := ⟨c0, c1, d0, d1, d2, d3⟩
  obtain ⟨pc0, pc1⟩ : (∀ o, (w.alloc o).cell? ⟨p, 0, none⟩ = some (.pointer (some ⟨bd, 0, none⟩))) ∧ (∀ o, (w.alloc o).cell? ⟨p, 1, none⟩ = some (.pointer (some ⟨b, 0, none⟩))) := by
    have k : ∀ o, (w.alloc o).heap[p]? = _ := fun o => (Below.heap_alloc _ _ _ hpl).trans h.row
    exact ⟨fun o => cell_of_row _ _ 0 _ _ _ (k o), fun o => cell_of_row _ _ 1 _ _ _ (k o)⟩
  have HX := Lib.hid hX
  have HW := Lib.hid hw1
  have HBB := Lib.hid hbb
  have Hpl := Lib.hid hpl1
  have Hbl := Lib.hid hX.hi
  have Hbn := Lib.hid hbn
  have Hcb : Hid (¬ Fl col bb) := hcb
  have HEE := Lib.hid hE
  have Ha := Lib.hid ha
  have H0 := Lib.hid h
  have q0 := h.k0
  clear h hX hw1 hpl hpl1 hcb hbn hE ha k0
  have HD := Lib.hid (H1.out.step (Below.refl _ _).drew)
  have KD : Hid (Ks p b bd bb z w1.drew) := ⟨c0, c1, d0, d1, d2, d3⟩
  have HXD := Lib.hid (HX.out.bel.trans (((Below.refl w1.heap.size w1).drew).mono HX.out.bel.size))
  have He : Hid (playM s z = ((St.settle z.a.toNat s).1, (itoaB ((St.settle z.a.toNat s).2 : Nat) ++ p_spB) ++ yesB (St.settle z.a.toNat s).1.quiet)) := show _ = _ by unfold playM; rw [pc_settle h0 h1 h2 h3 h4 h5 h6 h7 h8 h9 h10]
  have hm0 : z.a.toNat ≤ 999 := by have := Ha.out; omega
  have HM : Hid (z.a = ((z.a.toNat : Nat) : Int)) := show _ = _ from (Int.toNat_of_nonneg Ha.out.1).symm
  have HQ : Hid ((St.settle z.a.toNat s).2 ≤ 999) := settle_le' s hm0
  go_enter Tryz.func6, Tryz.ntmps6
  go_wp2_with fail
  rw [HW.out]
  go_region_held3 (fun u => u.cell? ⟨p, 0, none⟩ = some (.pointer (some ⟨bd, 0, none⟩)) ∧ u.cell? ⟨p, 1, none⟩ = some (.pointer (some ⟨b, 0, none⟩)) ∧ u.cell? ⟨bb, 0, none⟩ = some (.string z.word) ∧ u.cell? ⟨bb, 1, none⟩ = some (.int .i64 z.a) ∧ u.cell? ⟨bb, 2, none⟩ = some (.int .i64 z.b) ∧ u.cell? ⟨bb, 3, none⟩ = some (.string z.data))
    (first | exact K1 | exact KD.out | exact KS.out)
    (first
      | (go_at_call 16; rw [HM.out]; refine (settle_any col w1.drew b bd N x s K z.a.toNat HD.out.st HD.out.inv HD.out.bnd q0 (by omega) (by omega) (by omega)).mono ?_; rintro e u1 hr; obtain ⟨rfl, col2, y2, h2, hp2⟩ := HD.out.five hr HD.out.inv.settle (HD.out.bnd.settle q0 HD.out.inv) (by omega); have hl1 := HD.out.call_cells h2 hp2 KD.out Hcb.out Hbn.out Hbl.out; have K1 := hl1.1; have H2 := Lib.hid h2; have HP := Lib.hid hp2; clear hr h2 hp2 hl1)
      | fail)
  clear K1
  generalize (St.settle z.a.toNat s).1 = s2 at *
  generalize (St.settle z.a.toNat s).2 = n2 at *
  have hq9 := HQ.out
  have s1 := itoaB_size (n2 : Int) (by omega) (by omega)
  have Hi := Lib.hid (fun w hE => itoa_any (n2 : Int) w (by omega) (by omega) hE)
  have Hy := Lib.hid (fun w => yes_any s2.quiet w)
  have s3 := yesB_size s2.quiet
  generalize itoaB (n2 : Int) = dn at *
  generalize yesB s2.quiet = yq at *
  have z1 : ¬ (9223372036854775807 < dn.size + 1) := by omega
  have z2 : ¬ (9223372036854775807 < dn.size + 1 + yq.size) := by omega
  go_wp2_with fail
  refine (Hi.out u1 (H2.out.env HEE.out)).mono ?_
  rintro e u2 ⟨rfl, hb2⟩
  have HB2 := Lib.hid hb2
  clear hb2
  go_wp2_with fail
  refine (Hy.out u2).mono ?_
  rintro e u3 ⟨rfl, hb3⟩
  have HB3 := Lib.hid hb3
  clear hb3
  go_wp2_with fail
  go_ret
  unfold RetPlay
  rw [He.out]
  exact ⟨rfl, play_done H2.out HXD.out HP.out (HB2.out.trans (HB3.out.mono HB2.out.size)) H0.out.c9 (by omega) (by omega)⟩

set_option maxRecDepth 100000 in
set_option maxHeartbeats 4000000 in
theorem play_queue (W0 : World) (col : Nat → Nat) (w : World) (p b bd N : Nat) (x : Sv) (s : St) (z : Stp) (K : Int) (h : PlAt W0 w col p b bd N K x s) (hE : Env W0) (hK : K ≤ 500000000) (hN : N ≤ 800000000) (ha : 0 ≤ z.a ∧ z.a ≤ 999) (h0 : (z.word.toList == [114, 101, 97, 100]) = false) (h1 : (z.word.toList == [119, 114, 105, 116, 101]) = false) (h2 : (z.word.toList == [115, 121, 110, 99]) = false) (h3 : (z.word.toList == [103, 111, 116]) = false) (h4 : (z.word.toList == [116, 105, 99, 107]) = false) (h5 : (z.word.toList == [99, 108, 101, 97, 110]) = false) (h6 : (z.word.toList == [100, 105, 115, 112, 97, 116, 99, 104]) = false) (h7 : (z.word.toList == [101, 110, 100]) = false) (h8 : (z.word.toList == [102, 97, 117, 108, 116]) = false) (h9 : (z.word.toList == [114, 111, 117, 110, 100]) = false) (h10 : (z.word.toList == [115, 101, 116, 116, 108, 101]) = false) (h11 : (z.word.toList == [113, 117, 101, 117, 101]) = true) :
    Calls Tryz.prog 6 #[.pointer (some ⟨p, 0, none⟩), stpV z] w (RetPlay W0 col w p bd N K s z) := by
  obtain ⟨bb, hbb⟩ : ∃ n, w.heap.size = n := ⟨_, rfl⟩
  obtain ⟨w1, hw1⟩ : ∃ w1, w.alloc (.cells #[.string z.word, .int .i64 z.a, .int .i64 z.b, .string z.data] 27) = w1 := ⟨_, rfl⟩
  have hX : StpBox 27 w.heap.size z w w1 := hw1 ▸ StpBox.new _ z w
  have hpl := (Array.getElem?_eq_some_iff.1 h.row).1
  have hbn : bb ≠ p := by omega
  have hcb : ¬ Fl col bb := fun hf => hf.1 (h.st.s0 bb (by omega))
  have k0 := h.st.lt
  rw [hbb] at hX
  obtain ⟨d0, d1, d2, d3⟩ := hX.c
  have H1 := Lib.hid (h.step hX.bel)
  obtain ⟨c0, c1⟩ := H1.out.cell
  have hpl1 : p < w1.heap.size := Nat.lt_of_lt_of_le hpl hX.bel.size
  have KS : Hid (Ks p b bd bb z w1) := ⟨c0, c1, d0, d1, d2, d3⟩
  obtain ⟨pc0, pc1⟩ : (∀ o, (w.alloc o).cell? ⟨p, 0, none⟩ = some (.pointer (some ⟨bd, 0, none⟩))) ∧ (∀ o, (w.alloc o).cell? ⟨p, 1, none⟩ = some (.pointer (some ⟨b, 0, none⟩))) := by
    have k : ∀ o, (w.alloc o).heap[p]? = _ := fun o => (Below.heap_alloc _ _ _ hpl).trans h.row
    exact ⟨fun o => cell_of_row _ _ 0 _ _ _ (k o), fun o => cell_of_row _ _ 1 _ _ _ (k o)⟩
  have HX := Lib.hid hX
  have HW := Lib.hid hw1
  have HBB := Lib.hid hbb
  have Hpl := Lib.hid hpl1
  have Hbl := Lib.hid hX.hi
  have Hbn := Lib.hid hbn
  have Hcb : Hid (¬ Fl col bb) := hcb
  have HEE := Lib.hid hE
  have Ha := Lib.hid ha
  have H0 := Lib.hid h
  have q0 := h.k0
  clear h hX hw1 hpl hpl1 hcb hbn hE ha k0
  have HD := Lib.hid (H1.out.step (Below.refl _ _).drew)
  have KD : Hid (Ks p b bd bb z w1.drew) := ⟨c0, c1, d0, d1, d2, d3⟩
  have HXD := Lib.hid (HX.out.bel.trans (((Below.refl w1.heap.size w1).drew).mono HX.out.bel.size))
  have He : Hid (playM s z = (s, textsM s.wait)) := show _ = _ by unfold playM; rw [pc_queue h0 h1 h2 h3 h4 h5 h6 h7 h8 h9 h10 h11]
  go_enter Tryz.func6, Tryz.ntmps6
  go_wp2_with fail
  rw [HW.out]
  refine (stqueue_any col w1 b bd N x s H1.out.st H1.out.inv.wait6).mono ?_
  rintro e u1 ⟨v1, rfl, hv1, hb1⟩
  have HV1 := Lib.hid hv1
  have HB1 := Lib.hid hb1
  clear hv1 hb1
  go_wp2_with fail
  refine (texts_any _ s.wait v1 u1 HV1.out (H1.out.inv.wait6) (wait_ok H1.out.inv) ((H1.out.env HEE.out).below HB1.out)).mono ?_
  rintro e u2 ⟨rfl, hb2⟩
  have HB2 := Lib.hid hb2
  clear hb2
  go_wp2_with fail
  go_ret
  unfold RetPlay
  rw [He.out]
  exact ⟨rfl, play_done H1.out HX.out.bel (Pr.rest (Below.refl _ _)) (HB1.out.trans (HB2.out.mono HB1.out.size)) H0.out.c9 (by omega) (by omega)⟩

set_option maxRecDepth 100000 in
set_option maxHeartbeats 4000000 in
theorem play_busy (W0 : World) (col : Nat → Nat) (w : World) (p b bd N : Nat) (x : Sv) (s : St) (z : Stp) (K : Int) (h : PlAt W0 w col p b bd N K x s) (hE : Env W0) (hK : K ≤ 500000000) (hN : N ≤ 800000000) (ha : 0 ≤ z.a ∧ z.a ≤ 999) (h0 : (z.word.toList == [114, 101, 97, 100]) = false) (h1 : (z.word.toList == [119, 114, 105, 116, 101]) = false) (h2 : (z.word.toList == [115, 121, 110, 99]) = false) (h3 : (z.word.toList == [103, 111, 116]) = false) (h4 : (z.word.toList == [116, 105, 99, 107]) = false) (h5 : (z.word.toList == [99, 108, 101, 97, 110]) = false) (h6 : (z.word.toList == [100, 105, 115, 112, 97, 116, 99, 104]) = false) (h7 : (z.word.toList == [101, 110, 100]) = false) (h8 : (z.word.toList == [102, 97, 117, 108, 116]) = false) (h9 : (z.word.toList == [114, 111, 117, 110, 100]) = false) (h10 : (z.word.toList == [115, 101, 116, 116, 108, 101]) = false) (h11 : (z.word.toList == [113, 117, 101, 117, 101]) = false) (h12 : (z.word.toList == [98, 117, 115, 121]) = true) :
    Calls Tryz.prog 6 #[.pointer (some ⟨p, 0, none⟩), stpV z] w (RetPlay W0 col w p bd N K s z) := by
  obtain ⟨bb, hbb⟩ : ∃ n, w.heap.size = n := ⟨_, rfl⟩
  obtain ⟨w1, hw1⟩ : ∃ w1, w.alloc (.cells #[.string z.word, .int .i64 z.a, .int .i64 z.b, .string z.data] 27) = w1 := ⟨_, rfl⟩
  have hX : StpBox 27 w.heap.size z w w1 := hw1 ▸ StpBox.new _ z w
  have hpl := (Array.getElem?_eq_some_iff.1 h.row).1
  have hbn : bb ≠ p := by omega
  have hcb : ¬ Fl col bb := fun hf => hf.1 (h.st.s0 bb (by omega))
  have k0 := h.st.lt
  rw [hbb] at hX
  obtain ⟨d0, d1, d2, d3⟩ := hX.c
  have H1 := Lib.hid (h.step hX.bel)
  obtain ⟨c0, c1⟩ := H1.out.cell
  have hpl1 : p < w1.heap.size := Nat.lt_of_lt_of_le hpl hX.bel.size
  have KS : Hid (Ks p b bd bb z w1) := ⟨c0, c1, d0, d1, d2, d3⟩
  obtain ⟨pc0, pc1⟩ : (∀ o, (w.alloc o).cell? ⟨p, 0, none⟩ = some (.pointer (some ⟨bd, 0, none⟩))) ∧ (∀ o, (w.alloc o).cell? ⟨p, 1, none⟩ = some (.pointer (some ⟨b, 0, none⟩))) := by
    have k : ∀ o, (w.alloc o).heap[p]? = _ := fun o => (Below.heap_alloc _ _ _ hpl).trans h.row
    exact ⟨fun o => cell_of_row _ _ 0 _ _ _ (k o), fun o => cell_of_row _ _ 1 _ _ _ (k o)⟩
  have HX := Lib.hid hX
  have HW := Lib.hid hw1
  have HBB := Lib.hid hbb
  have Hpl := Lib.hid hpl1
  have Hbl := Lib.hid hX.hi
  have Hbn := Lib.hid hbn
  have Hcb : Hid (¬ Fl col bb) := hcb
  have HEE := Lib.hid hE
  have Ha := Lib.hid ha
  have H0 := Lib.hid h
  have q0 := h.k0
  clear h hX hw1 hpl hpl1 hcb hbn hE ha k0
  have HD := Lib.hid (H1.out.step (Below.refl _ _).drew)
  have KD : Hid (Ks p b bd bb z w1.drew) := ⟨c0, c1, d0, d1, d2, d3⟩
  have HXD := Lib.hid (HX.out.bel.trans (((Below.refl w1.heap.size w1).drew).mono HX.out.bel.size))
  have He : Hid (playM s z = (s, textsM s.v.d.l)) := show _ = _ by unfold playM; rw [pc_busy h0 h1 h2 h3 h4 h5 h6 h7 h8 h9 h10 h11 h12]
  go_enter Tryz.func6, Tryz.ntmps6
  go_wp2_with fail
  rw [HW.out]
  refine (stbusy_any col w1 b bd N x s H1.out.st H1.out.inv.dv.two).mono ?_
  rintro e u1 ⟨v1, rfl, hv1, hb1⟩
  have HV1 := Lib.hid hv1
  have HB1 := Lib.hid hb1
  clear hv1 hb1
  go_wp2_with fail
  refine (texts_any _ s.v.d.l v1 u1 HV1.out (Nat.le_trans H1.out.inv.dv.two (by decide)) (busy_ok H1.out.inv) ((H1.out.env HEE.out).below HB1.out)).mono ?_
  rintro e u2 ⟨rfl, hb2⟩
  have HB2 := Lib.hid hb2
  clear hb2
  go_wp2_with fail
  go_ret
  unfold RetPlay
  rw [He.out]
  exact ⟨rfl, play_done H1.out HX.out.bel (Pr.rest (Below.refl _ _)) (HB1.out.trans (HB2.out.mono HB1.out.size)) H0.out.c9 (by omega) (by omega)⟩

set_option maxRecDepth 100000 in
set_option maxHeartbeats 4000000 in
theorem play_dirty (W0 : World) (col : Nat → Nat) (w : World) (p b bd N : Nat) (x : Sv) (s : St) (z : Stp) (K : Int) (h : PlAt W0 w col p b bd N K x s) (hE : Env W0) (hK : K ≤ 500000000) (hN : N ≤ 800000000) (ha : 0 ≤ z.a ∧ z.a ≤ 999) (h0 : (z.word.toList == [114, 101, 97, 100]) = false) (h1 : (z.word.toList == [119, 114, 105, 116, 101]) = false) (h2 : (z.word.toList == [115, 121, 110, 99]) = false) (h3 : (z.word.toList == [103, 111, 116]) = false) (h4 : (z.word.toList == [116, 105, 99, 107]) = false) (h5 : (z.word.toList == [99, 108, 101, 97, 110]) = false) (h6 : (z.word.toList == [100, 105, 115, 112, 97, 116, 99, 104]) = false) (h7 : (z.word.toList == [101, 110, 100]) = false) (h8 : (z.word.toList == [102, 97, 117, 108, 116]) = false) (h9 : (z.word.toList == [114, 111, 117, 110, 100]) = false) (h10 : (z.word.toList == [115, 101, 116, 116, 108, 101]) = false) (h11 : (z.word.toList == [113, 117, 101, 117, 101]) = false) (h12 : (z.word.toList == [98, 117, 115, 121]) = false) (h13 : (z.word.toList == [100, 105, 114, 116, 121]) = true) :
    Calls Tryz.prog 6 #[.pointer (some ⟨p, 0, none⟩), stpV z] w (RetPlay W0 col w p bd N K s z) := by
  obtain ⟨bb, hbb⟩ : ∃ n, w.heap.size = n := ⟨_, rfl⟩
  obtain ⟨w1, hw1⟩ : ∃ w1, w.alloc (.cells #[.string z.word, .int .i64 z.a, .int .i64 z.b, .string z.data] 27) = w1 := ⟨_, rfl⟩
  have hX : StpBox 27 w.heap.size z w w1 := hw1 ▸ StpBox.new _ z w
  have hpl := (Array.getElem?_eq_some_iff.1 h.row).1
  have hbn : bb ≠ p := by omega
  have hcb : ¬ Fl col bb := fun hf => hf.1 (h.st.s0 bb (by omega))
  have k0 := h.st.lt
  rw [hbb] at hX
  obtain ⟨d0, d1, d2, d3⟩ := hX.c
  have H1 := Lib.hid (h.step hX.bel)
  obtain ⟨c0, c1⟩ := H1.out.cell
  have hpl1 : p < w1.heap.size := Nat.lt_of_lt_of_le hpl hX.bel.size
  have KS : Hid (Ks p b bd bb z w1) := ⟨c0, c1, d0, d1, d2, d3⟩
  obtain ⟨pc0, pc1⟩ : (∀ o, (w.alloc o).cell? ⟨p, 0, none⟩ = some (.pointer (some ⟨bd, 0, none⟩))) ∧ (∀ o, (w.alloc o).cell? ⟨p, 1, none⟩ = some (.pointer (some ⟨b, 0, none⟩))) := by
    have k : ∀ o, (w.alloc o).heap[p]? = _ := fun o => (Below.heap_alloc _ _ _ hpl).trans h.row
    exact ⟨fun o => cell_of_row _ _ 0 _ _ _ (k o), fun o => cell_of_row _ _ 1 _ _ _ (k o)⟩
  have HX := Lib.hid hX
  have HW := Lib.hid hw1
  have HBB := Lib.hid hbb
  have Hpl := Lib.hid hpl1
  have Hbl := Lib.hid hX.hi
  have Hbn := Lib.hid hbn
  have Hcb : Hid (¬ Fl col bb) := hcb
  have HEE := Lib.hid hE
  have Ha := Lib.hid ha
  have H0 := Lib.hid h
  have q0 := h.k0
  clear h hX hw1 hpl hpl1 hcb hbn hE ha k0
  have HD := Lib.hid (H1.out.step (Below.refl _ _).drew)
  have KD : Hid (Ks p b bd bb z w1.drew) := ⟨c0, c1, d0, d1, d2, d3⟩
  have HXD := Lib.hid (HX.out.bel.trans (((Below.refl w1.heap.size w1).drew).mono HX.out.bel.size))
  have He : Hid (playM s z = (s, itoaB (dirtyB s.bufs : Nat))) := show _ = _ by unfold playM; rw [pc_dirty h0 h1 h2 h3 h4 h5 h6 h7 h8 h9 h10 h11 h12 h13]
  go_enter Tryz.func6, Tryz.ntmps6
  go_wp2_with fail
  rw [HW.out]
  refine (stdirty_any col w1 b bd N x s H1.out.st H1.out.inv.len8).mono ?_
  rintro e u1 ⟨rfl, hb1⟩
  have HB1 := Lib.hid hb1
  have Hd6 := Lib.hid H1.out.inv.dirty
  clear hb1
  generalize dirtyB s.bufs = n2 at *
  go_wp2_with fail
  refine (itoa_any (n2 : Int) u1 (by omega) (by have := Hd6.out; omega) ((H1.out.env HEE.out).below HB1.out)).mono ?_
  rintro e u2 ⟨rfl, hb2⟩
  have HB2 := Lib.hid hb2
  clear hb2
  go_wp2_with fail
  go_ret
  unfold RetPlay
  rw [He.out]
  exact ⟨rfl, play_done H1.out HX.out.bel (Pr.rest (Below.refl _ _)) (HB1.out.trans (HB2.out.mono HB1.out.size)) H0.out.c9 (by omega) (by omega)⟩

set_option maxRecDepth 100000 in
set_option maxHeartbeats 4000000 in
theorem play_crash (W0 : World) (col : Nat → Nat) (w : World) (p b bd N : Nat) (x : Sv) (s : St) (z : Stp) (K : Int) (h : PlAt W0 w col p b bd N K x s) (hE : Env W0) (hK : K ≤ 500000000) (hN : N ≤ 800000000) (ha : 0 ≤ z.a ∧ z.a ≤ 999) (h0 : (z.word.toList == [114, 101, 97, 100]) = false) (h1 : (z.word.toList == [119, 114, 105, 116, 101]) = false) (h2 : (z.word.toList == [115, 121, 110, 99]) = false) (h3 : (z.word.toList == [103, 111, 116]) = false) (h4 : (z.word.toList == [116, 105, 99, 107]) = false) (h5 : (z.word.toList == [99, 108, 101, 97, 110]) = false) (h6 : (z.word.toList == [100, 105, 115, 112, 97, 116, 99, 104]) = false) (h7 : (z.word.toList == [101, 110, 100]) = false) (h8 : (z.word.toList == [102, 97, 117, 108, 116]) = false) (h9 : (z.word.toList == [114, 111, 117, 110, 100]) = false) (h10 : (z.word.toList == [115, 101, 116, 116, 108, 101]) = false) (h11 : (z.word.toList == [113, 117, 101, 117, 101]) = false) (h12 : (z.word.toList == [98, 117, 115, 121]) = false) (h13 : (z.word.toList == [100, 105, 114, 116, 121]) = false) (h14 : (z.word.toList == [99, 114, 97, 115, 104]) = true) :
    Calls Tryz.prog 6 #[.pointer (some ⟨p, 0, none⟩), stpV z] w (RetPlay W0 col w p bd N K s z) := by
  obtain ⟨bb, hbb⟩ : ∃ n, w.heap.size = n := ⟨_, rfl⟩
  obtain ⟨w1, hw1⟩ : ∃ w1, w.alloc (.cells #[.string z.word, .int .i64 z.a, .int .i64 z.b, .string z.data] 27) = w1 := ⟨_, rfl⟩
  have hX : StpBox 27 w.heap.size z w w1 := hw1 ▸ StpBox.new _ z w
  have hpl := (Array.getElem?_eq_some_iff.1 h.row).1
  have hbn : bb ≠ p := by omega
  have hcb : ¬ Fl col bb := fun hf => hf.1 (h.st.s0 bb (by omega))
  have k0 := h.st.lt
  rw [hbb] at hX
  obtain ⟨d0, d1, d2, d3⟩ := hX.c
  have H1 := Lib.hid (h.step hX.bel)
  obtain ⟨c0, c1⟩ := H1.out.cell
  have hpl1 : p < w1.heap.size := Nat.lt_of_lt_of_le hpl hX.bel.size
  have KS : Hid (Ks p b bd bb z w1) := ⟨c0, c1, d0, d1, d2, d3⟩
  obtain ⟨pc0, pc1⟩ : (∀ o, (w.alloc o).cell? ⟨p, 0, none⟩ = some (.pointer (some ⟨bd, 0, none⟩))) ∧ (∀ o, (w.alloc o).cell? ⟨p, 1, none⟩ = some (.pointer (some ⟨b, 0, none⟩))) := by
    have k : ∀ o, (w.alloc o).heap[p]? = _ := fun o => (Below.heap_alloc _ _ _ hpl).trans h.row
    exact ⟨fun o => cell_of_row _ _ 0 _ _ _ (k o), fun o => cell_of_row _ _ 1 _ _ _ (k o)⟩
  have HX := Lib.hid hX
  have HW := Lib.hid hw1
  have HBB := Lib.hid hbb
  have Hpl := Lib.hid hpl1
  have Hbl := Lib.hid hX.hi
  have Hbn := Lib.hid hbn
  have Hcb : Hid (¬ Fl col bb) := hcb
  have HEE := Lib.hid hE
  have Ha := Lib.hid ha
  have H0 := Lib.hid h
  have q0 := h.k0
  clear h hX hw1 hpl hpl1 hcb hbn hE ha k0
  have HD := Lib.hid (H1.out.step (Below.refl _ _).drew)
  have KD : Hid (Ks p b bd bb z w1.drew) := ⟨c0, c1, d0, d1, d2, d3⟩
  have HXD := Lib.hid (HX.out.bel.trans (((Below.refl w1.heap.size w1).drew).mono HX.out.bel.size))
  obtain ⟨m, hm⟩ : ∃ m, z.a.toNat = m := ⟨_, rfl⟩
  have HMM : Hid (m ≤ 999) := show _ ≤ _ by have := Ha.out; omega
  have He : Hid (playM s z = (St.new (s.v.d.crash m), p_okB)) := show _ = _ by unfold playM; rw [pc_crash h0 h1 h2 h3 h4 h5 h6 h7 h8 h9 h10 h11 h12 h13 h14]; rw [hm]
  have hwr : IntKind.u64.wrap z.a = (m : Int) := by
    have := Ha.out
    have e : (m : Int) = z.a := by omega
    rw [e]
    unfold IntKind.wrap
    simp [IntKind.bits, IntKind.signed]
    omega
  clear hm
  go_enter Tryz.func6, Tryz.ntmps6
  go_wp2_with fail
  rw [HW.out]
  go_region_held3 (fun u => u.cell? ⟨p, 0, none⟩ = some (.pointer (some ⟨bd, 0, none⟩)) ∧ u.cell? ⟨p, 1, none⟩ = some (.pointer (some ⟨b, 0, none⟩)) ∧ u.cell? ⟨bb, 0, none⟩ = some (.string z.word) ∧ u.cell? ⟨bb, 1, none⟩ = some (.int .i64 z.a) ∧ u.cell? ⟨bb, 2, none⟩ = some (.int .i64 z.b) ∧ u.cell? ⟨bb, 3, none⟩ = some (.string z.data))
    (first | exact K1 | exact KD.out | exact KS.out)
    (first
      | (go_at_call 32; refine (devcrash_any (Im w1.drew col) (Fd col) w1.drew bd s.v.d m (by have := HMM.out; omega) HD.out.st.drv.dev (fun q hq => (HD.out.inv.dv.waits q hq).1) (by have := HD.out.bnd.waits; omega) (fun k hk => HD.out.st.lt k (by rw [show col k = 4 from hk]; decide)) (fun k hk hf => by have h1 : col k = 4 := hf; rw [hk.2] at h1; cases h1)).mono ?_; rintro e u1 ⟨rfl, hd2, hc2⟩; have K1 := KD.out.keep hc2 (fun e => by have e : col p = 4 := e; rw [H0.out.c9] at e; cases e) (fun e => Hcb.out ⟨by rw [show col bb = 4 from e]; decide, by rw [show col bb = 4 from e]; decide⟩) Hpl.out Hbl.out; have HC := Lib.hid hc2; have HV := Lib.hid hd2; clear hc2 hd2)
      | fail)
  obtain ⟨e0, e1, _, _, _, _⟩ := K1
  have HR1 : Hid (u1.heap[p]? = some (.cells #[.pointer (some ⟨bd, 0, none⟩), .pointer (some ⟨b, 0, none⟩)] tPl (0, 0))) := (HC.out.block p Hpl.out (fun e => by have e : col p = 4 := e; rw [H0.out.c9] at e; cases e)).trans HD.out.row
  go_wp2_with fail
  refine (stnew_any (fun _ => False) (Fd col) u1 bd (s.v.d.crash m) (HV.out.bare rfl) (fun k hk => Nat.lt_of_lt_of_le (HD.out.st.lt k (by rw [show col k = 4 from hk]; decide)) HC.out.size) (fun k hk => hk.elim) (fun k hk => hk.elim)).mono ?_
  rintro e u2 ⟨b2, col2, y2, rfl, hs2, hb2, hf2, hlo⟩
  have hR2 : u2.heap[p]? = some (.cells #[.pointer (some ⟨bd, 0, none⟩), .pointer (some ⟨b, 0, none⟩)] tPl (0, 0)) := (hb2.block p (Array.getElem?_eq_some_iff.1 HR1.out).1).trans HR1.out
  have g1 : u2.cell? ⟨p, 1, none⟩ = some (.pointer (some ⟨b, 0, none⟩)) := cell_of_row _ _ 1 _ _ _ hR2
  have gf : ∀ k, u2.frozen? ⟨p, k, none⟩ = false := fun k => frozen_of_row _ _ k _ _ hR2
  have HR2 := Lib.hid hR2
  have HS2 := Lib.hid hs2
  have HB2 := Lib.hid hb2
  have HF2 := Lib.hid hf2
  clear hR2 hs2 hb2 hf2 hlo e0 e1
  go_wp2_with fail
  go_ret
  unfold RetPlay
  rw [He.out]
  obtain ⟨col', h3, hp3⟩ := HD.out.crashed (m := m) HC.out HS2.out HB2.out HF2.out (Same1.refl.setCell 1 (.pointer (some ⟨b2, 0, none⟩))) (heap_setCell_same _ _ 1 _ _ _ HR2.out) (Bd.newB rfl)
  exact ⟨rfl, col', b2, y2, h3.mono (by omega) (by omega), hp3.before HXD.out⟩

set_option maxRecDepth 100000 in
set_option maxHeartbeats 4000000 in
theorem play_other (W0 : World) (col : Nat → Nat) (w : World) (p b bd N : Nat) (x : Sv) (s : St) (z : Stp) (K : Int) (h : PlAt W0 w col p b bd N K x s) (hE : Env W0) (hK : K ≤ 500000000) (hN : N ≤ 800000000) (ha : 0 ≤ z.a ∧ z.a ≤ 999) (h0 : (z.word.toList == [114, 101, 97, 100]) = false) (h1 : (z.word.toList == [119, 114, 105, 116, 101]) = false) (h2 : (z.word.toList == [115, 121, 110, 99]) = false) (h3 : (z.word.toList == [103, 111, 116]) = false) (h4 : (z.word.toList == [116, 105, 99, 107]) = false) (h5 : (z.word.toList == [99, 108, 101, 97, 110]) = false) (h6 : (z.word.toList == [100, 105, 115, 112, 97, 116, 99, 104]) = false) (h7 : (z.word.toList == [101, 110, 100]) = false) (h8 : (z.word.toList == [102, 97, 117, 108, 116]) = false) (h9 : (z.word.toList == [114, 111, 117, 110, 100]) = false) (h10 : (z.word.toList == [115, 101, 116, 116, 108, 101]) = false) (h11 : (z.word.toList == [113, 117, 101, 117, 101]) = false) (h12 : (z.word.toList == [98, 117, 115, 121]) = false) (h13 : (z.word.toList == [100, 105, 114, 116, 121]) = false) (h14 : (z.word.toList == [99, 114, 97, 115, 104]) = false) :
    Calls Tryz.prog 6 #[.pointer (some ⟨p, 0, none⟩), stpV z] w (RetPlay W0 col w p bd N K s z) := by
  obtain ⟨bb, hbb⟩ : ∃ n, w.heap.size = n := ⟨_, rfl⟩
  obtain ⟨w1, hw1⟩ : ∃ w1, w.alloc (.cells #[.string z.word, .int .i64 z.a, .int .i64 z.b, .string z.data] 27) = w1 := ⟨_, rfl⟩
  have hX : StpBox 27 w.heap.size z w w1 := hw1 ▸ StpBox.new _ z w
  have hpl := (Array.getElem?_eq_some_iff.1 h.row).1
  have hbn : bb ≠ p := by omega
  have hcb : ¬ Fl col bb := fun hf => hf.1 (h.st.s0 bb (by omega))
  have k0 := h.st.lt
  rw [hbb] at hX
  obtain ⟨d0, d1, d2, d3⟩ := hX.c
  have H1 := Lib.hid (h.step hX.bel)
  obtain ⟨c0, c1⟩ := H1.out.cell
  have hpl1 : p < w1.heap.size := Nat.lt_of_lt_of_le hpl hX.bel.size
  have KS : Hid (Ks p b bd bb z w1) := ⟨c0, c1, d0, d1, d2, d3⟩
  obtain ⟨pc0, pc1⟩ : (∀ o, (w.alloc o).cell? ⟨p, 0, none⟩ = some (.pointer (some ⟨bd, 0, none⟩))) ∧ (∀ o, (w.alloc o).cell? ⟨p, 1, none⟩ = some (.pointer (some ⟨b, 0, none⟩))) := by
    have k : ∀ o, (w.alloc o).heap[p]? = _ := fun o => (Below.heap_alloc _ _ _ hpl).trans h.row
    exact ⟨fun o => cell_of_row _ _ 0 _ _ _ (k o), fun o => cell_of_row _ _ 1 _ _ _ (k o)⟩
  have HX := Lib.hid hX
  have HW := Lib.hid hw1
  have HBB := Lib.hid hbb
  have Hpl := Lib.hid hpl1
  have Hbl := Lib.hid hX.hi
  have Hbn := Lib.hid hbn
  have Hcb : Hid (¬ Fl col bb) := hcb
  have HEE := Lib.hid hE
  have Ha := Lib.hid ha
  have H0 := Lib.hid h
  have q0 := h.k0
  clear h hX hw1 hpl hpl1 hcb hbn hE ha k0
  have HD := Lib.hid (H1.out.step (Below.refl _ _).drew)
  have KD : Hid (Ks p b bd bb z w1.drew) := ⟨c0, c1, d0, d1, d2, d3⟩
  have HXD := Lib.hid (HX.out.bel.trans (((Below.refl w1.heap.size w1).drew).mono HX.out.bel.size))
  have He : Hid (playM s z = (s, p_okB)) := show _ = _ by unfold playM; rw [pc_other h0 h1 h2 h3 h4 h5 h6 h7 h8 h9 h10 h11 h12 h13 h14]
  go_enter Tryz.func6, Tryz.ntmps6
  go_wp2_with fail
  rw [HW.out]
  go_ret
  unfold RetPlay
  rw [He.out]
  exact ⟨rfl, play_done H1.out HX.out.bel (Pr.rest (Below.refl _ _)) (Below.refl _ _) H0.out.c9 (by omega) (by omega)⟩

theorem play_any (W0 : World) (col : Nat → Nat) (w : World) (p b bd N : Nat) (x : Sv) (s : St) (z : Stp) (K : Int) (h : PlAt W0 w col p b bd N K x s) (hE : Env W0) (hK : K ≤ 500000000) (hN : N ≤ 800000000) (ha : 0 ≤ z.a ∧ z.a ≤ 999) :
    Calls Tryz.prog 6 #[.pointer (some ⟨p, 0, none⟩), stpV z] w (RetPlay W0 col w p bd N K s z) := by
  rcases Bool.eq_false_or_eq_true (z.word.toList == [114, 101, 97, 100]) with h0 | h0
  · exact play_read W0 col w p b bd N x s z K h hE hK hN ha h0
  rcases Bool.eq_false_or_eq_true (z.word.toList == [119, 114, 105, 116, 101]) with h1 | h1
  · exact play_write W0 col w p b bd N x s z K h hE hK hN ha h0 h1
  rcases Bool.eq_false_or_eq_true (z.word.toList == [115, 121, 110, 99]) with h2 | h2
  · exact play_sync W0 col w p b bd N x s z K h hE hK hN ha h0 h1 h2
  rcases Bool.eq_false_or_eq_true (z.word.toList == [103, 111, 116]) with h3 | h3
  · exact play_got W0 col w p b bd N x s z K h hE hK hN ha h0 h1 h2 h3
  rcases Bool.eq_false_or_eq_true (z.word.toList == [116, 105, 99, 107]) with h4 | h4
  · exact play_tick W0 col w p b bd N x s z K h hE hK hN ha h0 h1 h2 h3 h4
  rcases Bool.eq_false_or_eq_true (z.word.toList == [99, 108, 101, 97, 110]) with h5 | h5
  · exact play_clean W0 col w p b bd N x s z K h hE hK hN ha h0 h1 h2 h3 h4 h5
  rcases Bool.eq_false_or_eq_true (z.word.toList == [100, 105, 115, 112, 97, 116, 99, 104]) with h6 | h6
  · exact play_dispatch W0 col w p b bd N x s z K h hE hK hN ha h0 h1 h2 h3 h4 h5 h6
  rcases Bool.eq_false_or_eq_true (z.word.toList == [101, 110, 100]) with h7 | h7
  · exact play_end_ W0 col w p b bd N x s z K h hE hK hN ha h0 h1 h2 h3 h4 h5 h6 h7
  rcases Bool.eq_false_or_eq_true (z.word.toList == [102, 97, 117, 108, 116]) with h8 | h8
  · exact play_fault W0 col w p b bd N x s z K h hE hK hN ha h0 h1 h2 h3 h4 h5 h6 h7 h8
  rcases Bool.eq_false_or_eq_true (z.word.toList == [114, 111, 117, 110, 100]) with h9 | h9
  · exact play_round W0 col w p b bd N x s z K h hE hK hN ha h0 h1 h2 h3 h4 h5 h6 h7 h8 h9
  rcases Bool.eq_false_or_eq_true (z.word.toList == [115, 101, 116, 116, 108, 101]) with h10 | h10
  · exact play_settle W0 col w p b bd N x s z K h hE hK hN ha h0 h1 h2 h3 h4 h5 h6 h7 h8 h9 h10
  rcases Bool.eq_false_or_eq_true (z.word.toList == [113, 117, 101, 117, 101]) with h11 | h11
  · exact play_queue W0 col w p b bd N x s z K h hE hK hN ha h0 h1 h2 h3 h4 h5 h6 h7 h8 h9 h10 h11
  rcases Bool.eq_false_or_eq_true (z.word.toList == [98, 117, 115, 121]) with h12 | h12
  · exact play_busy W0 col w p b bd N x s z K h hE hK hN ha h0 h1 h2 h3 h4 h5 h6 h7 h8 h9 h10 h11 h12
  rcases Bool.eq_false_or_eq_true (z.word.toList == [100, 105, 114, 116, 121]) with h13 | h13
  · exact play_dirty W0 col w p b bd N x s z K h hE hK hN ha h0 h1 h2 h3 h4 h5 h6 h7 h8 h9 h10 h11 h12 h13
  rcases Bool.eq_false_or_eq_true (z.word.toList == [99, 114, 97, 115, 104]) with h14 | h14
  · exact play_crash W0 col w p b bd N x s z K h hE hK hN ha h0 h1 h2 h3 h4 h5 h6 h7 h8 h9 h10 h11 h12 h13 h14
  exact play_other W0 col w p b bd N x s z K h hE hK hN ha h0 h1 h2 h3 h4 h5 h6 h7 h8 h9 h10 h11 h12 h13 h14
end Go.Proofs.YtinknleckppciaaGreatDoor
