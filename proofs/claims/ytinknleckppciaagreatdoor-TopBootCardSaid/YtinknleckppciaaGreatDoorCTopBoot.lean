/- Behind a crash: a new stack reads what its disk has now. The law TopBoot: its walk. For all steps and numbers: the law TopBoot returns true, and its arguments read as they did. It is a card: tables of Go's library start as their text lays them. -/
import Derived.Test.YtinknleckppciaaGreatDoorR43
import Derived.Test.YtinknleckppciaaGreatDoorR10
import Derived.Test.YtinknleckppciaaGreatDoorR47
import Derived.Test.YtinknleckppciaaGreatDoorR46
import Derived.Test.YtinknleckppciaaGreatDoorCards
import Derived.Test.YtinknleckppciaaGreatDoorTie
import Derived.HandedShaped
import Derived.Handed
import Derived.ProofKit
import Derived.LaidMore
import Derived.Lay
import Derived.SevenTiedAt
import Derived.Stop.Joined
namespace Go.Proofs.YtinknleckppciaaGreatDoor
set_option linter.unusedSimpArgs false
set_option linter.unusedVariables false

def bA (p : Nat) : Ak := ⟨1, (p : Int), noB, []⟩
def bR (p : Nat) : Rq := ⟨false, (p : Int), 1, [], [1], 0⟩
def b1 (d : Dv) (p : Nat) : St := ⟨⟨d, fun _ => 0⟩, [], [bR p], ⟨false, 0, 0, 0⟩, 0, 0, 1, [none, some (bA p), none], [noB, noB, noB], [0, 0, 0], false⟩
def b0 (d : Dv) (p : Nat) : St := ⟨⟨d, fun _ => 0⟩, [], [], ⟨false, 0, 0, 0⟩, 0, 0, 0, [none, some (bA p), none], [noB, noB, noB], [0, 0, 0], false⟩
def b2 (d : Dv) (p : Nat) : St := ⟨⟨d, fun _ => 0⟩, [], [bR p], ⟨false, 0, 0, 0⟩, 1, 0, 1, [none, some (bA p), none], [noB, noB, noB], [0, 0, 0], false⟩
def b3 (d : Dv) (p : Nat) (t : Tn) : St := ⟨⟨{ d with l := [bR p] }, fun _ => 0⟩, [], [], t, 1, 0, 1, [none, some (bA p), none], [noB, noB, noB], [0, 0, 0], false⟩
theorem bR_ok {p : Nat} (hp : p < 32) : ReqOk (bR p) := by
  refine ⟨?_, ?_, ?_, ?_, rfl⟩
  · unfold SpanOk bR; simp only; omega
  · unfold shapeOk
    rw [if_neg (show ¬ (bR p).write = true from Bool.false_ne_true)]
    rfl
  · exact ⟨Nat.le_of_ble_eq_true rfl, Nat.le_of_ble_eq_true rfl⟩
  · exact ⟨Int.le_refl 0, show (0 : Int) ≤ 1000000000 by decide⟩
theorem serve_alone {s : St} (h0 : s.askAt 0 = none) (h2 : s.askAt 2 = none) : s.serve = s.serve1 1 := by
  unfold St.serve
  rw [serve1_none h0, serve1_none (serve1_nn s 1 h2)]
theorem b_queue (d : Dv) {p : Nat} (hp : p < 32) : (b0 d p).queue false (p : Int) noB = (b1 d p, true) := by
  have ha : addM [] (bR p) = ([bR p], 0) := addM_new (reqF_ok (bR_ok hp)) rfl rfl (by decide)
  have hr : (b0 d p).reqOf false (p : Int) noB = bR p := rfl
  have hw : (b0 d p).wait = [] := rfl
  unfold St.queue
  rw [hr, hw, ha]
  rfl
theorem b_ask (d : Dv) {p : Nat} (hp : p < 32) (hl : d.l = []) : (St.new d).ask 1 1 (p : Int) noB = (b1 d p, 0) := by
  unfold St.ask
  rw [if_neg (by omega), if_neg (by have : noB.size = 0 := rfl; omega), if_neg (show ¬ ((St.new d).askAt (Int.toNat 1)).isSome = true from Bool.false_ne_true)]
  have e : ({ St.new d with asks := (St.new d).asks.set (1 : Int).toNat (some ⟨1, (p : Int), noB, if (1 : Int) = 3 then St.dirtyAt (St.new d).bufs else []⟩) } : St) = b0 d p := rfl
  rw [e, serve_alone rfl rfl, serve1_read (a := bA p) rfl rfl]
  have hh : (b0 d p).heldP (p : Int) = false := by
    show (([] : List Rq).any _ || d.l.any _) = false
    rw [hl]; rfl
  have e2 : (b0 d p).read 1 (bA p) = ((b0 d p).queue false (p : Int) noB).1 := by
    unfold St.read
    rw [if_neg (show ¬ (getB (b0 d p).bufs (bA p).pos).2 = true from Bool.false_ne_true)]
    show (if (b0 d p).heldP (p : Int) = true then _ else _) = _
    rw [hh]; rfl
  rw [e2, b_queue d hp]
theorem b_tick (d : Dv) (p : Nat) : (b1 d p).tick = b2 d p := by
  have e : (b1 d p).tick = (b2 d p).serve := rfl
  rw [e, serve_alone rfl rfl, serve1_read (a := bA p) rfl rfl]
  have hh : (b2 d p).heldP (p : Int) = true := by
    show ((hasB (p : Int) 1 (p : Int) || false) || d.l.any _) = true
    have : hasB (p : Int) 1 (p : Int) = true := by rw [hasB_iff]; omega
    rw [this]; rfl
  unfold St.read
  rw [if_neg (show ¬ (getB (b2 d p).bufs (bA p).pos).2 = true from Bool.false_ne_true)]
  show (if (b2 d p).heldP (p : Int) = true then _ else _) = _
  rw [hh]; rfl
theorem b_clean (d : Dv) (p : Nat) : (b2 d p).clean = (b2 d p, false) := rfl
theorem b_go (d : Dv) {p : Nat} (hp : p < 32) (hl : d.l = []) : ∃ t, (b2 d p).go = b3 d p t := by
  have hg : goodReqs [bR p] = true := (good_iff _).2 ⟨by simpa using reqF_ok (bR_ok hp), List.pairwise_singleton _ _⟩
  obtain ⟨j, r, t', hn⟩ := next_is (l := [bR p]) ⟨false, 0, 0, 0⟩ 1 hg (by simp)
  have hn1 : (nextM [bR p] ⟨false, 0, 0, 0⟩ 1).1 = 0 := by
    have h2 := hn.lt
    simp only [List.length_singleton] at h2
    rw [hn.eq]
    show (j : Int) = 0
    omega
  refine ⟨(nextM [bR p] ⟨false, 0, 0, 0⟩ 1).2, ?_⟩
  have e1 : (b2 d p).dispatch.1 = b3 d p (nextM [bR p] ⟨false, 0, 0, 0⟩ 1).2 := by
    unfold St.dispatch
    rw [if_neg (by show ¬ ([bR p] = [] ∨ 2 ≤ d.l.length); rw [hl]; simp)]
    show (⟨⟨(d.start ([bR p].getD (nextM [bR p] ⟨false, 0, 0, 0⟩ 1).1.toNat default)).1, fun _ => 0⟩, [], [bR p].eraseIdx (nextM [bR p] ⟨false, 0, 0, 0⟩ 1).1.toNat, (nextM [bR p] ⟨false, 0, 0, 0⟩ 1).2, 1, 0, 1, [none, some (bA p), none], [noB, noB, noB], [0, 0, 0], false⟩ : St) = _
    rw [hn1]
    have : (d.start ([bR p].getD (0 : Int).toNat default)).1 = { d with l := [bR p] } := by
      unfold Dv.start
      rw [if_neg (by rw [hl]; simp), hl]; rfl
    rw [this]; rfl
  unfold St.go
  rw [e1]
  unfold St.dispatch
  rw [if_pos (.inl rfl)]
theorem b_end (d : Dv) {p : Nat} (hp : p < 32) (hn : d.now.length = 32) (t : Tn) : ∃ s, (b3 d p t).end_ 0 false = (s, 0) ∧ s.quiet = true ∧ s.got 1 = (d.peek p, 0) := by
  obtain ⟨x, hx⟩ : ∃ x, d.now[p]? = some x := ⟨_, List.getElem?_eq_getElem (by omega)⟩
  have hpk : d.peek p = x := by unfold Dv.peek; rw [List.getD_eq_getElem?_getD, hx]; rfl
  have hrd : d.reads (p : Int).toNat (1 : Int).toNat = [x] := by
    unfold Dv.reads
    obtain ⟨hlt, he⟩ := List.getElem?_eq_some_iff.1 hx
    rw [Int.toNat_natCast, List.drop_eq_getElem_cons hlt, he]; rfl
  have he : (b3 d p t).v.endAt 0 false = (⟨⟨d.kept, d.now, d.waits, []⟩, upd (fun _ => 0) 1 0⟩, ⟨bR p, [x], 0⟩, true, 0) := by
    have e1 : (b3 d p t).v.d.endAt 0 false = (⟨d.kept, d.now, d.waits, []⟩, ⟨bR p, d.reads (p : Int).toNat (1 : Int).toNat, 0⟩, 0) := rfl
    unfold Drv.endAt
    rw [e1, hrd]; rfl
  unfold St.end_
  simp only [he]
  rw [if_neg (by decide), if_neg (by decide)]
  refine ⟨_, rfl, ?_⟩
  have e2 : ((⟨⟨⟨d.kept, d.now, d.waits, []⟩, upd (fun _ => 0) 1 0⟩, [], [], t, 1, 0, 1, [none, some (bA p), none], [noB, noB, noB], [0, 0, 0], false⟩ : St).endedN false (p : Int) [x] 1) = (⟨⟨⟨d.kept, d.now, d.waits, []⟩, upd (fun _ => 0) 1 0⟩, [⟨(p : Int) + (0 : Nat), x, false, 1⟩], [], t, 1, 1, 1, [none, none, none], [noB, x, noB], [0, 0, 0], false⟩ : St) := by
    obtain ⟨q, hq⟩ : ∃ q, (p : Int) + ((0 : Nat) : Int) = q := ⟨_, rfl⟩
    have hqp : (p : Int) = q := by omega
    show St.tell (⟨⟨⟨d.kept, d.now, d.waits, []⟩, upd (fun _ => 0) 1 0⟩, [⟨(p : Int) + ((0 : Nat) : Int), x, false, 1⟩], [], t, 1, 1, 1, [none, some (bA p), none], [noB, noB, noB], [0, 0, 0], false⟩ : St) ((p : Int) + ((0 : Nat) : Int)) x = _
    rw [hq]
    obtain ⟨S, hS⟩ : ∃ S : St, S = ⟨⟨⟨d.kept, d.now, d.waits, []⟩, upd (fun _ => 0) 1 0⟩, [⟨q, x, false, 1⟩], [], t, 1, 1, 1, [none, some (bA p), none], [noB, noB, noB], [0, 0, 0], false⟩ := ⟨_, rfl⟩
    rw [← hS]
    have t0 : St.tell1 q x S 0 = S := by rw [hS]; rfl
    have t1 : St.tell1 q x S 1 = S.answer 1 x 0 := by
      rw [hS]
      unfold St.tell1
      show (if (bA p).kind = 1 ∧ (bA p).pos = q then _ else _) = _
      rw [if_pos ⟨rfl, hqp⟩]
    unfold St.tell
    rw [t0, t1, hS]
    rfl
  show (St.serve ((⟨⟨⟨d.kept, d.now, d.waits, []⟩, upd (fun _ => 0) 1 0⟩, [], [], t, 1, 0, 1, [none, some (bA p), none], [noB, noB, noB], [0, 0, 0], false⟩ : St).endedN false (p : Int) [x] 1)).quiet = true ∧ (St.serve ((⟨⟨⟨d.kept, d.now, d.waits, []⟩, upd (fun _ => 0) 1 0⟩, [], [], t, 1, 0, 1, [none, some (bA p), none], [noB, noB, noB], [0, 0, 0], false⟩ : St).endedN false (p : Int) [x] 1)).got 1 = (d.peek p, 0)
  rw [e2, serve_alone rfl rfl, serve1_none rfl, hpk]
  exact ⟨rfl, rfl⟩
theorem boot_pure (d : Dv) {p : Nat} (hp : p < 32) (hl : d.l = []) (hn : d.now.length = 32) :
    ((St.new d).ask 1 1 (p : Int) noB).2 = 0 ∧ (St.settle 5 ((St.new d).ask 1 1 (p : Int) noB).1).1.quiet = true ∧ (St.settle 5 ((St.new d).ask 1 1 (p : Int) noB).1).1.got 1 = (d.peek p, 0) := by
  rw [b_ask d hp hl]
  obtain ⟨t, ht⟩ := b_go d hp hl
  obtain ⟨s, h1, h2, h3⟩ := b_end d hp hn t
  have hr : (b1 d p).round = s := by
    unfold St.round
    rw [b_tick, b_clean, ht, h1]
  have hs : St.settle 5 (b1 d p) = (s, 1) := by
    rw [settle_step (show (b1 d p).quiet = false from rfl) 4, hr, settle_quiet h2]
  show (0 : Nat) = 0 ∧ (St.settle 5 (b1 d p)).1.quiet = true ∧ (St.settle 5 (b1 d p)).1.got 1 = (d.peek p, 0)
  rw [hs]
  exact ⟨rfl, h2, h3⟩
end Go.Proofs.YtinknleckppciaaGreatDoor
namespace Go.Proofs.YtinknleckppciaaGreatDoor
set_option linter.unusedSimpArgs false
set_option linter.unusedVariables false
open Go.RowKit Go.Sort

set_option maxRecDepth 100000 in
theorem pstack_any (W0 : World) (col : Nat → Nat) (w : World) (p b bd N : Nat) (x : Sv) (s : St) (K : Int) (h : PlAt W0 w col p b bd N K x s) :
    Calls Tryz.prog 9 #[.pointer (some ⟨p, 0, none⟩)] w (RetSame (.pointer (some ⟨b, 0, none⟩)) w) := by
  obtain ⟨c0, c1⟩ := h.cell
  clear h
  go_enter Tryz.func9, Tryz.ntmps9
  go_wp2
  go_ret
  exact ⟨rfl, rfl⟩
set_option maxRecDepth 100000 in
theorem pdevice_any (W0 : World) (col : Nat → Nat) (w : World) (p b bd N : Nat) (x : Sv) (s : St) (K : Int) (h : PlAt W0 w col p b bd N K x s) :
    Calls Tryz.prog 13 #[.pointer (some ⟨p, 0, none⟩)] w (RetSame (.pointer (some ⟨bd, 0, none⟩)) w) := by
  obtain ⟨c0, c1⟩ := h.cell
  clear h
  go_enter Tryz.func13, Tryz.ntmps13
  go_wp2
  go_ret
  exact ⟨rfl, rfl⟩
set_option maxRecDepth 100000 in
set_option maxHeartbeats 4000000 in
theorem boot_walk (l : List Stp) (v : Value) (keep at_ : Int) (w : World) (h : StpsAt Any w v l) (hk : -9223372036854775808 ≤ keep ∧ keep ≤ 9223372036854775807) (ha : -9223372036854775808 ≤ at_ ∧ at_ ≤ 9223372036854775807) (hE : Env w) :
    Calls Tryz.prog 4 #[v, .int .i64 keep, .int .i64 at_] w (Ret (.bool true) w) := by
  obtain ⟨A, cap, rfl, hcl, hcap⟩ := h.form
  have H := Lib.hid h
  have HE := Lib.hid hE
  unfold maxLen at hcap
  clear h hE
  go_enter Tryz.func4, Tryz.ntmps4
  go_wp2_with fail
  refine (plnew_any w w (Below.refl _ _)).mono ?_
  rintro e w0 ⟨p, b0, bd, col0, y0, rfl, hp0, _, _, _⟩
  have HP0 := Lib.hid hp0
  clear hp0
  go_wp2_with fail
  refine (play_any w col0 w0 p b0 bd 0 y0 pst0 (crashZ 0) 0 HP0.out HE.out (by omega) (by omega) ⟨Int.le_refl _, by decide⟩).mono ?_
  rintro e w1 ⟨rfl, col1, b1, y1, hp1, _⟩
  rw [play_crashZ] at hp1 ⊢
  obtain ⟨s1, hs1⟩ : ∃ s, s = St.new (pst0.v.d.crash (0 : Int).toNat) := ⟨_, rfl⟩
  have HP1 : Hid (PlAt w w1 col1 p b1 bd 1000 15000 y1 s1) := show PlAt _ _ _ _ _ _ _ _ _ _ by rw [hs1]; exact hp1
  have e0 : p_okB = ⟨#[111, 107]⟩ := rfl
  simp only [e0]
  clear hp1 hs1 e0
  go_wp2_with fail
  refine (lightscript_any Any l _ 80 w1 (H.out.below HP1.out.below) (by omega)).mono ?_
  rintro e w2 ⟨rfl, rfl⟩
  by_cases hc : lightStp l 80 = true ∧ 0 ≤ keep ∧ keep ≤ 999 ∧ 0 ≤ at_ ∧ at_ ≤ 31
  · obtain ⟨hl, hk0, hk1, ha0, ha1⟩ := hc
    have hlen := lightStp_len hl
    rw [hl]
    clear hl hk ha
    obtain ⟨m, rfl⟩ := Int.eq_ofNat_of_zero_le hk0
    obtain ⟨pn, rfl⟩ := Int.eq_ofNat_of_zero_le ha0
    have n1 : ¬ (m : Int) < 0 := by omega
    have n2 : ¬ (999 : Int) < (m : Int) := by omega
    have n3 : ¬ (pn : Int) < 0 := by omega
    have n4 : ¬ (32 : Int) ≤ (pn : Int) := by omega
    clear hk0 ha0
    go_wp2_with fail
    go_loopw [8] (fun i wr => ∃ (k : Nat) (c1 : Nat → Nat) (b1 : Nat) (x1 : Sv) (s : St), k ≤ l.length ∧ i = .int .i64 k ∧ Hid (PlAt w wr c1 p b1 bd (1000 * (k + 1)) (15000 * ((k : Int) + 1)) x1 s)) (fun i _ => l.length - (intOf i).toNat)
    case atStart => exact ⟨0, col1, b1, y1, s1, by omega, rfl, HP1.out⟩
    case round =>
      obtain ⟨k, c1, b1, x1, s, hk, rfl, HL⟩ := hrel
      by_cases hlt : k < l.length
      · have hlt2 : (k : Int) < (l.length : Int) := by omega
        obtain ⟨g, off, z, rfl, hgl, hx, k0, k1, k2, k3⟩ := (H.out.below HL.out.below).cells hlt
        have Hx := Lib.hid hx
        have hzl := H.out.2 z (List.mem_of_getElem? hx)
        have Hzw := Lib.hid hzl.word
        have Hgl := Lib.hid hgl
        clear hx hzl hgl
        go_wp2_with fail
        refine (checks_any z wr Hzw.out).mono ?_
        rintro e w4 ⟨rfl, hb4⟩
        have H4 := Lib.hid (HL.out.step hb4)
        have hcz : w4.cell? ⟨g, off + k * 4, none⟩ = some (.string z.word) ∧ w4.cell? ⟨g, off + k * 4 + 1, none⟩ = some (.int .i64 z.a) ∧ w4.cell? ⟨g, off + k * 4 + 2, none⟩ = some (.int .i64 z.b) ∧ w4.cell? ⟨g, off + k * 4 + 3, none⟩ = some (.string z.data) := by
          obtain ⟨g', off', z', e, _, hx', m0, m1, m2, m3⟩ := (H.out.below H4.out.below).cells hlt
          cases e
          obtain rfl : z = z' := Option.some.inj (Hx.out.symm.trans hx')
          exact ⟨m0, m1, m2, m3⟩
        clear hb4 k0 k1 k2 k3
        have e2' : 1000 * (k + 1) + 1000 = 1000 * (k + 1 + 1) := by omega
        have e3' : 15000 * ((k : Int) + 1) + 15000 = 15000 * (((k + 1 : Nat) : Int) + 1) := by omega
        by_cases hch : checkM z = 0
        · have Ha := Lib.hid (check_a hch)
          rw [hch]
          clear hch
          obtain ⟨k0, k1, k2, k3⟩ := hcz
          go_wp2_with fail
          refine (play_any w c1 w4 p b1 bd (1000 * (k + 1)) x1 s z (15000 * ((k : Int) + 1)) H4.out HE.out (by omega) (by omega) Ha.out).mono ?_
          rintro e w5 ⟨rfl, c2, b2, x2, h5, _⟩
          generalize (playM s z).1 = s5 at h5
          rw [e2', e3'] at h5
          have H5 := Lib.hid h5
          clear h5 k0 k1 k2 k3
          go_wp2_with fail
          go_roundw
          case rel => exact ⟨k + 1, c2, b2, x2, s5, by omega, by go_num, H5.out⟩
          case measure => simp [intOf]; omega
        · have hne := errV_pos hch
          rw [hne]
          have H7 : Hid (PlAt w w4 c1 p b1 bd (1000 * (k + 1 + 1)) (15000 * (((k + 1 : Nat) : Int) + 1)) x1 s) := H4.out.mono (by omega) (by omega)
          clear hne hch hcz
          go_wp2_with fail
          go_roundw
          case rel => exact ⟨k + 1, c1, b1, x1, s, by omega, by go_num, H7.out⟩
          case measure => simp [intOf]; omega
      · obtain rfl : k = l.length := by omega
        have hlt2 : ¬ (l.length : Int) < (l.length : Int) := by omega
        go_wp2_with fail
        refine (play_any w c1 wr p b1 bd (1000 * (l.length + 1)) x1 s (crashZ (m : Int)) (15000 * ((l.length : Int) + 1)) HL.out HE.out (by omega) (by omega) ⟨by show (0 : Int) ≤ (m : Int); omega, by show (m : Int) ≤ 999; omega⟩).mono ?_
        rintro e w3 ⟨rfl, c3, b3, x3, h3, _⟩
        rw [play_crashZ] at h3 ⊢
        obtain ⟨d, hd⟩ : ∃ d, s.v.d.crash (m : Int).toNat = d := ⟨_, rfl⟩
        have hdl : d.l = [] := by rw [← hd]; rfl
        rw [hd] at h3
        have hdn : d.now.length = 32 := h3.inv.dv.now
        have q1 : (St.new d).quiet = true := by
          show ((true && true) && d.l.isEmpty) = true
          rw [hdl]; rfl
        obtain ⟨g1, g2, g3⟩ := boot_pure d (show pn < 32 by omega) hdl hdn
        obtain ⟨N3, hN3⟩ : ∃ N, 1000 * (l.length + 1) + 1000 = N := ⟨_, rfl⟩
        obtain ⟨K3, hK3⟩ : ∃ K, 15000 * ((l.length : Int) + 1) + 15000 = K := ⟨_, rfl⟩
        have hN : N3 ≤ 100000 := by omega
        have hK : K3 ≤ 2000000 := by omega
        rw [hN3, hK3] at h3
        have H3 := Lib.hid h3
        have Q1 := Lib.hid q1
        have G1 := Lib.hid g1
        have G2 := Lib.hid g2
        have G3 := Lib.hid g3
        have hdd : (dirtyB (St.new d).bufs : Int) = 0 := rfl
        have hde : (St.new d).dead = false := rfl
        clear h3 hd hdl hdn q1 g1 g2 g3 hN3 hK3 HL
        go_wp2_with fail
        refine (pstack_any w c3 w3 p b3 bd N3 x3 (St.new d) K3 H3.out).mono ?_
        rintro e w4 ⟨rfl, rfl⟩
        go_wp2_with fail
        refine (quiet_any c3 w3 b3 bd N3 x3 (St.new d) H3.out.st H3.out.inv).mono ?_
        rintro e w4 ⟨rfl, hb4⟩
        rw [Q1.out]
        have H4 := Lib.hid (H3.out.step hb4)
        clear hb4
        go_wp2_with fail
        refine (stdirty_any c3 w4 b3 bd N3 x3 (St.new d) H4.out.st H4.out.inv.len8).mono ?_
        rintro e w5 ⟨rfl, hb5⟩
        rw [hdd]
        have H5 := Lib.hid (H4.out.step hb5)
        clear hb5
        go_wp2_with fail
        refine (dead_any c3 w5 b3 bd N3 x3 (St.new d) H5.out.st).mono ?_
        rintro e w6 ⟨rfl, rfl⟩
        rw [hde]
        go_wp2_with fail
        refine (pdevice_any w c3 w5 p b3 bd N3 x3 (St.new d) K3 H5.out).mono ?_
        rintro e w6 ⟨rfl, rfl⟩
        go_wp2_with fail
        refine (devpeek_any _ _ w5 bd d pn (by omega) H5.out.st.drv.dev).mono ?_
        rintro e w6 ⟨rfl, rfl⟩
        go_wp2_with fail
        refine (ask_any c3 w5 b3 bd N3 x3 (St.new d) 1 1 (pn : Int) noB K3 H5.out.st H5.out.inv H5.out.bnd H5.out.k0 (by omega)).mono ?_
        rintro e w6 hr
        obtain ⟨rfl, c6, y6, h6, _⟩ := H5.out.five hr (H5.out.inv.ask_ ..) (H5.out.bnd.ask H5.out.k0 ..) (by have := H5.out.k0; omega)
        rw [G1.out]
        generalize ((St.new d).ask 1 1 (pn : Int) noB).1 = s6 at *
        have H6 := Lib.hid h6
        clear hr h6
        go_wp2_with fail
        refine (settle_any c6 w6 b3 bd N3 y6 s6 _ 5 H6.out.st H6.out.inv H6.out.bnd H6.out.k0 (by omega) (by omega) (by omega)).mono ?_
        rintro e w7 hr
        obtain ⟨rfl, c7, y7, h7, _⟩ := H6.out.five hr H6.out.inv.settle (H6.out.bnd.settle H6.out.k0 H6.out.inv) (by have := H6.out.k0; omega)
        rw [G2.out]
        generalize (St.settle 5 s6).1 = s7 at *
        generalize (St.settle 5 s6).2 = n7 at *
        have H7 := Lib.hid h7
        clear hr h7
        go_wp2_with fail
        refine (got_any c7 w7 b3 bd _ y7 s7 1 H7.out.st (by omega)).mono ?_
        rintro e w8 ⟨rfl, hb8⟩
        rw [G3.out]
        have HB8 := Lib.hid (H7.out.step hb8).below
        clear hb8
        generalize d.peek pn = pk at *
        go_wp2_with fail
        go_ret
        exact ⟨rfl, HB8.out⟩
  · cases hl : lightStp l 80 with
    | false =>
      clear hc hl
      go_wp2_with fail
      go_ret
      exact ⟨rfl, HP1.out.below⟩
    | true =>
      rw [hl] at hc
      by_cases hk0 : keep < 0
      · clear hc hl
        go_wp2_with fail
        go_ret
        exact ⟨rfl, HP1.out.below⟩
      · by_cases hk1 : 999 < keep
        · clear hc hl
          go_wp2_with fail
          go_ret
          exact ⟨rfl, HP1.out.below⟩
        · by_cases ha0 : at_ < 0
          · clear hc hl
            go_wp2_with fail
            go_ret
            exact ⟨rfl, HP1.out.below⟩
          · have ha1 : 32 ≤ at_ := by
              rcases Int.lt_or_le at_ 32 with h1 | h1
              · exact absurd ⟨rfl, by omega, by omega, by omega, by omega⟩ hc
              · exact h1
            clear hc hl
            go_wp2_with fail
            go_ret
            exact ⟨rfl, HP1.out.below⟩
end Go.Proofs.YtinknleckppciaaGreatDoor
namespace Go.Proofs.YtinknleckppciaaGreatDoor.topBoot
open Go.ChangeShapes Go.WideShapes Go.ChangeAt Go.RowKit Go.Joins

set_option maxRecDepth 100000 in
theorem lifted (os : Os) (started : os.Started) (H : Type) (enc : TypeId × Value → H) :
    ReturnsInHanded {} Tryz.checked os 4 .any (fun w args => (Rows.topBootSpec.pre enc Tryz.prog Tryz.f4 Rows.topBootRow.domain false w args ∧ laidMetH Tryz.prog Rows.topBootRow.laid w) ∧ sizedMet enc Tryz.prog Tryz.f4 (OpenSpec.ofChange Rows.topBootSpec) false w args)
      (Rows.topBootSpec.post enc Tryz.prog Tryz.f4 false true false false) := by
  refine returnsInHanded_of_change_and (C := Tryz.checked) (X := fun w _ => laidMetH Tryz.prog Rows.topBootRow.laid w) (fun _ _ _ hh h => h.of_heap hh) own started (by kernel_rfl) Tryz.func4
    (ChangeSpec.witness_shaped (enc := enc) (C := Tryz.checked) (os := os) (X := fun w _ => laidMetH Tryz.prog Rows.topBootRow.laid w) false (World.laidAll Tryz.prog os Rows.topBootRow.laid) #[.slice none 0 0, .int .i64 0, .int .i64 0] 8 (World.laidAll_os _ _ _)
      (World.shaped_of_ZipB (by kernel_rfl) (by kernel_rfl)) (by kernel_rfl) (by kernel_rfl) (by kernel_rfl)
      (by rw [MakeChecks.laidMetH_plain _ _ _ (by kernel_rfl)]; exact laidMet_laidAll _ (by kernel_rfl) (by kernel_rfl))) ?_
  intro W base args ds gs before hval0 hW hc _ hL _
  have hval : ∀ (j : Nat) t v, Tryz.f4.params[j]? = some t → args[j]? = some v → Value.okWide Tryz.prog W .any base t v := hval0
  refine law_contract (fn := Tryz.f4) rfl rfl (fun ds h => ?_) (by rw [Tryz.params4]; intro t ht; simp at ht; rcases ht with rfl | rfl <;> exact ⟨by kernel_rfl, of_decide_eq_true (by kernel_rfl)⟩) hW ?_
  · match ds, h with
    | [_, _, _], _ => rfl
  · intro p hA hlt
    rw [Tryz.params4] at hA hval
    obtain ⟨v0, vs0, d0, ds0, p0, q0, hargs, rfl, rfl, h0, r0⟩ := trodAll_cons hA
    obtain ⟨v1, vs1, d1, ds1, p1, q1, rfl, rfl, rfl, h1, r1⟩ := trodAll_cons r0
    obtain ⟨v2, vs2, d2, ds2, p2, q2, rfl, rfl, rfl, h2, r2⟩ := trodAll_cons r1
    obtain ⟨rfl, rfl, rfl⟩ := trodAll_nil r2
    obtain rfl : args = #[v0, v1, v2] := by cases args; simp_all
    obtain ⟨l0, hl0⟩ := stps_of h0 (okWide_slice Tryz.underlying22 (hval 0 22 v0 rfl rfl))
    obtain ⟨x1, rfl, rfl, rfl, w1⟩ := open_int Tryz.underlying3 (hval 1 3 v1 rfl rfl) h1
    obtain ⟨x2, rfl, rfl, rfl, w2⟩ := open_int Tryz.underlying3 (hval 2 3 v2 rfl rfl) h2
    exact boot_walk l0 v0 x1 x2 W hl0 (bounds_i64 w1) (bounds_i64 w2) (envp_of rfl hL)

theorem holds : Rows.TopBootSaid :=
  OpenClaim.holds_of_wide 4 Tryz.f4 rfl rfl rfl rfl rfl rfl rfl ⟨rfl, rfl, rfl, rfl, rfl⟩ rfl rfl rfl rfl rfl (by kernel_rfl) Tryz.func4 (by kernel_rfl)
    (of_decide_eq_true (by kernel_rfl)) (by unfold Func.isWrapper; first | (rw [if_pos (by decide +kernel)]; kernel_rfl) | (rw [if_neg (by decide +kernel)]; exact ⟨rfl, rfl⟩))
    (fun os started H enc _ => lifted os started H enc)
theorem proved : Rows.TopBootCardSaid :=
  Claim7.holds_tied_plain_at .later [] Rows.topBootCard.laidKinds true Rows.topBootCard.stood.harness true holds (fun _ h => by cases h) (by kernel_rfl) (fun _ h => by cases h) topBoot_row_tie rfl ⟨rfl, rfl⟩ (by kernel_rfl) rfl
    (fun f fn hf hfn => by
      obtain rfl : f = 4 := Option.some.inj ((show Tryz.prog.funcNamed "weighbridge/weighbridgetop.TopBoot" = some 4 by kernel_rfl).symm.trans hf) |>.symm
      obtain rfl : fn = Tryz.f4 := (Option.some.inj (Tryz.func4.symm.trans hfn)).symm
      exact ⟨by kernel_rfl, fun j t ht => by
        rw [Tryz.params4] at ht
        have hm : t ∈ [22, 3, 3] := by simpa using Array.mem_of_getElem? ht
        have hall : ([22, 3, 3].all fun u => !Tryz.prog.wantsStandIn u) = true := by kernel_rfl
        exact (show Tryz.prog.wantsStandIn t = false by simpa using List.all_eq_true.1 hall t hm)⟩)
    (by kernel_rfl)
#print axioms proved
end Go.Proofs.YtinknleckppciaaGreatDoor.topBoot
