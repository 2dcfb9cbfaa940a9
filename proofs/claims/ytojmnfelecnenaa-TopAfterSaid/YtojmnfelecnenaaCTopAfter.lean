/- The law TopRight: its walk. One who asks alone: rounds until it is answered; a sync. The disk crashes: (*Device).Crash, both. The law TopAfter: its walk. For all lists of steps and all masks: the law TopAfter returns true, and its arguments read as they did. No condition. -/
import Derived.Test.YtojmnfelecnenaaQ16
import Derived.Test.YtojmnfelecnenaaQ4
import Derived.Test.YtojmnfelecnenaaQ1
namespace Go.Proofs.Ytojmnfelecnenaa
set_option linter.unusedSimpArgs false
set_option linter.unusedVariables false
open Go.RowKit Go.Sort

def vs0 : List Value := List.replicate 32 (.slice none 0 0)
def al0 : Al := ⟨List.replicate 32 noB, List.replicate 32 [], 0, 0, noB⟩
theorem getD_replicate {α : Type} {n i : Nat} {x d : α} : (List.replicate n x).getD i d = if i < n then x else d := by
  rw [List.getD_eq_getElem?_getD, List.getElem?_replicate]
  split <;> rfl
/-- A new block of the colour 9. -/
theorem StAt.paint {T : Tys} {col : Nat → Nat} {w w' : World} {b bd N n : Nat} {x : Sv} {s : St} (h : StAt T col w b bd N x s) (hb : Below w.heap.size w w') (hlt : n < w'.heap.size) (hn : w.heap.size ≤ n) : StAt T (fun k => if k = n then 9 else col k) w' b bd N x s := by
  have h0 : col n = 0 := h.s0 n hn
  have hF : Fd (fun k => if k = n then 9 else col k) = Fd col := funext fun k => propext ⟨fun hk => by
    have hk : (if k = n then 9 else col k) = 4 := hk
    split at hk
    · cases hk
    · exact hk, fun hk => by
    show (if k = n then 9 else col k) = 4
    have hk : col k = 4 := hk
    rw [if_neg (fun e => by rw [e, h0] at hk; cases hk)]; exact hk⟩
  have hA : ∀ c, c < 3 → Fa (fun k => if k = n then 9 else col k) c = Fa col c := fun c hc => funext fun k => propext ⟨fun hk => by
    have hk : (if k = n then 9 else col k) = 5 + c := hk
    split at hk
    · omega
    · exact hk, fun hk => by
    show (if k = n then 9 else col k) = 5 + c
    have hk : col k = 5 + c := hk
    rw [if_neg (fun e => by rw [e, h0] at hk; omega)]; exact hk⟩
  have him : ∀ k, Im w col k → Im w' (fun k => if k = n then 9 else col k) k := fun k hk => ⟨Nat.lt_of_lt_of_le hk.1 hb.size, by
    show (if k = n then 9 else col k) = 0
    rw [if_neg (by have := hk.1; omega)]; exact hk.2⟩
  have hc : ∀ {j m : Nat}, col j = m → m ≠ 0 → (if j = n then 9 else col j) = m := fun {j m} hj hm => by
    rw [if_neg (fun e => by rw [e, h0] at hj; exact hm hj.symm)]; exact hj
  have hnv : ∀ k, Im w' (fun k => if k = n then 9 else col k) k → k ≠ x.bv ∧ k ≠ x.bt := by
    intro k hk
    have h1 : (if k = n then 9 else col k) = 0 := hk.2
    refine ⟨fun e => ?_, fun e => ?_⟩
    · rw [e, hc h.cv (by decide)] at h1; omega
    · rw [e, hc h.ct (by decide)] at h1; omega
  refine ⟨(hb.block _ (Array.getElem?_eq_some_iff.1 h.row).1).trans h.row, ?_, h.n, (h.bufs.below hb).more him, (h.wait.below hb).more him, h.asks, fun c hc3 => ?_, h.done, h.errs, hc h.cb (by decide), hc h.cv (by decide), hc h.ct (by decide), fun k hk => ?_⟩
  · rw [hF]
    exact (h.drv.below hb).more him hnv
  · rw [hA c hc3]
    exact (h.ask c hc3).keep (fun k _ hk => hb.block k hk)
  · have hk : (if k = n then 9 else col k) ≠ 0 := hk
    split at hk
    · rename_i e; rw [e]; exact hlt
    · exact Nat.lt_of_lt_of_le (h.lt k hk) hb.size
theorem Alst.new {W0 w : World} {col : Nat → Nat} {b bd N : Nat} {K : Int} {x : Sv} {s : St} (h : Lst W0 w col b bd N K x s []) :
    ∃ col', Alst W0 (w.alloc (.cells (alRow b bd al0 vs0).toArray tAl)) col' b bd N K x s w.heap.size 1 al0 := by
  have hb := (Below.refl w.heap.size w).alloc (Nat.le_refl _) (.cells (alRow b bd al0 vs0).toArray tAl)
  have hl : w.heap.size < (w.alloc (.cells (alRow b bd al0 vs0).toArray tAl)).heap.size := by simp
  refine ⟨fun k => if k = w.heap.size then 9 else col k, ⟨⟨h.st.paint hb hl (Nat.le_refl _), h.inv, h.bnd, h.k0, h.below.trans (hb.mono h.below.size), fun k hk => ?_, by simp⟩, ⟨⟨vs0, heap_alloc_new _ _, rfl, fun i v hv => ?_⟩, rfl, rfl, fun i => ?_, ⟨by decide, by decide⟩, by decide, fun i => ?_⟩, if_pos rfl, h.below.size⟩⟩
  · obtain ⟨h1, h2⟩ := hk
    have h1 : (if k = w.heap.size then 9 else col k) ≠ 0 := h1
    have h2 : (if k = w.heap.size then 9 else col k) ≠ 9 := h2
    split at h1
    · rename_i e; rw [if_pos e] at h2; exact absurd rfl h2
    · rename_i e; rw [if_neg e] at h2; exact h.own k ⟨h1, h2⟩
  · have : v = .slice none 0 0 := by
      unfold vs0 at hv
      rw [List.getElem?_replicate] at hv
      split at hv
      · exact (Option.some.inj hv).symm
      · cases hv
    subst this
    have e : al0.since.getD i [] = [] := by show (List.replicate 32 []).getD i [] = []; rw [getD_replicate]; split <;> rfl
    rw [e]
    exact strs_nil _ _
  · have e : al0.since.getD i [] = [] := by show (List.replicate 32 []).getD i [] = []; rw [getD_replicate]; split <;> rfl
    rw [e]; simp
  · have e : al0.now.getD i noB = noB := by show (List.replicate 32 noB).getD i noB = noB; rw [getD_replicate]; split <;> rfl
    rw [e]; decide
theorem js0 : JS st0 := by
  refine ⟨inv0, ⟨rfl, rfl⟩, fun a ha => ?_, fun p d hp => ?_⟩
  · have : st0.askAt 0 = none := rfl
    rw [this] at ha; cases ha
  · have : atB st0.bufs p = none := rfl
    rw [this] at hp; cases hp
theorem alok0 : AlOk false st0 al0 := by
  refine ⟨js0, rfl, rfl, fun p hp => ?_, .inl ⟨rfl, rfl⟩, fun h => by cases h⟩
  have e : curS st0 (p : Int) = nowAt st0 p := rfl
  rw [e]
  rfl
set_option maxRecDepth 100000 in
set_option maxHeartbeats 2000000 in
theorem right_walk (l : List Sp) (v : Value) (w : World) (h : StepsAt Any w v l) : Calls Try.prog 5 #[v] w (Ret (.bool true) w) := by
  obtain ⟨A, cap, rfl, hcl, hcap⟩ := h.form
  have H := Lib.hid h
  unfold maxLen at hcap
  clear h
  go_enter Try.func5, Try.ntmps5
  go_wp2_with fail
  refine (works_any w).mono ?_
  rintro e w0 ⟨rfl, hb0⟩
  have HB0 := Lib.hid hb0
  clear hb0
  go_wp2_with fail
  refine (lightsteps_any Any l _ 120 w0 (H.out.below HB0.out) (by omega)).mono ?_
  rintro e w1 ⟨rfl, rfl⟩
  cases hl : lightSp l 120 with
  | false =>
    clear hl
    go_wp2_with fail
    go_ret
    exact ⟨rfl, HB0.out⟩
  | true =>
    have hlen := lightSp_len hl
    clear hl
    go_wp2_with fail
    refine (devnew_any w0).mono ?_
    rintro e w1 ⟨rfl, hd1, hb1, hs1⟩
    go_wp2_with fail
    refine (stnew_any (fun _ => False) (fun k => k = w0.heap.size) w1 w0.heap.size Dv.new (hd1 _) (fun k hk => by omega) (fun k hk => hk.elim) (fun k hk => hk.elim)).mono ?_
    rintro e w2 ⟨b, col, y, rfl, hst, hb2, hfl, _⟩
    have hL := Lst.begin HB0.out (hd1 _) hb1 hs1 hst hb2 hfl
    obtain ⟨bd, hbd⟩ : ∃ n, w0.heap.size = n := ⟨_, rfl⟩
    rw [hbd] at hL ⊢
    obtain ⟨col3, hA3⟩ := Alst.new hL
    clear hd1 hb1 hs1 hst hb2 hfl hL hbd
    go_wp2_with fail
    change Code.wp _ _ _ _ (w2.alloc (.cells (alRow b bd al0 vs0).toArray tAl))
    have H3 := Lib.hid hA3
    obtain ⟨ba, hba⟩ : ∃ ba, w2.heap.size = ba := ⟨_, rfl⟩
    rw [hba] at H3 ⊢
    clear hA3 hba
    generalize w2.alloc (.cells (alRow b bd al0 vs0).toArray tAl) = w3 at H3 ⊢
    go_loopw [6, 7] (fun i _ wr => ∃ (k : Nat) (col : Nat → Nat) (y : Sv) (s : St) (A : Al), k ≤ l.length ∧ i = .int .i64 k ∧ Hid (Alst w wr col b bd k (15 * (k : Int)) y s ba (k + 1) A) ∧ Hid (AlOk false s A)) (fun i _ _ => l.length - (intOf i).toNat)
    case atStart => exact ⟨0, col3, y, st0, al0, by omega, rfl, H3.out, alok0⟩
    case round =>
      obtain ⟨k, col, y, s, A, hk, rfl, HL, HA⟩ := hrel
      by_cases hlt : k < l.length
      · have hlt2 : (k : Int) < (l.length : Int) := by omega
        have hst := H.out.below HL.out.lst.below
        obtain ⟨g, off, z, rfl, hgl, hx, c0, c1, c2, c3⟩ := hst.cells hlt
        have hok := hst.2 z (List.mem_of_getElem? hx)
        clear hst hx
        go_wp2_with fail
        refine (alstep_any w wr col b bd k (15 * (k : Int)) y s ba (k + 1) A z false HL.out HA.out hok.b hok.data (by omega) (by omega) (by omega)).mono ?_
        rintro e w4 ⟨rfl, col4, y4, h4⟩
        have H4 : Hid (Alst w w4 col4 b bd (k + 1) (15 * ((k + 1 : Nat) : Int)) y4 (alStep s A z).1 ba (k + 1 + 1) (alStep s A z).2) := by
          have e : 15 * (k : Int) + 15 = 15 * ((k + 1 : Nat) : Int) := by omega
          rw [← e]; exact h4
        have HA4 := Lib.hid (HA.out.step z)
        clear h4 c0 c1 c2 c3 hok
        go_wp2_with fail
        go_roundw
        case rel => exact ⟨k + 1, col4, y4, _, _, by omega, by go_num, H4.out, HA4.out⟩
        case measure => simp [intOf]; omega
      · obtain rfl : k = l.length := by omega
        have hlt2 : ¬ (l.length : Int) < (l.length : Int) := by omega
        go_wp2_with fail
        go_ret
        exact ⟨rfl, HL.out.lst.below⟩
end Go.Proofs.Ytojmnfelecnenaa
namespace Go.Proofs.Ytojmnfelecnenaa
set_option linter.unusedSimpArgs false
set_option linter.unusedVariables false

def zRound : Sp := ⟨⟨#[114, 111, 117, 110, 100]⟩, 0, 0, noB⟩
def zSync : Sp := ⟨⟨#[115, 121, 110, 99]⟩, 0, 0, noB⟩
theorem cmd_zr : cmdOf zRound.word = .round := by kernel_rfl
theorem cmd_zs : cmdOf zSync.word = .sync := by kernel_rfl
theorem kind_zr : kindOf zRound.word = 0 := by unfold kindOf; rw [cmd_zr]
theorem kind_zs : kindOf zSync.word = 3 := by unfold kindOf; rw [cmd_zs]
theorem skip_zr : alSkip zRound = false := by unfold alSkip; rw [decide_eq_false_iff_not, kind_zr]; omega
theorem skip_zs : alSkip zSync = false := by unfold alSkip; rw [decide_eq_false_iff_not]; exact fun h => h.2 rfl
theorem step_zr (s : St) : stepM s zRound = (s.round, 0) := by unfold stepM; rw [cmd_zr]
theorem step_zs (s : St) : stepM s zSync = s.ask 0 3 0 noB := by unfold stepM; rw [cmd_zs]; rfl
theorem answered_or (A : Al) (s : St) : (A.answered s).kind = 0 ∨ A.answered s = A := by
  unfold Al.answered
  split
  · exact .inr rfl
  · split
    · exact .inl rfl
    · split
      · exact .inl rfl
      · split <;> exact .inl rfl
section
variable {hf : Bool} {s : St} {A : Al}
theorem kind_of_none (h : AlOk hf s A) (hn : s.askAt 0 = none) : A.kind = 0 := by
  rcases h.asks with h1 | ⟨a, ha, _⟩
  · exact h1.1
  · rw [hn] at ha; cases ha
theorem none_of_kind (h : AlOk hf s A) (h0 : A.kind = 0) : s.askAt 0 = none := by
  rcases h.asks with h1 | ⟨a, ha, hk, _⟩
  · exact h1.2
  · have := (h.js.inv.ask 0 a ha).kind; omega
theorem round_ev (h : AlOk hf s A) : EvFine hf s.round A := by
  have := (al_step h zRound skip_zr).1
  rw [step_zr, asked_no (.inl kind_zr)] at this
  exact this
theorem alStep_zr (s : St) (A : Al) : alStep s A zRound = (s.round, A.answered s.round) := by
  rw [alStep_go skip_zr, step_zr, asked_no (.inl kind_zr)]
/-- A round: it is answered, or fewer are to come. -/
theorem round_al (h : AlOk hf s A) (h2 : Inv2 s) : (A.answered s.round).kind = 0 ∨ (A.answered s.round = A ∧ pot s.round + 1 ≤ pot s) := by
  rcases answered_or A s.round with h1 | h1
  · exact .inl h1
  · have hok := (round_ev h).ok
    rcases round_less h.js.inv h2 with hl | hq
    · exact .inr ⟨h1, hl⟩
    · exact .inl (kind_of_none hok (((quiet_iff hok.js.inv.asks).1 hq).1 0 (by omega)))
/-- What a sync was answered. -/
def Synced (s : St) : Prop := ((s.got 0).2 ≠ 0 → s.dead = true) ∧ ((s.got 0).2 = 0 → Syncd s)
theorem ev_synced {B : Al} (h : EvFine hf s B) (hk : B.kind = 3) : (B.answered s).kind = 3 ∨ ((B.answered s).kind = 0 ∧ Synced s) := by
  rcases answered_or B s with h1 | h1
  · exact .inr ⟨h1, h.sync hk h1⟩
  · left; rw [h1]; exact hk
theorem sync_al (h : AlOk hf s A) (h0 : A.kind = 0) : ((alStep s A zSync).2.kind = 3 ∨ ((alStep s A zSync).2.kind = 0 ∧ Synced (alStep s A zSync).1)) := by
  have hev := (al_step h zSync skip_zs).1
  rw [alStep_go skip_zs]
  have he : (stepM s zSync).2 = 0 := by
    rw [step_zs, ask_ok (by omega) (by have : noB.size = 0 := rfl
                                       omega) (none_of_kind h h0)]
  rw [he, asked_yes kind_zs (by omega)] at hev ⊢
  exact ev_synced hev rfl
theorem round_sync (h : AlOk hf s A) (hk : A.kind = 3) : (A.answered s.round).kind = 3 ∨ ((A.answered s.round).kind = 0 ∧ Synced s.round) := ev_synced (round_ev h) hk
/-- Behind a sync that was answered well a crash takes nothing. -/
theorem crash_syncd {keep : Nat} (h : AlOk hf s A) (hs : Syncd s) {p : Nat} (hp : p < 32) : (s.v.d.crash keep).peek p = A.now.getD p noB := by
  rw [h.cur p hp, syncd_cur h.js hs]
  unfold Dv.crash Dv.peek nowAt
  rw [hs.waits, hs.kept, Int.toNat_natCast]
  rfl
end
end Go.Proofs.Ytojmnfelecnenaa
namespace Go.Proofs.Ytojmnfelecnenaa
set_option linter.unusedSimpArgs false
set_option linter.unusedVariables false
open Go.RowKit

theorem bit_and {m : Nat} (hm : m < 18446744073709551616) : bits BinOp.and IntKind.u64 (m : Int) 1 = ((m % 2 : Nat) : Int) := by
  have h : (BitVec.ofInt 64 (m : Int) &&& BitVec.ofInt 64 1).toNat = m % 2 := by
    rw [BitVec.toNat_and]
    have h1 : (BitVec.ofInt 64 (m : Int)).toNat = m := by
      rw [BitVec.toNat_ofInt]; omega
    have h2 : (BitVec.ofInt 64 1).toNat = 1 := by decide
    rw [h1, h2, Nat.and_one_is_mod]
  show IntKind.u64.wrap ((BitVec.ofInt 64 (m : Int) &&& BitVec.ofInt 64 1).toNat : Int) = _
  rw [h]
  rcases Nat.mod_two_eq_zero_or_one m with h | h <;> rw [h] <;> rfl
theorem keep_bit {keep k : Nat} (hk : keep < 18446744073709551616) : (bits BinOp.and IntKind.u64 ((keep : Int) / 2 ^ (k % 64)) 1 == 1) = Dv.bit keep k := by
  have e : ((keep : Int) / 2 ^ (k % 64)) = ((keep / 2 ^ (k % 64) : Nat) : Int) := by simp
  rw [e, bit_and (Nat.lt_of_le_of_lt (Nat.div_le_self _ _) hk)]
  unfold Dv.bit
  rcases Nat.mod_two_eq_zero_or_one (keep / 2 ^ (k % 64)) with h | h <;> rw [h] <;> rfl
theorem putCells_at : ∀ (l : List (Nat × ByteArray)) (k p : Nat) (s : ByteArray), l[k]? = some (p, s) → (putCells l)[k * 2]? = some (.int .i64 (p : Int)) ∧ (putCells l)[k * 2 + 1]? = some (.string s)
  | [], k, p, s, h => by simp at h
  | a :: l, 0, p, s, h => by simp at h; subst h; exact ⟨rfl, rfl⟩
  | a :: l, k + 1, p, s, h => by
    have := putCells_at l k p s (by simpa using h)
    have e : putCells (a :: l) = [.int .i64 (a.1 : Int), .string a.2] ++ putCells l := rfl
    rw [e, List.getElem?_append_right (by simp; omega), List.getElem?_append_right (by simp; omega)]
    simp only [List.length_cons, List.length_nil]
    rw [show (k + 1) * 2 - (0 + 1 + 1) = k * 2 by omega, show (k + 1) * 2 + 1 - (0 + 1 + 1) = k * 2 + 1 by omega]
    exact this
/-- It returns nothing; the disk has become d'. -/
def RetCrash (TD TP : TypeId) (S F : Nat → Prop) (w : World) (b : Nat) (d' : Dv) : Ending → World → Prop := fun e w' => e = .returned (.tuple #[]) ∧ DevAt TD TP S F w' b d' ∧ Chg F w w'

set_option maxRecDepth 100000 in
set_option maxHeartbeats 2000000 in
theorem devcrash_any (S F : Nat → Prop) (w : World) (b : Nat) (d : Dv) (keep : Nat) (hkeep : keep < 18446744073709551616) (h : DevAt TDp TPp S F w b d) (hp : ∀ q ∈ d.waits, q.1 < 32) (hwl : d.waits.length ≤ 1000000000000) (hF : ∀ k, F k → k < w.heap.size) (hSF : ∀ k, S k → ¬ F k) :
    Calls Try.prog 31 #[.pointer (some ⟨b, 0, none⟩), .int .u64 (keep : Int)] w (RetCrash TDp TPp S F w b (d.crash keep)) := by
  obtain ⟨wv, lv, cs, hrow, hw, hl, hcs, hok⟩ := h.two
  obtain ⟨A, cap, rfl, hA1, hA2⟩ := hw.form
  have c64 : w.cell? ⟨b, 64, none⟩ = some (.slice A d.waits.length cap) := by rw [cell_of_row _ _ _ _ _ _ hrow]; simpa using devCells_at_w d _ lv h.kept h.now
  have hbl := (Array.getElem?_eq_some_iff.1 hrow).1
  have H := Lib.hid h
  have Hw := Lib.hid hw
  have Hrow := Lib.hid hrow
  have Hp := Lib.hid hp
  have HF := Lib.hid hF
  have HS := Lib.hid hSF
  clear h hw hrow hl hcs hok hp hF hSF
  go_enter Try.func31, Try.ntmps31
  go_wp2_with fail
  go_loopw [11] (fun j wr => ∃ k : Nat, k ≤ d.waits.length ∧ j = .int .i64 k ∧ Hid (Chg (fun q => q = b) w wr) ∧ Hid (DevAt TDp TPp S F wr b { d with kept := Dv.keepFrom keep d.kept (d.waits.take k) 0 })) (fun j _ => d.waits.length - (intOf j).toNat)
  case atStart => exact ⟨0, by omega, rfl, Chg.refl, H.out⟩
  case round =>
    obtain ⟨k, hk, rfl, hcw, hdw⟩ := hrel
    by_cases hlt : k < d.waits.length
    · have hx : d.waits[k]? = some d.waits[k] := List.getElem?_eq_getElem hlt
      generalize d.waits[k] = x at hx
      obtain ⟨p, s⟩ := x
      have hp32 := Hp.out _ (List.mem_of_getElem? hx)
      simp only at hp32
      obtain ⟨g, off, rfl, hFg, hgl, hcell⟩ := Hw.out.rd.at_ (by omega) (by omega)
      have hgb : g ≠ b := by
        rcases Hw.out.1.2 with ⟨hv, _⟩ | ⟨_, _, _, hv, _⟩
        · cases hv
        · cases hv
          exact own_ne Hw.out.1 Hrow.out (by decide) g rfl
      have hpc := putCells_at _ _ _ _ hx
      have x0 : wr.cell? ⟨g, off + k * 2, none⟩ = some (.int .i64 (p : Int)) := (World.cell?_of_block (w := w) (hcw.out.block g hgl hgb)).trans (hcell _ _ hpc.1)
      have x1 : wr.cell? ⟨g, off + k * 2 + 1, none⟩ = some (.string s) := (World.cell?_of_block (w := w) (hcw.out.block g hgl hgb)).trans (hcell _ _ hpc.2)
      have Hx := Lib.hid hx
      have hk2 : (k : Int) < (d.waits.length : Int) := by omega
      clear hx hcell hpc
      obtain ⟨wv', lv', hrow'⟩ := hdw.out.row
      have hk' := hdw.out.kept
      obtain ⟨y, hy⟩ : ∃ y, (Dv.keepFrom keep d.kept (d.waits.take k) 0)[p]? = some y := ⟨_, List.getElem?_eq_getElem (by rw [Dv.keepFrom_len, H.out.kept]; exact hp32)⟩
      have hcy : ∀ o, (wr.alloc o).cell? ⟨b, p, none⟩ = some (.string y) := fun o => by
        rw [World.cell?_alloc_lt _ _ _ (Array.getElem?_eq_some_iff.1 hrow').1, cell_of_row _ _ _ _ _ _ hrow']
        have hlt : p < (Dv.keepFrom keep d.kept (d.waits.take k) 0).length := (List.getElem?_eq_some_iff.1 hy).1
        simp only [List.getElem?_toArray]
        unfold devCells
        rw [List.getElem?_append_left (by simpa using hlt), List.getElem?_map, hy]
        rfl
      have hfy : ∀ o, (wr.alloc o).frozen? ⟨b, p, none⟩ = false := fun o => by
        rw [World.frozen?_alloc_past _ _ _ (Array.getElem?_eq_some_iff.1 hrow').1]
        exact frozen_of_row _ _ _ _ _ hrow'
      have hpi : (p : Int) < 32 := by omega
      have hbA : ∀ o, Below wr.heap.size wr (wr.alloc o) := fun o => (Below.refl _ _).alloc (Nat.le_refl _) o
      have HbA := Lib.hid hbA
      have Hcw := Lib.hid hcw.out
      clear hbA hy hrow' hk' hcw
      rcases Bool.eq_false_or_eq_true (Dv.bit keep k) with hb | hb
      · have hbit : (bits BinOp.and IntKind.u64 ((keep : Int) / 2 ^ (k % 64)) 1 == 1) = true := by rw [keep_bit hkeep]; exact hb
        have Hb := Lib.hid hb
        clear hb
        go_wp2_with fail
        go_region
        go_wp2_with fail
        go_roundw
        case rel =>
          refine ⟨k + 1, by omega, by go_num, ((Hcw.out.step (HbA.out _)).setCell (.inl rfl) _).drew, ?_⟩
          show DevAt _ _ _ _ _ _ _
          rw [Dv.keepFrom_succ Hx.out, Hb.out]
          exact ((hdw.out.below (HbA.out _)).setKept p hp32 s HS.out (by decide) (by decide)).below (Below.refl _ _).drew
        case measure => simp [intOf]; omega
      · have hbit : (bits BinOp.and IntKind.u64 ((keep : Int) / 2 ^ (k % 64)) 1 == 1) = false := by rw [keep_bit hkeep]; exact hb
        have Hb := Lib.hid hb
        clear hb
        go_wp2_with fail
        go_roundw
        case rel =>
          refine ⟨k + 1, by omega, by go_num, Hcw.out.step (HbA.out _), ?_⟩
          show DevAt _ _ _ _ _ _ _
          rw [Dv.keepFrom_succ Hx.out, Hb.out]
          exact hdw.out.below (HbA.out _)
        case measure => simp [intOf]; omega
    · obtain rfl : k = d.waits.length := by omega
      have hd := hdw.out
      rw [List.take_of_length_le (Nat.le_refl _)] at hd
      generalize hK : Dv.keepFrom keep d.kept d.waits 0 = K at hd
      obtain ⟨wv', lv', cs', hrow', hw', hl', hcs', hok'⟩ := hd.two
      have hk' : K.length = 32 := hd.kept
      have hn' : d.now.length = 32 := hd.now
      have HR : Hid (wr.rangeAt b 0 (K.map .string)) := range_kept hrow'
      have HT : Hid (wr.there b 32 (K.map Value.string).toArray.size) := there_of_row hrow' 32 _ (by rw [List.size_toArray, List.size_toArray, List.length_map, devCells_len { d with kept := K } _ _ hk' hn']; omega)
      have Hs : Hid ((Try.prog.info? 46).map (·.size) = some (K.map Value.string).length) := show _ = _ by rw [List.length_map, hk']; kernel_rfl
      have H1 : Hid ((K.map Value.string).toArray.all (·.oneCell') = true) := all_oneCell_toArray (fun v hv => by obtain ⟨s, _, rfl⟩ := List.mem_map.1 hv; rfl)
      have hrow1 := heap_setCells_row b _ (K.map .string) 32 wr _ hrow'
      rw [devCells_back { d with kept := K } wv' lv' hk' hn'] at hrow1
      obtain ⟨W1, hW1⟩ : ∃ u, wr.setCells b 32 (K.map .string) = u := ⟨_, rfl⟩
      rw [hW1] at hrow1
      have c64 : W1.cell? ⟨b, 64, none⟩ = some wv' := by rw [cell_of_row _ _ _ _ _ _ hrow1]; simpa using devCells_at_w { d with kept := K, now := K } wv' lv' hk' hk'
      have f64 : W1.frozen? ⟨b, 64, none⟩ = false := frozen_of_row _ _ _ _ _ hrow1
      have hrow2 := heap_setCell_same _ _ 64 _ _ (.slice none 0 0) hrow1
      rw [devCells_set_w { d with kept := K, now := K } _ _ _ hk' hk'] at hrow2
      have c65 : (W1.setCell ⟨b, 64, none⟩ (.slice none 0 0)).cell? ⟨b, 65, none⟩ = some lv' := by rw [cell_of_row _ _ _ _ _ _ hrow2]; simpa using devCells_at_l { d with kept := K, now := K } (.slice none 0 0) lv' hk' hk'
      have f65 : (W1.setCell ⟨b, 64, none⟩ (.slice none 0 0)).frozen? ⟨b, 65, none⟩ = false := frozen_of_row _ _ _ _ _ hrow2
      have hrow3 := heap_setCell_same _ _ 65 _ _ (.slice none 0 0) hrow2
      rw [devCells_set_l { d with kept := K, now := K } _ _ _ hk' hk'] at hrow3
      have hfb := hd.fb
      have hcr : Chg F wr W1 := hW1 ▸ Chg.refl.setCells (.inl hfb) _ _
      have hc := (hcr.setCell (p := ⟨b, 64, none⟩) (.inl hfb) (.slice none 0 0)).setCell (p := ⟨b, 65, none⟩) (.inl hfb) (.slice none 0 0)
      have Hrow3 := Lib.hid hrow3
      have Hc := Lib.hid ((hcw.out.mono (fun q hq => hq ▸ hfb)).trans (hc.mono (fun q hq => .inl hq)))
      have HW := Lib.hid hW1
      have HKk := Lib.hid hK
      have Hfb := Lib.hid hfb
      clear hrow' hw' hl' hcs' hok' hrow1 hrow2 hrow3 hc hcr hW1 hd hdw hcw hK hfb
      go_wp2_with (first
        | (refine wpList_load_mid rfl 46 (.tmp 36) rfl b 0 rfl (K.map .string) _ HR.out Try.underlying46 rfl Hs.out ?_)
        | (refine wpList_store_mid rfl 46 (.tmp 39) (.tmp 37) rfl b 32 (K.map Value.string).toArray rfl rfl HT.out (by rw [List.size_toArray]; exact Hs.out) H1.out ?_
           rw [show wr.setCells b 32 (K.map Value.string).toArray.toList = W1 from HW.out]))
      go_end0
      refine ⟨rfl, ?_, Hc.out⟩
      have he : d.crash keep = ⟨K, K, [], []⟩ := by unfold Dv.crash; rw [HKk.out]
      rw [he]
      exact ⟨Hfb.out, hk', hk', _, _, [], Hrow3.out, Ow.nil, Ow.nil, rfl, by simp⟩
end Go.Proofs.Ytojmnfelecnenaa
namespace Go.Proofs.Ytojmnfelecnenaa
set_option linter.unusedSimpArgs false
set_option linter.unusedVariables false
open Go.RowKit Go.Sort

theorem inv2_00 : Inv2 st0 := Inv2.new rfl
theorem Inv2.alStep {hf : Bool} {s : St} {A : Al} (h : AlOk hf s A) (h2 : Inv2 s) (z : Sp) : Inv2 (Go.Proofs.Ytojmnfelecnenaa.alStep s A z).1 := by
  unfold Go.Proofs.Ytojmnfelecnenaa.alStep
  split
  · exact h2
  · exact h2.stepM h.js.inv z
set_option maxRecDepth 100000 in
set_option maxHeartbeats 4000000 in
theorem after_walk (l : List Sp) (v : Value) (keep : Nat) (hkeep : keep < 18446744073709551616) (w : World) (h : StepsAt Any w v l) : Calls Try.prog 9 #[v, .int .u64 (keep : Int)] w (Ret (.bool true) w) := by
  obtain ⟨A, cap, rfl, hcl, hcap⟩ := h.form
  have H := Lib.hid h
  unfold maxLen at hcap
  clear h
  go_enter Try.func9, Try.ntmps9
  go_wp2_with fail
  refine (works_any w).mono ?_
  rintro e w0 ⟨rfl, hb0⟩
  have HB0 := Lib.hid hb0
  clear hb0
  go_wp2_with fail
  refine (lightsteps_any Any l _ 100 w0 (H.out.below HB0.out) (by omega)).mono ?_
  rintro e w1 ⟨rfl, rfl⟩
  cases hl : lightSp l 100 with
  | false =>
    clear hl
    go_wp2_with fail
    go_ret
    exact ⟨rfl, HB0.out⟩
  | true =>
    have hlen := lightSp_len hl
    clear hl
    go_wp2_with fail
    refine (devnew_any w0).mono ?_
    rintro e w1 ⟨rfl, hd1, hb1, hs1⟩
    go_wp2_with fail
    refine (stnew_any (fun _ => False) (fun k => k = w0.heap.size) w1 w0.heap.size Dv.new (hd1 _) (fun k hk => by omega) (fun k hk => hk.elim) (fun k hk => hk.elim)).mono ?_
    rintro e w2 ⟨b, col, y, rfl, hst, hb2, hfl, _⟩
    have hL := Lst.begin HB0.out (hd1 _) hb1 hs1 hst hb2 hfl
    obtain ⟨bd, hbd⟩ : ∃ n, w0.heap.size = n := ⟨_, rfl⟩
    rw [hbd] at hL ⊢
    obtain ⟨col3, hA3⟩ := Alst.new hL
    clear hd1 hb1 hs1 hst hb2 hfl hL hbd
    go_wp2_with fail
    change Code.wp _ _ _ _ (w2.alloc (.cells (alRow b bd al0 vs0).toArray tAl))
    have H3 := Lib.hid hA3
    obtain ⟨ba, hba⟩ : ∃ ba, w2.heap.size = ba := ⟨_, rfl⟩
    rw [hba] at H3 ⊢
    clear hA3 hba
    generalize w2.alloc (.cells (alRow b bd al0 vs0).toArray tAl) = w3 at H3 ⊢
    go_loopw [8, 9] (fun i _ wr => ∃ (k : Nat) (col : Nat → Nat) (y : Sv) (s : St) (A : Al), k ≤ l.length ∧ i = .int .i64 k ∧ Hid (Alst w wr col b bd k (15 * (k : Int)) y s ba (k + 1) A) ∧ Hid (AlOk false s A) ∧ Hid (Inv2 s)) (fun i _ _ => l.length - (intOf i).toNat)
    case atStart => exact ⟨0, col3, y, st0, al0, by omega, rfl, H3.out, alok0, inv2_00⟩
    case round =>
      obtain ⟨k, col, y, s, A, hk, rfl, HL, HA, HI2⟩ := hrel
      by_cases hlt : k < l.length
      · have hlt2 : (k : Int) < (l.length : Int) := by omega
        have hst := H.out.below HL.out.lst.below
        obtain ⟨g, off, z, rfl, hgl, hx, c0, c1, c2, c3⟩ := hst.cells hlt
        have hok := hst.2 z (List.mem_of_getElem? hx)
        clear hst hx
        go_wp2_with fail
        refine (alstep_any w wr col b bd k (15 * (k : Int)) y s ba (k + 1) A z false HL.out HA.out hok.b hok.data (by omega) (by omega) (by omega)).mono ?_
        rintro e w4 ⟨rfl, col4, y4, h4⟩
        have H4 : Hid (Alst w w4 col4 b bd (k + 1) (15 * ((k + 1 : Nat) : Int)) y4 (alStep s A z).1 ba (k + 1 + 1) (alStep s A z).2) := by
          have e : 15 * (k : Int) + 15 = 15 * ((k + 1 : Nat) : Int) := by omega
          rw [← e]; exact h4
        have HA4 := Lib.hid (HA.out.step z)
        have HI4 := Lib.hid (Inv2.alStep HA.out HI2.out z)
        clear h4 c0 c1 c2 c3 hok
        go_wp2_with fail
        go_roundw
        case rel => exact ⟨k + 1, col4, y4, _, _, by omega, by go_num, H4.out, HA4.out, HI4.out⟩
        case measure => simp [intOf]; omega
      · obtain rfl : k = l.length := by omega
        have hlt2 : ¬ (l.length : Int) < (l.length : Int) := by omega
        have H10 : Hid (Alst w wr col b bd 100 1500 y s ba 101 A) := (HL.out.cast' hlen (by omega)).more (by omega)
        clear HL H3
        go_wp2_with fail
        go_loopw [10, 11] (fun i _ wr => ∃ (k : Nat) (col : Nat → Nat) (y : Sv) (s : St) (A : Al), k ≤ 30 ∧ i = .int .i64 k ∧ Hid (Alst w wr col b bd (100 + k) (1500 + 15 * (k : Int)) y s ba (101 + k) A) ∧ Hid (AlOk false s A) ∧ Hid (Inv2 s) ∧ Hid (A.kind = 0 ∨ pot s + k ≤ 29)) (fun i _ _ => 60 - (intOf i).toNat)
        case atStart => exact ⟨0, col, y, s, A, by omega, rfl, H10.out, HA.out, HI2.out, .inr (by have := pot_le HA.out.js.inv; omega)⟩
        case round =>
          clear H10 HA HI2
          obtain ⟨k, col, y, s, A, hk, rfl, HL, HA, HI2, HP⟩ := hrel
          have c66 := HL.out.at_.cell.2.2.2.2.1
          by_cases hk0 : A.kind = 0
          rotate_left
          · have hp := HP.out.resolve_left hk0
            have hk60 : (k : Int) < 60 := by omega
            have hkp : 0 < A.kind := by
              rcases HA.out.asks with h1 | ⟨a, ha, h1, _⟩
              · exact absurd h1.1 hk0
              · have := (HA.out.js.inv.ask 0 a ha).kind; omega
            go_wp2_with fail
            refine (alstep_any w wr col b bd (100 + k) (1500 + 15 * (k : Int)) y s ba (101 + k) A zRound false HL.out HA.out ⟨by decide, by decide⟩ (by decide) (by omega) (by omega) (by omega)).mono ?_
            rintro e w4 ⟨rfl, col4, y4, h4⟩
            rw [alStep_zr] at h4
            have H4 : Hid (Alst w w4 col4 b bd (100 + (k + 1)) (1500 + 15 * ((k + 1 : Nat) : Int)) y4 s.round ba (101 + (k + 1)) (A.answered s.round)) := by
              have e : 1500 + 15 * (k : Int) + 15 = 1500 + 15 * ((k + 1 : Nat) : Int) := by omega
              rw [← e]; exact h4
            have HA4 := Lib.hid (round_ev HA.out).ok
            have HI4 := Lib.hid (Inv2.round HA.out.js.inv HI2.out)
            have HP4 : Hid ((A.answered s.round).kind = 0 ∨ pot s.round + (k + 1) ≤ 29) := (round_al HA.out HI2.out).imp id (fun h => by have := h.2; omega)
            clear h4 c66
            go_wp2_with fail
            go_roundw
            case rel => exact ⟨k + 1, col4, y4, _, _, by omega, by go_num, H4.out, HA4.out, HI4.out, HP4.out⟩
            case measure => simp [intOf]; omega
          · rw [hk0] at c66
            have hk60 : (k : Int) < 60 := by omega
            have Hk0 := Lib.hid hk0
            clear hk0
            go_wp2_with fail
            refine (alstep_any w wr col b bd (100 + k) (1500 + 15 * (k : Int)) y s ba (101 + k) A zSync false HL.out HA.out ⟨by decide, by decide⟩ (by decide) (by omega) (by omega) (by omega)).mono ?_
            rintro e w4 ⟨rfl, col4, y4, h4⟩
            have H4 : Hid (Alst w w4 col4 b bd 131 2000 y4 (alStep s A zSync).1 ba 132 (alStep s A zSync).2) := (h4.cast' (by omega) (by omega)).more (by omega)
            have HA4 := Lib.hid (HA.out.step zSync)
            have HI4 := Lib.hid (Inv2.alStep HA.out HI2.out zSync)
            have HS4 := Lib.hid (sync_al HA.out Hk0.out)
            clear h4 c66
            go_wp2_with fail
            go_loopw [5, 12] (fun v5 i wr => ∃ (k : Nat) (col : Nat → Nat) (y : Sv) (s : St) (A : Al), k ≤ 30 ∧ i = .int .i64 k ∧ v5 = .bool true ∧ Hid (Alst w wr col b bd (131 + k) (2000 + 15 * (k : Int)) y s ba (132 + k) A) ∧ Hid (AlOk false s A) ∧ Hid (Inv2 s) ∧ Hid ((A.kind = 3 ∧ pot s + k ≤ 29) ∨ (A.kind = 0 ∧ Synced s))) (fun _ i _ => 60 - (intOf i).toNat)
            case atStart => exact ⟨0, col4, y4, _, _, by omega, rfl, rfl, H4.out, HA4.out, HI4.out, HS4.out.imp (fun h => ⟨h, by have := pot_le HA4.out.js.inv; omega⟩) id⟩
            case round =>
              clear H4 HA4 HI4 HS4 HL HA HI2 HP Hk0
              obtain ⟨k, col, y, s, A, hk, rfl, rfl, HL, HA, HI2, HP⟩ := hrel
              have c66 := HL.out.at_.cell.2.2.2.2.1
              have hk60 : (k : Int) < 60 := by omega
              rcases HP.out with ⟨hk3, hp⟩ | ⟨hk0, hsy⟩
              · rw [hk3] at c66
                have Hk3 := Lib.hid hk3
                clear hk3
                go_wp2_with fail
                refine (alstep_any w wr col b bd (131 + k) (2000 + 15 * (k : Int)) y s ba (132 + k) A zRound false HL.out HA.out ⟨by decide, by decide⟩ (by decide) (by omega) (by omega) (by omega)).mono ?_
                rintro e w4 ⟨rfl, col4, y4, h4⟩
                rw [alStep_zr] at h4
                have H4 : Hid (Alst w w4 col4 b bd (131 + (k + 1)) (2000 + 15 * ((k + 1 : Nat) : Int)) y4 s.round ba (132 + (k + 1)) (A.answered s.round)) := by
                  have e : 2000 + 15 * (k : Int) + 15 = 2000 + 15 * ((k + 1 : Nat) : Int) := by omega
                  rw [← e]; exact h4
                have HA4 := Lib.hid (round_ev HA.out).ok
                have HI4 := Lib.hid (Inv2.round HA.out.js.inv HI2.out)
                have HP4 : Hid (((A.answered s.round).kind = 3 ∧ pot s.round + (k + 1) ≤ 29) ∨ ((A.answered s.round).kind = 0 ∧ Synced s.round)) := show _ ∨ _ by
                  rcases round_sync HA.out Hk3.out with h1 | h1
                  · left
                    refine ⟨h1, ?_⟩
                    rcases round_al HA.out HI2.out with h2 | h2
                    · rw [h1] at h2; omega
                    · have := h2.2; omega
                  · exact .inr h1
                clear h4 c66
                go_wp2_with fail
                go_roundw
                case rel => exact ⟨k + 1, col4, y4, _, _, by omega, by go_num, rfl, H4.out, HA4.out, HI4.out, HP4.out⟩
                case measure => simp [intOf]; omega
              · rw [hk0] at c66
                have Hsy := Lib.hid hsy
                have c0 := HL.out.at_.cell.1
                clear hk0 hsy HP
                go_wp2_with fail
                refine (got_any col wr b bd _ y s 0 HL.out.lst.st (by omega)).mono ?_
                rintro e w5 ⟨rfl, hb5⟩
                have H5 := Lib.hid (HL.out.step hb5)
                clear c66 c0 hb5 HL
                have c0 := H5.out.at_.cell.1
                by_cases he : (s.got 0).2 = 0
                rotate_left
                · have Hd := Lib.hid (Hsy.out.1 he)
                  rw [errV_pos he]
                  go_wp2_with fail
                  refine (dead_any col w5 b bd _ y s H5.out.lst.st).mono ?_
                  rintro e w6 ⟨rfl, rfl⟩
                  rw [Hd.out]
                  go_wp2_with fail
                  go_ret
                  exact ⟨rfl, H5.out.lst.below⟩
                · have HSd := Lib.hid (Hsy.out.2 he)
                  rw [he, errV_zero]
                  clear he
                  go_wp2_with fail
                  refine (devcrash_any (Im w5 col) (Fd col) w5 bd s.v.d keep hkeep H5.out.lst.st.drv.dev (fun q hq => (HA.out.js.inv.dv.waits q hq).1) (by have := H5.out.lst.bnd.waits; omega) (fun k hk => H5.out.lst.st.lt k (by rw [show col k = 4 from hk]; decide)) (fun k hk hf => by have h1 := hk.2; rw [show col k = 4 from hf] at h1; cases h1)).mono ?_
                  rintro e w6 ⟨rfl, hd6, hc6⟩
                  have HB6 : Hid (Below w.heap.size w w6) := H5.out.lst.below.trans (hc6.below (fun k hk => H5.out.lst.own k (Fl.of_d k hk)) H5.out.lst.below.size)
                  have HAt : Hid (AlAt w6 col b bd ba (132 + k) A) := H5.out.at_.keep (hc6.block _ H5.out.at_.lt (fun hf => by have h1 := H5.out.c9; rw [show col ba = 4 from hf] at h1; cases h1)) (fun k hk => hc6.block k hk.1 (fun hf => by have h1 := hk.2; rw [show col k = 4 from hf] at h1; cases h1)) (fun k hk => ⟨Nat.lt_of_lt_of_le hk.1 hc6.size, hk.2⟩) (Nat.le_refl _)
                  have HPk : Hid (∀ p : Nat, p < 32 → (s.v.d.crash keep).peek p = A.now.getD p noB) := fun p hp => crash_syncd HA.out HSd.out hp
                  have HD := Lib.hid hd6
                  clear hd6 hc6 H5 HA HSd Hsy c0 HI2
                  generalize s.v.d.crash keep = dc at HPk HD
                  go_wp2_with fail
                  go_loopw [15] (fun i wr => ∃ (k : Nat), k ≤ 32 ∧ i = .int .i64 k ∧ Hid (Below w6.heap.size w6 wr)) (fun i _ => 32 - (intOf i).toNat)
                  case atStart => exact ⟨0, by omega, rfl, Below.refl _ _⟩
                  case round =>
                    obtain ⟨q, hq, rfl, HB7⟩ := hrel
                    by_cases hlt : q < 32
                    · have hlt2 : (q : Int) < 32 := by omega
                      have cn := HAt.out.cell.2.2.1 q hlt
                      have cn : wr.cell? ⟨ba, 2 + q, none⟩ = some (.string (A.now.getD q noB)) := (HB7.out.cell (p := ⟨ba, 2 + q, none⟩) HAt.out.lt).trans cn
                      have HDr := Lib.hid (HD.out.below HB7.out)
                      have g1 : ∀ d os, (grow (redrawn wr d) os).cell? ⟨ba, 2 + q, none⟩ = some (.string (A.now.getD q noB)) := fun _ _ => cell_regrown cn _ _
                      have HPq : Hid (∀ d os, Calls Try.prog 33 #[.pointer (some ⟨bd, 0, none⟩), .int .i64 (q : Int)] (grow (redrawn wr d) os) (RetSame (.string (A.now.getD q noB)) (grow (redrawn wr d) os))) := fun d os => HPk.out q hlt ▸ devpeek_any _ _ _ bd dc q hlt (HDr.out.below (below_regrown wr d os))
                      obtain ⟨dq, hdq⟩ : ∃ dq, A.now.getD q noB = dq := ⟨_, rfl⟩
                      rw [hdq] at g1 HPq
                      clear cn hdq
                      go_wp2_with fail
                      refine wp_region_quiet_below mixed (by kernel_rfl) ?_
                      repeat (first | go_big_quiet_step ((go_at_call 33; exact Calls.rgSame (HPq.out _ _))) | quiet_step ((go_at_call 33; exact Calls.rgSame (HPq.out _ _))))
                      refine wpQuiet_nil ?_
                      intro _ hw'
                      obtain ⟨⟨dr, osq⟩, hw''⟩ := hw'
                      subst hw''
                      have HJ := Lib.hid (below_regrown wr dr osq)
                      clear g1
                      generalize grow (redrawn wr dr) osq = u at HJ ⊢
                      go_wp2_with fail
                      go_roundw
                      case rel => exact ⟨q + 1, by omega, by go_num, HB7.out.trans (HJ.out.mono HB7.out.size)⟩
                      case measure => simp [intOf]; omega
                    · obtain rfl : q = 32 := by omega
                      have hlt2 : ¬ ((32 : Nat) : Int) < 32 := by omega
                      go_wp2_with fail
                      go_ret
                      exact ⟨rfl, HB6.out.trans (HB7.out.mono HB6.out.size)⟩
end Go.Proofs.Ytojmnfelecnenaa
namespace Go.Proofs.Ytojmnfelecnenaa.topAfter
open Go.ChangeShapes Go.WideShapes Go.ChangeAt Go.RowKit Go.Joins

set_option maxRecDepth 100000 in
theorem lifted (os : Os) (started : os.Started) (H : Type) (enc : TypeId × Value → H) :
    ReturnsInHanded {} Try.checked os 9 .any (Rows.topAfterSpec.pre6 enc Try.prog Try.f9 Rows.topAfterRow.domain false) (Rows.topAfterSpec.post enc Try.prog Try.f9 false true false false) := by
  refine returnsInHanded_of_change (C := Try.checked) own started (by kernel_rfl) Try.func9
    (ChangeSpec.witness6 (enc := enc) (C := Try.checked) false ⟨#[], #[.slice none 0 0, .int .u64 0], []⟩ 8 (by kernel_rfl) (by kernel_rfl) (by kernel_rfl) (by kernel_rfl)) ?_
  intro W base args ds gs before hval0 hW _ _
  have hval : ∀ (j : Nat) t v, Try.f9.params[j]? = some t → args[j]? = some v → Value.okWide Try.prog W .any base t v := hval0
  refine law_contract (fn := Try.f9) rfl rfl (fun ds h => ?_) (by rw [Try.params9]; intro t ht; simp at ht; rcases ht with rfl | rfl <;> exact ⟨by kernel_rfl, of_decide_eq_true (by kernel_rfl)⟩) hW ?_
  · match ds, h with
    | [_, _], _ => rfl
  · intro p hA hlt
    rw [Try.params9] at hA hval
    obtain ⟨v0, vs0, d0, ds0, p0, q0, hargs, rfl, rfl, h0, r0⟩ := trodAll_cons hA
    obtain ⟨v1, vs1, d1, ds1, p1, q1, rfl, rfl, rfl, h1, r1⟩ := trodAll_cons r0
    obtain ⟨rfl, rfl, rfl⟩ := trodAll_nil r1
    obtain rfl : args = #[v0, v1] := by cases args; simp_all
    obtain ⟨l0, hl0⟩ := steps_of h0 (okWide_slice Try.underlying22 (hval 0 22 v0 rfl rfl))
    obtain ⟨x1, rfl, rfl, rfl, w1⟩ := open_int Try.underlying61 (hval 1 61 v1 rfl rfl) h1
    obtain ⟨hk0, hk1⟩ := bounds_u64 w1
    obtain ⟨keep, rfl⟩ : ∃ k : Nat, x1 = (k : Int) := ⟨x1.toNat, by omega⟩
    exact after_walk l0 v0 keep (by omega) W hl0

theorem over : Rows.topAfterRow.holds Try.pinned (OpenSpec.ofChange Rows.topAfterSpec) :=
  OpenClaim.holds_of_wide 9 Try.f9 rfl rfl rfl rfl rfl rfl rfl ⟨rfl, rfl, rfl, rfl, rfl⟩ rfl rfl rfl rfl rfl (by kernel_rfl) Try.func9 (by kernel_rfl)
    (of_decide_eq_true (by kernel_rfl)) (by unfold Func.isWrapper; rw [if_neg (of_decide_eq_false (by kernel_rfl))]; exact ⟨rfl, rfl⟩)
    (fun os started H enc _ => lifted os started H enc)

theorem proved : Rows.TopAfterSaid :=
  over
#print axioms proved
end Go.Proofs.Ytojmnfelecnenaa.topAfter
