/- One client alone: what each step leaves of what is there. Who asks alone: what it knows of each sector, in plain words. The struct alone: how it lies in memory, and what stays of it. A region that draws its order, and that ends with one operation that waits for all others: it alone may write what the others read. -/
import Derived.Test.YtojmnfelecnenaaQ10
import Derived.Test.YtojmnfelecnenaaQ13
import Derived.Test.YtojmnfelecnenaaQ14
import Derived.Test.YtojmnfelecnenaaQ8
namespace Go.Proofs.Ytojmnfelecnenaa
set_option linter.unusedSimpArgs false
set_option linter.unusedVariables false

def nowAt (s : St) (p : Int) : ByteArray := s.v.d.now.getD p.toNat noB
/-- What a sector has: at hand, or on the disk. -/
def curS (s : St) (p : Int) : ByteArray := match atB s.bufs p with
  | some v => v.1
  | none => nowAt s p
/-- What is at hand and clean is what the disk has. -/
def CleanOk (s : St) : Prop := ∀ p d, atB s.bufs p = some (d, false) → d = nowAt s p
/-- What may be found of a sector, anywhere. -/
structure Hist (H : Int → ByteArray → Prop) (s : St) : Prop where
  kept : ∀ p : Nat, p < 32 → H p (s.v.d.kept.getD p noB)
  now : ∀ p : Nat, p < 32 → H p (s.v.d.now.getD p noB)
  waits : ∀ x ∈ s.v.d.waits, H (x.1 : Nat) x.2
  hand : ∀ p v, atB s.bufs p = some v → H p v.1
  fl : ∀ p e, InW (s.wait ++ s.v.d.l) p e → H p e
/-- All is for good. -/
structure Syncd (s : St) : Prop where
  kept : s.v.d.kept = s.v.d.now
  waits : s.v.d.waits = []
  none : ∀ p v, atB s.bufs p = some v → v.2 = false
def Solo (s : St) : Prop := s.askAt 1 = none ∧ s.askAt 2 = none
def LeftOk (s : St) : Prop := ∀ a, s.askAt 0 = some a → a.kind = 3 → ∀ p d, atB s.bufs p = some (d, true) → p ∈ a.left
structure JS (s : St) : Prop where
  inv : Inv s
  solo : Solo s
  left : LeftOk s
  clean : CleanOk s
structure Stays (s t : St) : Prop where
  cur : ∀ p, 0 ≤ p → p ≤ 31 → curS t p = curS s p
  hist : ∀ H, Hist H s → Hist H t
  syn : Syncd s → Syncd t
  dead : s.dead = true → t.dead = true
def SameAsk : Option Ak → Option Ak → Prop
  | none, none => True
  | some a, some b => b.kind = a.kind ∧ b.pos = a.pos ∧ b.data = a.data
  | _, _ => False
/-- What a step may bring the one client. -/
inductive Evt (s t : St) : Prop
  | quiet (h : Stays s t) (ask : SameAsk (s.askAt 0) (t.askAt 0)) (got : s.askAt 0 = none → t.got 0 = s.got 0)
  | read (a : Ak) (ha : s.askAt 0 = some a) (hk : a.kind = 1) (h : Stays s t) (hn : t.askAt 0 = none) (hg : (t.got 0).2 = 8 ∨ t.got 0 = (curS s a.pos, 0))
  | dead (a : Ak) (ha : s.askAt 0 = some a) (hk : a.kind = 2 ∨ a.kind = 3) (h : Stays s t) (hn : t.askAt 0 = none) (hg : (t.got 0).2 = 9) (hd : t.dead = true)
  | write (a : Ak) (ha : s.askAt 0 = some a) (hk : a.kind = 2) (hn : t.askAt 0 = none) (hg : (t.got 0).2 = 0) (hc : ∀ p, 0 ≤ p → p ≤ 31 → curS t p = if p = a.pos then a.data else curS s p)
      (hh : ∀ H, Hist H s → H a.pos a.data → Hist H t) (hd : s.dead = true → t.dead = true)
  | sync (a : Ak) (ha : s.askAt 0 = some a) (hk : a.kind = 3) (h : Stays s t) (hn : t.askAt 0 = none) (hg : (t.got 0).2 = 0) (hs : Syncd t)
theorem SameAsk.refl (o : Option Ak) : SameAsk o o := by cases o <;> simp [SameAsk]
theorem SameAsk.of_eq {o o' : Option Ak} (h : o' = o) : SameAsk o o' := h ▸ SameAsk.refl o
theorem SameAsk.trans {a b c : Option Ak} (h : SameAsk a b) (k : SameAsk b c) : SameAsk a c := by
  cases a <;> cases b <;> cases c <;> simp_all [SameAsk]
theorem SameAsk.of_none {o o' : Option Ak} (h : SameAsk o o') (hn : o = none) : o' = none := by
  subst hn; cases o' <;> simp_all [SameAsk]
theorem SameAsk.back {o o' : Option Ak} (h : SameAsk o o') {b : Ak} (hb : o' = some b) : ∃ a, o = some a ∧ b.kind = a.kind ∧ b.pos = a.pos ∧ b.data = a.data := by
  subst hb
  cases o with
  | none => exact absurd h (by simp [SameAsk])
  | some a => exact ⟨a, rfl, h⟩
theorem Stays.refl (s : St) : Stays s s := ⟨fun _ _ _ => rfl, fun _ h => h, fun h => h, fun h => h⟩
theorem Stays.trans {s t u : St} (h : Stays s t) (k : Stays t u) : Stays s u :=
  ⟨fun p h1 h2 => (k.cur p h1 h2).trans (h.cur p h1 h2), fun H hh => k.hist H (h.hist H hh), fun hs => k.syn (h.syn hs), fun hd => k.dead (h.dead hd)⟩
theorem Evt.refl (s : St) : Evt s s := .quiet (.refl s) (.refl _) (fun _ => rfl)
/-- Two steps are one. -/
theorem Evt.trans {s t u : St} (hI : Inv s) (h : Evt s t) (k : Evt t u) : Evt s u := by
  cases h with
  | quiet h ask got =>
    cases k with
    | quiet h' ask' got' => exact .quiet (h.trans h') (ask.trans ask') (fun hn => (got' (ask.of_none hn)).trans (got hn))
    | read a ha hk h' hn hg =>
      obtain ⟨b, hb, e1, e2, e3⟩ := ask.back ha
      have hp := hI.ask 0 b hb
      refine .read b hb (e1 ▸ hk) (h.trans h') hn (hg.imp id fun hg => ?_)
      rw [hg, e2, h.cur b.pos hp.lo hp.hi]
    | dead a ha hk h' hn hg hd =>
      obtain ⟨b, hb, e1, e2, e3⟩ := ask.back ha
      exact .dead b hb (e1 ▸ hk) (h.trans h') hn hg hd
    | write a ha hk hn hg hc hh hd =>
      obtain ⟨b, hb, e1, e2, e3⟩ := ask.back ha
      refine .write b hb (e1 ▸ hk) hn hg (fun p h1 h2 => ?_) (fun H hH hp => hh H (h.hist H hH) (by rw [e2, e3]; exact hp)) (fun x => hd (h.dead x))
      rw [hc p h1 h2, e2, e3, h.cur p h1 h2]
    | sync a ha hk h' hn hg hs =>
      obtain ⟨b, hb, e1, e2, e3⟩ := ask.back ha
      exact .sync b hb (e1 ▸ hk) (h.trans h') hn hg hs
  | read a ha hk h hn hg =>
    cases k with
    | quiet h' ask' got' => exact .read a ha hk (h.trans h') (ask'.of_none hn) (by rw [got' hn]; exact hg)
    | read _ hb => rw [hn] at hb; cases hb
    | dead _ hb => rw [hn] at hb; cases hb
    | write _ hb => rw [hn] at hb; cases hb
    | sync _ hb => rw [hn] at hb; cases hb
  | dead a ha hk h hn hg hd =>
    cases k with
    | quiet h' ask' got' => exact .dead a ha hk (h.trans h') (ask'.of_none hn) (by rw [got' hn]; exact hg) (h'.dead hd)
    | read _ hb => rw [hn] at hb; cases hb
    | dead _ hb => rw [hn] at hb; cases hb
    | write _ hb => rw [hn] at hb; cases hb
    | sync _ hb => rw [hn] at hb; cases hb
  | write a ha hk hn hg hc hh hd =>
    cases k with
    | quiet h' ask' got' => exact .write a ha hk (ask'.of_none hn) (by rw [got' hn]; exact hg) (fun p h1 h2 => by rw [h'.cur p h1 h2, hc p h1 h2]) (fun H hH hp => h'.hist H (hh H hH hp)) (fun x => h'.dead (hd x))
    | read _ hb => rw [hn] at hb; cases hb
    | dead _ hb => rw [hn] at hb; cases hb
    | write _ hb => rw [hn] at hb; cases hb
    | sync _ hb => rw [hn] at hb; cases hb
  | sync a ha hk h hn hg hs =>
    cases k with
    | quiet h' ask' got' => exact .sync a ha hk (h.trans h') (ask'.of_none hn) (by rw [got' hn]; exact hg) (h'.syn hs)
    | read _ hb => rw [hn] at hb; cases hb
    | dead _ hb => rw [hn] at hb; cases hb
    | write _ hb => rw [hn] at hb; cases hb
    | sync _ hb => rw [hn] at hb; cases hb
theorem cur_of {s t : St} {p : Int} (hb : atB t.bufs p = atB s.bufs p) (hn : nowAt t p = nowAt s p) : curS t p = curS s p := by unfold curS; rw [hb, hn]
/-- What is at hand, and on the disk, is the same; what is on its way was, or is at hand. -/
theorem Stays.flow {s t : St} (hb : ∀ p, atB t.bufs p = atB s.bufs p) (hk : t.v.d.kept = s.v.d.kept) (hn : t.v.d.now = s.v.d.now) (hw : t.v.d.waits = s.v.d.waits) (hd : s.dead = true → t.dead = true)
    (hf : ∀ p e, InW (t.wait ++ t.v.d.l) p e → InW (s.wait ++ s.v.d.l) p e ∨ ∃ y, atB s.bufs p = some (e, y)) : Stays s t :=
  ⟨fun p _ _ => cur_of (hb p) (by unfold nowAt; rw [hn]),
    fun H h => ⟨fun p hp => by rw [hk]; exact h.kept p hp, fun p hp => by rw [hn]; exact h.now p hp, fun x hx => h.waits x (hw ▸ hx), fun p v hv => h.hand p v ((hb p).symm.trans hv), fun p e hi => by
      rcases hf p e hi with h1 | ⟨y, h1⟩
      · exact h.fl p e h1
      · exact h.hand p _ h1⟩,
    fun h => ⟨by rw [hk, hn]; exact h.kept, hw.trans h.waits, fun p v hv => h.none p v ((hb p).symm.trans hv)⟩, hd⟩
theorem JS.flow {s t : St} (h : JS s) (hI : Inv t) (hb : ∀ p, atB t.bufs p = atB s.bufs p) (hn : t.v.d.now = s.v.d.now) (ha : t.asks = s.asks) : JS t := by
  have e : ∀ c, t.askAt c = s.askAt c := fun c => by unfold St.askAt; rw [ha]
  refine ⟨hI, ⟨(e 1).trans h.solo.1, (e 2).trans h.solo.2⟩, fun a h1 h2 p d hd => h.left a ((e 0).symm.trans h1) h2 p d ((hb p).symm.trans hd), fun p d hd => ?_⟩
  rw [h.clean p d ((hb p).symm.trans hd)]
  unfold nowAt; rw [hn]
theorem ans_0 {s : St} (h : Inv s) (d : ByteArray) (e : Nat) : (s.answer 0 d e).askAt 0 = none := by
  unfold St.askAt St.answer
  simp [List.getD_eq_getElem?_getD, List.getElem?_set, h.asks]
theorem ans_got {s : St} (h : Inv s) (d : ByteArray) (e : Nat) : (s.answer 0 d e).got 0 = if e = 0 then (d, 0) else (noB, e) := by
  unfold St.got St.answer
  simp [List.getD_eq_getElem?_getD, List.getElem?_set, h.errs.1, h.done.1]
/-- The one client is answered. -/
theorem JS.ans {s : St} (h : JS s) {d : ByteArray} {e : Nat} (hd : d.size ≤ 16) (he : e ≤ 9) : JS (s.answer 0 d e) :=
  ⟨h.inv.answer 0 hd he, ⟨(ans_ne (by decide) d e).trans h.solo.1, (ans_ne (by decide) d e).trans h.solo.2⟩, fun a h1 => (by rw [ans_0 h.inv] at h1; cases h1), h.clean⟩
theorem Stays.ans (s : St) (d : ByteArray) (e : Nat) : Stays s (s.answer 0 d e) := .flow (fun _ => rfl) rfl rfl rfl id (fun _ _ h => .inl h)
theorem JS.atr {s : St} (h : JS s) {p : Int} {v : ByteArray × Bool} (ha : atB s.bufs p = some v) : 0 ≤ p ∧ p ≤ 31 := by
  obtain ⟨x, hx, hp, _⟩ := atB_some h.inv.rises (d := v.1) (y := v.2) ha
  exact hp ▸ h.inv.inb x hx
def Go2 (s t : St) : Prop := JS s → JS t ∧ Evt s t
theorem Go2.refl (s : St) : Go2 s s := fun h => ⟨h, .refl s⟩
theorem Go2.trans {s t u : St} (h : Go2 s t) (k : Go2 t u) : Go2 s u := fun hs =>
  have h1 := h hs
  have h2 := k h1.1
  ⟨h2.1, h1.2.trans hs.inv h2.2⟩
/-- Nothing but what is on its way, and the counters. -/
theorem Go2.flow {s t : St} (hI : JS s → Inv t) (hb : ∀ p, JS s → atB t.bufs p = atB s.bufs p) (hk : t.v.d.kept = s.v.d.kept) (hn : t.v.d.now = s.v.d.now) (hw : t.v.d.waits = s.v.d.waits) (hd : s.dead = true → t.dead = true) (ha : t.asks = s.asks) (hdo : t.done = s.done) (he : t.errs = s.errs)
    (hf : JS s → ∀ p e, InW (t.wait ++ t.v.d.l) p e → InW (s.wait ++ s.v.d.l) p e ∨ ∃ y, atB s.bufs p = some (e, y)) : Go2 s t := fun h =>
  ⟨h.flow (hI h) (fun p => hb p h) hn ha, .quiet (.flow (fun p => hb p h) hk hn hw hd (hf h)) (.of_eq (by unfold St.askAt; rw [ha])) (fun _ => by unfold St.got; rw [hdo, he])⟩
theorem go_queue (s : St) (w : Bool) (p : Int) (d : ByteArray) (hI : JS s → Inv (s.queue w p d).1) (hw : JS s → w = true → ∃ y, atB s.bufs p = some (d, y)) : Go2 s (s.queue w p d).1 := by
  cases hq : (s.queue w p d).2 with
  | false => rw [Inv.queue_no hq]; exact .refl s
  | true =>
    have e : (s.queue w p d).1 = { s with wait := (addM s.wait (s.reqOf w p d)).1, tag := s.tag + 1 } := by
      unfold St.queue at hq ⊢
      split at hq
      · rename_i h0; rw [if_pos h0]
      · cases hq
    refine .flow hI (fun q h => ?_) ?_ ?_ ?_ ?_ ?_ ?_ ?_ (fun h q e' hi => ?_)
    · rw [e]
    · rw [e]
    · rw [e]
    · rw [e]
    · rw [e]; exact id
    · rw [e]
    · rw [e]
    · rw [e]
    · rcases ((h.inv.queued hq).1.inw q e').1 hi with h1 | ⟨h1, rfl, rfl⟩
      · exact .inl h1
      · exact .inr (hw h h1)
theorem serve_solo {s : St} (h : Solo s) : s.serve = s.serve1 0 := by
  unfold St.serve
  rw [serve1_none (c := 1) ((serve1_ne s (by decide)).trans h.1), serve1_none (c := 2) ((serve1_ne s (by decide)).trans h.2)]
theorem SameAsk.ne {o : Option Ak} {a b : Ak} (h : o = some a) (h1 : b.kind = a.kind) (h2 : b.pos = a.pos) (h3 : b.data = a.data) : SameAsk o (some b) := by subst h; exact ⟨h1, h2, h3⟩
theorem cur_hand {s : St} {p : Int} {v : ByteArray × Bool} (h : atB s.bufs p = some v) : curS s p = v.1 := by unfold curS; rw [h]
theorem cur_disk {s : St} {p : Int} (h : atB s.bufs p = none) : curS s p = nowAt s p := by unfold curS; rw [h]
theorem go_read (s : St) (a : Ak) (ha : s.askAt 0 = some a) (hk : a.kind = 1) : Go2 s (s.read 0 a) := by
  intro h
  have hp := h.inv.ask 0 a ha
  unfold St.read
  split
  · rename_i hi
    obtain ⟨x, hx, _, hg, hat⟩ := Inv.getB_atB h.inv.rises hi
    have h1 : JS { s with use := s.use + 1, bufs := useB s.bufs a.pos (s.use + 1) } := h.flow (h.inv.useB a.pos (s.use + 1) (by omega)) (fun p => atB_use h.inv.rises _ _ _) rfl rfl
    have hz : x.data.size ≤ 16 := h.inv.size x hx
    rw [hg]
    refine ⟨h1.ans hz (by omega), .read a ha hk (Stays.trans (t := { s with use := s.use + 1, bufs := useB s.bufs a.pos (s.use + 1) }) ?_ (Stays.ans ..)) (ans_0 h1.inv _ _) (.inr ?_)⟩
    · exact Stays.flow (fun p => atB_use h.inv.rises _ _ _) rfl rfl rfl id (fun _ _ h => .inl h)
    · rw [ans_got h1.inv, if_pos rfl, cur_hand hat]
  · split
    · exact ⟨h, .refl s⟩
    · rename_i hh
      exact go_queue s false a.pos noB (fun h => h.inv.queue (by simpa using hh) (fun h => by cases h)) (fun _ h => by cases h) h
/-- A sector is put to what is at hand: what goes for it is on the disk. -/
theorem put_cur {s : St} (h : JS s) {m : List Bf} {b : Bf} {held : Int → Bool} (hp : putB s.bufs b held = some m) {u : Int} {q : Int} (hq : q ≠ b.pos) : curS { s with use := u, bufs := m } q = curS s q := by
  rcases atB_put_ne h.inv.rises h.inv.len8 hp hq with h1 | ⟨h1, _, d, h2⟩
  · exact cur_of h1 rfl
  · rw [cur_hand h2, cur_disk (s := { s with use := u, bufs := m }) h1, h.clean q d h2]; rfl
theorem put_old {s : St} (h : JS s) {m : List Bf} {b : Bf} {held : Int → Bool} (hp : putB s.bufs b held = some m) {q : Int} (hq : q ≠ b.pos) {v : ByteArray × Bool} (hv : atB m q = some v) : atB s.bufs q = some v := by
  rcases atB_put_ne h.inv.rises h.inv.len8 hp hq with h1 | ⟨h1, _⟩
  · exact h1.symm.trans hv
  · rw [h1] at hv; cases hv
theorem go_write (s : St) (a : Ak) (ha : s.askAt 0 = some a) (hk : a.kind = 2) : Go2 s (s.write 0 a) := by
  intro h
  have hp := h.inv.ask 0 a ha
  have hI := h.inv.write (c := 0) hp
  unfold St.write at hI ⊢
  split at hI
  · rename_i hd
    rw [if_pos hd]
    exact ⟨h.ans noB16 (by omega), .dead a ha (.inl hk) (.ans ..) (ans_0 h.inv _ _) (by rw [ans_got h.inv]; rfl) hd⟩
  · rename_i hd
    rw [if_neg hd]
    split at hI
    · rename_i hf
      rw [if_pos hf]; exact ⟨h, .refl s⟩
    · rename_i hf
      rw [if_neg hf]
      split at hI
      · rename_i m hm
        have e1 := atB_put h.inv.rises h.inv.len8 hm
        have hI1 : Inv { s with use := s.use + 1, bufs := m } := by
          have hu := h.inv.use0
          refine h.inv.putB hm ⟨hp.lo, hp.hi⟩ (by have := hp.size; simp only; omega) (show s.use ≤ s.use + 1 by omega) (by simp only; omega) (fun _ => ?_) (.inl rfl)
          cases hs : St.still s.bufs a.pos with
          | true => exact .inl (h.inv.still_at.1 hs)
          | false => rw [hs] at hf; right; simpa using hf
        have hcl : CleanOk { s with use := s.use + 1, bufs := m } := by
          intro q d hqd
          by_cases hq : q = a.pos
          · subst hq
            have : atB m a.pos = some (d, false) := hqd
            rw [e1] at this; cases this
          · exact h.clean q d (put_old h hm hq hqd)
        refine ⟨⟨hI, ⟨(ans_ne (by decide) _ _).trans h.solo.1, (ans_ne (by decide) _ _).trans h.solo.2⟩, fun b h1 => (by rw [ans_0 hI1] at h1; cases h1), hcl⟩, .write a ha hk (ans_0 hI1 _ _) (by rw [ans_got hI1]; rfl) (fun q h1 h2 => ?_) (fun H hH hHp => ?_) id⟩
        · split
          · rename_i e
            subst e
            exact cur_hand (s := St.answer { s with use := s.use + 1, bufs := m } 0 noB 0) e1
          · rename_i e
            exact put_cur (u := s.use + 1) h hm e
        · refine ⟨hH.kept, hH.now, hH.waits, fun q v hv => ?_, hH.fl⟩
          by_cases hq : q = a.pos
          · subst hq
            have : atB m a.pos = some v := hv
            rw [e1] at this; cases this; exact hHp
          · exact hH.hand q v (put_old h hm hq hv)
      · exact ⟨h.flow hI (fun _ => rfl) rfl rfl, .quiet (.flow (fun _ => rfl) rfl rfl rfl id (fun _ _ h => .inl h)) (.of_eq rfl) (fun _ => rfl)⟩
theorem go_sync (s : St) (a : Ak) (ha : s.askAt 0 = some a) (hk : a.kind = 3) : Go2 s (s.sync 0 a) := by
  intro h
  have hp := h.inv.ask 0 a ha
  have hI := h.inv.sync (c := 0) hp
  unfold St.sync at hI ⊢
  split at hI
  · rename_i hd
    rw [if_pos hd]
    exact ⟨h.ans noB16 (by omega), .dead a ha (.inr hk) (.ans ..) (ans_0 h.inv _ _) (by rw [ans_got h.inv]; rfl) hd⟩
  · rename_i hd
    rw [if_neg hd]
    split at hI
    · rename_i hl
      rw [if_pos hl]
      have h1 : JS { s with v := { s.v with d := s.v.d.flush } } := h.flow { h.inv with dv := h.inv.dv.flush } (fun _ => rfl) rfl rfl
      have hst : Stays s { s with v := { s.v with d := s.v.d.flush } } :=
        ⟨fun p _ _ => cur_of rfl rfl, fun H hH => ⟨hH.now, hH.now, fun x hx => by simp [Dv.flush] at hx, hH.hand, hH.fl⟩, fun hs => ⟨rfl, rfl, hs.none⟩, id⟩
      refine ⟨h1.ans noB16 (by omega), .sync a ha hk (hst.trans (.ans ..)) (ans_0 h1.inv _ _) (by rw [ans_got h1.inv]; rfl) ⟨rfl, rfl, fun q v hv => ?_⟩⟩
      cases hy : v.2 with
      | false => rfl
      | true =>
        exfalso
        have hv' : atB s.bufs q = some (v.1, true) := by rw [← hy]; exact hv
        have hm : q ∈ a.left.filter (St.still s.bufs) := List.mem_filter.2 ⟨h.left a ha hk q v.1 hv', h.inv.still_at.2 ⟨v.1, hv'⟩⟩
        rw [hl] at hm; cases hm
    · rename_i hl
      rw [if_neg hl]
      have e0 : ({ s with asks := s.asks.set 0 (some { a with left := a.left.filter (St.still s.bufs) }) } : St).askAt 0 = some { a with left := a.left.filter (St.still s.bufs) } := by
        unfold St.askAt
        simp [List.getD_eq_getElem?_getD, List.getElem?_set, h.inv.asks]
      refine ⟨⟨hI, ⟨(set_ne (by decide) _).trans h.solo.1, (set_ne (by decide) _).trans h.solo.2⟩, fun b h1 h2 q d hq => ?_, h.clean⟩, .quiet (.flow (fun _ => rfl) rfl rfl rfl id (fun _ _ h => .inl h)) ?_ (fun hn => by rw [ha] at hn; cases hn)⟩
      · rw [e0] at h1; cases h1
        exact List.mem_filter.2 ⟨h.left a ha hk q d hq, h.inv.still_at.2 ⟨d, hq⟩⟩
      · rw [e0]; exact .ne ha rfl rfl rfl
theorem go_serve (s : St) : Go2 s s.serve := by
  intro h
  rw [serve_solo h.solo]
  unfold St.serve1
  cases ha : s.askAt 0 with
  | none => exact ⟨h, .refl s⟩
  | some a =>
    simp only
    split
    · exact go_read s a ha ‹_› h
    · split
      · exact go_write s a ha ‹_› h
      · split
        · exact go_sync s a ha ‹_› h
        · exact ⟨h, .refl s⟩
theorem go_tick (s : St) : Go2 s s.tick := by
  refine Go2.trans (t := { s with now := min (s.now + 1) 1000000000 }) ?_ (go_serve _)
  refine .flow (fun h => { h.inv with now := ?_ }) (fun _ _ => rfl) rfl rfl rfl id rfl rfl rfl (fun _ _ _ h => .inl h)
  have := h.inv.now
  simp only
  omega
theorem go_clean (s : St) : Go2 s s.clean.1 := by
  unfold St.clean
  split
  · exact .refl s
  · split
    · exact .refl s
    · rename_i hd hp
      refine go_queue s true _ _ (fun h => ?_) (fun h _ => ?_)
      · have := h.inv.clean
        unfold St.clean at this
        rwa [if_neg hd, if_neg hp] at this
      · obtain ⟨x, hx, hpos, hg, hdd, hh, _⟩ := pick_some h.inv.rises hp
        rw [hg, ← hpos]
        exact ⟨_, atB_mem h.inv.rises hx⟩
theorem go_dispatch (s : St) : Go2 s s.dispatch.1 := by
  intro h
  by_cases hn : s.wait = [] ∨ 2 ≤ s.v.d.l.length
  · rw [Inv.dispatch_no hn]; exact ⟨h, .refl s⟩
  · have hI := h.inv.dispatch
    simp only [not_or] at hn
    obtain ⟨j, r, t', hx, e⟩ := h.inv.dispatched hn.1 (by omega)
    rw [e] at hI ⊢
    exact Go2.flow (fun _ => hI) (fun _ _ => rfl) rfl rfl rfl id rfl rfl rfl (fun _ p e' hi => .inl ((InW.perm (Inv.perm_move (b := s.v.d.l) hx.get)).1 hi)) h
theorem go_again (s : St) {k : Nat} {r : Rq} (hk : s.v.d.l[k]? = some r) (h3 : s.v.tries (tagOf r) + 1 < 3) : Go2 s (s.again k r) :=
  .flow (fun h => h.inv.again hk h3) (fun _ _ => rfl) rfl rfl rfl id rfl rfl rfl (fun _ p e hi => .inl ((InW.perm (List.Perm.append_left _ (perm_back hk).symm)).1 hi))
theorem go_gone (s : St) {k : Nat} {r : Rq} (hk : s.v.d.l[k]? = some r) : Go2 s (s.gone k r) :=
  .flow (fun h => h.inv.gone hk) (fun _ _ => rfl) rfl rfl rfl id rfl rfl rfl (fun _ p e hi => .inl (InW.er hi))
theorem tell_solo {s : St} (h : Solo s) (p : Int) (d : ByteArray) : s.tell p d = St.tell1 p d s 0 := by
  unfold St.tell
  rw [tell1_none (c := 1) ((tell1_ne s (by decide) p d).trans h.1), tell1_none (c := 2) ((tell1_ne s (by decide) p d).trans h.2)]
theorem go_wrong (s : St) (r : Rq) : Go2 s (s.wrong r) := by
  refine Go2.trans (t := { s with dead := s.dead || r.write }) (.flow (fun h => { h.inv with }) (fun _ _ => rfl) rfl rfl rfl (fun h => by show (s.dead || r.write) = true; rw [h]; rfl) rfl rfl rfl (fun _ _ _ h => .inl h)) ?_
  intro h
  have e : s.wrong r = St.wrong1 r { s with dead := s.dead || r.write } 0 := by
    unfold St.wrong
    rw [wrong1_none (c := 1) ((wrong1_ne _ (by decide) r).trans h.solo.1), wrong1_none (c := 2) ((wrong1_ne _ (by decide) r).trans h.solo.2)]
  rw [e]
  generalize ({ s with dead := s.dead || r.write } : St) = u at *
  unfold St.wrong1
  cases ha : u.askAt 0 with
  | none => exact ⟨h, .refl u⟩
  | some a =>
    simp only
    split
    · rename_i hw
      exact ⟨h.ans noB16 (by omega), .read a ha hw.2.1 (.ans ..) (ans_0 h.inv _ _) (.inl (by rw [ans_got h.inv]; rfl))⟩
    · exact ⟨h, .refl u⟩
theorem go_tell (s : St) {p : Int} {d : ByteArray} (hd : d.size ≤ 16) (hc : d = curS s p) : Go2 s (s.tell p d) := by
  intro h
  rw [tell_solo h.solo]
  unfold St.tell1
  cases ha : s.askAt 0 with
  | none => exact ⟨h, .refl s⟩
  | some a =>
    simp only
    split
    · rename_i hw
      exact ⟨h.ans hd (by omega), .read a ha hw.1 (.ans ..) (ans_0 h.inv _ _) (.inr (by rw [ans_got h.inv, hw.2, hc]; rfl))⟩
    · exact ⟨h, .refl s⟩
/-- What the disk has now of a sector goes to what is at hand. -/
theorem go_ended1 (s : St) (w : Bool) {p : Int} {d : ByteArray} (hp : 0 ≤ p ∧ p ≤ 31) (hd : d.size ≤ 16) (hn : d = nowAt s p) (hI : JS s → Inv (s.ended1 w p d)) : Go2 s (s.ended1 w p d) := by
  intro h
  have hI1 := hI h
  unfold St.ended1 at hI1 ⊢
  cases w with
  | true =>
    rw [if_pos rfl] at hI1 ⊢
    have key : ∀ q v, atB (cleanB s.bufs p d) q = some v → ∃ y, atB s.bufs q = some (v.1, y) ∧ (v.2 = true → y = true) ∧ (v.2 = false → y = false ∨ (q = p ∧ v.1 = d)) := by
      intro q v hv
      by_cases hq : q = p
      · subst hq
        rw [atB_clean h.inv.rises] at hv
        obtain ⟨u, hu, rfl⟩ := Option.map_eq_some_iff.1 hv
        refine ⟨u.2, by rw [hu], fun h1 => ?_, fun h1 => ?_⟩
        · simp only at h1
          split at h1
          · cases h1
          · exact h1
        · simp only at h1 ⊢
          split at h1
          · rename_i e; first | exact .inr ⟨rfl, e⟩ | exact .inr ⟨trivial, e⟩
          · exact .inl h1
      · rw [atB_clean_ne h.inv.rises d hq] at hv
        exact ⟨v.2, hv, id, fun h1 => .inl h1⟩
    have hcur : ∀ q, curS { s with bufs := cleanB s.bufs p d } q = curS s q := by
      intro q
      by_cases hq : q = p
      · subst hq
        cases ha : atB s.bufs q with
        | none => rw [cur_disk ha, cur_disk (s := { s with bufs := cleanB s.bufs q d }) (by show atB (cleanB s.bufs q d) q = none; rw [atB_clean h.inv.rises, ha]; rfl)]; rfl
        | some u => rw [cur_hand ha, cur_hand (s := { s with bufs := cleanB s.bufs q d }) (v := (u.1, if u.1 = d then false else u.2)) (by show atB (cleanB s.bufs q d) q = _; rw [atB_clean h.inv.rises, ha]; rfl)]
      · exact cur_of (atB_clean_ne h.inv.rises d hq) rfl
    refine ⟨⟨hI1, h.solo, fun a h1 h2 q e hq => ?_, fun q e hq => ?_⟩, .quiet ⟨fun q _ _ => hcur q, fun H hH => ⟨hH.kept, hH.now, hH.waits, fun q v hv => ?_, hH.fl⟩, fun hs => ⟨hs.kept, hs.waits, fun q v hv => ?_⟩, id⟩ (.refl _) (fun _ => rfl)⟩
    · obtain ⟨y, hy, h3, _⟩ := key q _ hq
      rw [h3 rfl] at hy
      exact h.left a h1 h2 q e hy
    · obtain ⟨y, hy, _, h4⟩ := key q _ hq
      rcases h4 rfl with rfl | ⟨rfl, h5⟩
      · exact h.clean q e hy
      · simp only at h5; rw [h5, hn]; rfl
    · obtain ⟨y, hy, _⟩ := key q _ hv
      exact hH.hand q (v.1, y) hy
    · obtain ⟨y, hy, h3, _⟩ := key q _ hv
      cases h5 : v.2 with
      | false => rfl
      | true => have := hs.none q _ hy; rw [h3 h5] at this; cases this
  | false =>
    rw [if_neg (by decide)] at hI1 ⊢
    split
    · exact ⟨h, .refl s⟩
    · rename_i hg
      have hat : atB s.bufs p = none := by unfold atB; rw [if_neg hg]
      rw [if_neg hg] at hI1
      have hu := h.inv.use0
      cases hm : putB s.bufs ⟨p, d, false, s.use + 1⟩ s.heldP with
      | none =>
        simp only [Option.getD_none]
        refine Go2.trans (t := { s with use := s.use + 1, bufs := s.bufs }) ?_ (go_tell _ hd ?_) h
        · exact .flow (fun h => h.inv.use1 (show s.use ≤ s.use + 1 by omega)) (fun _ _ => rfl) rfl rfl rfl id rfl rfl rfl (fun _ _ _ h => .inl h)
        · rw [cur_disk (s := { s with use := s.use + 1, bufs := s.bufs }) hat, hn]; rfl
      | some m =>
        simp only [Option.getD_some]
        have e1 := atB_put h.inv.rises h.inv.len8 hm
        have hI2 : Inv { s with use := s.use + 1, bufs := m } := h.inv.putB hm hp hd (show s.use ≤ s.use + 1 by omega) (by simp only; omega) (fun h => by cases h) (.inr hat)
        refine Go2.trans (t := { s with use := s.use + 1, bufs := m }) (fun _ => ?_) (go_tell _ hd ?_) h
        · have hcur : ∀ q, curS { s with use := s.use + 1, bufs := m } q = curS s q := by
            intro q
            by_cases hq : q = p
            · subst hq
              rw [cur_disk hat, cur_hand (s := { s with use := s.use + 1, bufs := m }) e1]; exact hn
            · exact put_cur h hm hq
          refine ⟨⟨hI2, h.solo, fun a h1 h2 q e hq => ?_, fun q e hq => ?_⟩, .quiet ⟨fun q _ _ => hcur q, fun H hH => ⟨hH.kept, hH.now, hH.waits, fun q v hv => ?_, hH.fl⟩, fun hs => ⟨hs.kept, hs.waits, fun q v hv => ?_⟩, id⟩ (.refl _) (fun _ => rfl)⟩
          · by_cases hqp : q = p
            · subst hqp
              have : atB m q = some (e, true) := hq
              rw [e1] at this; cases this
            · exact h.left a h1 h2 q e (put_old h hm hqp hq)
          · by_cases hqp : q = p
            · subst hqp
              have : atB m q = some (e, false) := hq
              rw [e1] at this; cases this; exact hn
            · exact h.clean q e (put_old h hm hqp hq)
          · by_cases hqp : q = p
            · subst hqp
              have : atB m q = some v := hv
              rw [e1] at this; cases this
              have := hH.now q.toNat (by omega)
              rw [Int.toNat_of_nonneg hp.1] at this
              rw [hn]; exact this
            · exact hH.hand q v (put_old h hm hqp hv)
          · by_cases hqp : q = p
            · subst hqp
              have : atB m q = some v := hv
              rw [e1] at this; cases this; rfl
            · exact hs.none q v (put_old h hm hqp hv)
        · rw [cur_hand (s := { s with use := s.use + 1, bufs := m }) e1]
theorem wrote_now : ∀ (l : List ByteArray) (d : Dv) (p q : Nat), p + l.length ≤ d.now.length → (d.wrote p l).now.getD q noB = if p ≤ q ∧ q < p + l.length then l.getD (q - p) noB else d.now.getD q noB
  | [], d, p, q, _ => by
    rw [if_neg (by simp)]; rfl
  | s :: l, d, p, q, h => by
    simp only [List.length_cons] at h
    rw [Dv.wrote, wrote_now l (d.put p s) (p + 1) q (by simp [Dv.put]; omega)]
    by_cases h1 : p = q
    · subst h1
      rw [if_neg (by omega), if_pos (by simp)]
      simp [Dv.put, List.getD_eq_getElem?_getD, show p < d.now.length by omega]
    · by_cases h2 : p + 1 ≤ q ∧ q < p + 1 + l.length
      · rw [if_pos h2, if_pos (by simp; omega), show q - p = (q - (p + 1)) + 1 by omega, List.getD_cons_succ]
      · rw [if_neg h2, if_neg (by simp; omega)]
        simp [Dv.put, List.getD_eq_getElem?_getD, List.getElem?_set_ne h1]
theorem wrote_waits : ∀ (l : List ByteArray) (d : Dv) (p : Nat) (x : Nat × ByteArray), x ∈ (d.wrote p l).waits → x ∈ d.waits ∨ ∃ i, l[i]? = some x.2 ∧ x.1 = p + i
  | [], _, _, x, h => .inl h
  | s :: l, d, p, x, h => by
    rcases wrote_waits l (d.put p s) (p + 1) x h with h1 | ⟨i, h1, h2⟩
    · rcases List.mem_append.1 h1 with h1 | h1
      · exact .inl h1
      · simp at h1; subst h1; exact .inr ⟨0, rfl, rfl⟩
    · exact .inr ⟨i + 1, by simpa using h1, by omega⟩
/-- What the disk has of a request's sectors, when it has done it. -/
theorem did_now {s : St} (h : Inv s) {k : Nat} {r : Rq} (hk : s.v.d.l[k]? = some r) {i : Nat} (hi : i < r.many.toNat) : (s.outs r).getD i noB = nowAt (s.did k r) (r.lo + i) := by
  have hr := reqF_zero (h.dv.l r (List.mem_of_getElem? hk))
  obtain ⟨a1, a2, a3, a4, a5⟩ := hr.span
  have e1 : (r.lo + (i : Int)).toNat = r.lo.toNat + i := by omega
  unfold nowAt St.did St.outs Dv.ended
  rw [if_neg (show ¬ false = true by decide), e1]
  split
  · rename_i hw
    have hl := hr.len hw
    simp only
    rw [wrote_now _ _ _ _ (by show _ ≤ s.v.d.now.length; rw [h.dv.now]; omega), if_pos (by omega), show r.lo.toNat + i - r.lo.toNat = i by omega]
  · simp only
    unfold Dv.reads
    simp only [List.getD_eq_getElem?_getD]
    rw [List.getElem?_take_of_lt hi, List.getElem?_drop]
    rfl
theorem did_same {s : St} (h : Inv s) {k : Nat} {r : Rq} (hk : s.v.d.l[k]? = some r) {p : Int} (hp : 0 ≤ p) (hn : ¬ (r.write = true ∧ hasB r.lo r.many p = true)) : nowAt (s.did k r) p = nowAt s p := by
  have hr := reqF_zero (h.dv.l r (List.mem_of_getElem? hk))
  obtain ⟨a1, a2, a3, a4, a5⟩ := hr.span
  unfold nowAt St.did Dv.ended
  rw [if_neg (show ¬ false = true by decide)]
  split
  · rename_i hw
    have hl := hr.len hw
    rw [hasB_iff] at hn
    simp only
    rw [wrote_now _ _ _ _ (by show _ ≤ s.v.d.now.length; rw [h.dv.now]; omega), if_neg (by simp only [hw, true_and] at hn; omega)]
    rfl
  · rfl
theorem mem_w {l : List Rq} {k : Nat} {r : Rq} {a : List Rq} (hk : l[k]? = some r) (hr : ReqOk r) (hw : r.write = true) {p : Int} (hp : hasB r.lo r.many p = true) : ∃ e, InW (a ++ l) p e ∧ r.data[(p - r.lo).toNat]? = some e := by
  obtain ⟨e, he⟩ := data_at hr hw hp
  exact ⟨e, ⟨r, List.mem_append.2 (.inr (List.mem_of_getElem? hk)), hw, hp, he⟩, he⟩
theorem go_did (s : St) {k : Nat} {r : Rq} (hk : s.v.d.l[k]? = some r) : Go2 s (s.did k r) := by
  intro h
  have hr := reqF_zero (h.inv.dv.l r (List.mem_of_getElem? hk))
  obtain ⟨a1, a2, a3, a4, a5⟩ := hr.span
  have hin : ∀ p, r.write = true → hasB r.lo r.many p = true → ∃ d, atB s.bufs p = some (d, true) := fun p hw hp => by
    obtain ⟨e, he, _⟩ := mem_w (a := s.wait) hk hr hw hp
    exact h.inv.hand p e he
  have hcl : CleanOk (s.did k r) := fun p d hd => by
    have hd' : atB s.bufs p = some (d, false) := hd
    have hp := h.atr hd'
    rw [did_same h.inv hk hp.1 (fun hw => by obtain ⟨e, he⟩ := hin p hw.1 hw.2; rw [hd'] at he; cases he)]
    exact h.clean p d hd'
  have hfl : ∀ p e, InW ((s.did k r).wait ++ (s.did k r).v.d.l) p e → InW (s.wait ++ s.v.d.l) p e := fun p e hi => by
    have hi' : InW (s.wait ++ (s.v.d.ended r k false).1.l) p e := hi
    rw [ended_l] at hi'; exact InW.er hi'
  refine ⟨⟨h.inv.did hk, h.solo, h.left, hcl⟩, .quiet ⟨fun p h1 h2 => ?_, fun H hH => ?_, fun hs => ?_, id⟩ (.refl _) (fun _ => rfl)⟩
  · by_cases hw : r.write = true ∧ hasB r.lo r.many p = true
    · obtain ⟨e, he⟩ := hin p hw.1 hw.2
      rw [cur_hand he, cur_hand (s := s.did k r) he]
    · exact cur_of rfl (did_same h.inv hk h1 hw)
  · have hkept : (s.did k r).v.d.kept = s.v.d.kept := by
      unfold St.did Dv.ended
      rw [if_neg (show ¬ false = true by decide)]
      split
      · exact (Dv.wrote_same _ _ _).1
      · rfl
    refine ⟨fun p hp => by rw [hkept]; exact hH.kept p hp, fun p hp => ?_, fun x hx => ?_, hH.hand, fun p e hi => hH.fl p e (hfl p e hi)⟩
    · by_cases hw : r.write = true ∧ hasB r.lo r.many (p : Int) = true
      · obtain ⟨e, he, hde⟩ := mem_w (a := s.wait) hk hr hw.1 hw.2
        have hb := hasB_iff.1 hw.2
        have e1 := did_now h.inv hk (i := p - r.lo.toNat) (by omega)
        unfold nowAt at e1
        rw [show (r.lo + ((p - r.lo.toNat : Nat) : Int)).toNat = p by omega] at e1
        rw [← e1]
        unfold St.outs
        rw [if_pos hw.1, List.getD_eq_getElem?_getD, show p - r.lo.toNat = ((p : Int) - r.lo).toNat by omega, hde]
        exact hH.fl p e he
      · have := did_same h.inv hk (p := (p : Int)) (by omega) hw
        unfold nowAt at this
        rw [Int.toNat_natCast] at this
        rw [this]; exact hH.now p hp
    · have hx' : x ∈ (s.v.d.ended r k false).1.waits := hx
      unfold Dv.ended at hx'
      rw [if_neg (show ¬ false = true by decide)] at hx'
      split at hx'
      · rename_i hw
        rcases wrote_waits _ _ _ _ hx' with h1 | ⟨i, h1, h2⟩
        · exact hH.waits x h1
        · have hl := hr.len hw
          have hil := (List.getElem?_eq_some_iff.1 h1).1
          refine hH.fl _ _ ⟨r, List.mem_append.2 (.inr (List.mem_of_getElem? hk)), hw, ?_, ?_⟩
          · rw [hasB_iff]; omega
          · rw [show ((x.1 : Int) - r.lo).toNat = i by omega]; exact h1
      · exact hH.waits x hx'
  · cases hw : r.write with
    | true =>
      obtain ⟨e, he⟩ := hin r.lo hw (by rw [hasB_iff]; omega)
      have := hs.none _ _ he
      cases this
    | false =>
      have e1 : (s.v.d.ended r k false).1 = s.v.d.drop k := by
        unfold Dv.ended
        rw [if_neg (show ¬ false = true by decide), hw, if_neg (show ¬ false = true by decide)]
      exact ⟨by show (s.v.d.ended r k false).1.kept = _; rw [e1]; show s.v.d.kept = (s.v.d.ended r k false).1.now; rw [e1]; exact hs.kept, by show (s.v.d.ended r k false).1.waits = []; rw [e1]; exact hs.waits, hs.none⟩
theorem tell1_v (p : Int) (d : ByteArray) (s : St) (c : Nat) : (St.tell1 p d s c).v = s.v := by
  unfold St.tell1; split
  · rfl
  · split <;> rfl
theorem tell_v (s : St) (p : Int) (d : ByteArray) : (s.tell p d).v = s.v := by unfold St.tell; rw [tell1_v, tell1_v, tell1_v]
theorem ended1_v (s : St) (w : Bool) (p : Int) (d : ByteArray) : (s.ended1 w p d).v = s.v := by
  unfold St.ended1; split
  · rfl
  · split
    · rfl
    · rw [tell_v]
theorem endedN_v (s : St) (w : Bool) (lo : Int) (l : List ByteArray) : ∀ n, (s.endedN w lo l n).v = s.v
  | 0 => rfl
  | n + 1 => by rw [St.endedN, ended1_v, endedN_v s w lo l n]
theorem go_endedN (s : St) {k : Nat} {r : Rq} (hk : s.v.d.l[k]? = some r) (hI : Inv s) : ∀ n, n ≤ r.many.toNat → Go2 s ((s.did k r).endedN r.write r.lo (s.outs r) n)
  | 0, _ => go_did s hk
  | n + 1, hn => by
    have hr := reqF_zero (hI.dv.l r (List.mem_of_getElem? hk))
    obtain ⟨a1, a2, a3, a4, a5⟩ := hr.span
    refine (go_endedN s hk hI n (by omega)).trans (go_ended1 _ _ (by omega) (getD_size (hI.outs_size hk) n) ?_ (fun _ => hI.endedN hk (n + 1) hn))
    rw [did_now hI hk (i := n) (by omega)]
    unfold nowAt
    rw [endedN_v]
theorem go_end (s : St) (i : Int) (f : Bool) : Go2 s (s.end_ i f).1 := by
  intro h
  have hE := St.ended_of s i f h.inv.dv.two
  generalize (s.end_ i f).1 = t at hE
  generalize (s.end_ i f).2 = e at hE
  cases hE with
  | none _ => exact ⟨h, .refl s⟩
  | again k r hk _ _ h3 => exact go_again s hk h3 h
  | gone k r hk _ _ _ => exact ((go_gone s hk).trans ((go_wrong _ r).trans (go_serve _))) h
  | ok k r hk _ _ => exact ((go_endedN s hk h.inv _ (Nat.le_refl _)).trans (go_serve _)) h
theorem go_round2 (s : St) : Go2 s s.round := (go_tick s).trans ((go_clean _).trans ((go_dispatch _).trans ((go_dispatch _).trans (go_end _ 0 false))))
end Go.Proofs.Ytojmnfelecnenaa
namespace Go.Proofs.Ytojmnfelecnenaa
set_option linter.unusedSimpArgs false
set_option linter.unusedVariables false

structure Al where
  now : List ByteArray
  since : List (List ByteArray)
  kind : Int
  pos : Int
  data : ByteArray
/-- What was waited for was answered, or wasn't. -/
def Al.answered (A : Al) (s : St) : Al :=
  if A.kind = 0 ∨ (s.askAt 0).isSome then A
  else if (s.got 0).2 ≠ 0 then { A with kind := 0 }
  else if A.kind = 2 then { A with kind := 0, now := A.now.set A.pos.toNat A.data, since := A.since.set A.pos.toNat (A.since.getD A.pos.toNat [] ++ [A.data]) }
  else if A.kind = 3 then { A with kind := 0, since := A.now.map (fun d => [d]) }
  else { A with kind := 0 }
/-- What was answered is right. -/
structure Fine (s : St) (A : Al) : Prop where
  kind : A.kind = 0 ∨ A.kind = 1 ∨ A.kind = 2 ∨ A.kind = 3
  pos : A.kind = 1 ∨ A.kind = 2 → 0 ≤ A.pos ∧ A.pos < 32
  one : A.kind = 1 → s.askAt 0 = none → (s.got 0).2 = 8 ∨ ((s.got 0).2 = 0 ∧ (s.got 0).1 = A.now.getD A.pos.toNat noB)
  more : A.kind = 2 ∨ A.kind = 3 → s.askAt 0 = none → (s.got 0).2 = 0 ∨ ((s.got 0).2 = 9 ∧ s.dead = true)
def inS (A : Al) (p : Int) (d : ByteArray) : Prop := ∃ q : Nat, p = (q : Int) ∧ d ∈ A.since.getD q []
/-- It knows what each sector has; hf: what may be found behind a crash, too. -/
structure AlOk (hf : Bool) (s : St) (A : Al) : Prop where
  js : JS s
  now : A.now.length = 32
  since : A.since.length = 32
  cur : ∀ p : Nat, p < 32 → A.now.getD p noB = curS s p
  asks : (A.kind = 0 ∧ s.askAt 0 = none) ∨ (∃ a, s.askAt 0 = some a ∧ a.kind = A.kind ∧ (A.kind ≠ 3 → a.pos = A.pos) ∧ (A.kind = 2 → a.data = A.data))
  hist : hf = true → Hist (inS A) s
theorem Hist.mono {H G : Int → ByteArray → Prop} {s : St} (h : Hist H s) (hg : ∀ p d, H p d → G p d) : Hist G s :=
  ⟨fun p hp => hg _ _ (h.kept p hp), fun p hp => hg _ _ (h.now p hp), fun x hx => hg _ _ (h.waits x hx), fun p v hv => hg _ _ (h.hand p v hv), fun p e hi => hg _ _ (h.fl p e hi)⟩
theorem syncd_cur {s : St} (h : JS s) (hs : Syncd s) (p : Int) : curS s p = nowAt s p := by
  cases ha : atB s.bufs p with
  | none => exact cur_disk ha
  | some v =>
    rw [cur_hand ha]
    have h1 := hs.none p v ha
    exact h.clean p v.1 (by rw [ha, ← h1])
theorem syncd_hist {s : St} (h : JS s) (hs : Syncd s) : Hist (fun p d => d = curS s p ∧ 0 ≤ p ∧ p ≤ 31) s := by
  refine ⟨fun p hp => ⟨?_, by omega, by omega⟩, fun p hp => ⟨?_, by omega, by omega⟩, fun x hx => ?_, fun p v hv => ⟨(cur_hand hv).symm, h.atr hv⟩, fun p e hi => ?_⟩
  · rw [syncd_cur h hs, hs.kept]; unfold nowAt; rw [Int.toNat_natCast]
  · rw [syncd_cur h hs]; unfold nowAt; rw [Int.toNat_natCast]
  · rw [hs.waits] at hx; cases hx
  · obtain ⟨d, hd⟩ := h.inv.hand p e hi
    have := hs.none p _ hd
    cases this
theorem getD_set_nat {α : Type} {l : List α} {i j : Nat} {x d : α} (hi : i < l.length) : (l.set i x).getD j d = if j = i then x else l.getD j d := by
  simp only [List.getD_eq_getElem?_getD, List.getElem?_set]
  by_cases h : i = j
  · subst h; simp [hi]
  · rw [if_neg h, if_neg (Ne.symm h)]
structure EvFine (hf : Bool) (t : St) (A : Al) : Prop where
  fine : Fine t A
  ok : AlOk hf t (A.answered t)
  sync : A.kind = 3 → (A.answered t).kind = 0 → ((t.got 0).2 ≠ 0 → t.dead = true) ∧ ((t.got 0).2 = 0 → Syncd t)
theorem al_event {hf : Bool} {s t : St} {A : Al} (h : AlOk hf s A) (hj : JS t) (hE : Evt s t) : EvFine hf t A := by
  have hak : ∀ a, s.askAt 0 = some a → a.kind = A.kind ∧ (A.kind ≠ 3 → a.pos = A.pos) ∧ (A.kind = 2 → a.data = A.data) := fun a ha => by
    rcases h.asks with ⟨_, h1⟩ | ⟨b, hb, h1⟩
    · rw [ha] at h1; cases h1
    · rw [ha] at hb; cases hb; exact h1
  have hposk : ∀ a, s.askAt 0 = some a → a.kind ≠ 3 → 0 ≤ A.pos ∧ A.pos < 32 := fun a ha hk => by
    have hp := h.js.inv.ask 0 a ha
    obtain ⟨h1, h2, _⟩ := hak a ha
    have := h2 (by omega)
    have := hp.lo
    have := hp.hi
    omega
  have hkind : A.kind = 0 ∨ A.kind = 1 ∨ A.kind = 2 ∨ A.kind = 3 := by
    rcases h.asks with ⟨h1, _⟩ | ⟨b, hb, h1, _⟩
    · exact .inl h1
    · right; rw [← h1]; exact (h.js.inv.ask 0 b hb).kind
  have hpos : A.kind = 1 ∨ A.kind = 2 → 0 ≤ A.pos ∧ A.pos < 32 := fun hk => by
    rcases h.asks with ⟨h1, _⟩ | ⟨b, hb, h1, _⟩
    · omega
    · exact hposk b hb (by omega)
  have base : ∀ k : Int, k = 0 → ∀ (hst : Stays s t), t.askAt 0 = none → AlOk hf t { A with kind := k } := fun k hk hst hn =>
    ⟨hj, h.now, h.since, fun p hp => (h.cur p hp).trans (hst.cur p (by omega) (by omega)).symm, .inl ⟨hk, hn⟩, fun hh => hst.hist _ (h.hist hh)⟩
  cases hE with
  | quiet hst ask got =>
    cases ha : s.askAt 0 with
    | none =>
      have hk0 : A.kind = 0 := by
        rcases h.asks with ⟨h1, _⟩ | ⟨b, hb, _⟩
        · exact h1
        · rw [ha] at hb; cases hb
      have htn := ask.of_none ha
      have e : A.answered t = A := by unfold Al.answered; rw [if_pos (.inl hk0)]
      refine ⟨⟨hkind, hpos, fun hk => by omega, fun hk => by omega⟩, ?_, fun hk => by omega⟩
      rw [e]
      have := base 0 rfl hst htn
      obtain ⟨a1, a2, a3, a4, a5⟩ := A
      simp only at hk0
      subst hk0
      exact this
    | some a =>
      obtain ⟨b, hb⟩ : ∃ b, t.askAt 0 = some b := by
        cases hb : t.askAt 0 with
        | none => rw [ha, hb] at ask; exact absurd ask (by simp [SameAsk])
        | some b => exact ⟨b, rfl⟩
      have hab : b.kind = a.kind ∧ b.pos = a.pos ∧ b.data = a.data := by rw [ha, hb] at ask; exact ask
      obtain ⟨h1, h2, h3⟩ := hak a ha
      have e : A.answered t = A := by unfold Al.answered; rw [if_pos (.inr (by rw [hb]; rfl))]
      have hne : ∀ {P : Prop}, t.askAt 0 = none → P := fun hn => by rw [hb] at hn; cases hn
      refine ⟨⟨hkind, hpos, fun _ hn => hne hn, fun _ hn => hne hn⟩, ?_, fun hk hk0 => by rw [e] at hk0; omega⟩
      rw [e]
      exact ⟨hj, h.now, h.since, fun p hp => (h.cur p hp).trans (hst.cur p (by omega) (by omega)).symm, .inr ⟨b, hb, hab.1.trans h1, fun hk => hab.2.1.trans (h2 hk), fun hk => hab.2.2.trans (h3 hk)⟩, fun hh => hst.hist _ (h.hist hh)⟩
  | read a ha hk hst hn hg =>
    obtain ⟨h1, h2, h3⟩ := hak a ha
    have hk1 : A.kind = 1 := by omega
    have hp := hpos (.inl hk1)
    have e : A.answered t = { A with kind := 0 } := by
      unfold Al.answered
      rw [if_neg (by rw [hn]; simp; omega)]
      split
      · rfl
      · rw [if_neg (by omega), if_neg (by omega)]
    refine ⟨⟨hkind, hpos, fun _ _ => ?_, fun hk' => by omega⟩, e ▸ base 0 rfl hst hn, fun hk' => by omega⟩
    rcases hg with hg | hg
    · exact .inl hg
    · right
      rw [hg]
      refine ⟨rfl, ?_⟩
      have := h.cur A.pos.toNat (by omega)
      rw [Int.toNat_of_nonneg hp.1] at this
      rw [this, h2 (by omega)]
  | dead a ha hk hst hn hg hd =>
    obtain ⟨h1, h2, h3⟩ := hak a ha
    have e : A.answered t = { A with kind := 0 } := by
      unfold Al.answered
      rw [if_neg (by rw [hn]; simp; omega), if_pos (by rw [hg]; decide)]
    refine ⟨⟨hkind, hpos, fun hk' => by omega, fun _ _ => .inr ⟨hg, hd⟩⟩, e ▸ base 0 rfl hst hn, fun _ _ => ⟨fun _ => hd, fun h0 => by rw [hg] at h0; cases h0⟩⟩
  | write a ha hk hn hg hc hh hd =>
    obtain ⟨h1, h2, h3⟩ := hak a ha
    have hk2 : A.kind = 2 := by omega
    have hp := hpos (.inr hk2)
    have hap := h2 (by omega)
    have had := h3 hk2
    have e : A.answered t = { A with kind := 0, now := A.now.set A.pos.toNat A.data, since := A.since.set A.pos.toNat (A.since.getD A.pos.toNat [] ++ [A.data]) } := by
      unfold Al.answered
      rw [if_neg (by rw [hn]; simp; omega), if_neg (by rw [hg]; simp), if_pos hk2]
    have hpl : A.pos.toNat < 32 := by omega
    refine ⟨⟨hkind, hpos, fun hk' => by omega, fun _ _ => .inl hg⟩, ?_, fun hk' => by omega⟩
    rw [e]
    refine ⟨hj, by simp [h.now], by simp [h.since], fun p hpp => ?_, .inl ⟨rfl, hn⟩, fun hhf => ?_⟩
    · show (A.now.set A.pos.toNat A.data).getD p noB = _
      rw [getD_set_nat (by rw [h.now]; exact hpl), hc p (by omega) (by omega)]
      by_cases hpe : p = A.pos.toNat
      · rw [if_pos hpe, if_pos (by omega), had]
      · rw [if_neg hpe, if_neg (by omega), h.cur p hpp]
    · refine hh _ ((h.hist hhf).mono fun p d hpd => ?_) ?_
      · obtain ⟨q, rfl, hq⟩ := hpd
        refine ⟨q, rfl, ?_⟩
        show d ∈ (A.since.set A.pos.toNat (A.since.getD A.pos.toNat [] ++ [A.data])).getD q []
        rw [getD_set_nat (by rw [h.since]; exact hpl)]
        split
        · rename_i hqe; subst hqe; exact List.mem_append.2 (.inl hq)
        · exact hq
      · refine ⟨A.pos.toNat, by omega, ?_⟩
        show a.data ∈ (A.since.set A.pos.toNat (A.since.getD A.pos.toNat [] ++ [A.data])).getD A.pos.toNat []
        rw [getD_set_nat (by rw [h.since]; exact hpl), if_pos rfl, had]
        simp
  | sync a ha hk hst hn hg hs =>
    obtain ⟨h1, h2, h3⟩ := hak a ha
    have hk3 : A.kind = 3 := by omega
    have e : A.answered t = { A with kind := 0, since := A.now.map (fun d => [d]) } := by
      unfold Al.answered
      rw [if_neg (by rw [hn]; simp; omega), if_neg (by rw [hg]; simp), if_neg (by omega), if_pos hk3]
    refine ⟨⟨hkind, hpos, fun hk' => by omega, fun _ _ => .inl hg⟩, ?_, fun _ _ => ⟨fun h0 => absurd hg h0, fun _ => hs⟩⟩
    rw [e]
    have hcur : ∀ p : Nat, p < 32 → A.now.getD p noB = curS t p := fun p hp => (h.cur p hp).trans (hst.cur p (by omega) (by omega)).symm
    refine ⟨hj, h.now, by simp [h.now], hcur, .inl ⟨rfl, hn⟩, fun _ => ?_⟩
    refine (syncd_hist hj hs).mono fun p d hpd => ?_
    obtain ⟨hd, hp0, hp1⟩ := hpd
    refine ⟨p.toNat, by omega, ?_⟩
    show d ∈ (A.now.map (fun d => [d])).getD p.toNat []
    have hx := hcur p.toNat (by omega)
    rw [Int.toNat_of_nonneg hp0, ← hd] at hx
    rw [List.getD_eq_getElem?_getD] at hx ⊢
    rw [List.getElem?_map]
    cases hq : A.now[p.toNat]? with
    | none => rw [List.getElem?_eq_none_iff, h.now] at hq; omega
    | some y => rw [hq] at hx; simp at hx ⊢; exact hx.symm
/-- What is asked for by a step. -/
def kindOf (w : ByteArray) : Int := match cmdOf w with
  | .read => 1
  | .write => 2
  | .sync => 3
  | _ => 0
def Al.asked (A : Al) (z : Sp) (e : Nat) : Al := if 0 < kindOf z.word ∧ e = 0 then { A with kind := kindOf z.word, pos := z.b, data := z.data } else A
def alSkip (z : Sp) : Bool := decide (0 < kindOf z.word ∧ z.a ≠ 0)
def alStep (s : St) (A : Al) (z : Sp) : St × Al := if alSkip z then (s, A) else ((stepM s z).1, (A.asked z (stepM s z).2).answered (stepM s z).1)
structure AlStep (hf : Bool) (s t : St) (A A' : Al) (free : Bool) : Prop where
  ev : EvFine hf t A'
  free : free = true → A.kind = 0
theorem al_ask {hf : Bool} {s : St} {A : Al} (h : AlOk hf s A) {k p : Int} {d : ByteArray} {A' : Al} (hk : k = 1 ∨ k = 2 ∨ k = 3) (hA : A' = { A with kind := k, pos := A'.pos, data := A'.data }) (hp : k ≠ 3 → A'.pos = p) (hd : k = 2 → A'.data = d) (he : (s.ask 0 k p d).2 = 0) : AlStep hf s (s.ask 0 k p d).1 A A' true := by
  have hcases : ¬ ((0 : Int) < 0 ∨ (3 : Int) ≤ 0 ∨ k < 1 ∨ 3 < k) := by omega
  unfold St.ask at he ⊢
  rw [if_neg hcases] at he ⊢
  split at he
  · cases he
  · rename_i h2
    rw [if_neg h2]
    split at he
    · cases he
    · rename_i h3
      rw [if_neg h3]
      have hn : s.askAt 0 = none := by
        have : ((0 : Int)).toNat = 0 := rfl
        rw [this] at h3
        cases ho : s.askAt 0 with
        | none => rfl
        | some a => rw [ho] at h3; simp at h3
      have hk0 : A.kind = 0 := by
        rcases h.asks with ⟨h1, _⟩ | ⟨b, hb, _⟩
        · exact h1
        · rw [hn] at hb; cases hb
      refine ⟨?_, fun _ => hk0⟩
      have h0 : ((0 : Int)).toNat = 0 := rfl
      rw [h0]
      obtain ⟨ak, hak⟩ : ∃ ak : Ak, ak = ⟨k, p, d, if k = 3 then St.dirtyAt s.bufs else []⟩ := ⟨_, rfl⟩
      rw [← hak]
      have hIa : Inv { s with asks := s.asks.set 0 (some ak) } := by
        rw [hak]
        refine h.js.inv.asked (by omega) (by omega) (by omega) ?_
        split
        · exact h.js.inv.dirtyAt_ok
        · simp
      have haa : ({ s with asks := s.asks.set 0 (some ak) } : St).askAt 0 = some ak := by
        unfold St.askAt
        simp [List.getD_eq_getElem?_getD, List.getElem?_set, h.js.inv.asks]
      have hj : JS { s with asks := s.asks.set 0 (some ak) } := by
        refine ⟨hIa, ⟨(set_ne (by decide) _).trans h.js.solo.1, (set_ne (by decide) _).trans h.js.solo.2⟩, fun b hb hbk q e hq => ?_, h.js.clean⟩
        rw [haa] at hb; cases hb
        rw [hak] at hbk ⊢
        simp only at hbk ⊢
        rw [if_pos hbk]
        unfold St.dirtyAt
        obtain ⟨x, hx, hxp, _, hxd, _⟩ := atB_some h.js.inv.rises hq
        exact List.mem_map.2 ⟨x, List.mem_filter.2 ⟨hx, hxd⟩, hxp⟩
      have hal : AlOk hf { s with asks := s.asks.set 0 (some ak) } A' := by
        rw [hA]
        refine ⟨hj, h.now, h.since, h.cur, .inr ⟨ak, haa, by rw [hak], fun h3' => ?_, fun h2' => ?_⟩, fun hh => ?_⟩
        · rw [hak]; exact (hp h3').symm
        · rw [hak]; exact (hd h2').symm
        · have := h.hist hh
          exact ⟨this.kept, this.now, this.waits, this.hand, this.fl⟩
      obtain ⟨hj', hE⟩ := go_serve _ hj
      exact al_event hal hj' hE
theorem ask_err {s : St} {c k p : Int} {d : ByteArray} (he : (s.ask c k p d).2 ≠ 0) : (s.ask c k p d).1 = s := by
  unfold St.ask at he ⊢
  split
  · rfl
  · rename_i h1
    rw [if_neg h1] at he
    split
    · rfl
    · rename_i h2
      rw [if_neg h2] at he
      split
      · rfl
      · rename_i h3
        rw [if_neg h3] at he
        exact absurd rfl he
theorem al_same {hf : Bool} {s : St} {A : Al} (h : AlOk hf s A) : EvFine hf s A := al_event h h.js (.refl s)
/-- A step of one who asks alone: all is right. -/
theorem al_step {hf : Bool} {s : St} {A : Al} (h : AlOk hf s A) (z : Sp) (hs : alSkip z = false) : EvFine hf (stepM s z).1 (A.asked z (stepM s z).2) ∧ (0 < kindOf z.word → (stepM s z).2 = 0 → A.kind = 0) := by
  have hsk : ¬ (0 < kindOf z.word ∧ z.a ≠ 0) := by unfold alSkip at hs; simpa using hs
  have askcase : ∀ (k p : Int) (d : ByteArray), kindOf z.word = k → (k = 1 ∨ k = 2 ∨ k = 3) → stepM s z = s.ask z.a k p d → (k ≠ 3 → z.b = p) → (k = 2 → z.data = d) → EvFine hf (stepM s z).1 (A.asked z (stepM s z).2) ∧ (0 < kindOf z.word → (stepM s z).2 = 0 → A.kind = 0) := by
    intro k p d hk hkk hst hp hd
    have hza : z.a = 0 := by
      apply Classical.byContradiction
      intro hne
      exact hsk ⟨by omega, hne⟩
    rw [hst, hza]
    by_cases he : (s.ask 0 k p d).2 = 0
    · have hx := al_ask h (k := k) (p := p) (d := d) (A' := { A with kind := k, pos := z.b, data := z.data }) hkk rfl hp hd he
      have e : A.asked z (s.ask 0 k p d).2 = { A with kind := k, pos := z.b, data := z.data } := by unfold Al.asked; rw [if_pos ⟨by omega, he⟩, hk]
      rw [e]
      exact ⟨hx.ev, fun _ _ => hx.free rfl⟩
    · have e : A.asked z (s.ask 0 k p d).2 = A := by unfold Al.asked; rw [if_neg (fun h => he h.2)]
      rw [e, ask_err he]
      exact ⟨al_same h, fun _ h0 => absurd h0 he⟩
  have gocase : ∀ t : St, kindOf z.word = 0 → (stepM s z).1 = t → Go2 s t → EvFine hf (stepM s z).1 (A.asked z (stepM s z).2) ∧ (0 < kindOf z.word → (stepM s z).2 = 0 → A.kind = 0) := by
    intro t hk hst hg
    have e : A.asked z (stepM s z).2 = A := by unfold Al.asked; rw [if_neg (by omega)]
    rw [e, hst]
    obtain ⟨hj, hE⟩ := hg h.js
    exact ⟨al_event h hj hE, fun h0 => by omega⟩
  cases hc : cmdOf z.word with
  | read => exact askcase 1 z.b noB (by unfold kindOf; rw [hc]) (by omega) (by unfold stepM; rw [hc]) (fun _ => rfl) (fun h => by omega)
  | write => exact askcase 2 z.b z.data (by unfold kindOf; rw [hc]) (by omega) (by unfold stepM; rw [hc]) (fun _ => rfl) (fun _ => rfl)
  | sync => exact askcase 3 0 noB (by unfold kindOf; rw [hc]) (by omega) (by unfold stepM; rw [hc]) (fun h => by omega) (fun h => by omega)
  | tick => exact gocase s.tick (by unfold kindOf; rw [hc]) (by unfold stepM; rw [hc]) (go_tick s)
  | clean => exact gocase s.clean.1 (by unfold kindOf; rw [hc]) (by unfold stepM; rw [hc]) (go_clean s)
  | dispatch => exact gocase s.dispatch.1 (by unfold kindOf; rw [hc]) (by unfold stepM; rw [hc]) (go_dispatch s)
  | end_ => exact gocase (s.end_ z.a false).1 (by unfold kindOf; rw [hc]) (by unfold stepM; rw [hc]) (go_end s z.a false)
  | fault => exact gocase (s.end_ z.a true).1 (by unfold kindOf; rw [hc]) (by unfold stepM; rw [hc]) (go_end s z.a true)
  | round => exact gocase s.round (by unfold kindOf; rw [hc]) (by unfold stepM; rw [hc]) (go_round2 s)
  | other => exact gocase s (by unfold kindOf; rw [hc]) (by unfold stepM; rw [hc]) (.refl s)
end Go.Proofs.Ytojmnfelecnenaa
namespace Go.Proofs.Ytojmnfelecnenaa
set_option linter.unusedSimpArgs false
set_option linter.unusedVariables false
open Go.RowKit Go.Sort

abbrev tAl : TypeId := 49
def alRow (b bd : Nat) (A : Al) (vs : List Value) : List Value :=
  [.pointer (some ⟨b, 0, none⟩), .pointer (some ⟨bd, 0, none⟩)] ++ (A.now.map .string ++ (vs ++ [.int .i64 A.kind, .int .i64 A.pos, .string A.data]))
section
variable {b bd : Nat} {A : Al} {vs : List Value}
theorem alRow_now (hn : A.now.length = 32) {i : Nat} (hi : i < 32) : (alRow b bd A vs)[2 + i]? = some (.string (A.now.getD i noB)) := by
  unfold alRow
  rw [List.getElem?_append_right (by simp), List.getElem?_append_left (by simp [hn]; omega)]
  have e : 2 + i - ([Value.pointer (some ⟨b, 0, none⟩), Value.pointer (some ⟨bd, 0, none⟩)] : List Value).length = i := by simp
  rw [e, List.getElem?_map, List.getD_eq_getElem?_getD, List.getElem?_eq_getElem (by omega)]
  rfl
theorem alRow_vs (hn : A.now.length = 32) (hv : vs.length = 32) {i : Nat} (hi : i < 32) : (alRow b bd A vs)[34 + i]? = vs[i]? := by
  unfold alRow
  rw [List.getElem?_append_right (by simp; omega), List.getElem?_append_right (by simp [hn]; omega), List.getElem?_append_left (by simp [hn, hv]; omega)]
  congr 1
  simp [hn]; omega
theorem alRow_end (hn : A.now.length = 32) (hv : vs.length = 32) (i : Nat) : (alRow b bd A vs)[66 + i]? = ([.int .i64 A.kind, .int .i64 A.pos, .string A.data] : List Value)[i]? := by
  unfold alRow
  rw [List.getElem?_append_right (by simp; omega), List.getElem?_append_right (by simp [hn]; omega), List.getElem?_append_right (by simp [hn, hv]; omega)]
  congr 1
  simp [hn, hv]; omega
theorem alRow_set_now (hn : A.now.length = 32) {i : Nat} (hi : i < 32) (d : ByteArray) : (alRow b bd A vs).set (2 + i) (.string d) = alRow b bd { A with now := A.now.set i d } vs := by
  unfold alRow
  rw [List.set_append_right _ _ (by simp), List.set_append_left _ _ (by simp [hn]; omega)]
  have e : 2 + i - ([Value.pointer (some ⟨b, 0, none⟩), Value.pointer (some ⟨bd, 0, none⟩)] : List Value).length = i := by simp
  rw [e, List.map_set]
theorem alRow_set_vs (hn : A.now.length = 32) (hv : vs.length = 32) {i : Nat} (hi : i < 32) (v : Value) : (alRow b bd A vs).set (34 + i) v = alRow b bd A (vs.set i v) := by
  unfold alRow
  rw [List.set_append_right _ _ (by simp; omega), List.set_append_right _ _ (by simp [hn]; omega), List.set_append_left _ _ (by simp [hn, hv]; omega)]
  have e : 34 + i - ([Value.pointer (some ⟨b, 0, none⟩), Value.pointer (some ⟨bd, 0, none⟩)] : List Value).length - (A.now.map Value.string).length = i := by simp [hn]; omega
  rw [e]
theorem alRow_set_end (hn : A.now.length = 32) (hv : vs.length = 32) (i : Nat) (v : Value) : (alRow b bd A vs).set (66 + i) v = [.pointer (some ⟨b, 0, none⟩), .pointer (some ⟨bd, 0, none⟩)] ++ (A.now.map .string ++ (vs ++ ([.int .i64 A.kind, .int .i64 A.pos, .string A.data] : List Value).set i v)) := by
  unfold alRow
  rw [List.set_append_right _ _ (by simp; omega), List.set_append_right _ _ (by simp [hn]; omega), List.set_append_right _ _ (by simp [hn, hv]; omega)]
  have e : 66 + i - ([Value.pointer (some ⟨b, 0, none⟩), Value.pointer (some ⟨bd, 0, none⟩)] : List Value).length - (A.now.map Value.string).length - vs.length = i := by simp [hn, hv]; omega
  rw [e]
theorem alRow_set_kind (hn : A.now.length = 32) (hv : vs.length = 32) (k : Int) : (alRow b bd A vs).set 66 (.int .i64 k) = alRow b bd { A with kind := k } vs := alRow_set_end hn hv 0 _
theorem alRow_set_pos (hn : A.now.length = 32) (hv : vs.length = 32) (k : Int) : (alRow b bd A vs).set 67 (.int .i64 k) = alRow b bd { A with pos := k } vs := alRow_set_end hn hv 1 _
theorem alRow_set_data (hn : A.now.length = 32) (hv : vs.length = 32) (d : ByteArray) : (alRow b bd A vs).set 68 (.string d) = alRow b bd { A with data := d } vs := alRow_set_end hn hv 2 _
end
/-- Another's block of the colour 9 was written. -/
theorem StAt.far {T : Tys} {col : Nat → Nat} {w w' : World} {b bd N ba : Nat} {x : Sv} {s : St} (h : StAt T col w b bd N x s) (hb : Same1 ba w w') (h9 : col ba = 9) : StAt T col w' b bd N x s := by
  have hk : ∀ k, col k ≠ 9 → w'.heap[k]? = w.heap[k]? := fun k hk => hb.block k (fun e => hk (e ▸ h9))
  obtain ⟨f, hf, hv⟩ := h.drv.map
  refine ⟨(hk _ (by rw [h.cb]; decide)).trans h.row, ⟨(hk _ (by rw [h.cv]; decide)).trans h.drv.row, ⟨f, hf.keep (hk _ (by rw [h.ct]; decide)), hv⟩, ?_, h.drv.nv, h.drv.nt, h.nv⟩, h.n, ?_, ?_, h.asks, fun c hc => (h.ask c hc).keep (fun k hf _ => hk k (by rw [show col k = 5 + c from hf]; omega)), h.done, h.errs, h.cb, h.cv, h.ct, fun k hk => by rw [hb.size]; exact h.lt k hk⟩
  · exact (h.drv.dev.keep (fun k hf _ => hk k (by rw [show col k = 4 from hf]; decide)) (fun k hs _ => hk k (by rw [hs.2]; decide))).more (Im.step (by rw [hb.size]; exact Nat.le_refl _))
  · exact (h.bufs.keep (fun k hs _ => hk k (by rw [hs.2]; decide))).more (Im.step (by rw [hb.size]; exact Nat.le_refl _))
  · exact (h.wait.keep (fun k hs _ => hk k (by rw [hs.2]; decide))).more (Im.step (by rw [hb.size]; exact Nat.le_refl _))
/-- The block of alone itself. -/
structure AlAt (w : World) (col : Nat → Nat) (b bd ba M : Nat) (A : Al) : Prop where
  vs : ∃ vs : List Value, w.heap[ba]? = some (.cells (alRow b bd A vs).toArray tAl (0, 0)) ∧ vs.length = 32 ∧ ∀ (i : Nat) (v : Value), vs[i]? = some v → StrsAt (Im w col) w v (A.since.getD i [])
  now : A.now.length = 32
  sl : A.since.length = 32
  len : ∀ i, (A.since.getD i []).length ≤ M
  pos : i64 A.pos
  dsz : A.data.size ≤ maxLen
  nsz : ∀ i, (A.now.getD i noB).size ≤ maxLen
structure Alst (W0 w : World) (col : Nat → Nat) (b bd N : Nat) (K : Int) (x : Sv) (s : St) (ba M : Nat) (A : Al) : Prop where
  lst : Lst W0 w col b bd N K x s []
  at_ : AlAt w col b bd ba M A
  c9 : col ba = 9
  base : W0.heap.size ≤ ba
section
variable {W0 w w' : World} {col col' : Nat → Nat} {b bd N N' ba M M' : Nat} {K L : Int} {x y : Sv} {s t : St} {A : Al}
theorem AlAt.keep (h : AlAt w col b bd ba M A) (hb : w'.heap[ba]? = w.heap[ba]?) (hk : ∀ k, Im w col k → w'.heap[k]? = w.heap[k]?) (hi : ∀ k, Im w col k → Im w' col' k) (hM : M ≤ M') : AlAt w' col' b bd ba M' A := by
  obtain ⟨vs, h1, h2, h3⟩ := h.vs
  exact ⟨⟨vs, hb.trans h1, h2, fun i v hv => ((h3 i v hv).keep (fun k hs _ => hk k hs)).more hi⟩, h.now, h.sl, fun i => Nat.le_trans (h.len i) hM, h.pos, h.dsz, h.nsz⟩
theorem AlAt.lt (h : AlAt w col b bd ba M A) : ba < w.heap.size := by
  obtain ⟨vs, h1, _⟩ := h.vs
  exact (Array.getElem?_eq_some_iff.1 h1).1
theorem AlAt.frozen (h : AlAt w col b bd ba M A) (k : Nat) : w.frozen? ⟨ba, k, none⟩ = false := by
  obtain ⟨vs, h1, _⟩ := h.vs
  exact frozen_of_row _ _ k _ _ h1
theorem AlAt.cell (h : AlAt w col b bd ba M A) : w.cell? ⟨ba, 0, none⟩ = some (.pointer (some ⟨b, 0, none⟩)) ∧ w.cell? ⟨ba, 1, none⟩ = some (.pointer (some ⟨bd, 0, none⟩)) ∧ (∀ i, i < 32 → w.cell? ⟨ba, 2 + i, none⟩ = some (.string (A.now.getD i noB))) ∧
    (∀ i, i < 32 → ∃ v, w.cell? ⟨ba, 34 + i, none⟩ = some v ∧ StrsAt (Im w col) w v (A.since.getD i [])) ∧ w.cell? ⟨ba, 66, none⟩ = some (.int .i64 A.kind) ∧ w.cell? ⟨ba, 67, none⟩ = some (.int .i64 A.pos) ∧ w.cell? ⟨ba, 68, none⟩ = some (.string A.data) := by
  obtain ⟨vs, h1, h2, h3⟩ := h.vs
  have hc : ∀ k, w.cell? ⟨ba, k, none⟩ = (alRow b bd A vs)[k]? := fun k => by rw [cell_of_row _ _ k _ _ _ h1, List.getElem?_toArray]
  refine ⟨(hc 0).trans rfl, (hc 1).trans rfl, fun i hi => (hc _).trans (alRow_now h.now hi), fun i hi => ?_, (hc 66).trans (alRow_end h.now h2 0), (hc 67).trans (alRow_end h.now h2 1), (hc 68).trans (alRow_end h.now h2 2)⟩
  have hv : vs[i]? = some vs[i] := List.getElem?_eq_getElem (by omega)
  exact ⟨_, (hc _).trans ((alRow_vs h.now h2 hi).trans hv), h3 i _ hv⟩
theorem Alst.step (h : Alst W0 w col b bd N K x s ba M A) (hb : Below w.heap.size w w') : Alst W0 w' col b bd N K x s ba M A :=
  ⟨h.lst.step hb, h.at_.keep (hb.block _ h.at_.lt) (fun k hk => hb.block k hk.1) (Im.step hb.size) (Nat.le_refl _), h.c9, h.base⟩
theorem Alst.more (h : Alst W0 w col b bd N K x s ba M A) (hM : M ≤ M') : Alst W0 w col b bd N K x s ba M' A :=
  ⟨h.lst, h.at_.keep rfl (fun _ _ => rfl) (fun _ hk => hk) hM, h.c9, h.base⟩
theorem Alst.cast' (h : Alst W0 w col b bd N K x s ba M A) (hn : N ≤ N') (hk : K ≤ L) : Alst W0 w col b bd N' L x s ba M A := ⟨h.lst.cast' hn hk, h.at_, h.c9, h.base⟩
theorem Alst.call (h : Alst W0 w col b bd N K x s ba M A) (ha : StAt Ts col' w' b bd N' y t) (hI : Inv t) (hB : Bd L t) (hL : 0 ≤ L) (hc : Chg (Fl col) w w') (hr : Rec col col' w w') : Alst W0 w' col' b bd N' L y t ba M A :=
  ⟨h.lst.call ha hI hB hL hc hr, h.at_.keep (hc.block _ h.at_.lt (fun hf => hf.2 h.c9)) (fun k hk => hc.block k hk.1 (fun hf => hf.1 hk.2)) (fun k hk => ⟨Nat.lt_of_lt_of_le hk.1 hc.size, by rw [hr.old k hk.1]; exact hk.2⟩) (Nat.le_refl _), by rw [hr.old _ h.at_.lt]; exact h.c9, h.base⟩
theorem Alst.five {v : Value} {e : Ending} (h : Alst W0 w col b bd N K x s ba M A) (hr : Ret5 Ts col w b bd N' t v e w') (hI : Inv t) (hB : Bd L t) (hL : 0 ≤ L) : e = .returned v ∧ ∃ col' y, Alst W0 w' col' b bd N' L y t ba M A := by
  obtain ⟨col', y, he, hst, hc, hrc⟩ := hr
  exact ⟨he, col', y, h.call hst hI hB hL hc hrc⟩
/-- A cell of alone was written. -/
theorem Alst.put (h : Alst W0 w col b bd N K x s ba M A) {k : Nat} {v : Value} {A' : Al} (hat : AlAt (w.setCell ⟨ba, k, none⟩ v) col b bd ba M' A') : Alst W0 (w.setCell ⟨ba, k, none⟩ v) col b bd N K x s ba M' A' := by
  have hs : Same1 ba w (w.setCell ⟨ba, k, none⟩ v) := Same1.refl.setCell k v
  have hb : Below W0.heap.size w (w.setCell ⟨ba, k, none⟩ v) := (hs.chg (F := fun j => j = ba) rfl).below (fun j hj => by subst hj; exact h.base) h.lst.below.size
  exact ⟨⟨h.lst.st.far hs h.c9, h.lst.inv, h.lst.bnd, h.lst.k0, h.lst.below.trans hb, h.lst.own, by simp⟩, hat, h.c9, h.base⟩
theorem AlAt.set (h : AlAt w col b bd ba M A) (h9 : col ba = 9) {k : Nat} {v : Value} {A' : Al} (hrow : ∀ vs : List Value, vs.length = 32 → ∃ vs', (alRow b bd A vs).set k v = alRow b bd A' vs' ∧ vs'.length = 32 ∧ ∀ (i : Nat) (u : Value), vs'[i]? = some u → (vs[i]? = some u ∧ A'.since.getD i [] = A.since.getD i []) ∨ StrsAt (Im w col) w u (A'.since.getD i []))
    (hn : A'.now.length = 32) (hsl : A'.since.length = 32) (hM : ∀ i, (A'.since.getD i []).length ≤ M') (hp : i64 A'.pos) (hds : A'.data.size ≤ maxLen) (hns : ∀ i, (A'.now.getD i noB).size ≤ maxLen) : AlAt (w.setCell ⟨ba, k, none⟩ v) col b bd ba M' A' := by
  obtain ⟨vs, h1, h2, h3⟩ := h.vs
  obtain ⟨vs', e, hl, hv⟩ := hrow vs h2
  have hs : Same1 ba w (w.setCell ⟨ba, k, none⟩ v) := Same1.refl.setCell k v
  have keep : ∀ {u : Value} {l : List ByteArray}, StrsAt (Im w col) w u l → StrsAt (Im (w.setCell ⟨ba, k, none⟩ v) col) (w.setCell ⟨ba, k, none⟩ v) u l := fun hu => (hu.keep (fun j hj _ => hs.block j (fun e => by have := hj.2; rw [e, h9] at this; cases this))).more (Im.step (by rw [hs.size]; exact Nat.le_refl _))
  refine ⟨⟨vs', ?_, hl, fun i u hu => ?_⟩, hn, hsl, hM, hp, hds, hns⟩
  · have hx := heap_setCell_same _ _ k _ _ v h1
    rw [hx, ← e]
    congr 2
    simp
  · rcases hv i u hu with ⟨g1, g2⟩ | g
    · rw [g2]; exact keep (h3 i u g1)
    · exact keep g
theorem Alst.kind (h : Alst W0 w col b bd N K x s ba M A) (k : Int) : Alst W0 (w.setCell ⟨ba, 66, none⟩ (.int .i64 k)) col b bd N K x s ba M { A with kind := k } :=
  h.put (h.at_.set h.c9 (fun vs hv => ⟨vs, alRow_set_kind h.at_.now hv k, hv, fun i u hu => .inl ⟨hu, rfl⟩⟩) h.at_.now h.at_.sl h.at_.len h.at_.pos h.at_.dsz h.at_.nsz)
theorem Alst.pos (h : Alst W0 w col b bd N K x s ba M A) (k : Int) (hk : i64 k) : Alst W0 (w.setCell ⟨ba, 67, none⟩ (.int .i64 k)) col b bd N K x s ba M { A with pos := k } :=
  h.put (h.at_.set h.c9 (fun vs hv => ⟨vs, alRow_set_pos h.at_.now hv k, hv, fun i u hu => .inl ⟨hu, rfl⟩⟩) h.at_.now h.at_.sl h.at_.len hk h.at_.dsz h.at_.nsz)
theorem Alst.data (h : Alst W0 w col b bd N K x s ba M A) (d : ByteArray) (hd : d.size ≤ maxLen) : Alst W0 (w.setCell ⟨ba, 68, none⟩ (.string d)) col b bd N K x s ba M { A with data := d } :=
  h.put (h.at_.set h.c9 (fun vs hv => ⟨vs, alRow_set_data h.at_.now hv d, hv, fun i u hu => .inl ⟨hu, rfl⟩⟩) h.at_.now h.at_.sl h.at_.len h.at_.pos hd h.at_.nsz)
theorem Alst.now (h : Alst W0 w col b bd N K x s ba M A) {i : Nat} (hi : i < 32) (d : ByteArray) (hd : d.size ≤ maxLen) : Alst W0 (w.setCell ⟨ba, 2 + i, none⟩ (.string d)) col b bd N K x s ba M { A with now := A.now.set i d } :=
  h.put (h.at_.set h.c9 (fun vs hv => ⟨vs, alRow_set_now h.at_.now hi d, hv, fun i u hu => .inl ⟨hu, rfl⟩⟩) (by simp [h.at_.now]) h.at_.sl h.at_.len h.at_.pos h.at_.dsz (fun j => by
    show ((A.now.set i d).getD j noB).size ≤ maxLen
    rw [getD_set_nat (by rw [h.at_.now]; exact hi)]
    split
    · exact hd
    · exact h.at_.nsz j))
theorem Alst.since (h : Alst W0 w col b bd N K x s ba M A) {i : Nat} (hi : i < 32) {v : Value} {l : List ByteArray} (hv : StrsAt (Im w col) w v l) (hM : M ≤ M') (hl : l.length ≤ M') : Alst W0 (w.setCell ⟨ba, 34 + i, none⟩ v) col b bd N K x s ba M' { A with since := A.since.set i l } := by
  have hg : ∀ j, (A.since.set i l).getD j [] = if j = i then l else A.since.getD j [] := fun j => getD_set_nat (by rw [h.at_.sl]; exact hi)
  refine h.put (h.at_.set h.c9 (fun vs hvs => ⟨vs.set i v, alRow_set_vs h.at_.now hvs hi v, by simp [hvs], fun j u hu => ?_⟩) h.at_.now (by simp [h.at_.sl]) (fun j => ?_) h.at_.pos h.at_.dsz h.at_.nsz)
  · show _ ∨ StrsAt _ _ _ ((A.since.set i l).getD j [])
    rw [List.getElem?_set] at hu
    by_cases hj : j = i
    · subst hj
      rw [if_pos rfl] at hu
      split at hu
      · cases hu; right; rw [hg, if_pos rfl]; exact hv
      · cases hu
    · rw [if_neg (Ne.symm hj)] at hu
      left
      exact ⟨hu, by show (A.since.set i l).getD j [] = _; rw [hg, if_neg hj]⟩
  · show ((A.since.set i l).getD j []).length ≤ M'
    rw [hg]
    split
    · exact hl
    · exact Nat.le_trans (h.at_.len j) hM
end
end Go.Proofs.Ytojmnfelecnenaa
namespace Go.Proofs.Ytojmnfelecnenaa
set_option linter.unusedSimpArgs false
set_option linter.unusedVariables false
open Go

section
variable {P : Program}
/-- What is known of a slot stays, but for those slots. -/
def StableBut (dead : List Tmp) (R : World → World → Prop) : List (Tmp × SlotFact) → Prop
  | [] => True
  | g :: gs => (dead.contains g.1 = true ∨ ∀ v w w', g.2 v w → R w w' → g.2 v w') ∧ StableBut dead R gs
theorem slotG_stable_but {dead : List Tmp} {R : World → World → Prop} {a : Act} {d : Tmp} {v : Value} {w w' : World} (hd0 : dead.contains d = false) : ∀ {Gs : List (Tmp × SlotFact)}, StableBut dead R Gs → slotG Gs a d v w → R w w' → slotG Gs a d v w'
  | [], _, h, _ => h
  | g :: gs, hst, h, hr => by
    unfold slotG at *
    rw [List.lookup_cons] at *
    by_cases hd : (d == g.1) = true
    · have e : d = g.1 := beq_iff_eq.1 hd
      simp only [hd, cond_true] at *
      rcases hst.1 with h1 | h1
      · rw [← e, hd0] at h1; cases h1
      · exact h1 _ _ _ h hr
    · simp only [Bool.not_eq_true] at hd
      simp only [hd, cond_false] at *
      exact slotG_stable_but (Gs := gs) (a := a) hd0 hst.2 h hr
def FinBut (dead : List Tmp) (f : Tmp → Value) (w : World) : List (Tmp × SlotFact) → Prop
  | [] => True
  | g :: gs => (dead.contains g.1 = true ∨ g.2 (f g.1) w) ∧ FinBut dead f w gs
theorem slotG_fin_but {dead : List Tmp} {f : Tmp → Value} {w : World} {a : Act} : ∀ {Gs : List (Tmp × SlotFact)}, (Gs.map (·.1)).Nodup → (∀ d, d ∈ Gs.map (·.1) → dead.contains d = false → slotG Gs a d (f d) w) → FinBut dead f w Gs
  | [], _, _ => trivial
  | g :: gs, hn, h => by
    rw [List.map_cons, List.nodup_cons] at hn
    refine ⟨?_, slotG_fin_but (a := a) hn.2 (fun d hd hdd => ?_)⟩
    · cases hc : dead.contains g.1 with
      | true => exact .inl rfl
      | false =>
        right
        have := h g.1 (by simp) hc
        unfold slotG at this
        rw [List.lookup_cons] at this
        simpa using this
    · have := h d (by simp [hd]) hdd
      unfold slotG at this ⊢
      rw [List.lookup_cons] at this
      have hne : (d == g.1) = false := by
        have : d ≠ g.1 := fun e => hn.1 (e ▸ hd)
        simpa using this
      rw [hne] at this
      exact this
/-- Those slots are read by the operation number m alone. -/
def deadB (L : List Oper) (m : Nat) (dead : List Tmp) : Bool := (List.range L.length).all fun k => k == m || match L[k]? with
  | some o => (tmpsOf o).all (fun d => !dead.contains d)
  | none => true
theorem deadB_ok {L : List Oper} {m : Nat} {dead : List Tmp} (h : deadB L m dead = true) {k : Nat} {o : Oper} (ho : L[k]? = some o) (hk : k ≠ m) {d : Tmp} (hd : d ∈ tmpsOf o) : dead.contains d = false := by
  unfold deadB at h
  rw [List.all_eq_true] at h
  have hkl : k < L.length := by
    rcases Nat.lt_or_ge k L.length with h' | h'
    · exact h'
    · rw [List.getElem?_eq_none h'] at ho; cases ho
  have h1 := h k (List.mem_range.2 hkl)
  rw [ho, Bool.or_eq_true, beq_iff_eq, List.all_eq_true] at h1
  have h2 := (h1.resolve_left hk) d hd
  simpa using h2
def StepR (P : Program) (G : Tmp → SlotFact) (J : World → Prop) (R : World → World → Prop) (o : Oper) : Prop :=
  ∀ ρ w, Plain ρ → J w → Reads G ρ w (tmpsOf o) → OpGives P o ρ w (fun v w' => GD G o.dst v w' ∧ J w' ∧ R w w')
def StepsR (P : Program) (G : Tmp → SlotFact) (J : World → Prop) (R : Nat → World → World → Prop) : Nat → List Oper → Prop
  | _, [] => True
  | i, o :: os => StepR P G J (R i) o ∧ StepsR P G J R (i + 1) os
theorem steps_at_r {G : Tmp → SlotFact} {J : World → Prop} {R : Nat → World → World → Prop} : ∀ {ops : List Oper} {k : Nat}, StepsR P G J R k ops → ∀ {i : Nat} {o : Oper}, ops[i]? = some o → StepR P G J (R (k + i)) o
  | [], _, _, i, o, h => by simp at h
  | o' :: os, k, hs, 0, o, h => by simp at h; subst h; exact hs.1
  | o' :: os, k, hs, i + 1, o, h => by
    have := steps_at_r hs.2 (i := i) (o := o) (by simpa using h)
    rwa [show k + 1 + i = k + (i + 1) by omega] at this
def tailB (L : List Oper) : Bool := (List.range (L.length - 1)).all fun j => (List.range L.length).any fun k => decide (j < k) && match L[k]? with
  | some o => o.after.toList.any (fun e => Region.binds .any e && e.on == j)
  | none => false
theorem tail_all {L : List Oper} (h : tailB L = true) {C : Nat → Prop} (hC : ∀ k o, L[k]? = some o → C k → ∀ e ∈ o.after, Region.binds .any e = true → C e.on) (hl : C (L.length - 1)) : ∀ j, j < L.length → C j := by
  unfold tailB at h
  rw [List.all_eq_true] at h
  have key : ∀ m j, j < L.length → L.length - 1 - j ≤ m → C j := by
    intro m
    induction m with
    | zero => intro j hj hm; have : j = L.length - 1 := by omega
              rw [this]; exact hl
    | succ m ih =>
      intro j hj hm
      by_cases hje : j = L.length - 1
      · rw [hje]; exact hl
      · have h1 := h j (List.mem_range.2 (by omega))
        rw [List.any_eq_true] at h1
        obtain ⟨k, hk, h2⟩ := h1
        rw [List.mem_range] at hk
        rw [Bool.and_eq_true, decide_eq_true_eq] at h2
        obtain ⟨h3, h4⟩ := h2
        cases ho : L[k]? with
        | none => rw [ho] at h4; cases h4
        | some o =>
          rw [ho] at h4
          simp only [List.any_eq_true, Bool.and_eq_true, beq_iff_eq] at h4
          obtain ⟨e, he, hb, hj'⟩ := h4
          rw [← hj']
          exact hC k o ho (ih k hk (by omega)) e (by simpa using he) hb
  exact fun j hj => key _ j hj (Nat.le_refl _)
theorem wp_region_tail {id n : Nat} (m : Nat) (dead q : List Tmp) {L : List Oper} {t : Oper} {Q : Exit → Act → World → Prop} {a : Act} {w : World} (hm : P.follows .mixedOrders = true) (Gs : List (Tmp × SlotFact)) (J : World → Prop) (R : Nat → World → World → Prop)
    (hB : regB a.tmps.size L = true) (hn : L.length = n + 1) (ht : L[n]? = some t) (htd : t.dst = none) (hT : tailB L = true) (hGs : Gs.map (·.1) = dstsOf (L.take n)) (hnd : (dstsOf (L.take n)).Nodup) (hdead : deadB L m dead = true) (hq : (q.all fun d => dead.contains d || (L[m]?.bind (·.dst)) == some d) = true) (hJ : J w.drew) (hst : ∀ i, i ≠ m → StableAll (R i) Gs) (hstm : StableBut q (R m) Gs)
    (hsteps : StepsR P (slotG Gs a) J R 0 (L.take n))
    (hlast : ∀ f ρ w', FinBut dead f w' Gs → J w' → (∀ d, d ∉ dstsOf (L.take n) → f d = a.eval (.tmp d)) → Plain ρ → (∀ d, ρ (.tmp d) = f d) → OpGives P t ρ w' (fun _ w'' => Q .normal (laid f (L.take n) a) w'')) : (Code.region id L.toArray true).wp P Q a w := by
  have hR := regB_ok hB
  have hget : ∀ j : Nat, L.toArray[j]? = L[j]? := fun j => by simp
  have htake : ∀ {j : Nat} {o : Oper}, (L.take n)[j]? = some o → L[j]? = some o ∧ j < n := fun {j o} h => by
    rw [List.getElem?_take] at h
    split at h
    · exact ⟨h, by assumption⟩
    · cases h
  have hput : ∀ {j : Nat} {o : Oper}, L[j]? = some o → j < n → (L.take n)[j]? = some o := fun {j o} h hj => by rw [List.getElem?_take, if_pos hj]; exact h
  have hdst : ∀ {j : Nat} {o : Oper} {d : Tmp}, L[j]? = some o → o.dst = some d → j < n := fun {j o d} h hd => by
    have hjl : j < L.length := by
      rcases Nat.lt_or_ge j L.length with h' | h'
      · exact h'
      · rw [List.getElem?_eq_none h'] at h; cases h
    apply Classical.byContradiction
    intro hjn
    have : j = n := by omega
    subst this
    rw [ht] at h
    cases h
    rw [htd] at hd
    cases hd
  have done : ∀ (fuel : Nat) (listed : Array Bool) (b : Act) (w : World), listed.size = L.length → (∀ j, j < L.length → listed.getD j false = true) → Q .normal b w → wpAny P .any L.toArray Q fuel listed b w := by
    intro fuel listed b w hsz hall hq
    have hnil : Region.ready .any L.toArray listed = [] := by
      rw [List.eq_nil_iff_forall_not_mem]
      intro j hjr
      obtain ⟨h1, o, ho, _⟩ := mem_ready.1 hjr
      rw [hget] at ho
      have hjl : j < L.length := by
        rcases Nat.lt_or_ge j L.length with h | h
        · exact h
        · rw [List.getElem?_eq_none h] at ho; cases ho
      have h2 := hall j hjl
      simp only [Array.getD, hsz, hjl, dite_true] at h1 h2
      rw [h1] at h2; cases h2
    cases fuel with
    | zero => exact ⟨hnil, hq⟩
    | succ fuel => exact ⟨fun _ => hq, fun i hi => by rw [hnil] at hi; cases hi⟩
  have main : ∀ (fuel : Nat) (listed : Array Bool) (b : Act) (w : World), listed.size = L.length → listed.getD n false = false → ((List.range L.length).filter (fun j => !listed.getD j true)).length ≤ fuel → J w → b.defers = a.defers → b.tmps.size = a.tmps.size →
      (∀ d, (∀ j o, L[j]? = some o → o.dst = some d → listed.getD j false = true) → (dead.contains d = true → listed.getD m false = false) → slotG Gs a d (b.eval (.tmp d)) w) → (∀ d, d ∉ dstsOf (L.take n) → b.tmps[d]? = a.tmps[d]?) → (∀ k o, L[k]? = some o → listed.getD k false = true → ∀ e ∈ o.after, Region.binds .any e = true → listed.getD e.on false = true) → wpAny P .any L.toArray Q fuel listed b w := by
    intro fuel
    induction fuel with
    | zero =>
      intro listed b w hsz hun hcnt hj hd1 hd2 hG hU hC
      exfalso
      have h0 : (List.range L.length).filter (fun j => !listed.getD j true) = [] := List.eq_nil_of_length_eq_zero (by omega)
      have hnl : n < L.length := by omega
      have := List.filter_eq_nil_iff.1 h0 n (List.mem_range.2 hnl)
      simp only [Array.getD, hsz, hnl, dite_true] at this hun
      rw [hun] at this
      exact this rfl
    | succ fuel ih =>
      intro listed b w hsz hln hcnt hj hd1 hd2 hG hU hC
      refine ⟨fun hr => ?_, fun i hi => ?_⟩
      · exfalso
        have hall : ∀ j, j < L.length → listed.getD j false = true := by
          intro j hjl
          induction j using Nat.strongRecOn with
          | _ j ihj =>
            cases hl : listed.getD j false with
            | true => rfl
            | false =>
              exfalso
              have hmem : j ∈ Region.ready .any L.toArray listed := by
                refine mem_ready.2 ⟨?_, L[j], by rw [hget]; exact List.getElem?_eq_getElem hjl, fun e he hb => ?_⟩
                · simp only [Array.getD, hsz, hjl, dite_true] at hl ⊢
                  exact hl
                · have ho := hR.order j _ e (List.getElem?_eq_getElem hjl) he hb
                  exact ihj e.on ho (by omega)
              rw [hr] at hmem; cases hmem
        have := hall n (by omega)
        rw [hln] at this; cases this
      · obtain ⟨hun, o, ho, hdone⟩ := mem_ready.1 hi
        have ho' := ho
        rw [hget] at ho'
        have hil : i < L.length := by
          rcases Nat.lt_or_ge i L.length with h | h
          · exact h
          · rw [List.getElem?_eq_none h] at ho'; cases ho'
        unfold wpOp
        simp only [ho]
        have hw : Region.wanted o (yielded L.toArray b.tmps) = true := by simp [Region.wanted, hR.guard i o ho']
        rw [if_pos hw]
        left
        by_cases hin : i = n
        · subst hin
          rw [ht] at ho'
          cases ho'
          have hL1 : L.length - 1 = i := by omega
          have hall : ∀ j, j < L.length → j ≠ i → listed.getD j false = true := by
            have h := tail_all hT (C := fun k => k = i ∨ listed.getD k false = true) (fun k ok hok hk e he hb => by
              rcases hk with hk | hk
              · subst hk
                rw [ht] at hok
                cases hok
                exact .inr (hdone e he hb)
              · exact .inr (hC k ok hok hk e he hb)) (by rw [hL1]; exact .inl rfl)
            exact fun j hjl hji => (h j hjl).resolve_left hji
          have hF : FinBut dead (fun d => b.eval (.tmp d)) w Gs := slotG_fin_but (a := a) (by rw [hGs]; exact hnd) (fun d _ hdd => hG d (fun j oj hoj hdj => hall j (by have := hdst hoj hdj; omega) (by have := hdst hoj hdj; omega)) (fun h => by rw [hdd] at h; cases h))
          have hstep := hlast (fun d => b.eval (.tmp d)) b.eval w hF hj (fun d hd => by simp [Act.eval, hU d hd]) ⟨fun _ => rfl, fun _ => rfl, fun _ => rfl⟩ (fun _ => rfl)
          rw [laid_eq (a := b) (fun d hl => by simp [Act.eval, hl]) (L.take i) a hd1.symm hd2.symm (fun d hl => by
            by_cases hm : d ∈ dstsOf (L.take i)
            · exact .inr hm
            · exact .inl (hU d hm).symm)] at hstep
          refine wp_of_gives hstep fun v w' hq => ?_
          rw [htd]
          refine done _ _ _ _ (by simpa using hsz) (fun j hjl => ?_) hq
          by_cases hji : j = i
          · subst hji; simp [Array.getD, hsz, hil]
          · rw [getD_set_ne false (Ne.symm hji)]
            exact hall j hjl hji
        · have hlt : i < n := by omega
          have hunl : listed.getD i false = false := by
            simp only [Array.getD, hsz, hil, dite_true] at hun ⊢
            exact hun
          have hstep := steps_at_r hsteps (hput ho' hlt) b.eval w ⟨fun _ => rfl, fun _ => rfl, fun _ => rfl⟩ hj (reads_of fun d hd => hG d (fun j oj hoj hdj => by
            obtain ⟨e, he, hb, rfl⟩ := hR.waits i o j oj d ho' hoj hdj hd
            exact hdone e he hb) (fun hdd => by
            by_cases him : i = m
            · rw [← him]; exact hunl
            · rw [deadB_ok hdead ho' him hd] at hdd; cases hdd))
          rw [Nat.zero_add] at hstep
          refine wp_of_gives hstep fun v w' ⟨hv, hj', hr'⟩ => ?_
          have hcnt' : ((List.range L.length).filter (fun j => !(listed.setIfInBounds i true).getD j true)).length ≤ fuel := by
            have hlt : ((List.range L.length).filter (fun j => !(listed.setIfInBounds i true).getD j true)).length < ((List.range L.length).filter (fun j => !listed.getD j true)).length := by
              have e : (List.range L.length).filter (fun j => !(listed.setIfInBounds i true).getD j true) = ((List.range L.length).filter (fun j => !listed.getD j true)).filter (fun j => j != i) := by
                rw [List.filter_filter]
                apply List.filter_congr
                intro j hj
                by_cases hji : j = i
                · subst hji
                  have : (listed.setIfInBounds j true).getD j true = true := by simp [Array.getD, hsz, hil]
                  rw [this]; simp
                · rw [getD_set_ne true (Ne.symm hji)]
                  simp [hji]
              rw [e]
              apply List.length_filter_lt_length_iff_exists.2
              exact ⟨i, List.mem_filter.2 ⟨List.mem_range.2 hil, by simpa using hun⟩, by simp⟩
            omega
          refine ih (listed.setIfInBounds i true) _ w' (by simpa using hsz) (by rw [getD_set_ne false hin]; exact hln) hcnt' hj' ?_ ?_ (fun d hd hdd => ?_) (fun d hd => ?_) (fun k ok hok hk e he hb => ?_)
          · unfold Act.put; split <;> exact hd1
          · unfold Act.put; split <;> simpa using hd2
          · by_cases hod : o.dst = some d
            · rw [hod] at hv
              have hdn := hR.dst i o d ho' hod
              have : (b.put o.dst v).eval (.tmp d) = v := by
                rw [hod]
                simp [Act.put, Act.eval, hd2, hdn]
              rw [this]
              exact hv
            · have : (b.put o.dst v).eval (.tmp d) = b.eval (.tmp d) := Act.eval_put (fun e he => by
                intro hh
                injection hh with hh
                exact hod (by rw [he, hh]))
              rw [this]
              have hold : slotG Gs a d (b.eval (.tmp d)) w := by
                refine hG d (fun j oj hoj hdj => ?_) (fun hc => ?_)
                · have h3 := hd j oj hoj hdj
                  by_cases hji : j = i
                  · subst hji
                    rw [ho'] at hoj
                    cases hoj
                    exact absurd hdj hod
                  · rwa [getD_set_ne false (Ne.symm hji)] at h3
                · have h3 := hdd hc
                  by_cases hmi : m = i
                  · rw [hmi]; exact hunl
                  · rwa [getD_set_ne false (Ne.symm hmi)] at h3
              by_cases him : i = m
              · subst him
                cases hc : dead.contains d with
                | true =>
                  have h3 := hdd hc
                  simp [Array.getD, hsz, hil] at h3
                | false =>
                  have hqc : q.contains d = false := by
                    cases hqd : q.contains d with
                    | false => rfl
                    | true =>
                      rw [List.all_eq_true] at hq
                      have h4 := hq d (by simpa using hqd)
                      rw [hc, ho', Bool.false_or, beq_iff_eq] at h4
                      exact absurd h4 hod
                  exact slotG_stable_but hqc hstm hold hr'
              · exact slotG_stable (hst i him) hold hr'
          · have hne : o.dst ≠ some d := fun h => hd (List.mem_filterMap.2 ⟨o, List.mem_of_getElem? (hput ho' hlt), h⟩)
            have hU' := hU d hd
            unfold Act.put
            split
            · rename_i e he
              simp only
              rw [Array.getElem?_setIfInBounds_ne (fun h => hne (by rw [he, h]))]
              exact hU'
            · exact hU'
          · by_cases hei : e.on = i
            · rw [hei]
              simp [Array.getD, hsz, hil]
            · rw [getD_set_ne false (Ne.symm hei)]
              by_cases hki : k = i
              · subst hki
                rw [ho'] at hok
                cases hok
                exact hdone e he hb
              · rw [getD_set_ne false (Ne.symm hki)] at hk
                exact hC k ok hok hk e he hb
  have hnone : ∀ j, (Array.replicate L.toArray.size false).getD j false = false := fun j => by
    simp only [Array.getD]
    split <;> simp
  refine wp_region_any hm ?_
  refine main _ _ _ _ (by simp) (hnone n) ?_ hJ rfl rfl (fun d hd _ => ?_) (fun _ _ => rfl) (fun k ok _ hk => ?_)
  · have := List.length_filter_le (fun j => !(Array.replicate L.toArray.size false).getD j true) (List.range L.length)
    simpa using this
  · have : d ∉ Gs.map (·.1) := by
      rw [hGs]
      intro hm
      obtain ⟨o, ho, hdo⟩ := List.mem_filterMap.1 hm
      obtain ⟨j, hj⟩ := List.mem_iff_getElem?.1 ho
      have := hd j o (htake hj).1 hdo
      rw [hnone] at this; cases this
    rw [slotG_none this]
  · exfalso
    rw [hnone] at hk; cases hk
end
end Go.Proofs.Ytojmnfelecnenaa
