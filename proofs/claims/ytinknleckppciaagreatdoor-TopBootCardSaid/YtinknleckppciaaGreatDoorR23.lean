/- The stack's invariant, the rest: a request that ends, rounds; and how far the counters go. The player's pure model. gen_plmod.py prints this text. -/
import Derived.Test.YtinknleckppciaaGreatDoorR19
import Derived.Test.YtinknleckppciaaGreatDoorR22
import Derived.Test.YtinknleckppciaaGreatDoorR4
import Derived.Test.YtinknleckppciaaGreatDoorR6
namespace Go.Proofs.YtinknleckppciaaGreatDoor
set_option linter.unusedSimpArgs false
set_option linter.unusedVariables false

namespace St
/-- The disk has a request once more, behind a fault. -/
def again (s : St) (k : Nat) (r : Rq) : St := { s with v := ⟨{ s.v.d with l := s.v.d.l.eraseIdx k ++ [r] }, upd s.v.tries (tagOf r) (s.v.tries (tagOf r) + 1)⟩ }
/-- The disk has given up a request. -/
def gone (s : St) (k : Nat) (r : Rq) : St := { s with v := ⟨s.v.d.drop k, upd s.v.tries (tagOf r) 0⟩ }
/-- The disk has done a request. -/
def did (s : St) (k : Nat) (r : Rq) : St := { s with v := ⟨(s.v.d.ended r k false).1, upd s.v.tries (tagOf r) 0⟩ }
/-- What goes to the sectors at hand when a request is done. -/
def outs (s : St) (r : Rq) : List ByteArray := if r.write then r.data else s.v.d.reads r.lo.toNat r.many.toNat
theorem end_none (s : St) {i : Int} (f : Bool) (h : i < 0 ∨ (s.v.d.l.length : Int) ≤ i) : s.end_ i f = (s, 5) := by
  unfold St.end_
  rw [drvEndAt_none _ _ _ h]
  rfl
theorem start_again {d : Dv} {k : Nat} {r : Rq} (h : d.l[k]? = some r) (h2 : d.l.length ≤ 2) : ((d.drop k).start r).1 = { d with l := d.l.eraseIdx k ++ [r] } := by
  have hk := (List.getElem?_eq_some_iff.1 h).1
  have : (d.drop k).l.length ≤ 1 := by unfold Dv.drop; rw [List.length_eraseIdx]; split <;> omega
  unfold Dv.start
  rw [if_neg (by omega)]
  rfl
theorem end_again {s : St} {k : Nat} {r : Rq} (h : s.v.d.l[k]? = some r) (h2 : s.v.d.l.length ≤ 2) (h3 : s.v.tries (tagOf r) + 1 < 3) : s.end_ (k : Int) true = (s.again k r, 0) := by
  unfold St.end_
  rw [drvEndAt_again _ _ _ h h2 h3]
  simp only [start_again h h2, if_true]
  rfl
theorem end_gone {s : St} {k : Nat} {r : Rq} (h : s.v.d.l[k]? = some r) (h3 : ¬ s.v.tries (tagOf r) + 1 < 3) : s.end_ (k : Int) true = (((s.gone k r).wrong r).serve, 0) := by
  unfold St.end_
  rw [drvEndAt_gone _ _ _ h h3]
  rfl
theorem ended_res (d : Dv) (r : Rq) (k : Nat) : (d.ended r k false).2 = ⟨r, if r.write then [] else d.reads r.lo.toNat r.many.toNat, 0⟩ := by
  unfold Dv.ended
  rw [if_neg (by simp)]
  split <;> rfl
theorem end_ok {s : St} {k : Nat} {r : Rq} (h : s.v.d.l[k]? = some r) : s.end_ (k : Int) false = (((s.did k r).endedN r.write r.lo (s.outs r) r.many.toNat).serve, 0) := by
  unfold St.end_
  rw [drvEndAt_ok _ _ _ h]
  simp only [ended_res]
  rw [if_neg (by decide), if_neg (by decide)]
  have : (if r.write = true then r.data else if r.write = true then [] else s.v.d.reads r.lo.toNat r.many.toNat) = s.outs r := by
    unfold outs; split <;> rfl
  rw [this]
  rfl
/-- What a step of End comes to. -/
inductive Ended (s : St) (i : Int) (f : Bool) : St → Nat → Prop
  | none (h : i < 0 ∨ (s.v.d.l.length : Int) ≤ i) : Ended s i f s 5
  | again (k : Nat) (r : Rq) (h : s.v.d.l[k]? = some r) (hi : i = (k : Int)) (hf : f = true) (h3 : s.v.tries (tagOf r) + 1 < 3) : Ended s i f (s.again k r) 0
  | gone (k : Nat) (r : Rq) (h : s.v.d.l[k]? = some r) (hi : i = (k : Int)) (hf : f = true) (h3 : ¬ s.v.tries (tagOf r) + 1 < 3) : Ended s i f ((s.gone k r).wrong r).serve 0
  | ok (k : Nat) (r : Rq) (h : s.v.d.l[k]? = some r) (hi : i = (k : Int)) (hf : f = false) : Ended s i f ((s.did k r).endedN r.write r.lo (s.outs r) r.many.toNat).serve 0
theorem ended_of (s : St) (i : Int) (f : Bool) (h2 : s.v.d.l.length ≤ 2) : Ended s i f (s.end_ i f).1 (s.end_ i f).2 := by
  rcases endAt_split s.v.d i with hi | ⟨k, r, rfl, hk⟩
  · rw [end_none s f hi]; exact .none hi
  · cases f with
    | true =>
      by_cases h3 : s.v.tries (tagOf r) + 1 < 3
      · rw [end_again hk h2 h3]; exact .again k r hk rfl rfl h3
      · rw [end_gone hk h3]; exact .gone k r hk rfl rfl h3
    | false => rw [end_ok hk]; exact .ok k r hk rfl rfl
end St

/-- What an answer, a read and the like leave as it was. -/
structure Keeps (s t : St) : Prop where
  wait : t.wait = s.wait
  l : t.v.d.l = s.v.d.l
theorem Keeps.refl (s : St) : Keeps s s := ⟨rfl, rfl⟩
theorem Keeps.trans {a b c : St} (h : Keeps a b) (k : Keeps b c) : Keeps a c := ⟨k.wait.trans h.wait, k.l.trans h.l⟩
theorem Keeps.answer (s : St) (c : Nat) (d : ByteArray) (e : Nat) : Keeps s (s.answer c d e) := ⟨rfl, rfl⟩
theorem Keeps.tell1 (p : Int) (d : ByteArray) (s : St) (c : Nat) : Keeps s (St.tell1 p d s c) := by
  unfold St.tell1; split
  · exact .refl s
  · split
    · exact .answer ..
    · exact .refl s
theorem Keeps.tell (s : St) (p : Int) (d : ByteArray) : Keeps s (s.tell p d) := ((Keeps.tell1 p d s 0).trans (.tell1 p d _ 1)).trans (.tell1 p d _ 2)
theorem Keeps.wrong1 (r : Rq) (s : St) (c : Nat) : Keeps s (St.wrong1 r s c) := by
  unfold St.wrong1; split
  · exact .refl s
  · split
    · exact .answer ..
    · exact .refl s
theorem Keeps.ended1 (s : St) (w : Bool) (p : Int) (d : ByteArray) : Keeps s (s.ended1 w p d) := by
  unfold St.ended1; split
  · exact ⟨rfl, rfl⟩
  · split
    · exact .refl s
    · exact Keeps.trans (b := { s with use := s.use + 1, bufs := (putB s.bufs ⟨p, d, false, s.use + 1⟩ s.heldP).getD s.bufs }) ⟨rfl, rfl⟩ (.tell ..)
theorem Keeps.endedN (s : St) (w : Bool) (lo : Int) (l : List ByteArray) : ∀ n, Keeps s (s.endedN w lo l n)
  | 0 => .refl s
  | n + 1 => (Keeps.endedN s w lo l n).trans (.ended1 ..)
theorem Keeps.held {s t : St} (h : Keeps s t) (p : Int) : t.heldP p = s.heldP p := by unfold St.heldP; rw [h.wait, h.l]
theorem getD_size {l : List ByteArray} {B : Nat} (h : ∀ d ∈ l, d.size ≤ B) (k : Nat) : (l.getD k noB).size ≤ B := by
  rw [List.getD_eq_getElem?_getD]
  cases hk : l[k]? with
  | none => exact Nat.zero_le _
  | some d => exact h d (List.mem_of_getElem? hk)
theorem reads_size {d : Dv} (h : DvOk d) (p n : Nat) : ∀ s ∈ d.reads p n, s.size ≤ 16 := fun s hs => h.nowS s (List.mem_of_mem_drop (List.mem_of_mem_take hs))
theorem wrote_l (d : Dv) (p : Nat) (l : List ByteArray) : (d.wrote p l).l = d.l := (Dv.wrote_same l d p).2.1
theorem ended_l (d : Dv) (r : Rq) (k : Nat) (f : Bool) : (d.ended r k f).1.l = d.l.eraseIdx k := by
  unfold Dv.ended
  split
  · rfl
  · split
    · exact wrote_l _ _ _
    · rfl
theorem mem_er {α : Type} {a : α} {l : List α} {k : Nat} (h : a ∈ l.eraseIdx k) : a ∈ l := List.mem_of_mem_eraseIdx h
theorem pair_er {R : Rq → Rq → Prop} {a b : List Rq} (k : Nat) (h : (a ++ b).Pairwise R) : (a ++ b.eraseIdx k).Pairwise R := h.sublist (List.Sublist.append_left (List.eraseIdx_sublist ..) _)
theorem good_er {a b : List Rq} {k : Nat} (h : goodReqs (a ++ b) = true) : goodReqs (a ++ b.eraseIdx k) = true := by
  rw [good_iff] at h ⊢
  exact ⟨fun r hr => h.1 r ((List.mem_append.1 hr).elim (fun h => List.mem_append.2 (.inl h)) (fun h => List.mem_append.2 (.inr (mem_er h)))), pair_er k h.2⟩
theorem InW.er {a b : List Rq} {k : Nat} {p : Int} {e : ByteArray} (h : InW (a ++ b.eraseIdx k) p e) : InW (a ++ b) p e := by
  obtain ⟨r, hr, hx⟩ := h
  exact ⟨r, (List.mem_append.1 hr).elim (fun h => List.mem_append.2 (.inl h)) (fun h => List.mem_append.2 (.inr (mem_er h))), hx⟩
/-- What the disk no longer has is in no other request. -/
theorem apart_rest {a b : List Rq} {k : Nat} {r : Rq} (h : goodReqs (a ++ b) = true) (hk : b[k]? = some r) : ∀ y ∈ a ++ b.eraseIdx k, Apart y r := by
  intro y hy
  have hr := List.mem_of_getElem? hk
  rcases List.mem_append.1 hy with h1 | h1
  · exact (good_app.1 h).2.2 y h1 r hr
  · obtain ⟨hg1, hg2, _⟩ := good_app.1 h
    obtain ⟨j, hj⟩ := List.mem_iff_getElem?.1 h1
    rw [List.getElem?_eraseIdx] at hj
    split at hj
    · exact good_two hg2 (by omega) hj hk
    · exact (good_two hg2 (by omega) hk hj).symm
theorem not_held {a b : List Rq} {k : Nat} {r : Rq} (h : goodReqs (a ++ b) = true) (hk : b[k]? = some r) {p : Int} (hp : hasB r.lo r.many p = true) : heldL' (a ++ b.eraseIdx k) p = false := by
  have hg := good_er (k := k) h
  have hr := good_oks h r (List.mem_append.2 (.inr (List.mem_of_getElem? hk)))
  rw [Bool.eq_false_iff]
  intro hh
  obtain ⟨y, hy, hyp⟩ := held_iff.1 hh
  exact (apart_iff (good_oks hg y hy) hr).1 (apart_rest h hk y hy) p ⟨hyp, hp⟩
namespace Inv
variable {s : St}
theorem upd_ok (h : Inv s) (j : Int) {n : Int} (hn : 0 ≤ n ∧ n ≤ 2) : ∀ i, 0 ≤ upd s.v.tries j n i ∧ upd s.v.tries j n i ≤ 2 := fun i => by
  unfold upd
  split
  · exact hn
  · exact h.tries i
theorem again (h : Inv s) {k : Nat} {r : Rq} (hk : s.v.d.l[k]? = some r) (h3 : s.v.tries (tagOf r) + 1 < 3) : Inv (s.again k r) := by
  have hrl := List.mem_of_getElem? hk
  have hp : (s.v.d.l.eraseIdx k ++ [r]).Perm s.v.d.l := (perm_back hk).symm
  have hpp : (s.wait ++ (s.v.d.l.eraseIdx k ++ [r])).Perm (s.wait ++ s.v.d.l) := List.Perm.append_left _ hp
  exact { h with
    dv := ⟨h.dv.kept, h.dv.now, h.dv.keptS, h.dv.nowS, h.dv.waits, fun y hy => h.dv.l y (hp.mem_iff.1 hy), by
      show (s.v.d.l.eraseIdx k ++ [r]).length ≤ 2
      rw [hp.length_eq]; exact h.dv.two⟩
    tries := h.upd_ok _ (by have := h.tries (tagOf r); omega)
    good := good_perm hpp.symm h.good
    hand := fun p e hi => h.hand p e ((InW.perm hpp).1 hi) }
theorem gone (h : Inv s) {k : Nat} {r : Rq} (hk : s.v.d.l[k]? = some r) : Inv (s.gone k r) :=
  { h with
    dv := h.dv.drop k
    tries := h.upd_ok _ (by omega)
    good := good_er h.good
    hand := fun p e hi => h.hand p e (InW.er hi) }
theorem did (h : Inv s) {k : Nat} {r : Rq} (hk : s.v.d.l[k]? = some r) : Inv (s.did k r) := by
  have hr := reqF_zero (h.dv.l r (List.mem_of_getElem? hk))
  exact { h with
    dv := (h.dv.ended hr k false).1
    tries := h.upd_ok _ (by omega)
    good := by show goodReqs (s.wait ++ (s.v.d.ended r k false).1.l) = true; rw [ended_l]; exact good_er h.good
    hand := fun p e hi => h.hand p e (by
      have hi' : InW (s.wait ++ (s.v.d.ended r k false).1.l) p e := hi
      rw [ended_l] at hi'; exact InW.er hi') }
theorem outs_size (h : Inv s) {k : Nat} {r : Rq} (hk : s.v.d.l[k]? = some r) : ∀ d ∈ s.outs r, d.size ≤ 16 := by
  have hr := reqF_zero (h.dv.l r (List.mem_of_getElem? hk))
  unfold St.outs
  split
  · exact fun d hd => Nat.le_trans (hr.size d hd) (by omega)
  · exact reads_size h.dv _ _
theorem did_free (h : Inv s) {k : Nat} {r : Rq} (hk : s.v.d.l[k]? = some r) {p : Int} (hp : hasB r.lo r.many p = true) : (s.did k r).heldP p = false := by
  rw [heldP_eq]
  show heldL' (s.wait ++ (s.v.d.ended r k false).1.l) p = false
  rw [ended_l]; exact not_held h.good hk hp
theorem endedN (h : Inv s) {k : Nat} {r : Rq} (hk : s.v.d.l[k]? = some r) : ∀ n, n ≤ r.many.toNat → Inv ((s.did k r).endedN r.write r.lo (s.outs r) n)
  | 0, _ => h.did hk
  | n + 1, hn => by
    have hr := reqF_zero (h.dv.l r (List.mem_of_getElem? hk))
    obtain ⟨a1, a2, a3, a4, a5⟩ := hr.span
    refine (Inv.endedN h hk n (by omega)).ended1 (by omega) (getD_size (h.outs_size hk) n) (fun _ => ?_)
    rw [(Keeps.endedN _ _ _ _ n).held]
    exact h.did_free hk (by rw [hasB_iff]; omega)
theorem ended (h : Inv s) {i : Int} {f : Bool} {t : St} {e : Nat} (hE : St.Ended s i f t e) : Inv t := by
  cases hE with
  | none _ => exact h
  | again k r hk _ _ h3 => exact h.again hk h3
  | gone k r hk _ _ _ => exact ((h.gone hk).wrong r).serve
  | ok k r hk _ _ => exact (h.endedN hk _ (Nat.le_refl _)).serve
theorem end_ (h : Inv s) (i : Int) (f : Bool) : Inv (s.end_ i f).1 := h.ended (St.ended_of s i f h.dv.two)
theorem round (h : Inv s) : Inv s.round := h.tick.clean.go.end_ 0 false
theorem settle : ∀ {n : Nat} {s : St}, Inv s → Inv (St.settle n s).1
  | 0, _, h => h
  | n + 1, s, h => by
    unfold St.settle
    split
    · exact h
    · exact Inv.settle h.round
end Inv

/-- How far the counters are. -/
structure Bd (K : Int) (s : St) : Prop where
  use : s.use ≤ K
  tag : s.tag ≤ K
  waits : (s.v.d.waits.length : Int) ≤ K
namespace Bd
variable {K : Int} {s : St}
theorem mono {L : Int} (h : Bd K s) (hl : K ≤ L) : Bd L s := ⟨Int.le_trans h.use hl, Int.le_trans h.tag hl, Int.le_trans h.waits hl⟩
theorem answer (h : Bd K s) (c : Nat) (d : ByteArray) (e : Nat) : Bd K (s.answer c d e) := ⟨h.use, h.tag, h.waits⟩
theorem queue (h : Bd K s) (w : Bool) (p : Int) (d : ByteArray) : Bd (K + 1) (s.queue w p d).1 := by
  unfold St.queue
  split
  · exact ⟨by have := h.use; show s.use ≤ _; omega, by have := h.tag; show s.tag + 1 ≤ _; omega, by have := h.waits; show (s.v.d.waits.length : Int) ≤ _; omega⟩
  · exact h.mono (by omega)
theorem useN (h : Bd K s) (m : List Bf) : Bd (K + 1) { s with use := s.use + 1, bufs := m } := ⟨by have := h.use; show s.use + 1 ≤ _; omega, by have := h.tag; show s.tag ≤ _; omega, by have := h.waits; show (s.v.d.waits.length : Int) ≤ _; omega⟩
theorem read (h : Bd K s) (c : Nat) (a : Ak) : Bd (K + 1) (s.read c a) := by
  unfold St.read
  split
  · exact (h.useN _).answer _ _ _
  · split
    · exact h.mono (by omega)
    · exact h.queue _ _ _
theorem write (h : Bd K s) (c : Nat) (a : Ak) : Bd (K + 1) (s.write c a) := by
  unfold St.write
  split
  · exact (h.answer _ _ _).mono (by omega)
  · split
    · exact h.mono (by omega)
    · split
      · exact (h.useN _).answer _ _ _
      · exact h.useN s.bufs
theorem sync (h : Bd K s) (c : Nat) (a : Ak) (h0 : 0 ≤ K) : Bd K (s.sync c a) := by
  unfold St.sync
  split
  · exact h.answer _ _ _
  · split
    · exact ⟨h.use, h.tag, by show ((0 : Nat) : Int) ≤ K; omega⟩
    · exact ⟨h.use, h.tag, h.waits⟩
theorem serve1 (h : Bd K s) (c : Nat) (h0 : 0 ≤ K) : Bd (K + 1) (s.serve1 c) := by
  unfold St.serve1
  split
  · exact h.mono (by omega)
  · split
    · exact h.read _ _
    · split
      · exact h.write _ _
      · split
        · exact (h.sync _ _ h0).mono (by omega)
        · exact h.mono (by omega)
theorem serve (h : Bd K s) (h0 : 0 ≤ K) : Bd (K + 3) s.serve := (((h.serve1 0 h0).serve1 1 (by omega)).serve1 2 (by omega)).mono (by omega)
theorem ask (h : Bd K s) (h0 : 0 ≤ K) (client kind p : Int) (d : ByteArray) : Bd (K + 3) (s.ask client kind p d).1 := by
  unfold St.ask
  split
  · exact h.mono (by omega)
  · split
    · exact h.mono (by omega)
    · split
      · exact h.mono (by omega)
      · exact Bd.serve (s := { s with asks := s.asks.set client.toNat _ }) ⟨h.use, h.tag, h.waits⟩ h0
theorem tick (h : Bd K s) (h0 : 0 ≤ K) : Bd (K + 3) s.tick := Bd.serve (s := { s with now := min (s.now + 1) 1000000000 }) ⟨h.use, h.tag, h.waits⟩ h0
theorem clean (h : Bd K s) : Bd (K + 1) s.clean.1 := by
  unfold St.clean
  split
  · exact h.mono (by omega)
  · split
    · exact h.mono (by omega)
    · exact h.queue _ _ _
theorem dispatch (h : Bd K s) : Bd K s.dispatch.1 := by
  unfold St.dispatch
  split
  · exact h
  · exact ⟨h.use, h.tag, by show ((s.v.d.start _).1.waits.length : Int) ≤ K; rw [start_waits]; exact h.waits⟩
theorem tell1 (h : Bd K s) (p : Int) (d : ByteArray) (c : Nat) : Bd K (St.tell1 p d s c) := by
  unfold St.tell1
  split
  · exact h
  · split
    · exact h.answer ..
    · exact h
theorem tell (h : Bd K s) (p : Int) (d : ByteArray) : Bd K (s.tell p d) := ((h.tell1 p d 0).tell1 p d 1).tell1 p d 2
theorem wrong1 (h : Bd K s) (r : Rq) (c : Nat) : Bd K (St.wrong1 r s c) := by
  unfold St.wrong1
  split
  · exact h
  · split
    · exact h.answer ..
    · exact h
theorem wrong (h : Bd K s) (r : Rq) : Bd K (s.wrong r) := (((Bd.mk (s := { s with dead := s.dead || r.write }) h.use h.tag h.waits).wrong1 r 0).wrong1 r 1).wrong1 r 2
theorem ended1 (h : Bd K s) (w : Bool) (p : Int) (d : ByteArray) : Bd (K + 1) (s.ended1 w p d) := by
  unfold St.ended1
  split
  · exact ⟨by have := h.use; show s.use ≤ _; omega, by have := h.tag; show s.tag ≤ _; omega, by have := h.waits; show (s.v.d.waits.length : Int) ≤ _; omega⟩
  · split
    · exact h.mono (by omega)
    · exact (h.useN _).tell _ _
theorem endedN (h : Bd K s) (w : Bool) (lo : Int) (l : List ByteArray) : ∀ n : Nat, Bd (K + n) (s.endedN w lo l n)
  | 0 => h.mono (by omega)
  | n + 1 => ((Bd.endedN h w lo l n).ended1 _ _ _).mono (by omega)
theorem ended (h : Bd K s) (h0 : 0 ≤ K) (hI : Inv s) {i : Int} {f : Bool} {t : St} {e : Nat} (hE : St.Ended s i f t e) : Bd (K + 11) t := by
  cases hE with
  | none _ => exact h.mono (by omega)
  | again k r hk _ _ h3 => exact (Bd.mk (s := s.again k r) h.use h.tag h.waits).mono (by omega)
  | gone k r hk _ _ _ => exact ((Bd.wrong (s := s.gone k r) ⟨h.use, h.tag, h.waits⟩ r).serve h0).mono (by omega)
  | ok k r hk _ _ =>
    have hr := reqF_zero (hI.dv.l r (List.mem_of_getElem? hk))
    obtain ⟨a1, a2, a3, a4, a5⟩ := hr.span
    have h1 := (hI.dv.ended hr k false).2
    have h2 : Bd (K + 4) (s.did k r) := ⟨by have := h.use; show s.use ≤ _; omega, by have := h.tag; show s.tag ≤ _; omega, by have := h.waits; show ((s.v.d.ended r k false).1.waits.length : Int) ≤ _; omega⟩
    exact ((h2.endedN r.write r.lo (s.outs r) r.many.toNat).serve (by omega)).mono (by omega)
theorem end_ (h : Bd K s) (h0 : 0 ≤ K) (hI : Inv s) (i : Int) (f : Bool) : Bd (K + 11) (s.end_ i f).1 := h.ended h0 hI (St.ended_of s i f hI.dv.two)
theorem round (h : Bd K s) (h0 : 0 ≤ K) (hI : Inv s) : Bd (K + 15) s.round := ((((h.tick h0).clean).dispatch.dispatch).end_ (by omega) hI.tick.clean.go 0 false).mono (by omega)
theorem settle : ∀ {n : Nat} {K : Int} {s : St}, Bd K s → 0 ≤ K → Inv s → Bd (K + 15 * n) (St.settle n s).1
  | 0, K, s, h, _, _ => h.mono (by omega)
  | n + 1, K, s, h, h0, hI => by
    unfold St.settle
    split
    · exact h.mono (by omega)
    · exact (Bd.settle (h.round h0 hI) (by omega) hI.round).mono (by omega)
end Bd
theorem ans_ne {s : St} {c j : Nat} (h : j ≠ c) (d : ByteArray) (e : Nat) : (s.answer c d e).askAt j = s.askAt j := by
  unfold St.askAt St.answer
  simp only [List.getD_eq_getElem?_getD]
  rw [List.getElem?_set_ne (Ne.symm h)]
theorem read_ne (s : St) {c j : Nat} (hj : j ≠ c) (a : Ak) : (s.read c a).askAt j = s.askAt j := by
  unfold St.read
  split
  · exact ans_ne hj _ _
  · split
    · rfl
    · unfold St.queue; split <;> rfl
theorem write_ne (s : St) {c j : Nat} (hj : j ≠ c) (a : Ak) : (s.write c a).askAt j = s.askAt j := by
  unfold St.write
  split
  · exact ans_ne hj _ _
  · split
    · rfl
    · split
      · exact ans_ne hj _ _
      · rfl
theorem set_ne {l : List (Option Ak)} {c j : Nat} (hj : j ≠ c) (o : Option Ak) : (l.set c o).getD j none = l.getD j none := by
  simp only [List.getD_eq_getElem?_getD]
  rw [List.getElem?_set_ne (Ne.symm hj)]
theorem sync_ne (s : St) {c j : Nat} (hj : j ≠ c) (a : Ak) : (s.sync c a).askAt j = s.askAt j := by
  unfold St.sync
  split
  · exact ans_ne hj _ _
  · split
    · exact ans_ne hj _ _
    · exact set_ne hj _
theorem serve1_ne (s : St) {c j : Nat} (hj : j ≠ c) : (s.serve1 c).askAt j = s.askAt j := by
  unfold St.serve1
  split
  · rfl
  · split
    · exact read_ne s hj _
    · split
      · exact write_ne s hj _
      · split
        · exact sync_ne s hj _
        · rfl
theorem serve1_none {s : St} {c : Nat} (h : s.askAt c = none) : s.serve1 c = s := by unfold St.serve1; rw [h]
theorem serve1_nn (s : St) (c : Nat) {j : Nat} (h : s.askAt j = none) : (s.serve1 c).askAt j = none := by
  by_cases hj : j = c
  · subst hj; rw [serve1_none h]; exact h
  · rw [serve1_ne s hj]; exact h
/-- The first clients are served. -/
def serveN (s : St) : Nat → St
  | 0 => s
  | n + 1 => (serveN s n).serve1 n
theorem serveN_3 (s : St) : serveN s 3 = s.serve := rfl
theorem serveN_ge (s : St) : ∀ (n j : Nat), n ≤ j → (serveN s n).askAt j = s.askAt j
  | 0, _, _ => rfl
  | n + 1, j, h => by rw [serveN, serve1_ne _ (by omega), serveN_ge s n j (by omega)]
theorem serveN_nn (s : St) : ∀ (n j : Nat), s.askAt j = none → (serveN s n).askAt j = none
  | 0, _, h => h
  | n + 1, j, h => by rw [serveN]; exact serve1_nn _ _ (serveN_nn s n j h)
theorem Inv.serveN {s : St} (h : Inv s) : ∀ n, Inv (Go.Proofs.YtinknleckppciaaGreatDoor.serveN s n)
  | 0 => h
  | n + 1 => (Inv.serveN h n).serve1 n
theorem Bd.serveN {K : Int} {s : St} (h : Bd K s) (h0 : 0 ≤ K) : ∀ n : Nat, Bd (K + n) (Go.Proofs.YtinknleckppciaaGreatDoor.serveN s n)
  | 0 => h.mono (by omega)
  | n + 1 => ((Bd.serveN h h0 n).serve1 n (by omega)).mono (by omega)
theorem tell1_none {s : St} {c : Nat} {p : Int} {d : ByteArray} (h : s.askAt c = none) : St.tell1 p d s c = s := by unfold St.tell1; rw [h]
theorem wrong1_none {s : St} {c : Nat} {r : Rq} (h : s.askAt c = none) : St.wrong1 r s c = s := by unfold St.wrong1; rw [h]
theorem tell1_ne (s : St) {c j : Nat} (hj : j ≠ c) (p : Int) (d : ByteArray) : (St.tell1 p d s c).askAt j = s.askAt j := by
  unfold St.tell1; split
  · rfl
  · split
    · exact ans_ne hj _ _
    · rfl
theorem wrong1_ne (s : St) {c j : Nat} (hj : j ≠ c) (r : Rq) : (St.wrong1 r s c).askAt j = s.askAt j := by
  unfold St.wrong1; split
  · rfl
  · split
    · exact ans_ne hj _ _
    · rfl
end Go.Proofs.YtinknleckppciaaGreatDoor
namespace Go.Proofs.YtinknleckppciaaGreatDoor
set_option linter.unusedVariables false
open Go.RowKit

inductive Pc | read | write | sync | got | tick | clean | dispatch | end_ | fault | round | settle | queue | busy | dirty | crash | other
  deriving DecidableEq
def pcOf (w : ByteArray) : Pc :=
  if w.toList == [114, 101, 97, 100] then .read
  else if w.toList == [119, 114, 105, 116, 101] then .write
  else if w.toList == [115, 121, 110, 99] then .sync
  else if w.toList == [103, 111, 116] then .got
  else if w.toList == [116, 105, 99, 107] then .tick
  else if w.toList == [99, 108, 101, 97, 110] then .clean
  else if w.toList == [100, 105, 115, 112, 97, 116, 99, 104] then .dispatch
  else if w.toList == [101, 110, 100] then .end_
  else if w.toList == [102, 97, 117, 108, 116] then .fault
  else if w.toList == [114, 111, 117, 110, 100] then .round
  else if w.toList == [115, 101, 116, 116, 108, 101] then .settle
  else if w.toList == [113, 117, 101, 117, 101] then .queue
  else if w.toList == [98, 117, 115, 121] then .busy
  else if w.toList == [100, 105, 114, 116, 121] then .dirty
  else if w.toList == [99, 114, 97, 115, 104] then .crash
  else .other
theorem pc_read {w : ByteArray} (h : (w.toList == [114, 101, 97, 100]) = true) : pcOf w = .read := by unfold pcOf; simp only [h]; rfl
theorem pc_write {w : ByteArray} (h0 : (w.toList == [114, 101, 97, 100]) = false) (h : (w.toList == [119, 114, 105, 116, 101]) = true) : pcOf w = .write := by unfold pcOf; simp only [h0, h]; rfl
theorem pc_sync {w : ByteArray} (h0 : (w.toList == [114, 101, 97, 100]) = false) (h1 : (w.toList == [119, 114, 105, 116, 101]) = false) (h : (w.toList == [115, 121, 110, 99]) = true) : pcOf w = .sync := by unfold pcOf; simp only [h0, h1, h]; rfl
theorem pc_got {w : ByteArray} (h0 : (w.toList == [114, 101, 97, 100]) = false) (h1 : (w.toList == [119, 114, 105, 116, 101]) = false) (h2 : (w.toList == [115, 121, 110, 99]) = false) (h : (w.toList == [103, 111, 116]) = true) : pcOf w = .got := by unfold pcOf; simp only [h0, h1, h2, h]; rfl
theorem pc_tick {w : ByteArray} (h0 : (w.toList == [114, 101, 97, 100]) = false) (h1 : (w.toList == [119, 114, 105, 116, 101]) = false) (h2 : (w.toList == [115, 121, 110, 99]) = false) (h3 : (w.toList == [103, 111, 116]) = false) (h : (w.toList == [116, 105, 99, 107]) = true) : pcOf w = .tick := by unfold pcOf; simp only [h0, h1, h2, h3, h]; rfl
theorem pc_clean {w : ByteArray} (h0 : (w.toList == [114, 101, 97, 100]) = false) (h1 : (w.toList == [119, 114, 105, 116, 101]) = false) (h2 : (w.toList == [115, 121, 110, 99]) = false) (h3 : (w.toList == [103, 111, 116]) = false) (h4 : (w.toList == [116, 105, 99, 107]) = false) (h : (w.toList == [99, 108, 101, 97, 110]) = true) : pcOf w = .clean := by unfold pcOf; simp only [h0, h1, h2, h3, h4, h]; rfl
theorem pc_dispatch {w : ByteArray} (h0 : (w.toList == [114, 101, 97, 100]) = false) (h1 : (w.toList == [119, 114, 105, 116, 101]) = false) (h2 : (w.toList == [115, 121, 110, 99]) = false) (h3 : (w.toList == [103, 111, 116]) = false) (h4 : (w.toList == [116, 105, 99, 107]) = false) (h5 : (w.toList == [99, 108, 101, 97, 110]) = false) (h : (w.toList == [100, 105, 115, 112, 97, 116, 99, 104]) = true) : pcOf w = .dispatch := by unfold pcOf; simp only [h0, h1, h2, h3, h4, h5, h]; rfl
theorem pc_end_ {w : ByteArray} (h0 : (w.toList == [114, 101, 97, 100]) = false) (h1 : (w.toList == [119, 114, 105, 116, 101]) = false) (h2 : (w.toList == [115, 121, 110, 99]) = false) (h3 : (w.toList == [103, 111, 116]) = false) (h4 : (w.toList == [116, 105, 99, 107]) = false) (h5 : (w.toList == [99, 108, 101, 97, 110]) = false) (h6 : (w.toList == [100, 105, 115, 112, 97, 116, 99, 104]) = false) (h : (w.toList == [101, 110, 100]) = true) : pcOf w = .end_ := by unfold pcOf; simp only [h0, h1, h2, h3, h4, h5, h6, h]; rfl
theorem pc_fault {w : ByteArray} (h0 : (w.toList == [114, 101, 97, 100]) = false) (h1 : (w.toList == [119, 114, 105, 116, 101]) = false) (h2 : (w.toList == [115, 121, 110, 99]) = false) (h3 : (w.toList == [103, 111, 116]) = false) (h4 : (w.toList == [116, 105, 99, 107]) = false) (h5 : (w.toList == [99, 108, 101, 97, 110]) = false) (h6 : (w.toList == [100, 105, 115, 112, 97, 116, 99, 104]) = false) (h7 : (w.toList == [101, 110, 100]) = false) (h : (w.toList == [102, 97, 117, 108, 116]) = true) : pcOf w = .fault := by unfold pcOf; simp only [h0, h1, h2, h3, h4, h5, h6, h7, h]; rfl
theorem pc_round {w : ByteArray} (h0 : (w.toList == [114, 101, 97, 100]) = false) (h1 : (w.toList == [119, 114, 105, 116, 101]) = false) (h2 : (w.toList == [115, 121, 110, 99]) = false) (h3 : (w.toList == [103, 111, 116]) = false) (h4 : (w.toList == [116, 105, 99, 107]) = false) (h5 : (w.toList == [99, 108, 101, 97, 110]) = false) (h6 : (w.toList == [100, 105, 115, 112, 97, 116, 99, 104]) = false) (h7 : (w.toList == [101, 110, 100]) = false) (h8 : (w.toList == [102, 97, 117, 108, 116]) = false) (h : (w.toList == [114, 111, 117, 110, 100]) = true) : pcOf w = .round := by unfold pcOf; simp only [h0, h1, h2, h3, h4, h5, h6, h7, h8, h]; rfl
theorem pc_settle {w : ByteArray} (h0 : (w.toList == [114, 101, 97, 100]) = false) (h1 : (w.toList == [119, 114, 105, 116, 101]) = false) (h2 : (w.toList == [115, 121, 110, 99]) = false) (h3 : (w.toList == [103, 111, 116]) = false) (h4 : (w.toList == [116, 105, 99, 107]) = false) (h5 : (w.toList == [99, 108, 101, 97, 110]) = false) (h6 : (w.toList == [100, 105, 115, 112, 97, 116, 99, 104]) = false) (h7 : (w.toList == [101, 110, 100]) = false) (h8 : (w.toList == [102, 97, 117, 108, 116]) = false) (h9 : (w.toList == [114, 111, 117, 110, 100]) = false) (h : (w.toList == [115, 101, 116, 116, 108, 101]) = true) : pcOf w = .settle := by unfold pcOf; simp only [h0, h1, h2, h3, h4, h5, h6, h7, h8, h9, h]; rfl
theorem pc_queue {w : ByteArray} (h0 : (w.toList == [114, 101, 97, 100]) = false) (h1 : (w.toList == [119, 114, 105, 116, 101]) = false) (h2 : (w.toList == [115, 121, 110, 99]) = false) (h3 : (w.toList == [103, 111, 116]) = false) (h4 : (w.toList == [116, 105, 99, 107]) = false) (h5 : (w.toList == [99, 108, 101, 97, 110]) = false) (h6 : (w.toList == [100, 105, 115, 112, 97, 116, 99, 104]) = false) (h7 : (w.toList == [101, 110, 100]) = false) (h8 : (w.toList == [102, 97, 117, 108, 116]) = false) (h9 : (w.toList == [114, 111, 117, 110, 100]) = false) (h10 : (w.toList == [115, 101, 116, 116, 108, 101]) = false) (h : (w.toList == [113, 117, 101, 117, 101]) = true) : pcOf w = .queue := by unfold pcOf; simp only [h0, h1, h2, h3, h4, h5, h6, h7, h8, h9, h10, h]; rfl
theorem pc_busy {w : ByteArray} (h0 : (w.toList == [114, 101, 97, 100]) = false) (h1 : (w.toList == [119, 114, 105, 116, 101]) = false) (h2 : (w.toList == [115, 121, 110, 99]) = false) (h3 : (w.toList == [103, 111, 116]) = false) (h4 : (w.toList == [116, 105, 99, 107]) = false) (h5 : (w.toList == [99, 108, 101, 97, 110]) = false) (h6 : (w.toList == [100, 105, 115, 112, 97, 116, 99, 104]) = false) (h7 : (w.toList == [101, 110, 100]) = false) (h8 : (w.toList == [102, 97, 117, 108, 116]) = false) (h9 : (w.toList == [114, 111, 117, 110, 100]) = false) (h10 : (w.toList == [115, 101, 116, 116, 108, 101]) = false) (h11 : (w.toList == [113, 117, 101, 117, 101]) = false) (h : (w.toList == [98, 117, 115, 121]) = true) : pcOf w = .busy := by unfold pcOf; simp only [h0, h1, h2, h3, h4, h5, h6, h7, h8, h9, h10, h11, h]; rfl
theorem pc_dirty {w : ByteArray} (h0 : (w.toList == [114, 101, 97, 100]) = false) (h1 : (w.toList == [119, 114, 105, 116, 101]) = false) (h2 : (w.toList == [115, 121, 110, 99]) = false) (h3 : (w.toList == [103, 111, 116]) = false) (h4 : (w.toList == [116, 105, 99, 107]) = false) (h5 : (w.toList == [99, 108, 101, 97, 110]) = false) (h6 : (w.toList == [100, 105, 115, 112, 97, 116, 99, 104]) = false) (h7 : (w.toList == [101, 110, 100]) = false) (h8 : (w.toList == [102, 97, 117, 108, 116]) = false) (h9 : (w.toList == [114, 111, 117, 110, 100]) = false) (h10 : (w.toList == [115, 101, 116, 116, 108, 101]) = false) (h11 : (w.toList == [113, 117, 101, 117, 101]) = false) (h12 : (w.toList == [98, 117, 115, 121]) = false) (h : (w.toList == [100, 105, 114, 116, 121]) = true) : pcOf w = .dirty := by unfold pcOf; simp only [h0, h1, h2, h3, h4, h5, h6, h7, h8, h9, h10, h11, h12, h]; rfl
theorem pc_crash {w : ByteArray} (h0 : (w.toList == [114, 101, 97, 100]) = false) (h1 : (w.toList == [119, 114, 105, 116, 101]) = false) (h2 : (w.toList == [115, 121, 110, 99]) = false) (h3 : (w.toList == [103, 111, 116]) = false) (h4 : (w.toList == [116, 105, 99, 107]) = false) (h5 : (w.toList == [99, 108, 101, 97, 110]) = false) (h6 : (w.toList == [100, 105, 115, 112, 97, 116, 99, 104]) = false) (h7 : (w.toList == [101, 110, 100]) = false) (h8 : (w.toList == [102, 97, 117, 108, 116]) = false) (h9 : (w.toList == [114, 111, 117, 110, 100]) = false) (h10 : (w.toList == [115, 101, 116, 116, 108, 101]) = false) (h11 : (w.toList == [113, 117, 101, 117, 101]) = false) (h12 : (w.toList == [98, 117, 115, 121]) = false) (h13 : (w.toList == [100, 105, 114, 116, 121]) = false) (h : (w.toList == [99, 114, 97, 115, 104]) = true) : pcOf w = .crash := by unfold pcOf; simp only [h0, h1, h2, h3, h4, h5, h6, h7, h8, h9, h10, h11, h12, h13, h]; rfl
theorem pc_other {w : ByteArray} (h0 : (w.toList == [114, 101, 97, 100]) = false) (h1 : (w.toList == [119, 114, 105, 116, 101]) = false) (h2 : (w.toList == [115, 121, 110, 99]) = false) (h3 : (w.toList == [103, 111, 116]) = false) (h4 : (w.toList == [116, 105, 99, 107]) = false) (h5 : (w.toList == [99, 108, 101, 97, 110]) = false) (h6 : (w.toList == [100, 105, 115, 112, 97, 116, 99, 104]) = false) (h7 : (w.toList == [101, 110, 100]) = false) (h8 : (w.toList == [102, 97, 117, 108, 116]) = false) (h9 : (w.toList == [114, 111, 117, 110, 100]) = false) (h10 : (w.toList == [115, 101, 116, 116, 108, 101]) = false) (h11 : (w.toList == [113, 117, 101, 117, 101]) = false) (h12 : (w.toList == [98, 117, 115, 121]) = false) (h13 : (w.toList == [100, 105, 114, 116, 121]) = false) (h14 : (w.toList == [99, 114, 97, 115, 104]) = false) : pcOf w = .other := by unfold pcOf; simp only [h0, h1, h2, h3, h4, h5, h6, h7, h8, h9, h10, h11, h12, h13, h14]; rfl
def p_dashB : ByteArray := ⟨#[45]⟩
def p_waitsB : ByteArray := ⟨#[119, 97, 105, 116, 115]⟩
def p_dataB : ByteArray := ⟨#[100, 97, 116, 97, 32]⟩
def p_spB : ByteArray := ⟨#[32]⟩
/-- The texts of requests. -/
def textsM (l : List Rq) : ByteArray := if l = [] then p_dashB else joinP (l.map textP) 32
/-- What a client was answered. -/
def gotM (s : St) (a : Int) : ByteArray :=
  if 3 ≤ a then doneB 5 else if (s.askAt a.toNat).isSome then p_waitsB
  else if (s.got a.toNat).2 ≠ 0 then doneB (s.got a.toNat).2 else p_dataB ++ (s.got a.toNat).1
/-- A step is played: the stack behind it, and what is answered. -/
def playM (s : St) (z : Stp) : St × ByteArray := match pcOf z.word with
  | .read => ((s.ask z.a 1 z.b noB).1, doneB (s.ask z.a 1 z.b noB).2)
  | .write => ((s.ask z.a 2 z.b z.data).1, doneB (s.ask z.a 2 z.b z.data).2)
  | .sync => ((s.ask z.a 3 0 noB).1, doneB (s.ask z.a 3 0 noB).2)
  | .got => (s, gotM s z.a)
  | .tick => (s.tick, p_okB)
  | .clean => (s.clean.1, yesB s.clean.2)
  | .dispatch => (s.dispatch.1, yesB s.dispatch.2)
  | .end_ => ((s.end_ z.a false).1, doneB (s.end_ z.a false).2)
  | .fault => ((s.end_ z.a true).1, doneB (s.end_ z.a true).2)
  | .round => (s.round, p_okB)
  | .settle => ((St.settle z.a.toNat s).1, (itoaB ((St.settle z.a.toNat s).2 : Nat) ++ p_spB) ++ yesB (St.settle z.a.toNat s).1.quiet)
  | .queue => (s, textsM s.wait)
  | .busy => (s, textsM s.v.d.l)
  | .dirty => (s, itoaB (dirtyB s.bufs : Nat))
  | .crash => (St.new (s.v.d.crash z.a.toNat), p_okB)
  | .other => (s, p_okB)
theorem Inv.playM {s : St} (h : Inv s) (z : Stp) : Inv (Go.Proofs.YtinknleckppciaaGreatDoor.playM s z).1 := by
  unfold Go.Proofs.YtinknleckppciaaGreatDoor.playM
  split
  · exact h.ask_ ..
  · exact h.ask_ ..
  · exact h.ask_ ..
  · exact h
  · exact h.tick
  · exact h.clean
  · exact h.dispatch
  · exact h.end_ ..
  · exact h.end_ ..
  · exact h.round
  · exact h.settle
  · exact h
  · exact h
  · exact h
  · exact Inv.new (h.dv.crash _) rfl
  · exact h
theorem Bd.newB {d : Dv} (hw : d.waits = []) : Bd 0 (St.new d) := ⟨Int.le_refl _, Int.le_refl _, by show (d.waits.length : Int) ≤ 0; rw [hw]; exact Int.le_refl _⟩
theorem Bd.playM {K : Int} {s : St} (h : Bd K s) (h0 : 0 ≤ K) (hI : Inv s) (z : Stp) (ha : z.a ≤ 999) : Bd (K + 15000) (Go.Proofs.YtinknleckppciaaGreatDoor.playM s z).1 := by
  unfold Go.Proofs.YtinknleckppciaaGreatDoor.playM
  split
  · exact (h.ask h0 ..).mono (by omega)
  · exact (h.ask h0 ..).mono (by omega)
  · exact (h.ask h0 ..).mono (by omega)
  · exact h.mono (by omega)
  · exact (h.tick h0).mono (by omega)
  · exact h.clean.mono (by omega)
  · exact h.dispatch.mono (by omega)
  · exact (h.end_ h0 hI ..).mono (by omega)
  · exact (h.end_ h0 hI ..).mono (by omega)
  · exact (h.round h0 hI).mono (by omega)
  · exact (h.settle h0 hI).mono (by omega)
  · exact h.mono (by omega)
  · exact h.mono (by omega)
  · exact h.mono (by omega)
  · exact (Bd.newB rfl).mono (by omega)
  · exact h.mono (by omega)
def playsM (s : St) (l : List Stp) : St := l.foldl (fun s z => if checkM z = 0 then (playM s z).1 else s) s
theorem playsM_succ (s : St) {l : List Stp} {k : Nat} {z : Stp} (h : l[k]? = some z) : playsM s (l.take (k + 1)) = if checkM z = 0 then (playM (playsM s (l.take k)) z).1 else playsM s (l.take k) := by
  unfold playsM
  rw [List.take_add_one, h, List.foldl_append]; rfl
theorem check_a {z : Stp} (h : checkM z = 0) : 0 ≤ z.a ∧ z.a ≤ 999 := by
  unfold checkM at h
  split at h
  · cases h
  · split at h
    · cases h
    · split at h
      · cases h
      · rename_i hb
        unfold boundB at hb
        simp only [Bool.or_eq_true, decide_eq_true_eq, not_or, Int.not_lt] at hb
        omega
end Go.Proofs.YtinknleckppciaaGreatDoor
