
/- SameResult; acts: how a list of them lies in memory, LightActs. -/
import Derived.Test.YtdhiepcglnbkbaaDevEnd
import Derived.Test.YtdhiepcglnbkbaaSame
import Derived.Test.YtdhiepcglnbkbaaLight
namespace Go.Proofs.Ytdhiepcglnbkbaa
set_option linter.unusedSimpArgs false
set_option linter.unusedVariables false
open Go.RowKit

theorem Lay.c8 {w wr : World} {l : List (Nat × TypeId × Array Value)} (h : Lay w wr l) (i : Nat) {b : Nat} {T : TypeId} {c0 c1 c2 c3 c4 c5 c6 c7 : Value} (hi : l[i]? = some (b, T, #[c0, c1, c2, c3, c4, c5, c6, c7])) :
    wr.cell? ⟨b, 0, none⟩ = some c0 ∧ wr.cell? ⟨b, 1, none⟩ = some c1 ∧ wr.cell? ⟨b, 2, none⟩ = some c2 ∧ wr.cell? ⟨b, 3, none⟩ = some c3 ∧ wr.cell? ⟨b, 4, none⟩ = some c4 ∧ wr.cell? ⟨b, 5, none⟩ = some c5 ∧ wr.cell? ⟨b, 6, none⟩ = some c6 ∧ wr.cell? ⟨b, 7, none⟩ = some c7 :=
  ⟨h.cell i hi 0, h.cell i hi 1, h.cell i hi 2, h.cell i hi 3, h.cell i hi 4, h.cell i hi 5, h.cell i hi 6, h.cell i hi 7⟩
theorem RsAt.keep {S : Nat → Prop} {w w' : World} {v : Value} {rs : Rs} (h : RsAt S w v rs) (hk : ∀ b, S b → b < w.heap.size → w'.heap[b]? = w.heap[b]?) : RsAt S w' v rs := by
  obtain ⟨c, ov, h1, h2, h3, h4⟩ := h
  exact ⟨c, ov, h1, h2, h3.keep hk, h4.keep hk⟩
theorem RsAt.more {S S' : Nat → Prop} {w : World} {v : Value} {rs : Rs} (h : RsAt S w v rs) (hS : ∀ b, S b → S' b) : RsAt S' w v rs := by
  obtain ⟨c, ov, h1, h2, h3, h4⟩ := h
  exact ⟨c, ov, h1, h2, h3.more hS, h4.more hS⟩
theorem RsAt.below {S : Nat → Prop} {w w' : World} {v : Value} {rs : Rs} (h : RsAt S w v rs) (hb : Below w.heap.size w w') : RsAt S w' v rs := h.keep fun b _ hlt => hb.block b hlt

theorem RsAt.opened {S : Nat → Prop} {w : World} {v : Value} {rs : Rs} (h : RsAt S w v rs) : ∃ Ad cd At ct Ao co, v = .agg #[.bool rs.req.write, .int .i64 rs.req.lo, .int .i64 rs.req.many, .slice Ad rs.req.data.length cd, .slice At rs.req.tags.length ct, .int .i64 rs.req.born, .slice Ao rs.data.length co, .int .i64 (rs.err : Int)] := by
  obtain ⟨c, ov, rfl, hc, hok, hov⟩ := h
  obtain ⟨Ad, cd, e1, _, _⟩ := hok.data.form
  obtain ⟨At, ct, e2, _, _⟩ := hok.tags.form
  obtain ⟨Ao, co, rfl, _, _⟩ := hov.form
  refine ⟨Ad, cd, At, ct, Ao, co, ?_⟩
  unfold rsCells
  rw [e1, e2, hc]
set_option maxRecDepth 100000 in
set_option maxHeartbeats 1000000 in
/-- Two values of one result are the same. -/
theorem sameresult_any (S : Nat → Prop) (a : Rs) (va vb : Value) (w : World) (ha : RsAt S w va a) (hb : RsAt S w vb a) :
    Calls Try.prog 22 #[va, vb] w (Ret (.bool true) w) := by
  obtain ⟨c, ov, rfl, hc, hok, hov⟩ := ha
  obtain ⟨e, pv, rfl, he, hok', hpv⟩ := hb
  obtain ⟨Ad, cd, e1, _, _⟩ := hok.data.form
  obtain ⟨At, ct, e2, _, _⟩ := hok.tags.form
  obtain ⟨Bd, dd, e3, _, _⟩ := hok'.data.form
  obtain ⟨Bt, dt, e4, _, _⟩ := hok'.tags.form
  obtain ⟨Ao, co, rfl, _, _⟩ := hov.form
  obtain ⟨Bo, po, rfl, _, _⟩ := hpv.form
  have Ha := Lib.hid hok.req
  have Hb := Lib.hid hok'.req
  have Ho := Lib.hid hov
  have Hp := Lib.hid hpv
  obtain ⟨r, dv, tv⟩ := c
  obtain ⟨r', dv', tv'⟩ := e
  simp only at e1 e2 e3 e4 hc he
  subst e1 e2 e3 e4
  subst hc
  subst he
  simp only [rsCells] at Ha Hb ⊢
  clear hok hok' hov hpv
  generalize a.req = r at *
  generalize a.data = ds at *
  generalize a.err = er at *
  go_enter Try.func22, Try.ntmps22
  go_wp2_with fail
  have L := ((Lay.refl w).alloc' w.heap.size #[Value.bool r.write, Value.int IntKind.i64 r.lo, Value.int IntKind.i64 r.many, Value.slice Ad r.data.length cd, Value.slice At r.tags.length ct, Value.int IntKind.i64 r.born, .slice Ao ds.length co, .int .i64 (er : Int)] 49 rfl).alloc' (w.heap.size + 1) #[Value.bool r.write, Value.int IntKind.i64 r.lo, Value.int IntKind.i64 r.many, Value.slice Bd r.data.length dd, Value.slice Bt r.tags.length dt, Value.int IntKind.i64 r.born, .slice Bo ds.length po, .int .i64 (er : Int)] 49 (by simp)
  generalize World.alloc _ _ = W at L ⊢
  refine (samereq_any S r r _ _ _ (Ha.out.below L.below) (Hb.out.below L.below)).mono ?_
  rintro e w1 ⟨rfl, hb1⟩
  rw [sameB_true.2 rfl]
  have L1 := L.step hb1
  clear L hb1
  obtain ⟨c0, c1, c2, c3, c4, c5, c6, c7⟩ := L1.c8 0 rfl
  obtain ⟨d0, d1, d2, d3, d4, d5, d6, d7⟩ := L1.c8 1 rfl
  go_wp2_with fail
  refine (sametexts_any S _ _ _ _ _ (Ho.out.below L1.below) (Hp.out.below L1.below)).mono ?_
  rintro e w2 ⟨rfl, hb2⟩
  have L2 := L1.step hb2
  clear L1 hb2 c0 c1 c2 c3 c4 c5 c6 c7 d0 d1 d2 d3 d4 d5 d6 d7
  obtain ⟨c0, c1, c2, c3, c4, c5, c6, c7⟩ := L2.c8 0 rfl
  obtain ⟨d0, d1, d2, d3, d4, d5, d6, d7⟩ := L2.c8 1 rfl
  rw [eqB_true rfl]
  go_wp2_with fail
  go_ret
  exact ⟨by simp, L2.below⟩

/-- An act, and the values of its request's lists. -/
structure Ac where
  kind : ByteArray
  c : Rc
  n : Int
  k : Nat
def Ac.cells (a : Ac) : List Value := .string a.kind :: a.c.cells ++ [.int .i64 a.n, .int .u64 (a.k : Int)]
structure AcOk (S : Nat → Prop) (w : World) (a : Ac) : Prop where
  kind : a.kind.size ≤ maxLen
  rc : RcOk S w a.c
  n : i64 a.n
  k : a.k < 18446744073709551616
/-- A list of acts. -/
def ActsAt (S : Nat → Prop) (w : World) (v : Value) (l : List Ac) : Prop := Rd S w 9 v l.length (l.flatMap Ac.cells) ∧ ∀ a ∈ l, AcOk S w a
theorem AcOk.keep {S : Nat → Prop} {w w' : World} {a : Ac} (h : AcOk S w a) (hk : ∀ b, S b → b < w.heap.size → w'.heap[b]? = w.heap[b]?) : AcOk S w' a := ⟨h.kind, h.rc.keep hk, h.n, h.k⟩
theorem ActsAt.keep {S : Nat → Prop} {w w' : World} {v : Value} {l : List Ac} (h : ActsAt S w v l) (hk : ∀ b, S b → b < w.heap.size → w'.heap[b]? = w.heap[b]?) : ActsAt S w' v l := ⟨h.1.keep hk, fun a ha => (h.2 a ha).keep hk⟩
theorem ActsAt.below {S : Nat → Prop} {w w' : World} {v : Value} {l : List Ac} (h : ActsAt S w v l) (hb : Below w.heap.size w w') : ActsAt S w' v l := h.keep fun b _ hlt => hb.block b hlt
theorem AcOk.more {S S' : Nat → Prop} {w : World} {a : Ac} (h : AcOk S w a) (hS : ∀ b, S b → S' b) : AcOk S' w a := ⟨h.kind, h.rc.more hS, h.n, h.k⟩
theorem ActsAt.lt {S : Nat → Prop} {w : World} {v : Value} {l : List Ac} (h : ActsAt S w v l) : ActsAt (fun b => S b ∧ b < w.heap.size) w v l := ⟨h.1.lt (by omega), fun a ha => ⟨(h.2 a ha).kind, (h.2 a ha).rc.lt, (h.2 a ha).n, (h.2 a ha).k⟩⟩
theorem ActsAt.more {S S' : Nat → Prop} {w : World} {v : Value} {l : List Ac} (h : ActsAt S w v l) (hS : ∀ b, S b → S' b) : ActsAt S' w v l := ⟨h.1.more hS, fun a ha => (h.2 a ha).more hS⟩
theorem ac_get (l : List Ac) : ∀ (i j : Nat) (a : Ac), l[i]? = some a → j < 9 → (l.flatMap Ac.cells)[i * 9 + j]? = a.cells[j]? := by
  induction l with
  | nil => intro i j a h _; simp at h
  | cons x l ih =>
    intro i j a h hj
    rw [List.flatMap_cons]
    cases i with
    | zero =>
      simp at h; subst h
      rw [List.getElem?_append_left (by simp [Ac.cells, Rc.cells]; omega)]
      simp
    | succ i =>
      rw [List.getElem?_append_right (by simp [Ac.cells, Rc.cells]; omega)]
      simp at h
      rw [← ih i j a h hj]
      congr 1
      simp [Ac.cells, Rc.cells]; omega
/-- The element i of a list of acts: its nine cells. -/
theorem ActsAt.at_ {S : Nat → Prop} {w : World} {A : Option Addr} {cap : Nat} {l : List Ac} (h : ActsAt S w (.slice A l.length cap) l) {i : Nat} {a : Ac} (hi : l[i]? = some a) :
    ∃ b off, A = some ⟨b, off, none⟩ ∧ S b ∧ b < w.heap.size ∧ w.cell? ⟨b, off + i * 9, none⟩ = some (.string a.kind) ∧ w.cell? ⟨b, off + i * 9 + 1, none⟩ = some (.bool a.c.r.write) ∧ w.cell? ⟨b, off + i * 9 + 2, none⟩ = some (.int .i64 a.c.r.lo) ∧
      w.cell? ⟨b, off + i * 9 + 3, none⟩ = some (.int .i64 a.c.r.many) ∧ w.cell? ⟨b, off + i * 9 + 4, none⟩ = some a.c.dv ∧ w.cell? ⟨b, off + i * 9 + 5, none⟩ = some a.c.tv ∧ w.cell? ⟨b, off + i * 9 + 6, none⟩ = some (.int .i64 a.c.r.born) ∧
      w.cell? ⟨b, off + i * 9 + 7, none⟩ = some (.int .i64 a.n) ∧ w.cell? ⟨b, off + i * 9 + 8, none⟩ = some (.int .u64 (a.k : Int)) := by
  have hlt := (List.getElem?_eq_some_iff.1 hi).1
  obtain ⟨b, off, e, hS, hb, hc⟩ := h.1.at_ (by omega) (by omega)
  have hg := fun j hj => ac_get l i j a hi hj
  exact ⟨b, off, e, hS, hb, hc _ _ (hg 0 (by omega)), hc _ _ (hg 1 (by omega)), hc _ _ (hg 2 (by omega)), hc _ _ (hg 3 (by omega)), hc _ _ (hg 4 (by omega)), hc _ _ (hg 5 (by omega)), hc _ _ (hg 6 (by omega)), hc _ _ (hg 7 (by omega)), hc _ _ (hg 8 (by omega))⟩
def lightActs (l : List Ac) (most : Nat) : Bool := decide (l.length ≤ most) && l.all (fun a => lightReq a.c.r)

set_option maxRecDepth 100000 in
theorem lightacts_any (S : Nat → Prop) (l : List Ac) (most : Nat) (v : Value) (w : World) (h : ActsAt S w v l) (hm : most ≤ 1000) :
    Calls Try.prog 14 #[v, .int .i64 (most : Int)] w (Ret (.bool (lightActs l most)) w) := by
  obtain ⟨A, cap, rfl, h1, h2⟩ := h.1.form
  unfold maxLen at h2
  have Hl := Lib.hid h
  clear h
  by_cases g1 : l.length ≤ most
  · have g1' : ¬ ((most : Int) < (l.length : Int)) := by omega
    go_enter Try.func14, Try.ntmps14
    go_wp2_with fail
    go_loopw [5] (fun i wr => ∃ k : Nat, k ≤ l.length ∧ i = .int .i64 k ∧ Below w.heap.size w wr ∧ Hid ((l.take k).all (fun a => lightReq a.c.r) = true)) (fun i _ => l.length - (intOf i).toNat)
    case atStart => exact ⟨0, by omega, rfl, Below.refl _ _, rfl⟩
    case round =>
      obtain ⟨k, hk, rfl, hb, hall⟩ := hrel
      by_cases hlt : k < l.length
      · have hx : l[k]? = some l[k] := List.getElem?_eq_getElem hlt
        generalize l[k] = a at hx
        obtain ⟨b, off, rfl, _, hbl, k0, k1, k2, k3, k4, k5, k6, k7, k8⟩ := (Hl.out.below hb).at_ hx
        have hok := (Hl.out.2 a (List.mem_of_getElem? hx)).rc
        obtain ⟨Ad, cd, e1, _, _⟩ := hok.data.form
        obtain ⟨At, ct, e2, _, _⟩ := hok.tags.form
        have Hrq := Lib.hid (hok.below hb).req
        rw [e1] at k4
        rw [e2] at k5
        rw [e1, e2] at Hrq
        have Hx := Lib.hid hx
        have hk1 : (k : Int) < (l.length : Int) := by omega
        clear hx hok e1 e2
        go_wp2_with fail
        refine (lightreq_any S a.c.r _ _ Hrq.out).mono ?_
        rintro e w1 ⟨rfl, hb1⟩
        have Hb1 := Lib.hid (hb.trans (hb1.mono hb.size))
        cases hlr : lightReq a.c.r with
        | true =>
          have Hlr := Lib.hid hlr
          clear hlr hb1
          go_wp2_with fail
          go_roundw
          case rel => exact ⟨k + 1, by omega, by go_num, Hb1.out, by show _ = true; rw [all_take_succ _ _ _ _ Hx.out, hall.out, Hlr.out]; rfl⟩
          case measure => simp [intOf]; omega
        | false =>
          have Hlr := Lib.hid hlr
          clear hlr hb1
          go_wp2_with fail
          go_ret
          refine ⟨?_, Hb1.out⟩
          have e : lightActs l most = false := by unfold lightActs; rw [all_not (fun a : Ac => lightReq a.c.r) _ _ _ Hx.out Hlr.out]; simp
          rw [e]; rfl
      · have hk1 : ¬ ((k : Int) < (l.length : Int)) := by omega
        go_wp2
        go_ret
        refine ⟨?_, hb⟩
        have e : lightActs l most = true := by unfold lightActs; rw [all_end _ _ _ (by omega) hall.out]; simp [g1]
        rw [e]; rfl
  · have g1' : (most : Int) < (l.length : Int) := by omega
    have e : lightActs l most = false := by unfold lightActs; simp [g1]
    rw [e]
    go_enter Try.func14, Try.ntmps14
    go_wp2
    go_ret
    exact ⟨rfl, Below.refl _ _⟩
end Go.Proofs.Ytdhiepcglnbkbaa
