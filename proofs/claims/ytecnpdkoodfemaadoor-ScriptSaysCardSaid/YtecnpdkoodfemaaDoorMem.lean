
/- How lists of texts, of numbers and of requests lie in memory. -/
import Derived.Test.YtecnpdkoodfemaaDoorMod
namespace Go.Proofs.YtecnpdkoodfemaaDoor
open Go.RowKit

/-- The slice value v has n elements of size cells each; these hold xs; they lie in a block that is in S. -/
def Rd (S : Nat → Prop) (w : World) (size : Nat) (v : Value) (n : Nat) (xs : List Value) : Prop :=
  ∃ A cap, v = .slice A n cap ∧ n ≤ cap ∧ cap ≤ maxLen ∧ xs.length = n * size ∧
    (0 < n → ∃ b off, A = some ⟨b, off, none⟩ ∧ S b ∧ ∀ j u, xs[j]? = some u → w.cell? ⟨b, off + j, none⟩ = some u)

section
variable {S S' : Nat → Prop} {w w' : World} {size n : Nat} {v : Value} {xs : List Value}
theorem Rd.nil : Rd S w size (.slice none 0 0) 0 [] := ⟨none, 0, rfl, Nat.le_refl _, by simp [maxLen], by simp, fun h => absurd h (by omega)⟩
theorem Rd.keep (h : Rd S w size v n xs) (hk : ∀ b, S b → b < w.heap.size → w'.heap[b]? = w.heap[b]?) : Rd S w' size v n xs := by
  obtain ⟨A, cap, e, h1, h2, h3, h4⟩ := h
  refine ⟨A, cap, e, h1, h2, h3, fun hn => ?_⟩
  obtain ⟨b, off, e1, hS, hc⟩ := h4 hn
  refine ⟨b, off, e1, hS, fun j u hu => ?_⟩
  have h5 := hc j u hu
  have hlt := block_lt_of_cell h5
  rw [World.cell?_of_block (w := w) (hk b hS hlt)]
  exact h5
theorem Rd.below (h : Rd S w size v n xs) (hb : Below w.heap.size w w') : Rd S w' size v n xs := h.keep fun b _ hlt => hb.block b hlt
theorem Rd.more (h : Rd S w size v n xs) (hS : ∀ b, S b → S' b) : Rd S' w size v n xs := by
  obtain ⟨A, cap, e, h1, h2, h3, h4⟩ := h
  refine ⟨A, cap, e, h1, h2, h3, fun hn => ?_⟩
  obtain ⟨b, off, e1, hS1, hc⟩ := h4 hn
  exact ⟨b, off, e1, hS _ hS1, hc⟩
theorem Rd.len (h : Rd S w size v n xs) : n ≤ maxLen := by obtain ⟨_, _, _, h1, h2, _, _⟩ := h; omega
/-- The elements that there are, and where they lie. -/
theorem Rd.at_ {A : Option Addr} {cap : Nat} (h : Rd S w size (.slice A n cap) n xs) (hn : 0 < n) (hs : 0 < size) :
    ∃ b off, A = some ⟨b, off, none⟩ ∧ S b ∧ b < w.heap.size ∧ ∀ j u, xs[j]? = some u → w.cell? ⟨b, off + j, none⟩ = some u := by
  obtain ⟨A', cap', e, _, _, h3, h4⟩ := h
  cases e
  obtain ⟨b, off, e1, hS, hc⟩ := h4 hn
  have hl : 0 < xs.length := by rw [h3]; exact Nat.mul_pos hn hs
  exact ⟨b, off, e1, hS, block_lt_of_cell (hc 0 _ (List.getElem?_eq_getElem hl)), hc⟩
theorem Rd.form (h : Rd S w size v n xs) : ∃ A cap, v = .slice A n cap ∧ n ≤ cap ∧ cap ≤ maxLen := by
  obtain ⟨A, cap, e, h1, h2, _, _⟩ := h; exact ⟨A, cap, e, h1, h2⟩
end

/-- A list of texts. -/
def StrsAt (S : Nat → Prop) (w : World) (v : Value) (l : List ByteArray) : Prop := Rd S w 1 v l.length (l.map .string) ∧ ∀ s ∈ l, s.size ≤ maxLen
/-- A list of numbers. -/
def IntsAt (S : Nat → Prop) (w : World) (v : Value) (l : List Int) : Prop := Rd S w 1 v l.length (l.map (.int .i64)) ∧ ∀ x ∈ l, -9223372036854775808 ≤ x ∧ x ≤ 9223372036854775807
/-- A request's value, its lists being those. -/
abbrev rqV (r : Rq) (dv tv : Value) : Value := .agg #[.bool r.write, .int .i64 r.lo, .int .i64 r.many, dv, tv, .int .i64 r.born]
/-- A request, and the values of its lists. -/
structure Rc where
  r : Rq
  dv : Value
  tv : Value
def Rc.cells (c : Rc) : List Value := [.bool c.r.write, .int .i64 c.r.lo, .int .i64 c.r.many, c.dv, c.tv, .int .i64 c.r.born]
def i64 (n : Int) : Prop := -9223372036854775808 ≤ n ∧ n ≤ 9223372036854775807
structure RcOk (S : Nat → Prop) (w : World) (c : Rc) : Prop where
  data : StrsAt S w c.dv c.r.data
  tags : IntsAt S w c.tv c.r.tags
  lo : i64 c.r.lo
  many : i64 c.r.many
  born : i64 c.r.born
/-- A request's value in memory. -/
def ReqAt (S : Nat → Prop) (w : World) (v : Value) (r : Rq) : Prop := ∃ c : Rc, c.r = r ∧ v = rqV c.r c.dv c.tv ∧ RcOk S w c
/-- A list of requests. -/
def ReqsAt (S : Nat → Prop) (w : World) (v : Value) (l : List Rq) : Prop := ∃ cs : List Rc, cs.map (·.r) = l ∧ Rd S w 6 v cs.length (cs.flatMap Rc.cells) ∧ ∀ c ∈ cs, RcOk S w c

section
variable {S S' : Nat → Prop} {w w' : World} {v : Value}
theorem StrsAt.keep {l : List ByteArray} (h : StrsAt S w v l) (hk : ∀ b, S b → b < w.heap.size → w'.heap[b]? = w.heap[b]?) : StrsAt S w' v l := ⟨h.1.keep hk, h.2⟩
theorem IntsAt.keep {l : List Int} (h : IntsAt S w v l) (hk : ∀ b, S b → b < w.heap.size → w'.heap[b]? = w.heap[b]?) : IntsAt S w' v l := ⟨h.1.keep hk, h.2⟩
theorem RcOk.keep {c : Rc} (h : RcOk S w c) (hk : ∀ b, S b → b < w.heap.size → w'.heap[b]? = w.heap[b]?) : RcOk S w' c := ⟨h.data.keep hk, h.tags.keep hk, h.lo, h.many, h.born⟩
theorem ReqAt.keep {r : Rq} (h : ReqAt S w v r) (hk : ∀ b, S b → b < w.heap.size → w'.heap[b]? = w.heap[b]?) : ReqAt S w' v r := by
  obtain ⟨c, h1, h2, h3⟩ := h; exact ⟨c, h1, h2, h3.keep hk⟩
theorem ReqsAt.keep {l : List Rq} (h : ReqsAt S w v l) (hk : ∀ b, S b → b < w.heap.size → w'.heap[b]? = w.heap[b]?) : ReqsAt S w' v l := by
  obtain ⟨cs, h1, h2, h3⟩ := h; exact ⟨cs, h1, h2.keep hk, fun c hc => (h3 c hc).keep hk⟩
theorem StrsAt.below {l : List ByteArray} (h : StrsAt S w v l) (hb : Below w.heap.size w w') : StrsAt S w' v l := h.keep fun b _ hlt => hb.block b hlt
theorem IntsAt.below {l : List Int} (h : IntsAt S w v l) (hb : Below w.heap.size w w') : IntsAt S w' v l := h.keep fun b _ hlt => hb.block b hlt
theorem RcOk.below {c : Rc} (h : RcOk S w c) (hb : Below w.heap.size w w') : RcOk S w' c := h.keep fun b _ hlt => hb.block b hlt
theorem ReqAt.below {r : Rq} (h : ReqAt S w v r) (hb : Below w.heap.size w w') : ReqAt S w' v r := h.keep fun b _ hlt => hb.block b hlt
theorem ReqsAt.below {l : List Rq} (h : ReqsAt S w v l) (hb : Below w.heap.size w w') : ReqsAt S w' v l := h.keep fun b _ hlt => hb.block b hlt

theorem StrsAt.form {l : List ByteArray} (h : StrsAt S w v l) : ∃ A cap, v = .slice A l.length cap ∧ l.length ≤ cap ∧ cap ≤ maxLen := h.1.form
theorem IntsAt.form {l : List Int} (h : IntsAt S w v l) : ∃ A cap, v = .slice A l.length cap ∧ l.length ≤ cap ∧ cap ≤ maxLen := h.1.form
theorem ReqsAt.form {l : List Rq} (h : ReqsAt S w v l) : ∃ A cap, v = .slice A l.length cap ∧ l.length ≤ cap ∧ cap ≤ maxLen := by
  obtain ⟨cs, rfl, h2, _⟩ := h; rw [List.length_map]; exact h2.form
theorem StrsAt.at_ {A : Option Addr} {n cap : Nat} {l : List ByteArray} (h : StrsAt S w (.slice A n cap) l) (hn : 0 < l.length) :
    ∃ b off, A = some ⟨b, off, none⟩ ∧ S b ∧ b < w.heap.size ∧ ∀ j s, l[j]? = some s → w.cell? ⟨b, off + j, none⟩ = some (.string s) ∧ s.size ≤ maxLen := by
  have he : n = l.length := by obtain ⟨_, _, e, _⟩ := h.1.form; injection e
  subst he
  obtain ⟨b, off, e, hS, hlt, hc⟩ := h.1.at_ hn (by omega)
  exact ⟨b, off, e, hS, hlt, fun j s hj => ⟨hc j _ (by rw [List.getElem?_map, hj]; rfl), h.2 s (List.mem_of_getElem? hj)⟩⟩
theorem IntsAt.at_ {A : Option Addr} {n cap : Nat} {l : List Int} (h : IntsAt S w (.slice A n cap) l) (hn : 0 < l.length) :
    ∃ b off, A = some ⟨b, off, none⟩ ∧ S b ∧ b < w.heap.size ∧ ∀ j x, l[j]? = some x → w.cell? ⟨b, off + j, none⟩ = some (.int .i64 x) ∧ i64 x := by
  have he : n = l.length := by obtain ⟨_, _, e, _⟩ := h.1.form; injection e
  subst he
  obtain ⟨b, off, e, hS, hlt, hc⟩ := h.1.at_ hn (by omega)
  exact ⟨b, off, e, hS, hlt, fun j x hj => ⟨hc j _ (by rw [List.getElem?_map, hj]; rfl), h.2 x (List.mem_of_getElem? hj)⟩⟩
theorem flat_get (cs : List Rc) : ∀ (i j : Nat) (c : Rc), cs[i]? = some c → j < 6 → (cs.flatMap Rc.cells)[i * 6 + j]? = c.cells[j]? := by
  induction cs with
  | nil => intro i j c h _; simp at h
  | cons a cs ih =>
    intro i j c h hj
    rw [List.flatMap_cons]
    cases i with
    | zero =>
      simp at h; subst h
      rw [List.getElem?_append_left (by simp [Rc.cells]; omega)]
      simp
    | succ i =>
      rw [List.getElem?_append_right (by simp [Rc.cells]; omega)]
      simp at h
      rw [← ih i j c h hj]
      congr 1
      simp [Rc.cells]; omega
theorem ReqAt.opened {r : Rq} (h : ReqAt S w v r) : ∃ Ad cd At ct, v = rqV r (.slice Ad r.data.length cd) (.slice At r.tags.length ct) ∧ StrsAt S w (.slice Ad r.data.length cd) r.data ∧ IntsAt S w (.slice At r.tags.length ct) r.tags ∧
    r.data.length ≤ 9223372036854775807 ∧ r.tags.length ≤ 9223372036854775807 ∧ i64 r.lo ∧ i64 r.many ∧ i64 r.born := by
  obtain ⟨c, rfl, rfl, hok⟩ := h
  obtain ⟨Ad, cd, e1, d1, d2⟩ := hok.data.form
  obtain ⟨At, ct, e2, t1, t2⟩ := hok.tags.form
  unfold maxLen at d2 t2
  exact ⟨Ad, cd, At, ct, by rw [← e1, ← e2], e1 ▸ hok.data, e2 ▸ hok.tags, by omega, by omega, hok.lo, hok.many, hok.born⟩
theorem RcOk.req {c : Rc} (h : RcOk S w c) : ReqAt S w (rqV c.r c.dv c.tv) c.r := ⟨c, rfl, rfl, h⟩
/-- The element i of a list of requests: its six cells, and what its lists hold. -/
theorem ReqsAt.at_ {A : Option Addr} {n cap : Nat} {l : List Rq} (h : ReqsAt S w (.slice A n cap) l) (hn : 0 < l.length) :
    ∃ b off, A = some ⟨b, off, none⟩ ∧ S b ∧ b < w.heap.size ∧ ∀ i r, l[i]? = some r → ∃ Ad cd At ct, ReqAt S w (rqV r (.slice Ad r.data.length cd) (.slice At r.tags.length ct)) r ∧
      w.cell? ⟨b, off + i * 6, none⟩ = some (.bool r.write) ∧ w.cell? ⟨b, off + i * 6 + 1, none⟩ = some (.int .i64 r.lo) ∧ w.cell? ⟨b, off + i * 6 + 2, none⟩ = some (.int .i64 r.many) ∧
      w.cell? ⟨b, off + i * 6 + 3, none⟩ = some (.slice Ad r.data.length cd) ∧ w.cell? ⟨b, off + i * 6 + 4, none⟩ = some (.slice At r.tags.length ct) ∧ w.cell? ⟨b, off + i * 6 + 5, none⟩ = some (.int .i64 r.born) := by
  obtain ⟨cs, rfl, h2, h3⟩ := h
  rw [List.length_map] at hn
  have he : n = cs.length := by obtain ⟨_, _, e, _⟩ := h2.form; injection e
  subst he
  obtain ⟨b, off, e, hS, hlt, hc⟩ := h2.at_ hn (by omega)
  refine ⟨b, off, e, hS, hlt, fun i r hi => ?_⟩
  rw [List.getElem?_map] at hi
  obtain ⟨c, hci, rfl⟩ := Option.map_eq_some_iff.1 hi
  have hg := fun j hj => flat_get cs i j c hci hj
  have hok := h3 c (List.mem_of_getElem? hci)
  obtain ⟨Ad, cd, e1, _, _⟩ := hok.data.form
  obtain ⟨At, ct, e2, _, _⟩ := hok.tags.form
  exact ⟨Ad, cd, At, ct, by rw [← e1, ← e2]; exact hok.req, hc _ _ (hg 0 (by omega)), hc _ _ (hg 1 (by omega)), hc _ _ (hg 2 (by omega)), by rw [← e1]; exact hc _ _ (hg 3 (by omega)), by rw [← e2]; exact hc _ _ (hg 4 (by omega)), hc _ _ (hg 5 (by omega))⟩
end
end Go.Proofs.YtecnpdkoodfemaaDoor
