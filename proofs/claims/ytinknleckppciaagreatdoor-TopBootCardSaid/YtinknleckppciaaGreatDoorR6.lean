/- Blocks of the call's own: what lies in each, in a list. The blocks in which a list lies: fewer, more. request.Text with strconv.Itoa; player.done, yes, texts. gen_textp.py prints this text. slices.Clone of requests. clear of the tail of a row, whatever the size of its elements. -/
import Derived.Test.YtinknleckppciaaGreatDoorR5
import Derived.Test.YtinknleckppciaaGreatDoorR4
import Derived.Lib.ItoaLen
import Derived.Maps.StringElems
import Derived.Outline
namespace Go.Proofs.YtinknleckppciaaGreatDoor
set_option linter.unusedSimpArgs false
set_option linter.unusedVariables false
open Go.RowKit

/-- Since w nothing that was there was written; the blocks of the list are the call's own, and hold what it says. -/
structure Lay (w wr : World) (l : List (Nat × TypeId × Array Value)) : Prop where
  below : Below w.heap.size w wr
  row : ∀ x ∈ l, wr.heap[x.1]? = some (.cells x.2.2 x.2.1 (0, 0))
  own : ∀ x ∈ l, w.heap.size ≤ x.1
  nd : (l.map (·.1)).Nodup
section
variable {w wr w' : World} {l : List (Nat × TypeId × Array Value)}
theorem Lay.refl (w : World) : Lay w w [] := ⟨Below.refl _ _, by simp, by simp, by simp⟩
theorem Lay.lt (h : Lay w wr l) {x : Nat × TypeId × Array Value} (hx : x ∈ l) : x.1 < wr.heap.size := by
  have := h.row x hx
  rcases Nat.lt_or_ge x.1 wr.heap.size with h | h
  · exact h
  · rw [Array.getElem?_eq_none h] at this; cases this
theorem Lay.size (h : Lay w wr l) : w.heap.size ≤ wr.heap.size := h.below.size
theorem Lay.step (h : Lay w wr l) (hb : Below wr.heap.size wr w') : Lay w w' l :=
  ⟨h.below.trans (hb.mono h.size), fun x hx => (hb.block _ (h.lt hx)).trans (h.row x hx), h.own, h.nd⟩
theorem Lay.alloc (h : Lay w wr l) (cs : Array Value) (T : TypeId) : Lay w (wr.alloc (.cells cs T)) ((wr.heap.size, T, cs) :: l) := by
  have hs := h.step ((Below.refl wr.heap.size wr).alloc (Nat.le_refl _) (.cells cs T))
  refine ⟨hs.below, fun x hx => ?_, fun x hx => ?_, ?_⟩
  · rcases List.mem_cons.1 hx with rfl | hx
    · exact heap_alloc_new wr (.cells cs T)
    · exact hs.row x hx
  · rcases List.mem_cons.1 hx with rfl | hx
    · exact h.size
    · exact h.own x hx
  · rw [List.map_cons, List.nodup_cons]
    refine ⟨fun hm => ?_, h.nd⟩
    obtain ⟨x, hx, he⟩ := List.mem_map.1 hm
    have := h.lt hx
    omega
theorem Lay.alloc' (h : Lay w wr l) (n : Nat) (cs : Array Value) (T : TypeId) (hn : wr.heap.size = n) : Lay w (wr.alloc (.cells cs T)) ((n, T, cs) :: l) := hn ▸ h.alloc cs T
theorem Lay.drew (h : Lay w wr l) : Lay w wr.drew l := h.step (Below.refl _ _).drew
theorem Lay.at_ (h : Lay w wr l) (i : Nat) {b : Nat} {T : TypeId} {cs : Array Value} (hi : l[i]? = some (b, T, cs)) : wr.heap[b]? = some (.cells cs T (0, 0)) := h.row _ (List.mem_of_getElem? hi)
theorem Lay.cell (h : Lay w wr l) (i : Nat) {b : Nat} {T : TypeId} {cs : Array Value} (hi : l[i]? = some (b, T, cs)) (k : Nat) : wr.cell? ⟨b, k, none⟩ = cs[k]? := cell_of_row _ _ k _ _ _ (h.at_ i hi)
theorem Lay.frozen (h : Lay w wr l) (i : Nat) {b : Nat} {T : TypeId} {cs : Array Value} (hi : l[i]? = some (b, T, cs)) (k : Nat) : wr.frozen? ⟨b, k, none⟩ = false := frozen_of_row _ _ k _ _ (h.at_ i hi)
theorem Lay.c6 (h : Lay w wr l) (i : Nat) {b : Nat} {T : TypeId} {c0 c1 c2 c3 c4 c5 : Value} (hi : l[i]? = some (b, T, #[c0, c1, c2, c3, c4, c5])) :
    wr.cell? ⟨b, 0, none⟩ = some c0 ∧ wr.cell? ⟨b, 1, none⟩ = some c1 ∧ wr.cell? ⟨b, 2, none⟩ = some c2 ∧ wr.cell? ⟨b, 3, none⟩ = some c3 ∧ wr.cell? ⟨b, 4, none⟩ = some c4 ∧ wr.cell? ⟨b, 5, none⟩ = some c5 :=
  ⟨h.cell i hi 0, h.cell i hi 1, h.cell i hi 2, h.cell i hi 3, h.cell i hi 4, h.cell i hi 5⟩
/-- The same, behind one more block. -/
theorem Lay.ca6 (h : Lay w wr l) (i : Nat) {b : Nat} {T : TypeId} {c0 c1 c2 c3 c4 c5 : Value} (hi : l[i]? = some (b, T, #[c0, c1, c2, c3, c4, c5])) :
    (∀ o, (wr.alloc o).cell? ⟨b, 0, none⟩ = some c0) ∧ (∀ o, (wr.alloc o).cell? ⟨b, 1, none⟩ = some c1) ∧ (∀ o, (wr.alloc o).cell? ⟨b, 2, none⟩ = some c2) ∧ (∀ o, (wr.alloc o).cell? ⟨b, 3, none⟩ = some c3) ∧ (∀ o, (wr.alloc o).cell? ⟨b, 4, none⟩ = some c4) ∧ (∀ o, (wr.alloc o).cell? ⟨b, 5, none⟩ = some c5) := by
  have k : ∀ o, (wr.alloc o).heap[b]? = some (.cells #[c0, c1, c2, c3, c4, c5] T (0, 0)) := fun o => (Below.heap_alloc _ _ _ (h.lt (List.mem_of_getElem? hi))).trans (h.at_ i hi)
  exact ⟨fun o => cell_of_row _ _ 0 _ _ _ (k o), fun o => cell_of_row _ _ 1 _ _ _ (k o), fun o => cell_of_row _ _ 2 _ _ _ (k o), fun o => cell_of_row _ _ 3 _ _ _ (k o), fun o => cell_of_row _ _ 4 _ _ _ (k o), fun o => cell_of_row _ _ 5 _ _ _ (k o)⟩
theorem Lay.c1 (h : Lay w wr l) (i : Nat) {b : Nat} {T : TypeId} {c0 : Value} (hi : l[i]? = some (b, T, #[c0])) : wr.cell? ⟨b, 0, none⟩ = some c0 := h.cell i hi 0
theorem Lay.c2 (h : Lay w wr l) (i : Nat) {b : Nat} {T : TypeId} {c0 c1 : Value} (hi : l[i]? = some (b, T, #[c0, c1])) : wr.cell? ⟨b, 0, none⟩ = some c0 ∧ wr.cell? ⟨b, 1, none⟩ = some c1 := ⟨h.cell i hi 0, h.cell i hi 1⟩
/-- A cell of the block number i is written. -/
theorem Lay.set (h : Lay w wr l) (i : Nat) {b : Nat} {T : TypeId} {cs : Array Value} (hi : l[i]? = some (b, T, cs)) (k : Nat) (v : Value) : Lay w (wr.setCell ⟨b, k, none⟩ v) (l.set i (b, T, cs.setIfInBounds k v)) := by
  have hm := List.mem_of_getElem? hi
  have hb := h.own _ hm
  have h0 := h.at_ i hi
  have hnd := h.nd
  refine ⟨h.below.setCell hb _, fun x hx => ?_, fun x hx => ?_, ?_⟩
  · obtain ⟨j, hj⟩ := List.mem_iff_getElem?.1 hx
    rw [List.getElem?_set] at hj
    split at hj
    · rename_i e
      split at hj
      · cases hj
        exact heap_setCell_same _ _ k _ _ v h0
      · cases hj
    · rename_i e
      have hne : x.1 ≠ b := by
        intro he
        have h1 : (l.map (·.1))[i]? = some b := by rw [List.getElem?_map, hi]; rfl
        have h2 : (l.map (·.1))[j]? = some b := by rw [List.getElem?_map, hj]; simp [he]
        obtain ⟨l1, h1⟩ := List.getElem?_eq_some_iff.1 h1
        obtain ⟨l2, h2⟩ := List.getElem?_eq_some_iff.1 h2
        exact e ((List.getElem_inj hnd).1 (h1.trans h2.symm))
      rw [heap_setCell_other _ _ _ _ (by simpa using hne)]
      exact h.row x (List.mem_of_getElem? hj)
  · rcases List.mem_or_eq_of_mem_set hx with hx | rfl
    · exact h.own x hx
    · exact hb
  · have : (l.set i (b, T, cs.setIfInBounds k v)).map (·.1) = l.map (·.1) := by
      rw [List.map_set]
      apply List.ext_getElem?
      intro j
      rw [List.getElem?_set]
      split
      · rename_i e
        subst e
        rw [List.getElem?_map, hi]
        split
        · rfl
        · rename_i hh
          exfalso
          apply hh
          rw [List.length_map]
          exact (List.getElem?_eq_some_iff.1 hi).1
      · rfl
    rw [this]
    exact hnd
/-- Six cells in one go. -/
theorem Lay.put6 (h : Lay w wr l) (i : Nat) {b : Nat} {T : TypeId} {c0 c1 c2 c3 c4 c5 : Value} (hi : l[i]? = some (b, T, #[c0, c1, c2, c3, c4, c5])) (v0 v1 v2 v3 v4 v5 : Value) :
    Lay w ((((((wr.setCell ⟨b, 0, none⟩ v0).setCell ⟨b, 1, none⟩ v1).setCell ⟨b, 2, none⟩ v2).setCell ⟨b, 3, none⟩ v3).setCell ⟨b, 4, none⟩ v4).setCell ⟨b, 5, none⟩ v5) (l.set i (b, T, #[v0, v1, v2, v3, v4, v5])) := by
  have hlt : i < l.length := (List.getElem?_eq_some_iff.1 hi).1
  have g0 := h.set i hi 0 v0
  have g1 := g0.set i (by rw [List.getElem?_set, if_pos rfl, if_pos hlt]) 1 v1
  have g2 := g1.set i (by rw [List.getElem?_set, if_pos rfl, if_pos (by simpa using hlt)]) 2 v2
  have g3 := g2.set i (by rw [List.getElem?_set, if_pos rfl, if_pos (by simpa using hlt)]) 3 v3
  have g4 := g3.set i (by rw [List.getElem?_set, if_pos rfl, if_pos (by simpa using hlt)]) 4 v4
  have g5 := g4.set i (by rw [List.getElem?_set, if_pos rfl, if_pos (by simpa using hlt)]) 5 v5
  simpa [List.set_set] using g5
end
end Go.Proofs.YtinknleckppciaaGreatDoor
namespace Go.Proofs.YtinknleckppciaaGreatDoor
open Go.RowKit

section
variable {S S' : Nat → Prop} {w w' : World} {v : Value}
theorem Rd.lt {size n : Nat} {xs : List Value} (h : Rd S w size v n xs) (hs : 0 < size) : Rd (fun b => S b ∧ b < w.heap.size) w size v n xs := by
  obtain ⟨A, cap, e, h1, h2, h3, h4⟩ := h
  refine ⟨A, cap, e, h1, h2, h3, fun hn => ?_⟩
  obtain ⟨b, off, e1, hS, hc⟩ := h4 hn
  have hl : 0 < xs.length := by rw [h3]; exact Nat.mul_pos hn hs
  exact ⟨b, off, e1, ⟨hS, block_lt_of_cell (hc 0 _ (List.getElem?_eq_getElem hl))⟩, hc⟩
theorem StrsAt.lt {l : List ByteArray} (h : StrsAt S w v l) : StrsAt (fun b => S b ∧ b < w.heap.size) w v l := ⟨h.1.lt (by omega), h.2⟩
theorem StrsAt.more {l : List ByteArray} (h : StrsAt S w v l) (hS : ∀ b, S b → S' b) : StrsAt S' w v l := ⟨h.1.more hS, h.2⟩
theorem IntsAt.lt {l : List Int} (h : IntsAt S w v l) : IntsAt (fun b => S b ∧ b < w.heap.size) w v l := ⟨h.1.lt (by omega), h.2⟩
theorem IntsAt.more {l : List Int} (h : IntsAt S w v l) (hS : ∀ b, S b → S' b) : IntsAt S' w v l := ⟨h.1.more hS, h.2⟩
theorem RcOk.lt {c : Rc} (h : RcOk S w c) : RcOk (fun b => S b ∧ b < w.heap.size) w c := ⟨h.data.lt, h.tags.lt, h.lo, h.many, h.born⟩
theorem RcOk.more {c : Rc} (h : RcOk S w c) (hS : ∀ b, S b → S' b) : RcOk S' w c := ⟨h.data.more hS, h.tags.more hS, h.lo, h.many, h.born⟩
theorem ReqAt.lt {r : Rq} (h : ReqAt S w v r) : ReqAt (fun b => S b ∧ b < w.heap.size) w v r := by
  obtain ⟨c, h1, h2, h3⟩ := h; exact ⟨c, h1, h2, h3.lt⟩
theorem ReqAt.more {r : Rq} (h : ReqAt S w v r) (hS : ∀ b, S b → S' b) : ReqAt S' w v r := by
  obtain ⟨c, h1, h2, h3⟩ := h; exact ⟨c, h1, h2, h3.more hS⟩
theorem ReqsAt.lt {l : List Rq} (h : ReqsAt S w v l) : ReqsAt (fun b => S b ∧ b < w.heap.size) w v l := by
  obtain ⟨cs, h1, h2, h3⟩ := h; exact ⟨cs, h1, h2.lt (by omega), fun c hc => (h3 c hc).lt⟩
theorem ReqsAt.more {l : List Rq} (h : ReqsAt S w v l) (hS : ∀ b, S b → S' b) : ReqsAt S' w v l := by
  obtain ⟨cs, h1, h2, h3⟩ := h; exact ⟨cs, h1, h2.more hS, fun c hc => (h3 c hc).more hS⟩
end
end Go.Proofs.YtinknleckppciaaGreatDoor
namespace Go.Proofs.YtinknleckppciaaGreatDoor
set_option linter.unusedSimpArgs false
set_option linter.unusedVariables false
open Go.RowKit Go.Sort

def kindP (b : Bool) : ByteArray := if b then ⟨#[119]⟩ else ⟨#[114]⟩
def itoas (l : List Int) (k : Nat) : List ByteArray := (l.take k).map itoaB
def joinP (xs : List ByteArray) (c : UInt8) : ByteArray := ⟨(Lib.join (xs.map (·.data.toList)) [c]).toArray⟩
/-- A request's text. -/
def textP (r : Rq) : ByteArray := (kindP r.write ++ ((itoaB r.lo ++ ⟨#[43]⟩) ++ itoaB r.many)) ++ ⟨#[35]⟩ ++ joinP (itoas r.tags r.tags.length) 44
theorem itoas_succ {l : List Int} {k : Nat} {x : Int} (h : l[k]? = some x) : itoas l (k + 1) = itoas l k ++ [itoaB x] := by
  unfold itoas; rw [List.take_add_one, h]; simp
theorem itoas_len {l : List Int} {k : Nat} (h : k ≤ l.length) : (itoas l k).length = k := by unfold itoas; simp; omega
theorem ptrInfo : (Tryz.prog.info? 9).map (fun i => (i.zero, i.size, i.bytes)) = some (some (.string ByteArray.empty), 1, 16) := by kernel_rfl
theorem itoaB_size (n : Int) (h0 : -9223372036854775808 ≤ n) (h1 : n ≤ 9223372036854775807) : (itoaB n).size ≤ 21 := Lib.itoa_length_le n h0 h1
theorem joinC_len (c : UInt8) : ∀ (xs : List (List UInt8)) (B : Nat), (∀ x ∈ xs, x.length ≤ B) → (Lib.join xs [c]).length ≤ xs.length * (B + 1)
  | [], B, _ => by simp [Lib.join, List.intercalate]
  | [a], B, h => by
    have := h a (by simp)
    simp [Lib.join, List.intercalate]; omega
  | a :: b :: r, B, h => by
    have h1 := h a (by simp)
    have h2 := joinC_len c (b :: r) B (fun x hx => h x (by simp at hx ⊢; right; exact hx))
    have e : Lib.join (a :: b :: r) [c] = a ++ [c] ++ Lib.join (b :: r) [c] := by simp [Lib.join, List.intercalate]
    rw [e]
    simp only [List.length_append, List.length_cons, List.length_nil] at h2 ⊢
    have : (r.length + 1 + 1) * (B + 1) = (r.length + 1) * (B + 1) + (B + 1) := by rw [Nat.succ_mul]
    omega
theorem joinP_size (xs : List ByteArray) (c : UInt8) (B : Nat) (h : ∀ x ∈ xs, x.size ≤ B) : (joinP xs c).size ≤ xs.length * (B + 1) := by
  have := joinC_len c (xs.map (·.data.toList)) B (fun x hx => by
    obtain ⟨y, hy, rfl⟩ := List.mem_map.1 hx
    have := h y hy
    simpa using this)
  rw [List.length_map] at this
  exact this
theorem joinp_own {w : World} {base n cap : Nat} {A : Option Addr} {xs : List ByteArray} (c : UInt8) (hown : w.ownsRow base 9 1 (.slice A n cap) n (xs.map .string)) (hn : xs.length = n) (hl : (joinP xs c).size ≤ 100000) (hN : n ≤ 100000) :
    Calls Tryz.prog 57 #[.slice A n cap, .string ⟨#[c]⟩] w (Ret (.string (joinP xs c)) w) := by
  rcases Nat.eq_zero_or_pos n with h0 | h0
  · subst h0
    obtain rfl : xs = [] := List.eq_nil_of_length_eq_zero hn
    refine (Tryz.strings_Join_none A cap _ w).mono ?_
    rintro e w' ⟨rfl, rfl⟩
    exact ⟨rfl, Below.refl _ _⟩
  · obtain ⟨g, cap', e, hg, hlt, hcap, _⟩ := own_form hown h0
    cases e
    subst hn
    exact (Tryz.strings_Join g 0 _ xs ⟨#[c]⟩ w (fun j x hx => by
      have := hown.cells (g := g) rfl j (.string x) (by rw [List.getElem?_map, hx]; rfl)
      simpa [Go.WideShapes.add_plain] using this) hlt (by omega) hcap (Nat.le_trans (show (Lib.join (xs.map (·.data.toList)) [c]).length ≤ 100000 from hl) (by decide))).mono fun e w' h => h
theorem textP_size {r : Rq} (h : ∀ x ∈ r.tags, -9223372036854775808 ≤ x ∧ x ≤ 9223372036854775807) (h1 : -9223372036854775808 ≤ r.lo ∧ r.lo ≤ 9223372036854775807) (h2 : -9223372036854775808 ≤ r.many ∧ r.many ≤ 9223372036854775807) (ht : r.tags.length ≤ 8) : (textP r).size ≤ 300 := by
  have a1 := itoaB_size r.lo h1.1 h1.2
  have a2 := itoaB_size r.many h2.1 h2.2
  have a3 := joinP_size (itoas r.tags r.tags.length) 44 21 (fun x hx => by
    unfold itoas at hx
    obtain ⟨y, hy, rfl⟩ := List.mem_map.1 hx
    have := h y (List.mem_of_mem_take hy)
    exact itoaB_size y this.1 this.2)
  rw [itoas_len (Nat.le_refl _)] at a3
  have a4 : r.tags.length * (21 + 1) ≤ 8 * 22 := Nat.mul_le_mul ht (Nat.le_refl _)
  have a5 : (kindP r.write).size = 1 := by unfold kindP; split <;> rfl
  unfold textP
  simp only [ByteArray.size_append, a5]
  have e1 : (⟨#[43]⟩ : ByteArray).size = 1 := rfl
  have e2 : (⟨#[35]⟩ : ByteArray).size = 1 := rfl
  omega
set_option maxRecDepth 100000 in
set_option maxHeartbeats 2000000 in
theorem textp_any (S : Nat → Prop) (r : Rq) (v : Value) (w : World) (h : ReqAt S w v r) (ht : r.tags.length ≤ 8) (hE : Env w) :
    Calls Tryz.prog 56 #[v, .func (.func 28) #[] #[]] w (Ret (.string (textP r)) w) := by
  obtain ⟨i0, hi0, hz0, hz1, hz2⟩ := info_parts ptrInfo
  obtain ⟨Ad, cd, At, ct, rfl, _, hat, _, _, ⟨l1, l2⟩, ⟨m1, m2⟩, _⟩ := h.opened
  have Ht := Lib.hid hat
  have HE := Lib.hid hE
  clear hat h hE
  have s1 := itoaB_size r.lo l1 l2
  have s2 := itoaB_size r.many m1 m2
  have Hl := Lib.hid (fun w (hE : Env w) => itoa_any r.lo w l1 l2 hE)
  have Hm := Lib.hid (fun w (hE : Env w) => itoa_any r.many w m1 m2 hE)
  have hT : Hid (textP r = (kindP r.write ++ ((itoaB r.lo ++ ⟨#[43]⟩) ++ itoaB r.many)) ++ ⟨#[35]⟩ ++ joinP (itoas r.tags r.tags.length) 44) := rfl
  generalize textP r = tr at hT ⊢
  generalize itoaB r.lo = dl at *
  generalize itoaB r.many = dm at *
  cases hw : r.write with
  | true =>
    rw [hw] at hT
    have hT : Hid (tr = ((⟨#[119]⟩ : ByteArray) ++ ((dl ++ ⟨#[43]⟩) ++ dm)) ++ ⟨#[35]⟩ ++ joinP (itoas r.tags r.tags.length) 44) := hT
    go_enter Tryz.func56, Tryz.ntmps56
    go_wp2_with fail
    have L := (Lay.refl w).alloc' w.heap.size #[Value.bool r.write, Value.int IntKind.i64 r.lo, Value.int IntKind.i64 r.many, Value.slice Ad r.data.length cd, Value.slice At r.tags.length ct, Value.int IntKind.i64 r.born] 97 rfl
    rw [hw] at L
    generalize World.alloc _ _ = W at L ⊢
    obtain ⟨c0, c1, c2, c3, c4, c5⟩ := L.c6 0 rfl
    have c1 := cell_regrown c1
    have c2 := cell_regrown c2
    have z1 : ¬ (9223372036854775807 < dl.size + 1) := by omega
    have z2 : ¬ (9223372036854775807 < dl.size + 1 + dm.size) := by omega
    have z3 : ¬ (9223372036854775807 < 1 + (dl.size + 1 + dm.size)) := by omega
    have HEn : Hid (∀ dq osq, Env (grow (redrawn W dq) osq)) := fun dq osq => (HE.out.below L.below).below (below_regrown W dq osq)
    refine wp_region_quiet_below mixed (by kernel_rfl) ?_
    repeat (quiet_step (first | (go_at_call 28; first | (with_reducible exact Calls.rg (Hl.out _ (HEn.out _ _))) | (with_reducible exact Calls.rg (Hm.out _ (HEn.out _ _))))))
    refine wpQuiet_nil ?_
    intro _ hw'
    obtain ⟨⟨dq, osq⟩, hw''⟩ := hw'
    subst hw''
    have L2 := L.step (below_regrown W dq osq)
    generalize grow (redrawn W dq) osq = W2 at L2 ⊢
    clear c0 c1 c2 c3 c4 c5 L z1 z2 z3
    have HL := Lib.hid L2
    obtain ⟨c0, c1, c2, c3, c4, c5⟩ := L2.c6 0 rfl
    clear L2
    go_wp2_with fail
    clear c0 c1 c2 c3 c4 c5
    go_loopw [6, 28] (fun v i wr => ∃ (k : Nat), k ≤ r.tags.length ∧ i = .int .i64 k ∧ Below W2.heap.size W2 wr ∧ Hid (wr.ownsRow W2.heap.size 9 1 v k ((itoas r.tags k).map .string))) (fun _ i _ => r.tags.length - (intOf i).toNat)
    case atStart => exact ⟨0, by omega, rfl, Below.refl _ _, World.ownsRow_nil _ _ _ _⟩
    case round =>
      obtain ⟨k, hk, rfl, hb, HO⟩ := hrel
      by_cases hlt : k < r.tags.length
      · obtain ⟨b, off, rfl, _, _, hc⟩ := ((Ht.out.below HL.out.below).below hb).at_ (by omega)
        have hx : r.tags[k]? = some r.tags[k] := List.getElem?_eq_getElem hlt
        obtain ⟨hcell, hx1, hx2⟩ := hc k _ hx
        have Hx := Lib.hid hx
        clear hx hc
        generalize r.tags[k] = x at *
        have hk1 : (k : Int) < (r.tags.length : Int) := by omega
        have hds := itoaB_size x hx1 hx2
        have Hd := Lib.hid (fun w (hE : Env w) => itoa_any x w hx1 hx2 hE)
        have Hdec := Lib.hid (itoas_succ Hx.out)
        generalize itoaB x = dx at *
        go_wp2_with fail
        refine (Hd.out _ ((HE.out.below HL.out.below).below hb)).mono ?_
        rintro e w1 ⟨rfl, hb1⟩
        have hbr := (Below.refl w1.heap.size w1).alloc (Nat.le_refl _) (Obj.cells #[Value.string dx] 9)
        have hw1 := hb.trans (hb1.mono hb.size)
        have hwb := hw1.trans (hbr.mono hw1.size)
        have hba := (hb1.trans (hbr.mono hb1.size) : Below wr.heap.size wr _)
        have HO1 := Lib.hid (own_keepL HO.out (fun g _ hg => hba.block g hg))
        have Hrow := Lib.hid (rd_row1 w1 (.string dx) 9)
        have Hwb := Lib.hid hwb
        clear hbr hba hwb
        go_wp2_with (at_builtin; refine wpList_append_rd (S := fun _ => True) _ rfl (.tmp 32) (.tmp 36) _ rfl W2.heap.size 9 i0 _ 1 16 Tryz.underlying95 hi0 hz0 hz1 hz2 rfl (by omega) _ k ((itoas r.tags k).map .string) rfl HO1.out _ 1 _ rfl Hrow.out (fun u hu => by simp at hu; subst hu; rfl) (by simp only [maxLen]; omega) (by omega) Hwb.out.size ?_; intro v5 w5 hown5 hg5 hat5)
        have HB5 := Lib.hid (Hwb.out.grown hg5 Hwb.out.size (fun k hk => (HO1.out.lt k hk).1))
        have HO5 := Lib.hid hown5
        clear hown5 hg5 hat5
        go_roundw
        case rel => exact ⟨k + 1, by omega, by go_num, HB5.out, by show World.ownsRow _ _ _ _ _ _ _; rw [Hdec.out, List.map_append]; exact HO5.out⟩
        case measure => simp [intOf]; omega
      · obtain rfl : k = r.tags.length := by omega
        have hj : (joinP (itoas r.tags r.tags.length) 44).size ≤ 400 := by
          have := joinP_size (itoas r.tags r.tags.length) 44 21 (fun x hx => by
            unfold itoas at hx
            obtain ⟨y, hy, rfl⟩ := List.mem_map.1 hx
            have h1 := Ht.out.2 y (List.mem_of_mem_take hy)
            exact itoaB_size y h1.1 h1.2)
          rw [itoas_len (Nat.le_refl _)] at this
          have h4 : r.tags.length * (21 + 1) ≤ 8 * 22 := Nat.mul_le_mul ht (Nat.le_refl _)
          omega
        obtain ⟨A6, c6, rfl⟩ := own_slice HO.out
        have Hil := Lib.hid (itoas_len (l := r.tags) (Nat.le_refl _))
        have Hjo := Lib.hid (fun hN => joinp_own (44 : UInt8) HO.out Hil.out (by omega) hN)
        have Hj := Lib.hid hj
        generalize joinP (itoas r.tags r.tags.length) 44 = JJ at *
        have hj2 := Hj.out
        have y1 : ¬ (9223372036854775807 < 1 + (dl.size + 1 + dm.size) + 1) := by omega
        have y2 : ¬ (9223372036854775807 < 1 + (dl.size + 1 + dm.size) + 1 + JJ.size) := by omega
        go_wp2_with fail
        refine (Hjo.out (by omega)).mono ?_
        rintro e w7 ⟨rfl, hb7⟩
        go_wp2_with fail
        go_ret
        exact ⟨congrArg (fun t => Ending.returned (Value.string t)) hT.out.symm, HL.out.below.trans (Below.mono (hb.trans (hb7.mono hb.size)) HL.out.size)⟩
  | false =>
    rw [hw] at hT
    have hT : Hid (tr = ((⟨#[114]⟩ : ByteArray) ++ ((dl ++ ⟨#[43]⟩) ++ dm)) ++ ⟨#[35]⟩ ++ joinP (itoas r.tags r.tags.length) 44) := hT
    go_enter Tryz.func56, Tryz.ntmps56
    go_wp2_with fail
    have L := (Lay.refl w).alloc' w.heap.size #[Value.bool r.write, Value.int IntKind.i64 r.lo, Value.int IntKind.i64 r.many, Value.slice Ad r.data.length cd, Value.slice At r.tags.length ct, Value.int IntKind.i64 r.born] 97 rfl
    rw [hw] at L
    generalize World.alloc _ _ = W at L ⊢
    obtain ⟨c0, c1, c2, c3, c4, c5⟩ := L.c6 0 rfl
    have c1 := cell_regrown c1
    have c2 := cell_regrown c2
    have z1 : ¬ (9223372036854775807 < dl.size + 1) := by omega
    have z2 : ¬ (9223372036854775807 < dl.size + 1 + dm.size) := by omega
    have z3 : ¬ (9223372036854775807 < 1 + (dl.size + 1 + dm.size)) := by omega
    have HEn : Hid (∀ dq osq, Env (grow (redrawn W dq) osq)) := fun dq osq => (HE.out.below L.below).below (below_regrown W dq osq)
    refine wp_region_quiet_below mixed (by kernel_rfl) ?_
    repeat (quiet_step (first | (go_at_call 28; first | (with_reducible exact Calls.rg (Hl.out _ (HEn.out _ _))) | (with_reducible exact Calls.rg (Hm.out _ (HEn.out _ _))))))
    refine wpQuiet_nil ?_
    intro _ hw'
    obtain ⟨⟨dq, osq⟩, hw''⟩ := hw'
    subst hw''
    have L2 := L.step (below_regrown W dq osq)
    generalize grow (redrawn W dq) osq = W2 at L2 ⊢
    clear c0 c1 c2 c3 c4 c5 L z1 z2 z3
    have HL := Lib.hid L2
    obtain ⟨c0, c1, c2, c3, c4, c5⟩ := L2.c6 0 rfl
    clear L2
    go_wp2_with fail
    clear c0 c1 c2 c3 c4 c5
    go_loopw [6, 28] (fun v i wr => ∃ (k : Nat), k ≤ r.tags.length ∧ i = .int .i64 k ∧ Below W2.heap.size W2 wr ∧ Hid (wr.ownsRow W2.heap.size 9 1 v k ((itoas r.tags k).map .string))) (fun _ i _ => r.tags.length - (intOf i).toNat)
    case atStart => exact ⟨0, by omega, rfl, Below.refl _ _, World.ownsRow_nil _ _ _ _⟩
    case round =>
      obtain ⟨k, hk, rfl, hb, HO⟩ := hrel
      by_cases hlt : k < r.tags.length
      · obtain ⟨b, off, rfl, _, _, hc⟩ := ((Ht.out.below HL.out.below).below hb).at_ (by omega)
        have hx : r.tags[k]? = some r.tags[k] := List.getElem?_eq_getElem hlt
        obtain ⟨hcell, hx1, hx2⟩ := hc k _ hx
        have Hx := Lib.hid hx
        clear hx hc
        generalize r.tags[k] = x at *
        have hk1 : (k : Int) < (r.tags.length : Int) := by omega
        have hds := itoaB_size x hx1 hx2
        have Hd := Lib.hid (fun w (hE : Env w) => itoa_any x w hx1 hx2 hE)
        have Hdec := Lib.hid (itoas_succ Hx.out)
        generalize itoaB x = dx at *
        go_wp2_with fail
        refine (Hd.out _ ((HE.out.below HL.out.below).below hb)).mono ?_
        rintro e w1 ⟨rfl, hb1⟩
        have hbr := (Below.refl w1.heap.size w1).alloc (Nat.le_refl _) (Obj.cells #[Value.string dx] 9)
        have hw1 := hb.trans (hb1.mono hb.size)
        have hwb := hw1.trans (hbr.mono hw1.size)
        have hba := (hb1.trans (hbr.mono hb1.size) : Below wr.heap.size wr _)
        have HO1 := Lib.hid (own_keepL HO.out (fun g _ hg => hba.block g hg))
        have Hrow := Lib.hid (rd_row1 w1 (.string dx) 9)
        have Hwb := Lib.hid hwb
        clear hbr hba hwb
        go_wp2_with (at_builtin; refine wpList_append_rd (S := fun _ => True) _ rfl (.tmp 32) (.tmp 36) _ rfl W2.heap.size 9 i0 _ 1 16 Tryz.underlying95 hi0 hz0 hz1 hz2 rfl (by omega) _ k ((itoas r.tags k).map .string) rfl HO1.out _ 1 _ rfl Hrow.out (fun u hu => by simp at hu; subst hu; rfl) (by simp only [maxLen]; omega) (by omega) Hwb.out.size ?_; intro v5 w5 hown5 hg5 hat5)
        have HB5 := Lib.hid (Hwb.out.grown hg5 Hwb.out.size (fun k hk => (HO1.out.lt k hk).1))
        have HO5 := Lib.hid hown5
        clear hown5 hg5 hat5
        go_roundw
        case rel => exact ⟨k + 1, by omega, by go_num, HB5.out, by show World.ownsRow _ _ _ _ _ _ _; rw [Hdec.out, List.map_append]; exact HO5.out⟩
        case measure => simp [intOf]; omega
      · obtain rfl : k = r.tags.length := by omega
        have hj : (joinP (itoas r.tags r.tags.length) 44).size ≤ 400 := by
          have := joinP_size (itoas r.tags r.tags.length) 44 21 (fun x hx => by
            unfold itoas at hx
            obtain ⟨y, hy, rfl⟩ := List.mem_map.1 hx
            have h1 := Ht.out.2 y (List.mem_of_mem_take hy)
            exact itoaB_size y h1.1 h1.2)
          rw [itoas_len (Nat.le_refl _)] at this
          have h4 : r.tags.length * (21 + 1) ≤ 8 * 22 := Nat.mul_le_mul ht (Nat.le_refl _)
          omega
        obtain ⟨A6, c6, rfl⟩ := own_slice HO.out
        have Hil := Lib.hid (itoas_len (l := r.tags) (Nat.le_refl _))
        have Hjo := Lib.hid (fun hN => joinp_own (44 : UInt8) HO.out Hil.out (by omega) hN)
        have Hj := Lib.hid hj
        generalize joinP (itoas r.tags r.tags.length) 44 = JJ at *
        have hj2 := Hj.out
        have y1 : ¬ (9223372036854775807 < 1 + (dl.size + 1 + dm.size) + 1) := by omega
        have y2 : ¬ (9223372036854775807 < 1 + (dl.size + 1 + dm.size) + 1 + JJ.size) := by omega
        go_wp2_with fail
        refine (Hjo.out (by omega)).mono ?_
        rintro e w7 ⟨rfl, hb7⟩
        go_wp2_with fail
        go_ret
        exact ⟨congrArg (fun t => Ending.returned (Value.string t)) hT.out.symm, HL.out.below.trans (Below.mono (hb.trans (hb7.mono hb.size)) HL.out.size)⟩

/-! ### What is answered -/
def p_okB : ByteArray := ⟨#[111, 107]⟩
def p_errB : ByteArray := ⟨#[101, 114, 114, 111, 114, 32]⟩
def doneB (n : Nat) : ByteArray := if n = 0 then p_okB else p_errB ++ itoaB n
def yesB (b : Bool) : ByteArray := if b then ⟨#[121, 101, 115]⟩ else ⟨#[110, 111]⟩
theorem nil_assert (w : World) : (Instr.typeAssert .nilIface 30 62 true).run Tryz.prog w = .ok (.tuple #[.int .i64 0, .bool false]) w := by kernel_rfl
set_option maxRecDepth 100000 in
theorem done_any (n : Nat) (w : World) (hn : n ≤ 1000) (hE : Env w) : Calls Tryz.prog 20 #[errV n] w (Ret (.string (doneB n)) w) := by
  by_cases h : n = 0
  · subst h
    have e : doneB 0 = ⟨#[111, 107]⟩ := rfl
    rw [e, errV_zero]
    have ha := nil_assert
    go_enter Tryz.func20, Tryz.ntmps20
    go_wp2
    go_ret
    exact ⟨rfl, Below.refl _ _⟩
  · have e : doneB n = (⟨#[101, 114, 114, 111, 114, 32]⟩ : ByteArray) ++ itoaB n := by unfold doneB; rw [if_neg h]; rfl
    have hs := itoaB_size (n : Int) (by omega) (by omega)
    rw [e, errV_pos h]
    clear e
    have Hi := Lib.hid (itoa_any (n : Int) w (by omega) (by omega) hE)
    generalize itoaB (n : Int) = d at *
    have z1 : ¬ (9223372036854775807 < 6 + d.size) := by omega
    go_enter Tryz.func20, Tryz.ntmps20
    go_wp2_with fail
    refine Hi.out.mono ?_
    rintro e w1 ⟨rfl, hb⟩
    go_wp2
    go_ret
    exact ⟨rfl, hb⟩
open Go.Maps Go.WideShapes Go.WideMaps Go.WideElems in
set_option maxRecDepth 100000 in
theorem yes_any (b : Bool) (w : World) : Calls Tryz.prog 23 #[.bool b] w (Ret (.string (yesB b)) w) := by
  have bl : Keyed Tryz.prog 4 := bool_keyed Tryz.underlying4
  have z9 : ∀ w, (zeroValue 9).run Tryz.prog w = .ok (.string ⟨#[]⟩) w := fun w => by kernel_rfl
  have hmm := @run_makeMap Tryz.prog
  have hb0 : RowKit.Below w.heap.size w (w.alloc (.map #[] 0)) := (RowKit.Below.refl _ _).alloc (Nat.le_refl _) _
  have g0 := World.ownsMap_made (H := Unit) w Tryz.prog 4 (plainElem Tryz.prog 9)
  generalize hw0 : w.alloc (.map #[] 0) = w0 at hb0 g0
  have e0 : plainElem (H := Unit) Tryz.prog 9 (.string ⟨#[110, 111]⟩) = some (.lit (.string [110, 111]), []) := plainElem_string (s := ⟨#[110, 111]⟩) Tryz.underlying9 (by decide)
  have e1 : plainElem (H := Unit) Tryz.prog 9 (.string ⟨#[121, 101, 115]⟩) = some (.lit (.string [121, 101, 115]), []) := plainElem_string (s := ⟨#[121, 101, 115]⟩) Tryz.underlying9 (by decide)
  obtain ⟨w1, r1, g1, t1⟩ := g0.update bl Tryz.underlying86 (by decide) (keyOf_bool_mk Tryz.underlying4 false) e0
  have hb1 := hb0.grown t1 hb0.size (fun j hj => by cases hj; exact Nat.le_refl _)
  obtain ⟨w2, r2, g2, t2⟩ := g1.update bl Tryz.underlying86 (by decide) (keyOf_bool_mk Tryz.underlying4 true) e1
  have hb2 := hb1.grown t2 hb1.size (fun j hj => by cases hj; exact Nat.le_refl _)
  obtain ⟨v, ps, rl, hv⟩ := g2.lookup bl Tryz.underlying86 (z9 w2) (plainElem_string (s := ⟨#[]⟩) Tryz.underlying9 (by decide)) (keyOf_bool_mk Tryz.underlying4 b)
  have hD : ((((DataW.map []).put (.bool false) (.lit (.string [110, 111]))).put (.bool true) (.lit (.string [121, 101, 115])) : DataW Unit).atKey (.bool b) (.lit (.string []))) = .lit (.string (yesB b).data.toList) := by
    cases b <;> kernel_rfl
  have hfin : v = .string (yesB b) := by
    obtain ⟨s', rfl, e2, _⟩ := plainElem_string_inv Tryz.underlying9 hv
    have e3 : DataW.lit (.string (yesB b).data.toList) = (.lit (.string s'.data.toList) : DataW Unit) := hD.symm.trans (congrArg Prod.fst e2)
    simp only [DataW.lit.injEq, Lit.string.injEq] at e3
    exact congrArg Value.string (Go.WideShapes.bytes_inj e3.symm)
  subst hfin
  have HB := Lib.hid hb2
  clear hv hD hb0 hb1 hb2 g0 g1 g2 t1 t2 e0 e1
  go_enter Tryz.func23, Tryz.ntmps23
  go_wp2
  go_ret
  exact ⟨rfl, HB.out⟩
end Go.Proofs.YtinknleckppciaaGreatDoor
namespace Go.Proofs.YtinknleckppciaaGreatDoor
open Go.RowKit

/-- It returns a row of the call's own, that holds xs. -/
def RetOwn (e : TypeId) (size n : Nat) (xs : List Value) (w : World) : Ending → World → Prop := fun E w' => ∃ v, E = .returned v ∧ w'.ownsRow w.heap.size e size v n xs ∧ Below w.heap.size w w'

theorem reqInfo : (Tryz.prog.info? 97).map (fun i => (i.zero, i.size, i.bytes)) = some (some (.agg #[.bool false, .int .i64 0, .int .i64 0, .slice none 0 0, .slice none 0 0, .int .i64 0]), 6, 80) := by kernel_rfl
theorem nil_reqs (a : Option Addr) (n c : Nat) (w : World) : (binOp .eql 55 (.slice a n c) (.slice none 0 0)).run Tryz.prog w = .ok (.bool a.isNone) w := Lib.run_eql_slice_nil w _ _ a n c 0 0 Tryz.underlying55

set_option maxRecDepth 100000 in
theorem clone_any (S : Nat → Prop) (v : Value) (n : Nat) (xs : List Value) (w : World) (h : Rd S w 6 v n xs) (h1 : ∀ u ∈ xs, u.oneCell' = true) (hn : n ≤ 65536) :
    Calls Tryz.prog 58 #[v] w (RetOwn 97 6 n xs w) := by
  obtain ⟨i0, hi0, hz0, hz1, hz2⟩ := info_parts reqInfo
  have H := Lib.hid h
  obtain ⟨A, c, rfl, hm, hc⟩ := h.form
  clear h
  have hnil := nil_reqs A n c w
  cases A with
  | none =>
    have hn0 : n = 0 := by
      obtain ⟨A', c', e, _, _, _, h4⟩ := H.out
      cases e
      rcases Nat.eq_zero_or_pos n with h | h
      · exact h
      · obtain ⟨_, _, h, _⟩ := h4 h; cases h
    subst hn0
    have hx : xs = [] := List.eq_nil_of_length_eq_zero (by obtain ⟨_, _, _, _, _, h, _⟩ := H.out; simpa using h)
    subst hx
    go_enter Tryz.func58, Tryz.ntmps58
    go_wp2_with fail
    go_ret
    exact ⟨_, rfl, World.ownsRow_nil _ _ _ _, Below.refl _ _⟩
  | some ad =>
    go_enter Tryz.func58, Tryz.ntmps58
    go_wp2_with (at_builtin; refine wpList_append_rd (S := S) _ rfl (.tmp 5) (.tmp 6) _ rfl w.heap.size 97 i0 _ 6 80 Tryz.underlying55 hi0 hz0 hz1 hz2 rfl (by omega) (.slice (some ⟨w.heap.size, 0, none⟩) 0 0) 0 [] rfl (World.ownsRow_lit w #[] 0 (Nat.le_refl _) (by simp [maxLen]) (by simp)) (.slice (some ad) n c) n xs rfl (H.out.below ((Below.refl _ _).alloc (Nat.le_refl _) _)) h1 (by simp only [maxLen]; omega) (by omega) (by simp) ?_; intro v1 w1 hown1 hg1 hat1)
    go_ret
    refine ⟨v1, rfl, by simpa using hown1, ((Below.refl _ _).alloc (Nat.le_refl _) _).grown hg1 (by simp) (fun k hk => ?_)⟩
    simp [Value.ownBlock] at hk
    omega
end Go.Proofs.YtinknleckppciaaGreatDoor
namespace Go.Proofs.YtinknleckppciaaGreatDoor
open Go.RowKit

theorem run_clear_row {P : Program} (w : World) (t e ty : TypeId) (z : Value) (size : Nat) (ht : P.underlying t = some (.slice e)) (hv : ∀ w, (zeroValue e).run P w = .ok z w) (hz : z.cells.size = size)
    (h1 : ∀ n, ∀ u ∈ (Builtin.zeroCells z.cells n).toList, u.oneCell' = true) (g o n c : Nat) (T : TypeId) (cur : Array Value) (hg : w.heap[g]? = some (.cells cur T (0, 0))) (hfit : o + n * size ≤ cur.size) :
    ∃ cur', (Builtin.clear_ #[t] ty #[.slice (some ⟨g, o, none⟩) n c]).run P w = .ok (.tuple #[]) (w.setRow g cur') ∧ cur'.size = cur.size ∧ cur'.toList.take o = cur.toList.take o := by
  cases n with
  | zero =>
    refine ⟨cur, ?_, rfl, rfl⟩
    rw [setRow_self w g cur T (0, 0) hg]
    simp [Builtin.clear_, run_underlying ht]
  | succ m =>
    have hlen : (Builtin.zeroCells z.cells (m + 1)).toList.length = (m + 1) * size := by rw [Array.length_toList, size_zeroCells, hz]
    have hst := run_storeCells_at P g o T (Builtin.zeroCells z.cells (m + 1)).toList 0 cur w hg (by rw [hlen]; simpa using hfit) (h1 _)
    refine ⟨(cur.toList.take (o + 0) ++ (Builtin.zeroCells z.cells (m + 1)).toList ++ cur.toList.drop (o + 0 + (Builtin.zeroCells z.cells (m + 1)).toList.length)).toArray, ?_, ?_, ?_⟩
    · simp [Builtin.clear_, run_underlying ht, hv, hst]
    · simp only [List.size_toArray, List.length_append, List.length_take, List.length_drop, hlen, Array.length_toList]
      omega
    · simp only [Nat.add_zero, List.append_assoc]
      rw [List.take_append_of_le_length (by simp; omega)]
      simp [List.take_take]
end Go.Proofs.YtinknleckppciaaGreatDoor
