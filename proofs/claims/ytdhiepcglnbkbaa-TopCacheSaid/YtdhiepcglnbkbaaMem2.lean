
/- The blocks in which a list lies: fewer, more. -/
import Derived.Test.YtdhiepcglnbkbaaMem
namespace Go.Proofs.Ytdhiepcglnbkbaa
open Go.RowKit

section
variable {S S' : Nat → Prop} {w w' : World} {v : Value}
theorem Rd.lt {size n : Nat} {xs : List Value} (h : Rd S w size v n xs) (hs : 0 < size) : Rd (fun b => S b ∧ b < w.heap.size) w size v n xs := by
  obtain ⟨A, cap, e, h1, h2, h3, h4⟩ := h
  refine ⟨A, cap, e, h1, h2, h3, fun hn => ?_⟩
  obtain ⟨b, off, e1, hS, hc⟩ := h4 hn
  have hl : 0 < xs.length := by rw [h3]; exact Nat.mul_pos hn hs
  exact ⟨b, off, e1, ⟨hS, block_lt_of_cell (hc 0 _ (List.getElem?_eq_getElem hl))⟩, hc⟩
theorem StrsAt.lt {l : List ByteArray} (h : StrsAt S w v l) : StrsAt (fun b => S b ∧ b < w.heap.size) w v l := ⟨h.1.lt (by omega), h.2⟩
theorem StrsAt.more {l : List ByteArray} (h : StrsAt S w v l) (hS : ∀ b, S b → S' b) : StrsAt S' w v l := ⟨h.1.more hS, h.2⟩
theorem IntsAt.lt {l : List Int} (h : IntsAt S w v l) : IntsAt (fun b => S b ∧ b < w.heap.size) w v l := ⟨h.1.lt (by omega), h.2⟩
theorem IntsAt.more {l : List Int} (h : IntsAt S w v l) (hS : ∀ b, S b → S' b) : IntsAt S' w v l := ⟨h.1.more hS, h.2⟩
theorem RcOk.lt {c : Rc} (h : RcOk S w c) : RcOk (fun b => S b ∧ b < w.heap.size) w c := ⟨h.data.lt, h.tags.lt, h.lo, h.many, h.born⟩
theorem RcOk.more {c : Rc} (h : RcOk S w c) (hS : ∀ b, S b → S' b) : RcOk S' w c := ⟨h.data.more hS, h.tags.more hS, h.lo, h.many, h.born⟩
theorem ReqAt.lt {r : Rq} (h : ReqAt S w v r) : ReqAt (fun b => S b ∧ b < w.heap.size) w v r := by
  obtain ⟨c, h1, h2, h3⟩ := h; exact ⟨c, h1, h2, h3.lt⟩
theorem ReqAt.more {r : Rq} (h : ReqAt S w v r) (hS : ∀ b, S b → S' b) : ReqAt S' w v r := by
  obtain ⟨c, h1, h2, h3⟩ := h; exact ⟨c, h1, h2, h3.more hS⟩
theorem ReqsAt.lt {l : List Rq} (h : ReqsAt S w v l) : ReqsAt (fun b => S b ∧ b < w.heap.size) w v l := by
  obtain ⟨cs, h1, h2, h3⟩ := h; exact ⟨cs, h1, h2.lt (by omega), fun c hc => (h3 c hc).lt⟩
theorem ReqsAt.more {l : List Rq} (h : ReqsAt S w v l) (hS : ∀ b, S b → S' b) : ReqsAt S' w v l := by
  obtain ⟨cs, h1, h2, h3⟩ := h; exact ⟨cs, h1, h2.more hS, fun c hc => (h3 c hc).more hS⟩
end
end Go.Proofs.Ytdhiepcglnbkbaa
