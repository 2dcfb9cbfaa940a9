
/- How a disk lies in memory. -/
import Derived.Test.YtdhiepcglnbkbaaDevMod
import Derived.Test.YtdhiepcglnbkbaaChg
import Derived.Test.YtdhiepcglnbkbaaClone
import Derived.Test.YtdhiepcglnbkbaaMem2
import Derived.Deep.MidRow
namespace Go.Proofs.Ytdhiepcglnbkbaa
set_option linter.unusedSimpArgs false
set_option linter.unusedVariables false
open Go.RowKit

def devCells (d : Dv) (wv lv : Value) : List Value := d.kept.map .string ++ (d.now.map .string ++ [wv, lv])
def putCells (l : List (Nat × ByteArray)) : List Value := l.flatMap (fun p => [.int .i64 (p.1 : Int), .string p.2])
/-- It owns a row of size cells an element, in a block of F. -/
def Ow (F : Nat → Prop) (w : World) (e : TypeId) (size : Nat) (v : Value) (n : Nat) (xs : List Value) : Prop := w.ownsRow 0 e size v n xs ∧ ∀ k, v.ownBlock = some k → F k
/-- The disk d lies at the block b; all that it may write lies in F, what its requests hold in S. -/
structure DevAt (TD TP : TypeId) (S F : Nat → Prop) (w : World) (b : Nat) (d : Dv) : Prop where
  fb : F b
  kept : d.kept.length = 32
  now : d.now.length = 32
  two : ∃ (wv lv : Value) (cs : List Rc), w.heap[b]? = some (.cells (devCells d wv lv).toArray TD (0, 0)) ∧ Ow F w TP 2 wv d.waits.length (putCells d.waits) ∧ Ow F w 38 6 lv cs.length (cs.flatMap Rc.cells) ∧ cs.map (·.r) = d.l ∧ ∀ c ∈ cs, RcOk S w c

theorem ReqAt.rcOf {S : Nat → Prop} {w : World} {r : Rq} {dv tv : Value} (h : ReqAt S w (rqV r dv tv) r) : RcOk S w ⟨r, dv, tv⟩ := by
  obtain ⟨c, rfl, e, hok⟩ := h
  simp only [rqV, Value.agg.injEq, Array.mk.injEq, List.cons.injEq] at e
  obtain ⟨c1, c2, c3⟩ := c
  simp only at e
  rw [e.2.2.2.1, e.2.2.2.2.1]
  exact hok
section
variable {F G S : Nat → Prop} {w w' : World} {e TD TP : TypeId} {size n b : Nat} {v : Value} {xs : List Value} {d : Dv}
theorem putCells_len (l : List (Nat × ByteArray)) : (putCells l).length = l.length * 2 := by
  induction l with
  | nil => rfl
  | cons a l ih => unfold putCells at *; rw [List.flatMap_cons, List.length_append, ih]; simp; omega
theorem Ow.nil : Ow F w e size (.slice none 0 0) 0 [] := ⟨World.ownsRow_nil _ _ _ _, fun k hk => by simp [Value.ownBlock] at hk⟩
theorem Ow.mono (h : Ow F w e size v n xs) (hg : ∀ k, F k → G k) : Ow G w e size v n xs := ⟨h.1, fun k hk => hg k (h.2 k hk)⟩
theorem own_keep {B : Nat} (h : w.ownsRow B e size v n xs) (hk : ∀ k, v.ownBlock = some k → w'.heap[k]? = w.heap[k]?) : w'.ownsRow B e size v n xs := by
  refine ⟨h.1, ?_⟩
  rcases h.2 with hn | ⟨g, cap, cur, rfl, hb, hgg, rest⟩
  · exact .inl hn
  · exact .inr ⟨g, cap, cur, rfl, hb, (hk g rfl).trans hgg, rest⟩
theorem Ow.keep (h : Ow F w e size v n xs) (hk : ∀ k, F k → k < w.heap.size → w'.heap[k]? = w.heap[k]?) : Ow F w' e size v n xs :=
  ⟨own_keep h.1 (fun k hv => hk k (h.2 k hv) (h.1.lt k hv).2), h.2⟩
theorem Ow.form (h : Ow F w e size v n xs) : ∃ A cap, v = .slice A n cap ∧ n ≤ cap ∧ cap ≤ maxLen := by
  rcases h.1.2 with ⟨rfl, rfl⟩ | ⟨g, cap, cur, rfl, _, _, h1, h2, _⟩
  · exact ⟨none, 0, rfl, Nat.le_refl _, by simp [maxLen]⟩
  · exact ⟨_, cap, rfl, h1, h2⟩
theorem Ow.rd (h : Ow F w e size v n xs) : Rd F w size v n xs := by
  rcases h.1.2 with ⟨rfl, rfl⟩ | ⟨g, cap, cur, rfl, hb, hh, hnc, hcm, hcs, htake⟩
  · obtain rfl : xs = [] := List.eq_nil_of_length_eq_zero (by simpa using h.1.1)
    exact Rd.nil
  · refine ⟨_, cap, rfl, hnc, hcm, h.1.1, fun hn => ⟨g, 0, rfl, h.2 g rfl, fun j u hu => ?_⟩⟩
    have := h.1.cells (g := g) rfl j u hu
    rwa [Go.WideShapes.add_plain] at this
theorem own_lo {B B' : Nat} (h : w.ownsRow B e size v n xs) (hb : B' ≤ B) : w.ownsRow B' e size v n xs := by
  refine ⟨h.1, ?_⟩
  rcases h.2 with hn | ⟨g, cap, cur, rfl, h1, rest⟩
  · exact .inl hn
  · exact .inr ⟨g, cap, cur, rfl, by omega, rest⟩
theorem own_sl (h : w.ownsRow 0 e size v n xs) : ∃ A c, v = .slice A n c := by
  rcases h.2 with ⟨rfl, rfl⟩ | ⟨g, cap, cur, rfl, _⟩
  · exact ⟨_, _, rfl⟩
  · exact ⟨_, _, rfl⟩
/-- A block of another type is another block. -/
theorem own_ne {cs : Array Value} (h : w.ownsRow 0 e size v n xs) (hb : w.heap[b]? = some (.cells cs TD (0, 0))) (ht : e ≠ TD) : ∀ k, v.ownBlock = some k → k ≠ b := by
  rintro k hk rfl
  rcases h.2 with ⟨rfl, _⟩ | ⟨g, cap, cur, rfl, _, hh, _⟩
  · simp [Value.ownBlock] at hk
  · simp [Value.ownBlock] at hk
    subst hk
    rw [hb] at hh
    cases hh
    exact ht rfl
theorem own_two {e' : TypeId} {size' n' : Nat} {v' : Value} {xs' : List Value} (h : w.ownsRow 0 e size v n xs) (h' : w.ownsRow 0 e' size' v' n' xs') (ht : e ≠ e') : ∀ k, v.ownBlock = some k → v'.ownBlock ≠ some k := by
  intro k hk hk'
  rcases h'.2 with ⟨rfl, _⟩ | ⟨g, cap, cur, rfl, _, hh, _⟩
  · simp [Value.ownBlock] at hk'
  · simp [Value.ownBlock] at hk'
    subst hk'
    exact own_ne h hh ht _ hk rfl
theorem Grow.lt (h : ∀ k, F k → k < w.heap.size) (hs : w.heap.size ≤ w'.heap.size) : ∀ k, Grow F w w' k → k < w'.heap.size := fun k hk => hk.elim (fun hk => by have := h k hk; omega) (·.2)
theorem rcs_keep {cs : List Rc} (h : ∀ c ∈ cs, RcOk S w c) (hc : Chg F w w') (hd : ∀ k, S k → ¬ F k) : ∀ c ∈ cs, RcOk S w' c := fun c hm => (h c hm).keep (hc.keep hd)
/-- Nothing of the disk was written. -/
theorem DevAt.keep (h : DevAt TD TP S F w b d) (hF : ∀ k, F k → k < w.heap.size → w'.heap[k]? = w.heap[k]?) (hS : ∀ k, S k → k < w.heap.size → w'.heap[k]? = w.heap[k]?) : DevAt TD TP S F w' b d := by
  obtain ⟨hb, h1, h2, wv, lv, cs, hr, hw, hl, he, hc⟩ := h
  have hlt : b < w.heap.size := (Array.getElem?_eq_some_iff.1 hr).1
  exact ⟨hb, h1, h2, wv, lv, cs, (hF b hb hlt).trans hr, hw.keep hF, hl.keep hF, he, fun c hm => (hc c hm).keep hS⟩
theorem DevAt.mono (h : DevAt TD TP S F w b d) (hg : ∀ k, F k → G k) : DevAt TD TP S G w b d := by
  obtain ⟨hb, h1, h2, wv, lv, cs, hr, hw, hl, he, hc⟩ := h
  exact ⟨hg b hb, h1, h2, wv, lv, cs, hr, hw.mono hg, hl.mono hg, he, hc⟩
theorem DevAt.more {S' : Nat → Prop} (h : DevAt TD TP S F w b d) (hg : ∀ k, S k → S' k) : DevAt TD TP S' F w b d := by
  obtain ⟨hb, h1, h2, wv, lv, cs, hr, hw, hl, he, hc⟩ := h
  exact ⟨hb, h1, h2, wv, lv, cs, hr, hw, hl, he, fun c hm => (hc c hm).more hg⟩
theorem DevAt.below (h : DevAt TD TP S F w b d) (hb : Below w.heap.size w w') : DevAt TD TP S F w' b d := h.keep (fun k _ hk => hb.block k hk) (fun k _ hk => hb.block k hk)
/-- Something else was written. -/
theorem DevAt.apart (h : DevAt TD TP S F w b d) (hc : Chg G w w') (hFG : ∀ k, F k → ¬ G k) (hSG : ∀ k, S k → ¬ G k) : DevAt TD TP S F w' b d := h.keep (hc.keep hFG) (hc.keep hSG)
theorem devCells_len (d : Dv) (wv lv : Value) (h1 : d.kept.length = 32) (h2 : d.now.length = 32) : (devCells d wv lv).length = 66 := by simp [devCells, h1, h2]
theorem devCells_at_l (d : Dv) (wv lv : Value) (h1 : d.kept.length = 32) (h2 : d.now.length = 32) : (devCells d wv lv)[65]? = some lv := by
  unfold devCells
  rw [List.getElem?_append_right (by simp [h1]), List.getElem?_append_right (by simp [h1, h2])]
  simp [h1, h2]
theorem devCells_at_w (d : Dv) (wv lv : Value) (h1 : d.kept.length = 32) (h2 : d.now.length = 32) : (devCells d wv lv)[64]? = some wv := by
  unfold devCells
  rw [List.getElem?_append_right (by simp [h1]), List.getElem?_append_right (by simp [h1, h2])]
  simp [h1, h2]
theorem devCells_at_now (d : Dv) (wv lv : Value) (h1 : d.kept.length = 32) (i : Nat) (s : ByteArray) (hi : d.now[i]? = some s) : (devCells d wv lv)[32 + i]? = some (.string s) := by
  have hlt := (List.getElem?_eq_some_iff.1 hi).1
  unfold devCells
  rw [List.getElem?_append_right (by simp [h1]), List.getElem?_append_left (by simp [h1]; omega)]
  simp [h1, List.getElem?_map, hi]
theorem devCells_set_l (d : Dv) (wv lv lv' : Value) (h1 : d.kept.length = 32) (h2 : d.now.length = 32) : (devCells d wv lv).toArray.setIfInBounds 65 lv' = (devCells d wv lv').toArray := by
  rw [List.setIfInBounds_toArray]
  unfold devCells
  rw [List.set_append_right _ _ (by simp [h1]), List.set_append_right _ _ (by simp [h1, h2])]
  simp [h1, h2]
theorem devCells_set_w (d : Dv) (wv wv' lv : Value) (h1 : d.kept.length = 32) (h2 : d.now.length = 32) : (devCells d wv lv).toArray.setIfInBounds 64 wv' = (devCells d wv' lv).toArray := by
  rw [List.setIfInBounds_toArray]
  unfold devCells
  rw [List.set_append_right _ _ (by simp [h1]), List.set_append_right _ _ (by simp [h1, h2])]
  simp [h1, h2]
theorem devCells_set_now (d : Dv) (wv lv : Value) (h1 : d.kept.length = 32) (h2 : d.now.length = 32) (i : Nat) (hi : i < 32) (s : ByteArray) : (devCells d wv lv).toArray.setIfInBounds (32 + i) (.string s) = (devCells { d with now := d.now.set i s } wv lv).toArray := by
  rw [List.setIfInBounds_toArray]
  unfold devCells
  rw [List.set_append_right _ _ (by simp [h1]), List.set_append_left _ _ (by simp [h1, h2]; omega)]
  simp [h1, h2, List.map_set]
theorem devCells_set_kept (d : Dv) (wv lv : Value) (h1 : d.kept.length = 32) (i : Nat) (hi : i < 32) (s : ByteArray) : (devCells d wv lv).toArray.setIfInBounds i (.string s) = (devCells { d with kept := d.kept.set i s } wv lv).toArray := by
  rw [List.setIfInBounds_toArray]
  unfold devCells
  rw [List.set_append_left _ _ (by simp [h1]; omega)]
  simp [h1, List.map_set]

/-- The list of requests is another now. -/
theorem DevAt.setL {a : World} {lv lv' wv : Value} {cs' : List Rc} {l' : List Rq} (hc : Chg F a w) (hF : ∀ k, F k → k < a.heap.size) (hb : F b) (hk : d.kept.length = 32) (hn : d.now.length = 32)
    (hrow : w.heap[b]? = some (.cells (devCells d wv lv).toArray TD (0, 0))) (hw : Ow (Grow F a w) w TP 2 wv d.waits.length (putCells d.waits))
    (hl : w.ownsRow 0 38 6 lv' cs'.length (cs'.flatMap Rc.cells)) (hlF : ∀ k, lv'.ownBlock = some k → F k ∨ a.heap.size ≤ k) (hcs : cs'.map (·.r) = l') (hok : ∀ c ∈ cs', RcOk S w c)
    (hSF : ∀ k, S k → ¬ F k) (hTP : TP ≠ TD) (hTD : 38 ≠ TD) :
    DevAt TD TP S (Grow F a (w.setCell ⟨b, 65, none⟩ lv')) (w.setCell ⟨b, 65, none⟩ lv') b { d with l := l' } ∧ Chg F a (w.setCell ⟨b, 65, none⟩ lv') := by
  have hsz : (w.setCell ⟨b, 65, none⟩ lv').heap.size = w.heap.size := by simp [World.setCell]
  have hother : ∀ k, k ≠ b → (w.setCell ⟨b, 65, none⟩ lv').heap[k]? = w.heap[k]? := fun k hk => Below.heap_setCell _ _ _ _ hk
  refine ⟨⟨.inl hb, hk, hn, wv, lv', cs', ?_, ?_, ?_, hcs, fun c hm => (hok c hm).keep (fun k hs _ => hother k (fun e => hSF k hs (e ▸ hb)))⟩, hc.setCell (.inl hb) _⟩
  · rw [heap_setCell_same _ _ _ _ _ _ hrow, devCells_set_l _ _ _ _ hk hn]; rfl
  · refine ⟨own_keep hw.1 (fun k hv => hother k (own_ne hw.1 hrow hTP k hv)), fun k hv => ?_⟩
    have := hw.2 k hv
    unfold Grow at this ⊢
    rwa [hsz]
  · refine ⟨own_keep hl (fun k hv => hother k (own_ne hl hrow hTD k hv)), fun k hv => ?_⟩
    rcases hlF k hv with h | h
    · exact .inl h
    · exact .inr ⟨h, by rw [hsz]; exact (hl.lt k hv).2⟩
/-- A sector is written, now. -/
theorem DevAt.setNow (h : DevAt TD TP S F w b d) (i : Nat) (hi : i < 32) (s : ByteArray) (hSF : ∀ k, S k → ¬ F k) (hTP : TP ≠ TD) (hTD : 38 ≠ TD) :
    DevAt TD TP S F (w.setCell ⟨b, 32 + i, none⟩ (.string s)) b { d with now := d.now.set i s } := by
  obtain ⟨hb, hk, hn, wv, lv, cs, hrow, hw, hl, hcs, hok⟩ := h
  have hother : ∀ k, k ≠ b → (w.setCell ⟨b, 32 + i, none⟩ (.string s)).heap[k]? = w.heap[k]? := fun k hk => Below.heap_setCell _ _ _ _ hk
  refine ⟨hb, hk, by simpa using hn, wv, lv, cs, ?_, ⟨own_keep hw.1 (fun k hv => hother k (own_ne hw.1 hrow hTP k hv)), hw.2⟩, ⟨own_keep hl.1 (fun k hv => hother k (own_ne hl.1 hrow hTD k hv)), hl.2⟩, hcs, fun c hm => (hok c hm).keep (fun k hs _ => hother k (fun e => hSF k hs (e ▸ hb)))⟩
  rw [heap_setCell_same _ _ _ _ _ _ hrow, devCells_set_now _ _ _ hk hn i hi]
/-- A sector is written, for good. -/
theorem DevAt.setKept (h : DevAt TD TP S F w b d) (i : Nat) (hi : i < 32) (s : ByteArray) (hSF : ∀ k, S k → ¬ F k) (hTP : TP ≠ TD) (hTD : 38 ≠ TD) :
    DevAt TD TP S F (w.setCell ⟨b, i, none⟩ (.string s)) b { d with kept := d.kept.set i s } := by
  obtain ⟨hb, hk, hn, wv, lv, cs, hrow, hw, hl, hcs, hok⟩ := h
  have hother : ∀ k, k ≠ b → (w.setCell ⟨b, i, none⟩ (.string s)).heap[k]? = w.heap[k]? := fun k hk => Below.heap_setCell _ _ _ _ hk
  refine ⟨hb, by simpa using hk, hn, wv, lv, cs, ?_, ⟨own_keep hw.1 (fun k hv => hother k (own_ne hw.1 hrow hTP k hv)), hw.2⟩, ⟨own_keep hl.1 (fun k hv => hother k (own_ne hl.1 hrow hTD k hv)), hl.2⟩, hcs, fun c hm => (hok c hm).keep (fun k hs _ => hother k (fun e => hSF k hs (e ▸ hb)))⟩
  rw [heap_setCell_same _ _ _ _ _ _ hrow, devCells_set_kept _ _ _ hk i hi]
/-- The list of what isn't for good yet is another now. -/
theorem DevAt.setW {a : World} {lv wv wv' : Value} {cs : List Rc} {l' : List (Nat × ByteArray)} (hc : Chg F a w) (hb : F b) (hk : d.kept.length = 32) (hn : d.now.length = 32)
    (hrow : w.heap[b]? = some (.cells (devCells d wv lv).toArray TD (0, 0))) (hl : Ow (Grow F a w) w 38 6 lv cs.length (cs.flatMap Rc.cells))
    (hw : w.ownsRow 0 TP 2 wv' l'.length (putCells l')) (hwF : ∀ k, wv'.ownBlock = some k → F k ∨ a.heap.size ≤ k) (hcs : cs.map (·.r) = d.l) (hok : ∀ c ∈ cs, RcOk S w c)
    (hSF : ∀ k, S k → ¬ F k) (hTP : TP ≠ TD) (hTD : 38 ≠ TD) :
    DevAt TD TP S (Grow F a (w.setCell ⟨b, 64, none⟩ wv')) (w.setCell ⟨b, 64, none⟩ wv') b { d with waits := l' } ∧ Chg F a (w.setCell ⟨b, 64, none⟩ wv') := by
  have hsz : (w.setCell ⟨b, 64, none⟩ wv').heap.size = w.heap.size := by simp [World.setCell]
  have hother : ∀ k, k ≠ b → (w.setCell ⟨b, 64, none⟩ wv').heap[k]? = w.heap[k]? := fun k hk => Below.heap_setCell _ _ _ _ hk
  refine ⟨⟨.inl hb, hk, hn, wv', lv, cs, ?_, ?_, ?_, hcs, fun c hm => (hok c hm).keep (fun k hs _ => hother k (fun e => hSF k hs (e ▸ hb)))⟩, hc.setCell (.inl hb) _⟩
  · rw [heap_setCell_same _ _ _ _ _ _ hrow, devCells_set_w _ _ _ _ hk hn]; rfl
  · refine ⟨own_keep hw (fun k hv => hother k (own_ne hw hrow hTP k hv)), fun k hv => ?_⟩
    rcases hwF k hv with h | h
    · exact .inl h
    · exact .inr ⟨h, by rw [hsz]; exact (hw.lt k hv).2⟩
  · refine ⟨own_keep hl.1 (fun k hv => hother k (own_ne hl.1 hrow hTD k hv)), fun k hv => ?_⟩
    have := hl.2 k hv
    unfold Grow at this ⊢
    rwa [hsz]
/-- The element i of a row of requests. -/
theorem rows_at {A : Option Addr} {cap : Nat} {cs : List Rc} (h : Rd S w 6 (.slice A cs.length cap) cs.length (cs.flatMap Rc.cells)) {i : Nat} {c : Rc} (hi : cs[i]? = some c) :
    ∃ b off, A = some ⟨b, off, none⟩ ∧ b < w.heap.size ∧ w.cell? ⟨b, off + i * 6, none⟩ = some (.bool c.r.write) ∧ w.cell? ⟨b, off + i * 6 + 1, none⟩ = some (.int .i64 c.r.lo) ∧ w.cell? ⟨b, off + i * 6 + 2, none⟩ = some (.int .i64 c.r.many) ∧
      w.cell? ⟨b, off + i * 6 + 3, none⟩ = some c.dv ∧ w.cell? ⟨b, off + i * 6 + 4, none⟩ = some c.tv ∧ w.cell? ⟨b, off + i * 6 + 5, none⟩ = some (.int .i64 c.r.born) := by
  have hlt := (List.getElem?_eq_some_iff.1 hi).1
  obtain ⟨b, off, e, hS, hlt, hc⟩ := h.at_ (by omega) (by omega)
  have hg := fun j hj => flat_get cs i j c hi hj
  exact ⟨b, off, e, hlt, hc _ _ (hg 0 (by omega)), hc _ _ (hg 1 (by omega)), hc _ _ (hg 2 (by omega)), hc _ _ (hg 3 (by omega)), hc _ _ (hg 4 (by omega)), hc _ _ (hg 5 (by omega))⟩
end
end Go.Proofs.Ytdhiepcglnbkbaa
