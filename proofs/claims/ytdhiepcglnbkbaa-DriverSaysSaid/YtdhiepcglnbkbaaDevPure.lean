
/- What a disk has may be so, whatever is done. -/
import Derived.Test.YtdhiepcglnbkbaaDevMod
namespace Go.Proofs.Ytdhiepcglnbkbaa
set_option linter.unusedSimpArgs false
set_option linter.unusedVariables false

theorem ReqOk.size {r : Rq} (h : ReqOk r) : ∀ s ∈ r.data, s.size ≤ 4 := fun s hs => by
  have := h.data
  unfold dataOk at this
  rw [List.all_eq_true] at this
  simpa using this s hs
theorem ReqOk.nats {r : Rq} (h : ReqOk r) : ∃ p n : Nat, r.lo = (p : Int) ∧ r.many = (n : Int) ∧ p + n ≤ 32 ∧ 1 ≤ n ∧ n ≤ 4 := by
  have h1 := h.span
  unfold SpanOk at h1
  exact ⟨r.lo.toNat, r.many.toNat, by omega, by omega, by omega, by omega, by omega⟩
theorem ReqOk.len {r : Rq} (h : ReqOk r) (hw : r.write = true) : (r.data.length : Int) = r.many := by
  have := h.shape
  unfold shapeOk at this
  rwa [if_pos hw] at this
theorem DvOk.new : DvOk Dv.new := by
  have h0 : ∀ s ∈ List.replicate 32 (⟨#[]⟩ : ByteArray), s.size ≤ 16 := fun s hs => by
    obtain rfl := List.eq_of_mem_replicate hs
    exact Nat.zero_le _
  exact ⟨rfl, rfl, h0, h0, by simp [Dv.new], by simp [Dv.new], by simp [Dv.new]⟩
theorem DvOk.start {d : Dv} {r : Rq} (h : DvOk d) (hr : reqF r = 0) : DvOk (d.start r).1 := by
  unfold Dv.start
  split
  · exact h
  · rename_i h2
    refine ⟨h.kept, h.now, h.keptS, h.nowS, h.waits, fun x hx => ?_, ?_⟩
    · rcases List.mem_append.1 hx with hx | hx
      · exact h.l x hx
      · simp at hx; subst hx; exact hr
    · have := h.two
      simp only [List.length_append, List.length_cons, List.length_nil]
      omega
theorem start_waits (d : Dv) (r : Rq) : (d.start r).1.waits = d.waits := by
  unfold Dv.start; split <;> rfl
theorem DvOk.put {d : Dv} (h : DvOk d) {p : Nat} {s : ByteArray} (hp : p < 32) (hs : s.size ≤ 16) : DvOk (d.put p s) := by
  refine ⟨h.kept, by simpa [Dv.put] using h.now, h.keptS, fun x hx => ?_, fun x hx => ?_, h.l, h.two⟩
  · rcases List.mem_or_eq_of_mem_set hx with hx | rfl
    · exact h.nowS x hx
    · exact hs
  · rcases List.mem_append.1 hx with hx | hx
    · exact h.waits x hx
    · simp at hx; subst hx; exact ⟨hp, hs⟩
theorem DvOk.wrote : ∀ {l : List ByteArray} {d : Dv} {p : Nat}, DvOk d → p + l.length ≤ 32 → (∀ s ∈ l, s.size ≤ 16) → DvOk (d.wrote p l)
  | [], _, _, h, _, _ => h
  | s :: l, d, p, h, hp, hs => by
    simp only [List.length_cons] at hp
    rw [Dv.wrote]
    exact DvOk.wrote (d := d.put p s) (p := p + 1) (h.put (by omega) (hs s (by simp))) (by omega) (fun x hx => hs x (by simp [hx]))
theorem DvOk.drop {d : Dv} (h : DvOk d) (i : Nat) : DvOk (d.drop i) :=
  ⟨h.kept, h.now, h.keptS, h.nowS, h.waits, fun r hr => h.l r (List.mem_of_mem_eraseIdx hr), Nat.le_trans (List.length_eraseIdx_le _ _) h.two⟩
theorem DvOk.ended {d : Dv} (h : DvOk d) {r : Rq} (hr : ReqOk r) (i : Nat) (f : Bool) : DvOk (d.ended r i f).1 ∧ (d.ended r i f).1.waits.length ≤ d.waits.length + 4 := by
  unfold Dv.ended
  split
  · exact ⟨h.drop i, by simp [Dv.drop]⟩
  · split
    · rename_i hw
      obtain ⟨p, n, h1, h2, h3, _, h4⟩ := hr.nats
      have h5 := hr.len hw
      refine ⟨(h.drop i).wrote (by rw [h1]; simp; omega) (fun s hs => Nat.le_trans (hr.size s hs) (by omega)), ?_⟩
      rw [(Dv.wrote_same _ _ _).2.2.2]
      show d.waits.length + _ ≤ _
      omega
    · exact ⟨h.drop i, by simp [Dv.drop]⟩
theorem DvOk.endAt {d : Dv} (h : DvOk d) (i : Int) (f : Bool) : DvOk (d.endAt i f).1 ∧ (d.endAt i f).1.waits.length ≤ d.waits.length + 4 := by
  unfold Dv.endAt
  split
  · exact ⟨h, by simp⟩
  · cases hr : d.l[i.toNat]? with
    | none => exact ⟨h, by simp⟩
    | some r => exact h.ended (reqF_zero (h.l r (List.mem_of_getElem? hr))) _ _
theorem DvOk.flush {d : Dv} (h : DvOk d) : DvOk d.flush := ⟨h.now, h.now, h.nowS, h.nowS, by simp [Dv.flush], h.l, h.two⟩
theorem keepFrom_mem {keep : Nat} : ∀ {l : List (Nat × ByteArray)} {K : List ByteArray} {i : Nat} {s : ByteArray}, s ∈ Dv.keepFrom keep K l i → s ∈ K ∨ ∃ p ∈ l, p.2 = s
  | [], K, i, s, h => .inl h
  | (p, u) :: l, K, i, s, h => by
    rw [Dv.keepFrom] at h
    rcases keepFrom_mem h with h | ⟨q, hq, e⟩
    · split at h
      · rcases List.mem_or_eq_of_mem_set h with h | rfl
        · exact .inl h
        · exact .inr ⟨_, List.mem_cons_self, rfl⟩
      · exact .inl h
    · exact .inr ⟨q, by simp [hq], e⟩
theorem DvOk.crash {d : Dv} (h : DvOk d) (keep : Nat) : DvOk (d.crash keep) := by
  have hs : ∀ s ∈ Dv.keepFrom keep d.kept d.waits 0, s.size ≤ 16 := fun s hs => by
    rcases keepFrom_mem hs with h1 | ⟨p, hp, rfl⟩
    · exact h.keptS s h1
    · exact (h.waits p hp).2
  have hl : (Dv.keepFrom keep d.kept d.waits 0).length = 32 := by rw [Dv.keepFrom_len, h.kept]
  exact ⟨hl, hl, hs, hs, by simp [Dv.crash], by simp [Dv.crash], by simp [Dv.crash]⟩
theorem DvOk.nowM {d : Dv} (h : DvOk d) : ∀ s ∈ d.now, s.size ≤ maxLen := fun s hs => Nat.le_trans (h.nowS s hs) (by simp [maxLen])
end Go.Proofs.Ytdhiepcglnbkbaa
