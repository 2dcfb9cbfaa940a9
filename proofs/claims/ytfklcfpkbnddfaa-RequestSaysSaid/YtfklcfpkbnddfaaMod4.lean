/- Of two requests that are put together: plain facts. -/
import Derived.Test.YtfklcfpkbnddfaaMerge
namespace Go.Proofs.Ytfklcfpkbnddfaa
set_option linter.unusedSimpArgs false
set_option linter.unusedVariables false

structure Joined (a b x : Rq) : Prop where
  ok : ReqOk x
  write : x.write = a.write
  kind : a.write = b.write
  many : x.many = a.many + b.many
  tags : x.tags.length = a.tags.length + b.tags.length
  bornA : x.born ≤ a.born
  bornB : x.born ≤ b.born
  has : ∀ k, hasB x.lo x.many k = (hasB a.lo a.many k || hasB b.lo b.many k)
  dataA : a.write = true → ∀ k, hasB a.lo a.many k = true → ∃ (i j : Nat) (s : ByteArray), k - x.lo = i ∧ k - a.lo = j ∧ x.data[i]? = some s ∧ a.data[j]? = some s
  dataB : a.write = true → ∀ k, hasB b.lo b.many k = true → ∃ (i j : Nat) (s : ByteArray), k - x.lo = i ∧ k - b.lo = j ∧ x.data[i]? = some s ∧ b.data[j]? = some s
theorem hasB_iff {f m k : Int} : hasB f m k = true ↔ f ≤ k ∧ k - f < m := by unfold hasB; simp
theorem Joined.flip {a b x : Rq} (h : Joined a b x) : Joined b a x :=
  ⟨h.ok, h.write.trans h.kind, h.kind.symm, by rw [h.many, Int.add_comm], by rw [h.tags, Nat.add_comm], h.bornB, h.bornA, fun k => by rw [h.has, Bool.or_comm], fun hw => h.dataB (h.kind.trans hw), fun hw => h.dataA (h.kind.trans hw)⟩
theorem data_len {r : Rq} (h : ReqOk r) (hw : r.write = true) : (r.data.length : Int) = r.many := by
  have := h.shape; unfold shapeOk at this; rwa [if_pos hw] at this
theorem data_none {r : Rq} (h : ReqOk r) (hw : r.write = false) : r.data.length = 0 := by
  have := h.shape; unfold shapeOk at this; rwa [if_neg (by simp [hw])] at this
theorem join_facts {p q : Rq} (hp : ReqOk p) (hq : ReqOk q) (h : joinOk p q) : Joined p q (joinM p q) := by
  obtain ⟨h1, h2, h3, h4⟩ := h
  obtain ⟨a1, a2, a3, a4, a5⟩ := hp.span
  obtain ⟨b1, b2, b3, b4, b5⟩ := hq.span
  obtain ⟨t1, t2⟩ := hp.tags
  obtain ⟨u1, u2⟩ := hq.tags
  obtain ⟨n1, n2⟩ := hp.born
  obtain ⟨m1, m2⟩ := hq.born
  have hd : ∀ k : Nat, (joinM p q).data[k]? = if k < p.data.length then p.data[k]? else q.data[k - p.data.length]? := by
    intro k
    show (p.data ++ q.data)[k]? = _
    rw [List.getElem?_append]
  refine ⟨⟨?_, ?_, ?_, ?_, ?_⟩, rfl, h2, rfl, by simp [joinM], ?_, ?_, ?_, ?_, ?_⟩
  · show SpanOk p.lo (p.many + q.many) 4
    exact ⟨a1, a2, by omega, h3, by omega⟩
  · show shapeOk (joinM p q)
    unfold shapeOk joinM
    simp only
    cases hw : p.write with
    | true =>
      have e1 := data_len hp hw
      have e2 := data_len hq (h2.symm.trans hw)
      simp [List.length_append]; omega
    | false =>
      have e1 := data_none hp hw
      have e2 := data_none hq (h2.symm.trans hw)
      simp [List.length_append] at e1 e2 ⊢; exact ⟨e1, e2⟩
  · show 1 ≤ (p.tags ++ q.tags).length ∧ (p.tags ++ q.tags).length ≤ 4
    rw [List.length_append]; omega
  · show 0 ≤ min p.born q.born ∧ _
    simp only [joinM]; omega
  · show ((p.data ++ q.data).all _) = true
    have e1 := hp.data
    have e2 := hq.data
    unfold dataOk at e1 e2
    rw [List.all_append, e1, e2]; rfl
  · show min p.born q.born ≤ _; omega
  · show min p.born q.born ≤ _; omega
  · intro k
    rw [Bool.eq_iff_iff]
    simp only [Bool.or_eq_true, hasB_iff, joinM]
    omega
  · intro hw k hk
    rw [hasB_iff] at hk
    have e1 := data_len hp hw
    obtain ⟨j, hj⟩ : ∃ j : Nat, k - p.lo = j := ⟨(k - p.lo).toNat, by omega⟩
    have hlt : j < p.data.length := by omega
    refine ⟨j, j, p.data[j], hj, hj, ?_, List.getElem?_eq_getElem hlt⟩
    rw [hd, if_pos hlt]; exact List.getElem?_eq_getElem hlt
  · intro hw k hk
    rw [hasB_iff] at hk
    have e1 := data_len hp hw
    have e2 := data_len hq (h2.symm.trans hw)
    obtain ⟨j, hj⟩ : ∃ j : Nat, k - q.lo = j := ⟨(k - q.lo).toNat, by omega⟩
    have hlt : j < q.data.length := by omega
    refine ⟨p.data.length + j, j, q.data[j], by simp only [joinM]; omega, hj, ?_, List.getElem?_eq_getElem hlt⟩
    rw [hd, if_neg (by omega)]
    rw [Nat.add_sub_cancel_left]
    exact List.getElem?_eq_getElem hlt
theorem joined_some {p q x : Rq} (hp : ReqOk p) (hq : ReqOk q) (h : joinedM p q = some x) : Joined p q x := by
  unfold joinedM at h
  split at h
  · cases h; exact join_facts hp hq ‹_›
  · cases h
theorem merge_some {a b x : Rq} (ha : ReqOk a) (hb : ReqOk b) (h : mergeM a b = some x) : Joined a b x := by
  unfold mergeM swapM at h
  split at h
  · exact (joined_some hb ha h).flip
  · exact joined_some ha hb h
theorem merge_comm {a b : Rq} (ha : ReqOk a) (hb : ReqOk b) : mergeM b a = mergeM a b := by
  obtain ⟨a1, a2, a3, a4, a5⟩ := ha.span
  obtain ⟨b1, b2, b3, b4, b5⟩ := hb.span
  unfold mergeM swapM
  by_cases h1 : b.lo + b.many = a.lo
  · have h2 : ¬ a.lo + a.many = b.lo := by omega
    rw [if_pos h1, if_neg h2]
  · by_cases h2 : a.lo + a.many = b.lo
    · rw [if_neg h1, if_pos h2]
    · rw [if_neg h1, if_neg h2]
      show joinedM b a = joinedM a b
      unfold joinedM
      rw [if_neg (fun h : joinOk b a => h1 h.1), if_neg (fun h : joinOk a b => h2 h.1)]
end Go.Proofs.Ytfklcfpkbnddfaa
