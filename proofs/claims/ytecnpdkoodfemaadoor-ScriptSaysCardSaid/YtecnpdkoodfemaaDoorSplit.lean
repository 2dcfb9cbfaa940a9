
/- A text cut at each blank: strings.Split(t, " "). -/
import Derived.Test.YtecnpdkoodfemaaDoorEnv
namespace Go.Proofs.YtecnpdkoodfemaaDoor
set_option linter.unusedSimpArgs false
set_option linter.unusedVariables false
open Go.RowKit

def splitL : List UInt8 → List (List UInt8)
  | [] => [[]]
  | b :: l => if b == 32 then [] :: splitL l else match splitL l with
    | [] => [[b]]
    | x :: r => (b :: x) :: r
def toB (l : List UInt8) : ByteArray := ⟨l.toArray⟩
def splitM (s : ByteArray) : List ByteArray := (splitL s.data.toList).map toB
theorem splitL_cons (b : UInt8) (l : List UInt8) : splitL (b :: l) = if b == 32 then [] :: splitL l else match splitL l with
    | [] => [[b]]
    | x :: r => (b :: x) :: r := rfl
theorem splitL_ne (l : List UInt8) : splitL l ≠ [] := by
  cases l with
  | nil => simp [splitL]
  | cons b l =>
    unfold splitL
    split
    · simp
    · split <;> simp
/-- No blank in it. -/
def NoBl (x : List UInt8) : Prop := ∀ b ∈ x, (b == 32) = false
theorem splitL_nb : ∀ {x : List UInt8}, NoBl x → splitL x = [x]
  | [], _ => rfl
  | b :: l, h => by
    have ih := splitL_nb (x := l) (fun c hc => h c (by simp [hc]))
    unfold splitL
    rw [h b (by simp), ih]
    rfl
theorem splitL_hit : ∀ {x : List UInt8} (r : List UInt8), NoBl x → splitL (x ++ 32 :: r) = x :: splitL r
  | [], r, _ => by
    show splitL (32 :: r) = _
    rfl
  | b :: l, r, h => by
    have ih := splitL_hit (x := l) r (fun c hc => h c (by simp [hc]))
    show splitL (b :: (l ++ 32 :: r)) = _
    rw [splitL_cons, h b (by simp), ih]
    rfl
/-- Either no blank is in it, or there is a first one. -/
theorem first_bl : ∀ l : List UInt8, NoBl l ∨ ∃ x r, l = x ++ 32 :: r ∧ NoBl x
  | [] => .inl (fun _ h => by cases h)
  | b :: l => by
    cases hb : (b == 32) with
    | true => exact .inr ⟨[], l, by rw [eq_of_beq hb]; rfl, fun _ h => by cases h⟩
    | false =>
      rcases first_bl l with h | ⟨x, r, rfl, h⟩
      · exact .inl (fun c hc => by rcases List.mem_cons.1 hc with rfl | hc; exact hb; exact h c hc)
      · exact .inr ⟨b :: x, r, rfl, fun c hc => by rcases List.mem_cons.1 hc with rfl | hc; exact hb; exact h c hc⟩
theorem index_nb : ∀ {x : List UInt8}, NoBl x → Lib.index x [32] = -1
  | [], _ => rfl
  | b :: l, h => by
    have ih := index_nb (x := l) (fun c hc => h c (by simp [hc]))
    have hb := h b (by simp)
    have e : ([32] : List UInt8).isPrefixOf (b :: l) = false := by
      simp only [List.isPrefixOf, Bool.and_true]
      rw [← hb]; exact Bool.beq_comm
    unfold Lib.index
    rw [e, ih]
    rfl
theorem index_hit : ∀ {x : List UInt8} (r : List UInt8), NoBl x → Lib.index (x ++ 32 :: r) [32] = x.length
  | [], r, _ => by
    show Lib.index (32 :: r) [32] = 0
    unfold Lib.index
    simp [List.isPrefixOf]
  | b :: l, r, h => by
    have ih := index_hit (x := l) r (fun c hc => h c (by simp [hc]))
    have hb := h b (by simp)
    have e : ([32] : List UInt8).isPrefixOf (b :: (l ++ 32 :: r)) = false := by
      simp only [List.isPrefixOf, Bool.and_true]
      rw [← hb]; exact Bool.beq_comm
    show Lib.index (b :: (l ++ 32 :: r)) [32] = _
    unfold Lib.index
    rw [e, ih]
    have : ((l.length : Int) == -1) = false := beq_eq_false_iff_ne.2 (by omega)
    rw [this]
    simp
theorem splitK_bl : ∀ (n : Nat) (l : List UInt8), l.length ≤ n → Lib.splitK [32] 0 (Lib.count l [32]) l = splitL l := by
  intro n
  induction n with
  | zero =>
    intro l hl
    obtain rfl : l = [] := List.eq_nil_of_length_eq_zero (by omega)
    rfl
  | succ n ih =>
    intro l hl
    rcases first_bl l with h | ⟨x, r, rfl, h⟩
    · rw [Lib.count_miss (index_nb h), splitL_nb h]; rfl
    · have hi := index_hit r h
      rw [Lib.count_hit (by simp) hi, Nat.add_comm, splitL_hit r h]
      have hr : (x ++ 32 :: r).drop (x.length + ([32] : List UInt8).length) = r := by
        show (x ++ 32 :: r).drop (x.length + 1) = r
        rw [List.drop_append]
        simp
      rw [hr, Lib.splitK, hi]
      have h2 : ((x.length : Int) == -1) = false := beq_eq_false_iff_ne.2 (by omega)
      rw [h2]
      simp only [Bool.false_eq_true, if_false, Int.toNat_natCast, Nat.add_zero]
      rw [show (x ++ 32 :: r).drop (x.length + ([32] : List UInt8).length) = r from hr, ih r (by simp at hl; omega)]
      simp
theorem splitB_bl (s : ByteArray) : Lib.splitB ⟨#[32]⟩ 0 (Lib.countB s ⟨#[32]⟩) s = splitM s := by
  have h := Lib.splitB_data ⟨#[32]⟩ 0 (Lib.countB s ⟨#[32]⟩) s
  have h2 : Lib.splitK (⟨#[32]⟩ : ByteArray).data.toList 0 (Lib.countB s ⟨#[32]⟩) s.data.toList = splitL s.data.toList := splitK_bl _ _ (Nat.le_refl _)
  rw [h2] at h
  unfold splitM
  rw [← h, List.map_map]
  symm
  have : ∀ l : List ByteArray, l.map (toB ∘ fun x => x.data.toList) = l := fun l => by
    conv => rhs; rw [← List.map_id l]
    exact List.map_congr_left (fun x _ => by
      show toB x.data.toList = x
      unfold toB
      cases x
      rfl)
  exact this _
theorem splitM_len (s : ByteArray) : Lib.countB s ⟨#[32]⟩ + 1 = (splitM s).length := by
  rw [← splitB_bl, Lib.splitB_all ⟨#[32]⟩ (by decide) 0 _ s rfl]
theorem splitL_len : ∀ l : List UInt8, (splitL l).length ≤ l.length + 1
  | [] => Nat.le_refl _
  | b :: l => by
    have ih := splitL_len l
    unfold splitL
    split
    · simp only [List.length_cons]; omega
    · split
      · simp
      · rename_i h
        rw [h] at ih
        simp only [List.length_cons] at ih ⊢; omega
theorem splitL_size : ∀ (l : List UInt8), ∀ x ∈ splitL l, x.length ≤ l.length
  | [], x, h => by
    simp [splitL] at h
    subst h
    exact Nat.le_refl _
  | b :: l, x, h => by
    have ih := splitL_size l
    unfold splitL at h
    split at h
    · rcases List.mem_cons.1 h with rfl | h
      · simp
      · have := ih x h
        simp only [List.length_cons]; omega
    · split at h
      · simp at h
        subst h
        simp
      · rename_i y r hy
        rcases List.mem_cons.1 h with rfl | h
        · have := ih y (by rw [hy]; simp)
          simp only [List.length_cons]; omega
        · have := ih x (by rw [hy]; simp [h])
          simp only [List.length_cons]; omega
theorem splitM_size (s x : ByteArray) (h : x ∈ splitM s) : x.size ≤ s.size := by
  unfold splitM at h
  obtain ⟨y, hy, rfl⟩ := List.mem_map.1 h
  have := splitL_size _ y hy
  have e1 : (toB y).size = y.length := by simp [toB, ByteArray.size]
  have e2 : s.data.toList.length = s.size := by simp
  omega
theorem split_any (s : ByteArray) (w : World) (hs : s.size < 4294967281) (hE : Env w) :
    Calls Tryd.prog 22 #[.string s, .string ⟨#[32]⟩] w fun e w' => e = .returned (.slice (some ⟨w.heap.size, 0, none⟩) (splitM s).length (splitM s).length) ∧ w' = w.alloc (.cells ((splitM s).map .string).toArray 9) := by
  obtain ⟨m, hm⟩ := hE.max
  refine (Tryd.strings_Split s ⟨#[32]⟩ m w hs hm (by decide)).mono ?_
  rintro e w' ⟨rfl, rfl⟩
  rw [splitM_len, splitB_bl]
  exact ⟨rfl, rfl⟩
end Go.Proofs.YtecnpdkoodfemaaDoor
