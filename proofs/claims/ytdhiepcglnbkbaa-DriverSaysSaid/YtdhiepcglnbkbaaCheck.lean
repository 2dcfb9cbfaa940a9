
/- ReqFault, Check: what is wrong with a request. -/
import Derived.Test.YtdhiepcglnbkbaaLight
import Derived.Test.YtdhiepcglnbkbaaSpan
import Derived.Outline
namespace Go.Proofs.Ytdhiepcglnbkbaa
open Go.RowKit

/-- The literal in request.Check: is a text too long? -/
theorem check1_any (s : ByteArray) (w : World) (hs : s.size ≤ 9223372036854775807) : Calls Try.prog 77 #[.string s] w (RetSame (.bool (decide (4 < s.size))) w) := by
  by_cases h : 4 < s.size
  all_goals
    go_enter Try.func77, Try.ntmps77
    go_wp2
    go_ret
    exact ⟨by simp [h]; try omega, rfl⟩

/-- It returns a number of which P holds, and the world is as it was. -/
def RetIdx (P : Int → Prop) (w : World) : Ending → World → Prop := fun e w' => ∃ n : Int, e = .returned (.int .i64 n) ∧ P n ∧ w = w'
def idxTells (n : Int) (b : Bool) : Prop := 0 ≤ n ↔ b = true
set_option maxRecDepth 100000 in
theorem index1_any (S : Nat → Prop) (l : List ByteArray) (v : Value) (w : World) (h : StrsAt S w v l) :
    Calls Try.prog 84 #[v, .func (.func 77) #[] #[]] w (RetIdx (fun n => idxTells n (!l.all (fun s => decide (s.size ≤ 4)))) w) := by
  obtain ⟨A, cap, rfl, h1, h2⟩ := h.form
  unfold maxLen at h2
  have Hl := Lib.hid h
  clear h
  go_enter Try.func84, Try.ntmps84
  go_wp2
  go_loop [8] (fun i => ∃ k : Nat, k ≤ l.length ∧ i = .int .i64 k ∧ Hid ((l.take k).all (fun s => decide (s.size ≤ 4)) = true)) (fun i => l.length - (intOf i).toNat)
  case atStart => exact ⟨0, by omega, rfl, rfl⟩
  case round =>
    obtain ⟨k, hk, rfl, hall⟩ := hrel
    by_cases hlt : k < l.length
    · obtain ⟨b, off, rfl, _, hb, hc⟩ := Hl.out.at_ (by omega)
      have hx : l[k]? = some l[k] := List.getElem?_eq_getElem hlt
      obtain ⟨hcell, hsz⟩ := hc k _ hx
      unfold maxLen at hsz
      clear hc
      have Hx := Lib.hid hx
      clear hx
      generalize l[k] = s at hcell hsz Hx
      cases hs : decide (4 < s.size) with
      | false =>
        go_wp2_with (go_at_call 77; refine (check1_any _ _ (by omega)).mono ?_; rintro e w1 ⟨rfl, rfl⟩)
        go_round
        case rel => exact ⟨k + 1, by omega, by go_num, by show _ = true; rw [all_take_succ _ _ _ _ Hx.out, hall.out]; simp at hs ⊢; omega⟩
        case measure => simp [intOf]; omega
      | true =>
        go_wp2_with (go_at_call 77; refine (check1_any _ _ (by omega)).mono ?_; rintro e w1 ⟨rfl, rfl⟩)
        go_ret
        refine ⟨k, rfl, ?_, rfl⟩
        rw [all_not _ _ _ _ Hx.out (by simp at hs ⊢; omega)]
        simp [idxTells]
    · go_wp2
      go_ret
      refine ⟨-1, rfl, ?_, rfl⟩
      rw [all_end _ _ _ (by omega) hall.out]
      simp [idxTells]

theorem contains1_any (S : Nat → Prop) (l : List ByteArray) (v : Value) (w : World) (h : StrsAt S w v l) :
    Calls Try.prog 76 #[v, .func (.func 77) #[] #[]] w (RetSame (.bool (!l.all (fun s => decide (s.size ≤ 4)))) w) := by
  go_enter Try.func76, Try.ntmps76
  go_wp2_with (go_at_call 84; refine (index1_any S l _ _ h).mono ?_; rintro e w1 ⟨n, rfl, hn, rfl⟩)
  go_ret
  refine ⟨?_, rfl⟩
  cases hb : (!l.all (fun s => decide (s.size ≤ 4))) with
  | true => rw [hb] at hn; have := hn.2 rfl; simp [this]
  | false => rw [hb] at hn; have : ¬ 0 ≤ n := fun h => by cases hn.1 h
             simp; omega

set_option maxRecDepth 100000 in
set_option maxHeartbeats 4000000 in
theorem reqfault_any (S : Nat → Prop) (r : Rq) (v : Value) (w : World) (h : ReqAt S w v r) :
    Calls Try.prog 16 #[v] w (Ret (.int .i64 (reqF r : Nat)) w) := by
  obtain ⟨Ad, cd, At, ct, rfl, hd, ht, dm, tm, _, _, _⟩ := h.opened
  have Hd := Lib.hid hd
  clear hd ht h
  by_cases hs : SpanOk r.lo r.many 4
  · have fs := spanF_pos hs
    have Hs := Lib.hid hs
    have hm1 : 1 ≤ r.many := hs.2.2.1
    clear hs
    by_cases hsh : shapeOk r
    · have Hsh := Lib.hid hsh
      have q : (r.write = true ∧ ((r.data.length : Int) == r.many) = true ∧ 0 < (r.data.length : Int)) ∨ (r.write = false ∧ ¬ 0 < (r.data.length : Int)) := by
        unfold shapeOk at hsh
        cases hw : r.write with
        | true => rw [hw] at hsh; simp at hsh; left; exact ⟨rfl, by simpa using hsh, by omega⟩
        | false => rw [hw] at hsh; simp at hsh; right; exact ⟨rfl, by rw [hsh]; simp⟩
      clear hsh
      by_cases htg : tagsOk r
      · have Htg := Lib.hid htg
        have t1 : (1 : Int) ≤ (r.tags.length : Int) := by have := htg.1; omega
        have t2 : (r.tags.length : Int) ≤ 4 := by have := htg.2; omega
        have t0 : ((r.tags.length : Int) == 0) = false := by simp; intro h; rw [h] at t1; simp at t1
        clear htg
        by_cases hbn : bornOk r
        · have Hbn := Lib.hid hbn
          have b1 : 0 ≤ r.born := hbn.1
          have b2 : r.born ≤ 1000000000 := hbn.2
          clear hbn
          rcases q with ⟨hw, hq, hq2⟩ | ⟨hw, hq⟩
          · have hq3 : ((r.data.length : Int) != r.many) = false := by rw [bne, hq]; rfl
            go_enter Try.func16, Try.ntmps16
            go_wp2_with (go_at_call 63; refine (spanfault_any _ _ _ _).mono ?_; rintro e w1 ⟨rfl, hb1⟩; obtain ⟨hc1, hf1⟩ := bcell hb1; have hz1 := hb1.size; simp only [World.size_alloc] at hz1)
            go_loop [4] (fun i => ∃ k : Nat, k ≤ r.data.length ∧ i = .int .i64 k ∧ Hid ((r.data.take k).all (fun s => decide (s.size ≤ 4)) = true)) (fun i => r.data.length - (intOf i).toNat)
            case atStart => exact ⟨0, by omega, rfl, rfl⟩
            case round =>
              obtain ⟨k, hk, rfl, hall⟩ := hrel
              by_cases hlt : k < r.data.length
              · obtain ⟨b, off, rfl, _, hbl, hc⟩ := (Hd.out.below (((Below.refl _ _).alloc (Nat.le_refl _) _).trans (hb1.mono (by simp)))).at_ (by omega)
                have hx : r.data[k]? = some r.data[k] := List.getElem?_eq_getElem hlt
                obtain ⟨hcell, hsz⟩ := hc k _ hx
                unfold maxLen at hsz
                clear hc
                have Hx := Lib.hid hx
                clear hx
                generalize r.data[k] = s at hcell hsz Hx
                by_cases hs : s.size ≤ 4
                · go_wp2
                  go_round
                  case rel => exact ⟨k + 1, by omega, by go_num, by show _ = true; rw [all_take_succ _ _ _ _ Hx.out, hall.out]; simpa using hs⟩
                  case measure => simp [intOf]; omega
                · go_wp2
                  go_ret
                  refine ⟨?_, ((Below.refl _ _).alloc (Nat.le_refl _) _).trans (hb1.mono (by simp))⟩
                  rw [reqF_data Hs.out Hsh.out Htg.out Hbn.out (all_not _ _ _ _ Hx.out (by simpa using hs))]; rfl
              · go_wp2
                go_ret
                refine ⟨?_, ((Below.refl _ _).alloc (Nat.le_refl _) _).trans (hb1.mono (by simp))⟩
                rw [reqF_ok ⟨Hs.out, Hsh.out, Htg.out, Hbn.out, all_end _ _ _ (by omega) hall.out⟩]; rfl
          · skip
            go_enter Try.func16, Try.ntmps16
            go_wp2_with (go_at_call 63; refine (spanfault_any _ _ _ _).mono ?_; rintro e w1 ⟨rfl, hb1⟩; obtain ⟨hc1, hf1⟩ := bcell hb1; have hz1 := hb1.size; simp only [World.size_alloc] at hz1)
            go_loop [4] (fun i => ∃ k : Nat, k ≤ r.data.length ∧ i = .int .i64 k ∧ Hid ((r.data.take k).all (fun s => decide (s.size ≤ 4)) = true)) (fun i => r.data.length - (intOf i).toNat)
            case atStart => exact ⟨0, by omega, rfl, rfl⟩
            case round =>
              obtain ⟨k, hk, rfl, hall⟩ := hrel
              by_cases hlt : k < r.data.length
              · exfalso; omega
              · go_wp2
                go_ret
                refine ⟨?_, ((Below.refl _ _).alloc (Nat.le_refl _) _).trans (hb1.mono (by simp))⟩
                rw [reqF_ok ⟨Hs.out, Hsh.out, Htg.out, Hbn.out, all_end _ _ _ (by omega) hall.out⟩]; rfl
        · have e := reqF_born Hs.out Hsh.out Htg.out hbn
          have bb : r.born < 0 ∨ 1000000000 < r.born := by unfold bornOk at hbn; omega
          rw [e]
          clear e hbn
          rcases q with ⟨hw, hq, hq2⟩ | ⟨hw, hq⟩
          · have hq3 : ((r.data.length : Int) != r.many) = false := by rw [bne, hq]; rfl
            rcases bb with bb | bb
            · skip
              go_enter Try.func16, Try.ntmps16
              go_wp2_with (go_at_call 63; refine (spanfault_any _ _ _ _).mono ?_; rintro e w1 ⟨rfl, hb1⟩; obtain ⟨hc1, hf1⟩ := bcell hb1; have hz1 := hb1.size; simp only [World.size_alloc] at hz1)
              go_ret
              exact ⟨rfl, ((Below.refl _ _).alloc (Nat.le_refl _) _).trans (hb1.mono (by simp))⟩
            · skip
              go_enter Try.func16, Try.ntmps16
              go_wp2_with (go_at_call 63; refine (spanfault_any _ _ _ _).mono ?_; rintro e w1 ⟨rfl, hb1⟩; obtain ⟨hc1, hf1⟩ := bcell hb1; have hz1 := hb1.size; simp only [World.size_alloc] at hz1)
              go_ret
              exact ⟨rfl, ((Below.refl _ _).alloc (Nat.le_refl _) _).trans (hb1.mono (by simp))⟩
          · rcases bb with bb | bb
            · skip
              go_enter Try.func16, Try.ntmps16
              go_wp2_with (go_at_call 63; refine (spanfault_any _ _ _ _).mono ?_; rintro e w1 ⟨rfl, hb1⟩; obtain ⟨hc1, hf1⟩ := bcell hb1; have hz1 := hb1.size; simp only [World.size_alloc] at hz1)
              go_ret
              exact ⟨rfl, ((Below.refl _ _).alloc (Nat.le_refl _) _).trans (hb1.mono (by simp))⟩
            · skip
              go_enter Try.func16, Try.ntmps16
              go_wp2_with (go_at_call 63; refine (spanfault_any _ _ _ _).mono ?_; rintro e w1 ⟨rfl, hb1⟩; obtain ⟨hc1, hf1⟩ := bcell hb1; have hz1 := hb1.size; simp only [World.size_alloc] at hz1)
              go_ret
              exact ⟨rfl, ((Below.refl _ _).alloc (Nat.le_refl _) _).trans (hb1.mono (by simp))⟩
      · have e := reqF_tags Hs.out Hsh.out htg
        have bb : r.tags.length = 0 ∨ 4 < (r.tags.length : Int) := by unfold tagsOk at htg; omega
        rw [e]
        clear e htg
        rcases q with ⟨hw, hq, hq2⟩ | ⟨hw, hq⟩
        · have hq3 : ((r.data.length : Int) != r.many) = false := by rw [bne, hq]; rfl
          rcases bb with bb | bb
          · skip
            go_enter Try.func16, Try.ntmps16
            go_wp2_with (go_at_call 63; refine (spanfault_any _ _ _ _).mono ?_; rintro e w1 ⟨rfl, hb1⟩; obtain ⟨hc1, hf1⟩ := bcell hb1; have hz1 := hb1.size; simp only [World.size_alloc] at hz1)
            go_ret
            exact ⟨rfl, ((Below.refl _ _).alloc (Nat.le_refl _) _).trans (hb1.mono (by simp))⟩
          · have t0 : ((r.tags.length : Int) == 0) = false := by simp; intro h; rw [h] at bb; simp at bb
            go_enter Try.func16, Try.ntmps16
            go_wp2_with (go_at_call 63; refine (spanfault_any _ _ _ _).mono ?_; rintro e w1 ⟨rfl, hb1⟩; obtain ⟨hc1, hf1⟩ := bcell hb1; have hz1 := hb1.size; simp only [World.size_alloc] at hz1)
            go_ret
            exact ⟨rfl, ((Below.refl _ _).alloc (Nat.le_refl _) _).trans (hb1.mono (by simp))⟩
        · rcases bb with bb | bb
          · skip
            go_enter Try.func16, Try.ntmps16
            go_wp2_with (go_at_call 63; refine (spanfault_any _ _ _ _).mono ?_; rintro e w1 ⟨rfl, hb1⟩; obtain ⟨hc1, hf1⟩ := bcell hb1; have hz1 := hb1.size; simp only [World.size_alloc] at hz1)
            go_ret
            exact ⟨rfl, ((Below.refl _ _).alloc (Nat.le_refl _) _).trans (hb1.mono (by simp))⟩
          · have t0 : ((r.tags.length : Int) == 0) = false := by simp; intro h; rw [h] at bb; simp at bb
            go_enter Try.func16, Try.ntmps16
            go_wp2_with (go_at_call 63; refine (spanfault_any _ _ _ _).mono ?_; rintro e w1 ⟨rfl, hb1⟩; obtain ⟨hc1, hf1⟩ := bcell hb1; have hz1 := hb1.size; simp only [World.size_alloc] at hz1)
            go_ret
            exact ⟨rfl, ((Below.refl _ _).alloc (Nat.le_refl _) _).trans (hb1.mono (by simp))⟩
    · have e := reqF_shape Hs.out hsh
      rw [e]
      clear e
      cases hw : r.write with
      | true =>
        have q1 : ((r.data.length : Int) == r.many) = false := by unfold shapeOk at hsh; rw [hw] at hsh; simpa using hsh
        have q2 : ((r.data.length : Int) != r.many) = true := by rw [bne, q1]; rfl
        clear hsh
        by_cases hl : 0 < (r.data.length : Int)
        · skip
          go_enter Try.func16, Try.ntmps16
          go_wp2_with (go_at_call 63; refine (spanfault_any _ _ _ _).mono ?_; rintro e w1 ⟨rfl, hb1⟩; obtain ⟨hc1, hf1⟩ := bcell hb1; have hz1 := hb1.size; simp only [World.size_alloc] at hz1)
          go_ret
          exact ⟨rfl, ((Below.refl _ _).alloc (Nat.le_refl _) _).trans (hb1.mono (by simp))⟩
        · skip
          go_enter Try.func16, Try.ntmps16
          go_wp2_with (go_at_call 63; refine (spanfault_any _ _ _ _).mono ?_; rintro e w1 ⟨rfl, hb1⟩; obtain ⟨hc1, hf1⟩ := bcell hb1; have hz1 := hb1.size; simp only [World.size_alloc] at hz1)
          go_ret
          exact ⟨rfl, ((Below.refl _ _).alloc (Nat.le_refl _) _).trans (hb1.mono (by simp))⟩
      | false =>
        have hl : 0 < (r.data.length : Int) := by unfold shapeOk at hsh; rw [hw] at hsh; simp at hsh; have := List.length_pos_iff.2 hsh; omega
        clear hsh
        go_enter Try.func16, Try.ntmps16
        go_wp2_with (go_at_call 63; refine (spanfault_any _ _ _ _).mono ?_; rintro e w1 ⟨rfl, hb1⟩; obtain ⟨hc1, hf1⟩ := bcell hb1; have hz1 := hb1.size; simp only [World.size_alloc] at hz1)
        go_ret
        exact ⟨rfl, ((Below.refl _ _).alloc (Nat.le_refl _) _).trans (hb1.mono (by simp))⟩
  · have fs := spanF_neg hs
    rw [reqF_span hs]
    clear hs
    go_enter Try.func16, Try.ntmps16
    go_wp2_with (go_at_call 63; refine (spanfault_any _ _ _ _).mono ?_; rintro e w1 ⟨rfl, hb1⟩; obtain ⟨hc1, hf1⟩ := bcell hb1; have hz1 := hb1.size; simp only [World.size_alloc] at hz1)
    go_ret
    exact ⟨rfl, ((Below.refl _ _).alloc (Nat.le_refl _) _).trans (hb1.mono (by simp))⟩

end Go.Proofs.Ytdhiepcglnbkbaa
