/- For all lines: the law ConsoleSays returns true, and its argument reads as it did. It is a card: tables and errors of Go's library start as their text lays them. -/
import Derived.Test.YtagndjihiklmiaaGreatDoorQ44
import Derived.Test.YtagndjihiklmiaaGreatDoorQ45
import Derived.Test.YtagndjihiklmiaaGreatDoorQ43
import Derived.Test.YtagndjihiklmiaaGreatDoorQ47
import Derived.Test.YtagndjihiklmiaaGreatDoorQ3
import Derived.Test.YtagndjihiklmiaaGreatDoorQ48
import Derived.Test.YtagndjihiklmiaaGreatDoorCards
import Derived.Test.YtagndjihiklmiaaGreatDoorTie
import Derived.ChangeMaps5
namespace Go.Proofs.YtagndjihiklmiaaGreatDoor
set_option linter.unusedSimpArgs false
set_option linter.unusedVariables false
open Go.RowKit Go.Sort

/-- What is read out of a text may be played. -/
theorem parse_check {t : ByteArray} {z : Stp} (h : parseM t = some z) : checkM z = 0 := by
  unfold parseM parseW at h
  split at h
  · cases h
  · split at h
    · cases h
    · split at h
      · cases h
      · split at h
        · cases h
        · split at h
          · cases h
          · rename_i hc
            cases h
            simpa using hc
/-- It returns the answers. -/
def RetRun (o : List ByteArray) (w : World) : Ending → World → Prop := fun e w' => ∃ v, e = .returned (.tuple #[v, .nilIface]) ∧ StrsAt (fun _ => True) w' v o ∧ Below w.heap.size w w'
set_option maxRecDepth 100000 in
set_option maxHeartbeats 8000000 in
theorem run_any (S : Nat → Prop) (ls : List ByteArray) (v : Value) (w : World) (h : StrsAt S w v ls) (hE : Env w) (hl : ls.length ≤ 90) : Calls Tryz.prog 5 #[v] w (RetRun (outM parseM pst0 ls) w) := by
  obtain ⟨i0, hi0, hz0, hz1, hz2⟩ := info_parts ptrInfo
  obtain ⟨A, cap, rfl, _, hcap⟩ := h.form
  have H := Lib.hid h
  have HE := Lib.hid hE
  clear h hE
  go_enter Tryz.func5, Tryz.ntmps5
  go_wp2_with fail
  refine (plnew_any w w (Below.refl _ _)).mono ?_
  rintro e w0 ⟨p, b, bd, col, y, rfl, hp, _, _, _⟩
  have HP : Hid (RunAt Ts tPl w w0 p bd 0 pst0 (.slice none 0 0) []) := ⟨⟨col, b, y, hp, Out9.nil⟩, World.ownsRow_nil _ _ _ _, by simp⟩
  clear hp
  go_wp2_with fail
  go_loopw [5, 7, 8, 9, 17] (fun v _ _ _ i wr => ∃ k : Nat, k ≤ ls.length ∧ i = .int .i64 k ∧ Hid (RunAt Ts tPl w wr p bd k (runS parseM pst0 (ls.take k)) v (outM parseM pst0 (ls.take k)))) (fun _ _ _ _ i _ => ls.length - (intOf i).toNat)
  case atStart => exact ⟨0, by omega, rfl, HP.out⟩
  case round =>
    obtain ⟨k, hk, rfl, HR⟩ := hrel
    by_cases hlt : k < ls.length
    · have hk1 : (k : Int) < (ls.length : Int) := by omega
      obtain ⟨g, off, rfl, _, _, hc⟩ := (H.out.below HR.out.below).at_ (by omega)
      have hx : ls[k]? = some ls[k] := List.getElem?_eq_getElem hlt
      obtain ⟨hcell, hsz⟩ := hc k _ hx
      have HO := Lib.hid (outM_succ (ps := parseM) (s := pst0) hx)
      have HS := Lib.hid (runS_succ (ps := parseM) (s := pst0) hx)
      have hn : (outM parseM pst0 (ls.take k)).length = k := by rw [outM_len, List.length_take]; omega
      clear hx hc
      generalize ls[k] = t at *
      generalize runS parseM pst0 (ls.take k) = s at *
      generalize outM parseM pst0 (ls.take k) = o at *
      have Hn := Lib.hid hn
      clear hn
      have key : (40 < t.size ∧ lineM parseM s t = (s, doneB 4)) ∨ (¬ 40 < t.size ∧ parseM t = none ∧ lineM parseM s t = (s, doneB 4)) ∨ (∃ z, ¬ 40 < t.size ∧ parseM t = some z ∧ lineM parseM s t = playM s z) := by
        by_cases h4 : 40 < t.size
        · exact .inl ⟨h4, lineM_long h4⟩
        · cases hp : parseM t with
          | none => exact .inr (.inl ⟨h4, rfl, lineM_none h4 hp⟩)
          | some z => exact .inr (.inr ⟨z, h4, rfl, lineM_some h4 hp⟩)
      rcases key with ⟨h4, hl⟩ | ⟨h4, hp, hl⟩ | ⟨z, h4, hp, hl⟩
      · have h4' : (40 : Int) < (t.size : Int) := by omega
        have Hl := Lib.hid hl
        clear hl
        go_wp2_with fail
        refine (fault_any 4 wr (by omega) (by omega) (HE.out.below HR.out.below)).mono ?_
        rintro e w1 ⟨rfl, hb1⟩
        have HA := Lib.hid (HR.out.step hb1)
        clear hb1
        have hans := doneB_le (n := 4) (by omega)
        generalize doneB 4 = ans at *
        have hbr := (Below.refl w1.heap.size w1).alloc (Nat.le_refl _) (Obj.cells #[Value.string ans] 9)
        have Hrow := Lib.hid (rd_row1 w1 (.string ans) 9)
        have HA1 := Lib.hid (HA.out.step hbr)
        have Hsz := Lib.hid HA1.out.below.size
        clear hbr
        go_wp2_with (at_builtin; refine wpList_append_rd (S := fun _ => True) _ rfl _ _ _ rfl w.heap.size 9 i0 _ 1 16 Tryz.underlying22 hi0 hz0 hz1 hz2 rfl (by omega) _ o.length (o.map .string) rfl HA1.out.row _ 1 _ rfl Hrow.out (fun u hu => by simp at hu; subst hu; rfl) (by have := Hn.out; simp only [maxLen]; omega) (by have := Hn.out; omega) Hsz.out ?_; intro v5 w5 hown5 hg5 hat5)
        have HA5 := Lib.hid (HA1.out.out hans hg5 hat5 hown5)
        clear hown5 hg5 hat5
        go_roundw
        case rel => exact ⟨k + 1, by omega, by go_num, by show RunAt _ _ _ _ _ _ _ _ _ _; rw [HO.out, HS.out, Hl.out]; exact HA5.out.more⟩
        case measure => simp [intOf]; omega
      · have h4' : ¬ (40 : Int) < (t.size : Int) := by omega
        have Hl := Lib.hid hl
        clear hl
        go_wp2_with fail
        refine (parse_any t wr (by omega) (HE.out.below HR.out.below)).mono ?_
        rintro e w1 ⟨rfl, hb1⟩
        rw [hp, show parseV none = .tuple #[stpV zeroZ, errV 4] from rfl]
        have HB := Lib.hid (HR.out.step hb1)
        clear hb1
        have hbx := (Below.refl w1.heap.size w1).alloc (Nat.le_refl _) (Obj.cells #[.string zeroZ.word, .int .i64 zeroZ.a, .int .i64 zeroZ.b, .string zeroZ.data] 42)
        have HC := Lib.hid (HB.out.step hbx)
        clear hbx
        go_wp2_with fail
        generalize World.alloc _ _ = w2 at HC ⊢
        refine (fault_any 4 w2 (by omega) (by omega) (HE.out.below HC.out.below)).mono ?_
        rintro e w3 ⟨rfl, hb3⟩
        have HA := Lib.hid (HC.out.step hb3)
        clear hb3
        have hans := doneB_le (n := 4) (by omega)
        generalize doneB 4 = ans at *
        have hbr := (Below.refl w3.heap.size w3).alloc (Nat.le_refl _) (Obj.cells #[Value.string ans] 9)
        have Hrow := Lib.hid (rd_row1 w3 (.string ans) 9)
        have HA1 := Lib.hid (HA.out.step hbr)
        have Hsz := Lib.hid HA1.out.below.size
        clear hbr
        go_wp2_with (at_builtin; refine wpList_append_rd (S := fun _ => True) _ rfl _ _ _ rfl w.heap.size 9 i0 _ 1 16 Tryz.underlying22 hi0 hz0 hz1 hz2 rfl (by omega) _ o.length (o.map .string) rfl HA1.out.row _ 1 _ rfl Hrow.out (fun u hu => by simp at hu; subst hu; rfl) (by have := Hn.out; simp only [maxLen]; omega) (by have := Hn.out; omega) Hsz.out ?_; intro v5 w5 hown5 hg5 hat5)
        have HA5 := Lib.hid (HA1.out.out hans hg5 hat5 hown5)
        clear hown5 hg5 hat5
        go_roundw
        case rel => exact ⟨k + 1, by omega, by go_num, by show RunAt _ _ _ _ _ _ _ _ _ _; rw [HO.out, HS.out, Hl.out]; exact HA5.out.more⟩
        case measure => simp [intOf]; omega
      · have h4' : ¬ (40 : Int) < (t.size : Int) := by omega
        have Hl := Lib.hid hl
        clear hl
        go_wp2_with fail
        refine (parse_any t wr (by omega) (HE.out.below HR.out.below)).mono ?_
        rintro e w1 ⟨rfl, hb1⟩
        rw [hp, show parseV (some z) = .tuple #[stpV z, errV 0] from rfl]
        have HB := Lib.hid (HR.out.step hb1)
        have Hz := Lib.hid (parse_check hp)
        clear hb1
        have hbx := (Below.refl w1.heap.size w1).alloc (Nat.le_refl _) (Obj.cells #[.string z.word, .int .i64 z.a, .int .i64 z.b, .string z.data] 42)
        have HC := Lib.hid (HB.out.step hbx)
        clear hbx
        go_wp2_with fail
        generalize World.alloc _ _ = w2 at HC ⊢
        refine (HC.out.play HE.out (by omega) Hz.out).mono ?_
        rintro e w3 ⟨rfl, HA, hans⟩
        have HA := Lib.hid HA
        generalize playM s z = ans at *
        have hbr := (Below.refl w3.heap.size w3).alloc (Nat.le_refl _) (Obj.cells #[Value.string ans.2] 9)
        have Hrow := Lib.hid (rd_row1 w3 (.string ans.2) 9)
        have HA1 := Lib.hid (HA.out.step hbr)
        have Hsz := Lib.hid HA1.out.below.size
        clear hbr
        go_wp2_with (at_builtin; refine wpList_append_rd (S := fun _ => True) _ rfl _ _ _ rfl w.heap.size 9 i0 _ 1 16 Tryz.underlying22 hi0 hz0 hz1 hz2 rfl (by omega) _ o.length (o.map .string) rfl HA1.out.row _ 1 _ rfl Hrow.out (fun u hu => by simp at hu; subst hu; rfl) (by have := Hn.out; simp only [maxLen]; omega) (by have := Hn.out; omega) Hsz.out ?_; intro v5 w5 hown5 hg5 hat5)
        have HA5 := Lib.hid (HA1.out.out hans hg5 hat5 hown5)
        clear hown5 hg5 hat5
        go_roundw
        case rel => exact ⟨k + 1, by omega, by go_num, by show RunAt _ _ _ _ _ _ _ _ _ _; rw [HO.out, HS.out, Hl.out]; exact HA5.out⟩
        case measure => simp [intOf]; omega
    · obtain rfl : k = ls.length := by omega
      go_wp2_with fail
      go_ret2
      rw [List.take_length] at HR
      exact ⟨_, rfl, HR.out.strs, HR.out.below⟩
end Go.Proofs.YtagndjihiklmiaaGreatDoor
namespace Go.Proofs.YtagndjihiklmiaaGreatDoor
set_option linter.unusedSimpArgs false
set_option linter.unusedVariables false
open Go.RowKit Go.Sort

theorem done4 : doneB 4 = ⟨#[101, 114, 114, 111, 114, 32, 52]⟩ := by kernel_rfl
/-- A row that was built just now. -/
theorem strs_row (w : World) (l : List ByteArray) (T : TypeId) (hs : ∀ s ∈ l, s.size ≤ maxLen) (hl : l.length ≤ maxLen) : StrsAt (fun _ => True) (w.alloc (Obj.cells (l.map Value.string).toArray T)) (.slice (some ⟨w.heap.size, 0, none⟩) l.length l.length) l :=
  ⟨⟨_, l.length, rfl, Nat.le_refl _, hl, by simp, fun _ => ⟨w.heap.size, 0, rfl, trivial, fun j v hv => by
    rw [Nat.zero_add, cell_of_row _ _ j _ _ _ (heap_alloc_new w _)]
    simpa using hv⟩⟩, hs⟩
def helloL : List ByteArray := [⟨#[119, 114, 105, 116, 101, 32, 48, 32, 51, 32, 104, 97, 121]⟩, ⟨#[114, 101, 97, 100, 32, 49, 32, 51]⟩, ⟨#[103, 111, 116, 32, 49]⟩, ⟨#[115, 121, 110, 99, 32, 48]⟩, ⟨#[113, 117, 101, 117, 101]⟩, ⟨#[99, 108, 101, 97, 110]⟩, ⟨#[113, 117, 101, 117, 101]⟩, ⟨#[115, 101, 116, 116, 108, 101, 32, 57]⟩, ⟨#[103, 111, 116, 32, 48]⟩, ⟨#[102, 108, 121]⟩]
def helloO : List ByteArray := [⟨#[111, 107]⟩, ⟨#[111, 107]⟩, ⟨#[100, 97, 116, 97, 32, 104, 97, 121]⟩, ⟨#[111, 107]⟩, ⟨#[45]⟩, ⟨#[121, 101, 115]⟩, ⟨#[119, 51, 43, 49, 35, 49]⟩, ⟨#[49, 32, 121, 101, 115]⟩, ⟨#[100, 97, 116, 97, 32]⟩, ⟨#[101, 114, 114, 111, 114, 32, 52]⟩]
theorem hello_pure : outM parseM pst0 helloL = helloO := by kernel_rfl
set_option maxRecDepth 100000 in
theorem hello_any (w : World) (hE : Env w) : Calls Tryz.prog 4 #[] w (Ret (.bool true) w) := by
  have HE := Lib.hid hE
  clear hE
  go_enter Tryz.func4, Tryz.ntmps4
  go_wp2_with fail
  have Hrow := Lib.hid (strs_row w helloL 9 (by decide) (by decide))
  have hb := (Below.refl w.heap.size w).alloc (Nat.le_refl _) (Obj.cells (helloL.map Value.string).toArray 9)
  refine (run_any _ helloL _ _ Hrow.out (HE.out.below hb) (by decide)).mono ?_
  rintro e w1 ⟨v, rfl, hv, hb1⟩
  rw [hello_pure] at hv
  have HV := Lib.hid hv
  have HB := Lib.hid (hb.trans (hb1.mono hb.size))
  clear hv hb hb1
  go_wp2_with fail
  refine (same_nil 0 _).mono ?_
  rintro e w2 ⟨rfl, rfl⟩
  go_wp2_with fail
  have hb2 := (Below.refl w1.heap.size w1).alloc (Nat.le_refl _) (Obj.cells (helloO.map Value.string).toArray 9)
  refine (sametexts_any (fun _ => True) helloO helloO v _ _ (HV.out.below hb2) (strs_row w1 helloO 9 (by decide) (by decide))).mono ?_
  rintro e w3 ⟨rfl, hb3⟩
  rw [eqB_true rfl]
  go_wp2_with fail
  go_ret
  exact ⟨rfl, HB.out.trans ((hb2.trans (hb3.mono hb2.size)).mono HB.out.size)⟩
set_option maxRecDepth 100000 in
theorem run_many (S : Nat → Prop) (ls : List ByteArray) (v : Value) (w : World) (h : StrsAt S w v ls) (hl : 90 < ls.length) : Calls Tryz.prog 5 #[v] w (RetSame (.tuple #[.slice none 0 0, errV 2]) w) := by
  obtain ⟨A, cap, rfl, _, hcap⟩ := h.form
  clear h
  have hl' : (90 : Int) < (ls.length : Int) := by omega
  rw [errV_pos (by omega)]
  go_enter Tryz.func5, Tryz.ntmps5
  go_wp2
  go_ret2
  exact ⟨rfl, rfl⟩
set_option maxRecDepth 100000 in
set_option maxHeartbeats 8000000 in
theorem console_walk (ls : List ByteArray) (v : Value) (w : World) (h : StrsAt (fun _ => True) w v ls) (hE : Env w) : Calls Tryz.prog 3 #[v] w (Ret (.bool true) w) := by
  obtain ⟨i0, hi0, hz0, hz1, hz2⟩ := info_parts ptrInfo
  obtain ⟨A, cap, rfl, hcl, hcap⟩ := h.form
  have H := Lib.hid h
  have HE := Lib.hid hE
  unfold maxLen at hcap
  clear h hE
  go_enter Tryz.func3, Tryz.ntmps3
  go_wp2_with fail
  refine (hello_any w HE.out).mono ?_
  rintro e w1 ⟨rfl, hb1⟩
  have HB1 := Lib.hid hb1
  clear hb1
  by_cases h100 : ls.length ≤ 100
  rotate_left
  · have d1 : decide ((100 : Int) < (ls.length : Int)) = true := decide_eq_true (by omega)
    go_wp2
    go_ret
    exact ⟨rfl, HB1.out⟩
  have d1 : decide ((100 : Int) < (ls.length : Int)) = false := decide_eq_false (by omega)
  have H1 := Lib.hid (H.out.below HB1.out)
  go_wp2_with fail
  go_loop [4] (fun i => ∃ k : Nat, k ≤ ls.length ∧ i = .int .i64 k ∧ Hid ((ls.take k).all (fun s => decide (s.size ≤ 100)) = true)) (fun i => ls.length - (intOf i).toNat)
  case atStart => exact ⟨0, by omega, rfl, rfl⟩
  case round =>
    obtain ⟨k, hk, rfl, hall⟩ := hrel
    by_cases hlt : k < ls.length
    · have hk1 : (k : Int) < (ls.length : Int) := by omega
      obtain ⟨g, off, rfl, _, hgl, hc⟩ := H1.out.at_ (by omega)
      have hx : ls[k]? = some ls[k] := List.getElem?_eq_getElem hlt
      obtain ⟨hcell, hsz⟩ := hc k _ hx
      unfold maxLen at hsz
      clear hc
      have Hx := Lib.hid hx
      clear hx
      generalize ls[k] = s at hcell hsz Hx
      by_cases hs : s.size ≤ 100
      · have hs' : ¬ (100 : Int) < (s.size : Int) := by omega
        go_wp2
        go_round
        case rel => exact ⟨k + 1, by omega, by go_num, by show _ = true; rw [all_take_succ _ _ _ _ Hx.out, hall.out]; simpa using hs⟩
        case measure => simp [intOf]; omega
      · have hs' : (100 : Int) < (s.size : Int) := by omega
        go_wp2
        go_ret
        exact ⟨rfl, HB1.out⟩
    · have hk1 : ¬ (k : Int) < (ls.length : Int) := by omega
      have hall2 := all_end _ _ _ (by omega) hall.out
      have HS100 : Hid (∀ s ∈ ls, s.size ≤ 100) := fun s hs => by simpa using List.all_eq_true.1 hall2 s hs
      clear hall hall2
      go_wp2_with (first
        | (at_builtin; refine wpList_append_rd (S := fun _ => True) _ rfl _ _ _ rfl w.heap.size 9 i0 _ 1 16 Tryz.underlying22 hi0 hz0 hz1 hz2 rfl (by omega) _ 0 [] rfl (World.ownsRow_nil _ _ _ _) _ ls.length (ls.map .string) rfl H1.out.1 (fun u hu => by obtain ⟨s, _, rfl⟩ := List.mem_map.1 hu; rfl) (by simp only [maxLen]; omega) (by omega) HB1.out.size ?_; intro v4 w4 hown4 hg4 hat4; rw [Nat.zero_add, List.nil_append] at hown4; have HB4 : Hid (Below w.heap.size w w4) := HB1.out.grown hg4 HB1.out.size (fun k hk => by cases hk); have hb4 := (Below.refl w4.heap.size w4).alloc (Nat.le_refl _) (Obj.cells #[Value.string ⟨#[109, 97, 114, 107]⟩] 9); have Hrow := Lib.hid (rd_row1 w4 (.string ⟨#[109, 97, 114, 107]⟩) 9); have HO4 := Lib.hid (own_keepD hown4 (fun k hk => hb4.block k (hown4.lt k hk).2)); have HB4a := Lib.hid (HB4.out.trans (hb4.mono HB4.out.size)); have Hsz := Lib.hid HB4a.out.size; have Hlt4 : Hid (∀ k, v4.ownBlock = some k → w.heap.size ≤ k) := fun k hk => (hown4.lt k hk).1; clear hown4 hg4 hat4 hb4)
        | (at_builtin; refine wpList_append_rd (S := fun _ => True) _ rfl _ _ _ rfl w.heap.size 9 i0 _ 1 16 Tryz.underlying22 hi0 hz0 hz1 hz2 rfl (by omega) _ ls.length (ls.map .string) rfl HO4.out _ 1 _ rfl Hrow.out (fun u hu => by simp at hu; subst hu; rfl) (by simp only [maxLen]; omega) (by omega) Hsz.out ?_; intro v5 w5 hown5 hg5 hat5; have HB5 := Lib.hid (HB4a.out.grown hg5 Hsz.out Hlt4.out); obtain ⟨g5, c5, rfl, hbg, hgl, hc5, hm5⟩ := own_form hown5 (by omega); have hown6 := own_take w5 (k := ls.length) (Nat.le_succ _) (Nat.succ_pos _) hown5; rw [show (ls.map Value.string ++ [Value.string ⟨#[109, 97, 114, 107]⟩]).take (ls.length * 1) = ls.map Value.string from List.take_left' (by simp)] at hown6; have HW : Hid (StrsAt (fun _ => True) w5 (.slice (some ⟨g5, 0, none⟩) ls.length c5) ls) := ⟨Rd.of_own _ (fun _ _ => trivial) hown6, fun s hs => Nat.le_trans (HS100.out s hs) (by decide)⟩; clear hown5 hown6 hg5 hat5))
      have HE5 := Lib.hid (HE.out.below HB5.out)
      by_cases h90 : ls.length ≤ 90
      rotate_left
      · refine (run_many _ ls _ w5 HW.out (by omega)).mono ?_
        rintro e w6 ⟨rfl, rfl⟩
        have d2 : decide ((90 : Int) < (ls.length : Int)) = true := decide_eq_true (by omega)
        go_wp2_with fail
        refine (same_any 2 2 _).mono ?_
        rintro e w7 ⟨rfl, rfl⟩
        go_wp2_with fail
        go_ret
        exact ⟨rfl, HB5.out⟩
      have d2 : decide ((90 : Int) < (ls.length : Int)) = false := decide_eq_false (by omega)
      refine (run_any _ ls _ w5 HW.out HE5.out h90).mono ?_
      rintro e w6 ⟨v6, rfl, hv6, hb6⟩
      have HV6 := Lib.hid hv6
      have HB6 := Lib.hid (HB5.out.trans (hb6.mono HB5.out.size))
      have HW6 := Lib.hid (HW.out.below hb6)
      have HE6 := Lib.hid (HE.out.below HB6.out)
      have H6 := Lib.hid (H.out.below HB6.out)
      clear hv6 hb6
      go_wp2_with fail
      refine (rplnew_any w6 w6 (Below.refl _ _)).mono ?_
      rintro e w7 ⟨q, bq, bdq, colq, yq, rfl, hq, _, _, _⟩
      have HP : Hid (RunAt Tr tPr w6 w7 q bdq 0 pst0 (.slice none 0 0) []) := ⟨⟨colq, bq, yq, hq, Out9.nil⟩, World.ownsRow_nil _ _ _ _, by simp⟩
      clear hq
      go_wp2_with fail
      go_loopw [9, 10, 11, 12, 13] (fun v i _ _ _ wr => ∃ k : Nat, k ≤ ls.length ∧ i = .int .i64 k ∧ Hid (RunAt Tr tPr w6 wr q bdq k (runS parseM pst0 (ls.take k)) v (outM parseM pst0 (ls.take k)))) (fun _ i _ _ _ _ => ls.length - (intOf i).toNat)
      case atStart => exact ⟨0, by omega, rfl, HP.out⟩
      case round =>
        obtain ⟨k, hk, rfl, HR⟩ := hrel
        by_cases hlt : k < ls.length
        · have hk1 : (k : Int) < (ls.length : Int) := by omega
          obtain ⟨g, off, rfl, _, _, hc⟩ := (H6.out.below HR.out.below).at_ (by omega)
          have hx : ls[k]? = some ls[k] := List.getElem?_eq_getElem hlt
          obtain ⟨hcell, hsz⟩ := hc k _ hx
          have hs1 := HS100.out _ (List.mem_of_getElem? hx)
          have HO := Lib.hid (outM_succ (ps := parseM) (s := pst0) hx)
          have HS := Lib.hid (runS_succ (ps := parseM) (s := pst0) hx)
          have hn : (outM parseM pst0 (ls.take k)).length = k := by rw [outM_len, List.length_take]; omega
          clear hx hc
          generalize ls[k] = t at *
          generalize runS parseM pst0 (ls.take k) = s at *
          generalize outM parseM pst0 (ls.take k) = o at *
          have Hn := Lib.hid hn
          clear hn
          have key : ∃ (n : Nat) (y : Stp), rparseV (rparseM t) = .tuple #[stpV y, .int .i64 (n : Int)] ∧ ((40 < t.size ∧ lineM parseM s t = (s, doneB 4)) ∨ (¬ 40 < t.size ∧ n = 4 ∧ lineM parseM s t = (s, doneB 4)) ∨ (¬ 40 < t.size ∧ n = 0 ∧ checkM y = 0 ∧ lineM parseM s t = playM s y)) := by
            rw [show rparseM t = parseM t from (parse_same (splitM t)).symm]
            cases hp : parseM t with
            | none => exact ⟨4, zeroZ, rfl, by
                by_cases h4 : 40 < t.size
                · exact .inl ⟨h4, lineM_long h4⟩
                · exact .inr (.inl ⟨h4, rfl, lineM_none h4 hp⟩)⟩
            | some y => exact ⟨0, y, rfl, by
                by_cases h4 : 40 < t.size
                · exact .inl ⟨h4, lineM_long h4⟩
                · exact .inr (.inr ⟨h4, rfl, parse_check hp, lineM_some h4 hp⟩)⟩
          obtain ⟨n, y, hv, hkey⟩ := key
          have Hv := Lib.hid hv
          have Hkey := Lib.hid hkey
          clear hv hkey
          go_wp2_with fail
          refine (rparse_any t wr (by omega)).mono ?_
          rintro e w8 ⟨rfl, hb8⟩
          rw [Hv.out]
          have HQ := Lib.hid (HR.out.step hb8)
          have hbx := (Below.refl w8.heap.size w8).alloc (Nat.le_refl _) (Obj.cells #[.string y.word, .int .i64 y.a, .int .i64 y.b, .string y.data] 32)
          have HC := Lib.hid (HQ.out.step hbx)
          have hcell8 := cell_b (hb8.trans (hbx.mono hb8.size)) hcell
          clear hb8 hbx hcell
          go_upto_region 20 with fail
          have hx8 := heap_alloc_new w8 (Obj.cells #[.string y.word, .int .i64 y.a, .int .i64 y.b, .string y.data] 32)
          generalize World.alloc w8 _ = w9 at HC hcell8 hx8 ⊢
          have x0 : w9.cell? ⟨w8.heap.size, 0, none⟩ = some (.string y.word) := cell_of_row _ _ 0 _ _ _ hx8
          have x1 : w9.cell? ⟨w8.heap.size, 1, none⟩ = some (.int .i64 y.a) := cell_of_row _ _ 1 _ _ _ hx8
          have x2 : w9.cell? ⟨w8.heap.size, 2, none⟩ = some (.int .i64 y.b) := cell_of_row _ _ 2 _ _ _ hx8
          have x3 : w9.cell? ⟨w8.heap.size, 3, none⟩ = some (.string y.data) := cell_of_row _ _ 3 _ _ _ hx8
          generalize w8.heap.size = bx at x0 x1 x2 x3 ⊢
          clear hx8
          rcases Hkey.out with ⟨h4, hl⟩ | ⟨h4, rfl, hl⟩ | ⟨h4, rfl, hz, hl⟩
          rotate_left 2
          · have d3 : decide ((t.size : Int) ≤ 40) = true := decide_eq_true (by omega)
            have Hl := Lib.hid hl
            have Hz := Lib.hid hz
            clear hl hz
            go_wp2_with fail
            refine (HC.out.rplay HE6.out (by omega) Hz.out).mono ?_
            rintro e w10 ⟨rfl, HA, hans⟩
            have HA := Lib.hid HA
            generalize playM s y = ans at *
            have hbr := (Below.refl w10.heap.size w10).alloc (Nat.le_refl _) (Obj.cells #[Value.string ans.2] 9)
            have Hrow := Lib.hid (rd_row1 w10 (.string ans.2) 9)
            have HA1 := Lib.hid (HA.out.step hbr)
            have Hsz := Lib.hid HA1.out.below.size
            clear hbr
            go_wp2_with (at_builtin; refine wpList_append_rd (S := fun _ => True) _ rfl _ _ _ rfl w6.heap.size 9 i0 _ 1 16 Tryz.underlying22 hi0 hz0 hz1 hz2 rfl (by omega) _ o.length (o.map .string) rfl HA1.out.row _ 1 _ rfl Hrow.out (fun u hu => by simp at hu; subst hu; rfl) (by have := Hn.out; simp only [maxLen]; omega) (by have := Hn.out; omega) Hsz.out ?_; intro va wa hown hg hat)
            have HA5 := Lib.hid (HA1.out.out hans hg hat hown)
            clear hown hg hat
            go_roundw
            case rel => exact ⟨k + 1, by omega, by go_num, by show RunAt _ _ _ _ _ _ _ _ _ _; rw [HO.out, HS.out, Hl.out]; exact HA5.out⟩
            case measure => simp [intOf]; omega
          all_goals
            have Hl := Lib.hid hl
            clear hl
            first
              | (have d3 : decide ((t.size : Int) ≤ 40) = false := decide_eq_false (by omega))
              | (have d3 : decide ((t.size : Int) ≤ 40) = true := decide_eq_true (by omega))
            have HA := Lib.hid HC.out
            have hans : (⟨#[101, 114, 114, 111, 114, 32, 52]⟩ : ByteArray).size ≤ 3000 := by decide
            have hbr := (Below.refl w9.heap.size w9).alloc (Nat.le_refl _) (Obj.cells #[Value.string ⟨#[101, 114, 114, 111, 114, 32, 52]⟩] 9)
            have Hrow := Lib.hid (rd_row1 w9 (.string ⟨#[101, 114, 114, 111, 114, 32, 52]⟩) 9)
            have HA1 := Lib.hid (HA.out.step hbr)
            have Hsz := Lib.hid HA1.out.below.size
            clear hbr
            go_wp2_with (at_builtin; refine wpList_append_rd (S := fun _ => True) _ rfl _ _ _ rfl w6.heap.size 9 i0 _ 1 16 Tryz.underlying22 hi0 hz0 hz1 hz2 rfl (by omega) _ o.length (o.map .string) rfl HA1.out.row _ 1 _ rfl Hrow.out (fun u hu => by simp at hu; subst hu; rfl) (by have := Hn.out; simp only [maxLen]; omega) (by have := Hn.out; omega) Hsz.out ?_; intro va wa hown hg hat)
            have HA5 := Lib.hid (HA1.out.out hans hg hat hown)
            clear hown hg hat
            go_roundw
            case rel => exact ⟨k + 1, by omega, by go_num, by show RunAt _ _ _ _ _ _ _ _ _ _; rw [HO.out, HS.out, Hl.out, done4]; exact HA5.out.more⟩
            case measure => simp [intOf]; omega
        · obtain rfl : k = ls.length := by omega
          rw [List.take_length] at HR
          go_wp2_with fail
          refine (same_nil 0 _).mono ?_
          rintro e w8 ⟨rfl, rfl⟩
          go_wp2_with fail
          refine (sametexts_any (fun _ => True) _ _ v6 _ _ (HV6.out.below HR.out.below) HR.out.strs).mono ?_
          rintro e w9 ⟨rfl, hb9⟩
          have HB9 := Lib.hid (HR.out.below.trans (hb9.mono HR.out.below.size))
          clear hb9
          rw [eqB_true rfl]
          go_wp2_with fail
          refine (sametexts_any (fun _ => True) ls ls _ _ _ (HW6.out.below HB9.out) (H6.out.below HB9.out)).mono ?_
          rintro e w10 ⟨rfl, hb10⟩
          rw [eqB_true rfl]
          go_wp2_with fail
          go_ret
          exact ⟨rfl, HB6.out.trans ((HB9.out.trans (hb10.mono HB9.out.size)).mono HB6.out.size)⟩
end Go.Proofs.YtagndjihiklmiaaGreatDoor
namespace Go.Proofs.YtagndjihiklmiaaGreatDoor.consoleSays
open Go.ChangeShapes Go.WideShapes Go.ChangeAt Go.RowKit Go.Joins

set_option maxRecDepth 100000 in
theorem lifted (os : Os) (started : os.Started) (H : Type) (enc : TypeId × Value → H) :
    ReturnsInHanded {} Tryz.checked os 3 .any (fun w args => (Rows.consoleSaysSpec.pre enc Tryz.prog Tryz.f3 Rows.consoleSaysRow.domain false w args ∧ laidMetH Tryz.prog Rows.consoleSaysRow.laid w) ∧ sizedMet enc Tryz.prog Tryz.f3 (OpenSpec.ofChange Rows.consoleSaysSpec) false w args)
      (Rows.consoleSaysSpec.post enc Tryz.prog Tryz.f3 false true false false) := by
  refine wrap_shaped (C := Tryz.checked) (X := fun w _ => laidMetH Tryz.prog Rows.consoleSaysRow.laid w) (fun _ _ _ hh h => h.of_heap hh) own started (by kernel_rfl) Tryz.func3
    (ChangeSpec.witness_shaped (enc := enc) (C := Tryz.checked) (os := os) (X := fun w _ => laidMetH Tryz.prog Rows.consoleSaysRow.laid w) false (World.laidAll Tryz.prog os Rows.consoleSaysRow.laid) #[.slice none 0 0] 8 (World.laidAll_os _ _ _)
      (World.shaped_of_ZipB (by kernel_rfl) (by kernel_rfl)) (by kernel_rfl) (by kernel_rfl) (by kernel_rfl)
      (by rw [MakeChecks.laidMetH_plain _ _ _ (by kernel_rfl)]; exact laidMet_laidAll _ (by kernel_rfl) (by kernel_rfl))) ?_
  intro W base args ds gs before hval0 hW hL hsh
  have hval : ∀ (j : Nat) t v, Tryz.f3.params[j]? = some t → args[j]? = some v → Value.okWide Tryz.prog W .any base t v := hval0
  refine law_contract (fn := Tryz.f3) rfl rfl (fun ds h => ?_) (by rw [Tryz.params3]; intro t ht; simp at ht; subst ht; exact ⟨by kernel_rfl, of_decide_eq_true (by kernel_rfl)⟩) hW ?_
  · match ds, h with
    | [_], _ => rfl
  · intro p hA hlt
    rw [Tryz.params3] at hA hval
    obtain ⟨v0, vs0, d0, ds0, p0, q0, hargs, rfl, rfl, h0, r0⟩ := trodAll_cons hA
    obtain ⟨rfl, rfl, rfl⟩ := trodAll_nil r0
    obtain rfl : args = #[v0] := by cases args; simp_all
    obtain ⟨A, n, c, rfl⟩ := okWide_slice Tryz.underlying22 (hval 0 22 v0 rfl rfl)
    obtain ⟨fu0, hfu0⟩ := h0
    obtain ⟨l0, hl0⟩ := strs_of hfu0
    exact console_walk l0 _ W hl0 (env_of hL hsh)

theorem holds : Rows.ConsoleSaysSaid :=
  OpenClaim.holds_of_wide 3 Tryz.f3 rfl rfl rfl rfl rfl rfl rfl ⟨rfl, rfl, rfl, rfl, rfl⟩ rfl rfl rfl rfl rfl (by kernel_rfl) Tryz.func3 (by kernel_rfl)
    (of_decide_eq_true (by kernel_rfl)) (by unfold Func.isWrapper; first | (rw [if_pos (by decide +kernel)]; kernel_rfl) | (rw [if_neg (by decide +kernel)]; exact ⟨rfl, rfl⟩))
    (fun os started H enc _ => lifted os started H enc)
theorem proved : Rows.ConsoleSaysCardSaid :=
  Claim7.holds_tied_plain_at .later [] Rows.consoleSaysCard.laidKinds true Rows.consoleSaysCard.stood.harness true holds (fun _ h => by cases h) (by kernel_rfl) (fun _ h => by cases h) consoleSays_row_tie rfl ⟨rfl, rfl⟩ (by kernel_rfl) rfl
    (fun f fn hf hfn => by
      obtain rfl : f = 3 := Option.some.inj ((show Tryz.prog.funcNamed "weighbridge/weighbridgelaw.ConsoleSays" = some 3 by kernel_rfl).symm.trans hf) |>.symm
      obtain rfl : fn = Tryz.f3 := (Option.some.inj (Tryz.func3.symm.trans hfn)).symm
      exact ⟨by kernel_rfl, fun j t ht => by
        rw [Tryz.params3] at ht
        have hm : t ∈ [22] := by simpa using Array.mem_of_getElem? ht
        have hall : ([22].all fun u => !Tryz.prog.wantsStandIn u) = true := by kernel_rfl
        exact (show Tryz.prog.wantsStandIn t = false by simpa using List.all_eq_true.1 hall t hm)⟩)
    (by kernel_rfl)
#print axioms proved
end Go.Proofs.YtagndjihiklmiaaGreatDoor.consoleSays
