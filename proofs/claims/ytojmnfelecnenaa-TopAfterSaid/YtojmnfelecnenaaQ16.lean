/- What alone's answered does. What alone's step does. gen_lawal2.py prints this text. -/
import Derived.Test.YtojmnfelecnenaaQ15
import Derived.Test.YtojmnfelecnenaaQ14
import Derived.Test.YtojmnfelecnenaaQ1
import Derived.StillTailTactics
namespace Go.Proofs.Ytojmnfelecnenaa
set_option linter.unusedSimpArgs false
set_option linter.unusedVariables false
open Go.RowKit Go.Sort

theorem num_nil (w : World) : Calls Try.prog 28 #[.nilIface] w (RetSame (.int .i64 0) w) := number_any 0 w
theorem num_8 (w : World) : Calls Try.prog 28 #[.iface 78 (.int .i64 8)] w (RetSame (.int .i64 8) w) := number_any 8 w
theorem num_9 (w : World) : Calls Try.prog 28 #[.iface 78 (.int .i64 9)] w (RetSame (.int .i64 9) w) := number_any 9 w
def RetAl (W0 : World) (col : Nat → Nat) (b bd N : Nat) (K : Int) (x : Sv) (s : St) (ba M : Nat) (A : Al) : Ending → World → Prop := fun e w' => e = .returned (.bool true) ∧ Alst W0 w' col b bd N K x s ba M A
theorem answered_same {A : Al} {s : St} (h : A.kind = 0 ∨ (s.askAt 0).isSome = true) : A.answered s = A := by unfold Al.answered; rw [if_pos h]
theorem answered_none {A : Al} {s : St} (h0 : A.kind ≠ 0) (hn : s.askAt 0 = none) (he : (s.got 0).2 ≠ 0) : A.answered s = { A with kind := 0 } := by
  unfold Al.answered; rw [if_neg (by rw [hn]; simp; exact h0), if_pos he]
theorem answered_read {A : Al} {s : St} (h0 : A.kind = 1) (hn : s.askAt 0 = none) : A.answered s = { A with kind := 0 } := by
  unfold Al.answered; rw [if_neg (by rw [hn]; simp; omega)]
  split
  · rfl
  · rw [if_neg (by omega), if_neg (by omega)]
theorem answered_write {A : Al} {s : St} (h0 : A.kind = 2) (hn : s.askAt 0 = none) (he : (s.got 0).2 = 0) : A.answered s = { A with kind := 0, now := A.now.set A.pos.toNat A.data, since := A.since.set A.pos.toNat (A.since.getD A.pos.toNat [] ++ [A.data]) } := by
  unfold Al.answered; rw [if_neg (by rw [hn]; simp; omega), if_neg (by rw [he]; simp), if_pos h0]
theorem answered_sync {A : Al} {s : St} (h0 : A.kind = 3) (hn : s.askAt 0 = none) (he : (s.got 0).2 = 0) : A.answered s = { A with kind := 0, since := A.now.map (fun d => [d]) } := by
  unfold Al.answered; rw [if_neg (by rw [hn]; simp; omega), if_neg (by rw [he]; simp), if_neg (by omega), if_pos h0]
/-- A list of texts of the call's own. -/
def OwnF (base : Nat) (ls : List ByteArray) : SlotFact := fun v u => u.ownsRow base 9 1 v ls.length (ls.map .string)
/-- A row of one text. -/
def BoxF (base : Nat) (d : ByteArray) : SlotFact := fun v u => ∃ k, v = .slice (some ⟨k, 0, none⟩) 1 1 ∧ base ≤ k ∧ u.heap[k]? = some (.cells #[.string d] 9 (0, 0))
theorem ownF_slice {base : Nat} {ls : List ByteArray} {v : Value} {u : World} (h : OwnF base ls v u) : ∃ A n c, v = .slice A n c := by
  rcases h.2 with ⟨rfl, _⟩ | ⟨g, cap, cur, rfl, _⟩
  · exact ⟨_, _, _, rfl⟩
  · exact ⟨_, _, _, rfl⟩
theorem own_strs {base : Nat} {ls : List ByteArray} {v : Value} {u : World} {col : Nat → Nat} (h : OwnF base ls v u) (h0 : ∀ k, base ≤ k → S0 col k) (hs : ∀ z ∈ ls, z.size ≤ maxLen) : StrsAt (Im u col) u v ls :=
  ⟨((Rd.of_own (S := fun k => base ≤ k) u (fun _ hk => hk) h).lt (by omega)).more (fun k hk => ⟨hk.2, h0 k hk.1⟩), hs⟩
theorem trans2 {b : Nat} {w u u' : World} (h : Below b w u) (k : Below b u u') : Below b w u' := h.trans k
theorem OwnF.nil (base : Nat) (u : World) : OwnF base [] (.slice none 0 0) u := ⟨rfl, .inl ⟨rfl, rfl⟩⟩
theorem OwnF.step {base : Nat} {ls : List ByteArray} {v : Value} {u u' : World} (h : OwnF base ls v u) (hb : Below u.heap.size u u') : OwnF base ls v u' := own_below h hb
theorem BoxF.step {base : Nat} {d : ByteArray} {v : Value} {u u' : World} (h : BoxF base d v u) (hb : Below u.heap.size u u') : BoxF base d v u' := by
  obtain ⟨k, e, h1, h2⟩ := h
  exact ⟨k, e, h1, (hb.block k (Array.getElem?_eq_some_iff.1 h2).1).trans h2⟩
theorem BoxF.new {base : Nat} {d : ByteArray} {u : World} (h : base ≤ u.heap.size) : BoxF base d (.slice (some ⟨u.heap.size, 0, none⟩) 1 1) (u.alloc (.cells #[.string d] 9)) := ⟨_, rfl, h, heap_alloc_new _ _⟩
theorem BoxF.at_ {base : Nat} {d : ByteArray} {v : Value} {u : World} (h : BoxF base d v u) : Rd (fun _ => True) u 1 v [d].length ([d].map .string) := by
  obtain ⟨k, rfl, h1, h2⟩ := h
  exact rd_1 h2 trivial
theorem gives_append_str {o : Oper} {ρ : Operand → Value} {u : World} {K : Value → World → Prop} {S : Nat → Prop} (s x : Operand) (t : TypeId) (ht : t = 41) (ho : o.op = .call { callee := .builtin .append, args := #[s, x], argTypes := #[t, t] })
    (base : Nat) (v : Value) (xs : List ByteArray) (hs : ρ s = v) (hown : OwnF base xs v u) (x' : Value) (ys : List ByteArray) (hx : ρ x = x') (hr : Rd S u 1 x' ys.length (ys.map .string)) (h63 : xs.length + ys.length ≤ 65536) (hbase : base ≤ u.heap.size)
    (hk : ∀ v' u', OwnF base (xs ++ ys) v' u' → Below base u u' → (v = .slice none 0 0 → Below u.heap.size u u') → K v' u') : OpGives Try.prog o ρ u K := by
  subst ht
  obtain ⟨i0, hi0, hz0, hz1, hz2⟩ := info_parts stringInfo
  obtain ⟨v', w', hrun, h2, h3, h4⟩ := run_append_rd (P := Try.prog) (S := S) u base 41 o.type 9 i0 _ 1 16 Try.underlying41 hi0 hz0 hz1 hz2 rfl (by omega) v xs.length _ hown x' ys.length _ hr (fun z hz => by obtain ⟨y, _, rfl⟩ := List.mem_map.1 hz; rfl) (by simp only [maxLen]; omega) (by omega) hbase
  refine gives_value (v := v') (w' := w') ?_ (hk _ _ ?_ ((Below.refl _ _).grown h3 hbase (fun k hk => (hown.lt k hk).1)) (fun e => ?_))
  · unfold execOp
    simp only [ho, resolve, invoke, builtin, Sem.run_bind, Sem.run_pure, Result.andThen_ok, List.map_toArray, List.map_cons, List.map_nil, hs, hx, hrun]
  · unfold OwnF
    rw [List.length_append, List.map_append]; exact h2
  · subst e
    exact (Below.refl _ _).grown h3 (Nat.le_refl _) (fun k hk => by cases hk)
section
variable (W0 w : World) (col : Nat → Nat) (b bd N : Nat) (K : Int) (x : Sv) (s : St) (ba M : Nat) (A : Al)
set_option maxRecDepth 100000 in
set_option maxHeartbeats 2000000 in
theorem answered_same_any (h : Alst W0 w col b bd N K x s ba M A) (hF : Fine s A) (ho : A.kind = 0 ∨ (s.askAt 0).isSome = true) :
    Calls Try.prog 45 #[.pointer (some ⟨ba, 0, none⟩)] w (RetAl W0 col b bd N K x s ba M A) := by
  obtain ⟨c0, c1, _, _, c66, _, _⟩ := h.at_.cell
  have H := Lib.hid h
  clear h
  by_cases hk0 : A.kind = 0
  · rw [hk0] at c66
    go_enter Try.func45, Try.ntmps45
    go_wp2_with fail
    go_ret
    exact ⟨rfl, H.out⟩
  · have ho2 : (s.askAt 0).isSome = true := ho.resolve_left hk0
    rcases hF.kind with hk | hk | hk | hk
    · exact absurd hk hk0
    all_goals
      rw [hk] at c66
      go_enter Try.func45, Try.ntmps45
      go_wp2_with fail
      refine (waits_any col w b bd N x s 0 H.out.lst.st (by omega)).mono ?_
      rintro e w1 ⟨rfl, rfl⟩
      rw [ho2]
      go_wp2_with fail
      go_ret
      exact ⟨rfl, H.out⟩
set_option maxRecDepth 100000 in
set_option maxHeartbeats 2000000 in
theorem answered_read_any (h : Alst W0 w col b bd N K x s ba M A) (hF : Fine s A) (hk : A.kind = 1) (hn : s.askAt 0 = none) :
    Calls Try.prog 45 #[.pointer (some ⟨ba, 0, none⟩)] w (RetAl W0 col b bd N K x s ba M (A.answered s)) := by
  rw [answered_read hk hn]
  obtain ⟨c0, c1, _, _, c66, _, _⟩ := h.at_.cell
  have hfr := h.at_.frozen 66
  have H := Lib.hid h
  have Hn := Lib.hid hn
  have Hpos := Lib.hid (hF.pos (.inl hk))
  have Hone := Lib.hid (hF.one hk hn)
  clear h hn
  rw [hk] at c66
  go_enter Try.func45, Try.ntmps45
  go_wp2_with fail
  refine (waits_any col w b bd N x s 0 H.out.lst.st (by omega)).mono ?_
  rintro e w1 ⟨rfl, rfl⟩
  rw [Hn.out]
  simp only [Option.isSome_none]
  have H1 := Lib.hid (H.out.kind 0)
  have d0 := H1.out.at_.cell.1
  go_wp2_with fail
  refine (got_any col _ b bd N x s 0 H1.out.lst.st (by omega)).mono ?_
  rintro e w2 ⟨rfl, hb2⟩
  have H2 := Lib.hid (H1.out.step hb2)
  clear hb2 c0 c1 c66 d0 hfr H1
  obtain ⟨p, hp⟩ : ∃ p : Nat, A.pos = (p : Int) := ⟨A.pos.toNat, by have := Hpos.out; omega⟩
  have hp2 : p < 32 := by have := Hpos.out; omega
  have hp3 : (p : Int) < 32 := by omega
  obtain ⟨_, _, cn, _, _, c67, _⟩ := H2.out.at_.cell
  have cn := cn p hp2
  rw [show ({ A with kind := 0 } : Al).pos = (p : Int) from hp] at c67
  change w2.cell? _ = some (.string (A.now.getD p noB)) at cn
  have e : A.pos.toNat = p := by omega
  have g67 : ∀ d os, (grow (redrawn w2 d) os).cell? ⟨ba, 67, none⟩ = some (.int .i64 (p : Int)) := fun _ _ => cell_regrown c67 _ _
  have gn : ∀ d os, (grow (redrawn w2 d) os).cell? ⟨ba, 2 + p, none⟩ = some (.string (A.now.getD p noB)) := fun _ _ => cell_regrown cn _ _
  clear c67 cn
  rcases Hone.out with hg | ⟨hg, hg2⟩
  · rw [hg, show errV 8 = .iface 78 (.int .i64 8) from rfl]
    go_wp2_with fail
    refine wp_region_quiet_below mixed (by kernel_rfl) ?_
    repeat (first | go_big_quiet_step ((go_at_call 28; exact Calls.rgSame (num_8 _))) | quiet_step ((go_at_call 28; exact Calls.rgSame (num_8 _))))
    refine wpQuiet_nil ?_
    intro _ hw'
    obtain ⟨⟨dq, osq⟩, hw''⟩ := hw'
    subst hw''
    have H3 := Lib.hid (H2.out.step (below_regrown w2 dq osq))
    clear g67 gn
    generalize grow (redrawn w2 dq) osq = w3 at H3 ⊢
    go_wp2_with fail
    go_ret
    exact ⟨rfl, H3.out⟩
  · rw [hg, hg2, e, errV_zero]
    obtain ⟨d, hd⟩ : ∃ d, A.now.getD p noB = d := ⟨_, rfl⟩
    rw [hd] at gn ⊢
    clear hd e
    go_wp2_with fail
    refine wp_region_quiet_below mixed (by kernel_rfl) ?_
    repeat (first | go_big_quiet_step ((go_at_call 28; exact Calls.rgSame (num_nil _))) | quiet_step ((go_at_call 28; exact Calls.rgSame (num_nil _))))
    refine wpQuiet_nil ?_
    intro _ hw'
    obtain ⟨⟨dq, osq⟩, hw''⟩ := hw'
    subst hw''
    have H3 := Lib.hid (H2.out.step (below_regrown w2 dq osq))
    clear g67 gn
    generalize grow (redrawn w2 dq) osq = w3 at H3 ⊢
    go_wp2_with fail
    go_ret
    exact ⟨rfl, H3.out⟩
set_option maxRecDepth 100000 in
set_option maxHeartbeats 2000000 in
theorem answered_write_any (h : Alst W0 w col b bd N K x s ba M A) (hM : M ≤ 60000) (hF : Fine s A) (hk : A.kind = 2) (hn : s.askAt 0 = none) (hg : (s.got 0).2 = 0) :
    Calls Try.prog 45 #[.pointer (some ⟨ba, 0, none⟩)] w (RetAl W0 col b bd N K x s ba (M + 1) (A.answered s)) := by
  obtain ⟨c0, c1, _, _, c66, _, _⟩ := h.at_.cell
  have hfr := h.at_.frozen 66
  have H := Lib.hid h
  have Hn := Lib.hid hn
  have Hg := Lib.hid hg
  have Hk := Lib.hid hk
  have Hpos := Lib.hid (hF.pos (.inr hk))
  clear h hn hg
  rw [hk] at c66
  go_enter Try.func45, Try.ntmps45
  go_wp2_with fail
  refine (waits_any col w b bd N x s 0 H.out.lst.st (by omega)).mono ?_
  rintro e w1 ⟨rfl, rfl⟩
  rw [Hn.out]
  simp only [Option.isSome_none]
  have H1 := Lib.hid (H.out.kind 0)
  have d0 := H1.out.at_.cell.1
  go_wp2_with fail
  refine (got_any col _ b bd N x s 0 H1.out.lst.st (by omega)).mono ?_
  rintro e w2 ⟨rfl, hb2⟩
  rw [Hg.out, errV_zero]
  have H2 := Lib.hid (H1.out.step hb2)
  clear hb2 c0 c1 c66 d0 hfr H1 hk
  obtain ⟨p, hp⟩ : ∃ p : Nat, A.pos = (p : Int) := ⟨A.pos.toNat, by have := Hpos.out; omega⟩
  have hp2 : p < 32 := by have := Hpos.out; omega
  have hp3 : (p : Int) < 32 := by omega
  obtain ⟨_, _, cn, _, _, c67, c68⟩ := H2.out.at_.cell
  have cnp := cn p hp2
  have hfr2 := H2.out.at_.frozen (2 + p)
  have hlt := H2.out.at_.lt
  rw [show ({ A with kind := 0 } : Al).pos = (p : Int) from hp] at c67
  obtain ⟨d, hd⟩ : ∃ d, A.data = d := ⟨_, rfl⟩
  rw [show ({ A with kind := 0 } : Al).data = d from hd] at c68
  have Hp := Lib.hid hp
  have Hd := Lib.hid hd
  clear cn hp hd
  go_wp2_with fail
  refine wp_region_tail (n := 12) 1000 [] [] mixed [(61, fun v _ => v = .pointer (some ⟨ba, 0, none⟩)), (62, fun v _ => v = .pointer (some ⟨ba, 0, none⟩)), (63, fun v _ => v = .pointer (some ⟨ba, 0, none⟩)), (64, fun v _ => v = .pointer (some ⟨ba, 67, none⟩)), (65, fun v _ => v = .int .i64 (p : Int)), (66, fun v _ => v = .pointer (some ⟨ba, 0, none⟩)), (67, fun v _ => v = .pointer (some ⟨ba, 0, none⟩)), (68, fun v _ => v = .pointer (some ⟨ba, 68, none⟩)), (69, fun v _ => v = .string d), (70, fun v _ => v = .pointer (some ⟨ba, 0, none⟩)), (71, fun v _ => v = .pointer (some ⟨ba, 2, none⟩)), (72, fun v _ => v = .pointer (some ⟨ba, 2 + p, none⟩))] (fun u => Below w2.heap.size w2 u) (fun i u u' => i = 1000 ∨ Below u.heap.size u u') (by kernel_rfl) rfl rfl rfl (by kernel_rfl) rfl (by decide) (by kernel_rfl) (by kernel_rfl) (Below.refl _ _).drew ?st ?stm ?steps ?fin
  case st => exact fun i hi => ⟨fun v u u' h hr => h, fun v u u' h hr => h, fun v u u' h hr => h, fun v u u' h hr => h, fun v u u' h hr => h, fun v u u' h hr => h, fun v u u' h hr => h, fun v u u' h hr => h, fun v u u' h hr => h, fun v u u' h hr => h, fun v u u' h hr => h, fun v u u' h hr => h, trivial⟩
  case stm => exact ⟨.inr (fun v u u' h hr => h), .inr (fun v u u' h hr => h), .inr (fun v u u' h hr => h), .inr (fun v u u' h hr => h), .inr (fun v u u' h hr => h), .inr (fun v u u' h hr => h), .inr (fun v u u' h hr => h), .inr (fun v u u' h hr => h), .inr (fun v u u' h hr => h), .inr (fun v u u' h hr => h), .inr (fun v u u' h hr => h), .inr (fun v u u' h hr => h), trivial⟩
  case steps =>
    refine ⟨?_, ?_, ?_, ?_, ?_, ?_, ?_, ?_, ?_, ?_, ?_, ?_, trivial⟩
    · intro ρ u hp hJ hr
      have r1 : ρ (.tmp 0) = .pointer (some ⟨ba, 0, none⟩) := hr.1
      clear hr
      refine gives_value (v := .pointer (some ⟨ba, 0, none⟩)) (w' := u) ?_ ⟨rfl, hJ, .inr (Below.refl _ _)⟩
      go_simp
    · intro ρ u hp hJ hr
      have r1 : ρ (.tmp 0) = .pointer (some ⟨ba, 0, none⟩) := hr.1
      clear hr
      refine gives_value (v := .pointer (some ⟨ba, 0, none⟩)) (w' := u) ?_ ⟨rfl, hJ, .inr (Below.refl _ _)⟩
      go_simp
    · intro ρ u hp hJ hr
      have r1 : ρ (.tmp 62) = .pointer (some ⟨ba, 0, none⟩) := hr.1
      clear hr
      refine gives_value (v := .pointer (some ⟨ba, 0, none⟩)) (w' := u) ?_ ⟨rfl, hJ, .inr (Below.refl _ _)⟩
      go_simp
    · intro ρ u hp hJ hr
      have r1 : ρ (.tmp 63) = .pointer (some ⟨ba, 0, none⟩) := hr.1
      clear hr
      refine gives_value (v := .pointer (some ⟨ba, 67, none⟩)) (w' := u) ?_ ⟨rfl, hJ, .inr (Below.refl _ _)⟩
      go_simp
    · intro ρ u hp hJ hr
      have r1 : ρ (.tmp 64) = .pointer (some ⟨ba, 67, none⟩) := hr.1
      clear hr
      have q67 : u.cell? ⟨ba, 67, none⟩ = some (.int .i64 (p : Int)) := cell_b hJ c67
      refine gives_value (v := .int .i64 (p : Int)) (w' := u) ?_ ⟨rfl, hJ, .inr (Below.refl _ _)⟩
      go_simp
    · intro ρ u hp hJ hr
      have r1 : ρ (.tmp 0) = .pointer (some ⟨ba, 0, none⟩) := hr.1
      clear hr
      refine gives_value (v := .pointer (some ⟨ba, 0, none⟩)) (w' := u) ?_ ⟨rfl, hJ, .inr (Below.refl _ _)⟩
      go_simp
    · intro ρ u hp hJ hr
      have r1 : ρ (.tmp 66) = .pointer (some ⟨ba, 0, none⟩) := hr.1
      clear hr
      refine gives_value (v := .pointer (some ⟨ba, 0, none⟩)) (w' := u) ?_ ⟨rfl, hJ, .inr (Below.refl _ _)⟩
      go_simp
    · intro ρ u hp hJ hr
      have r1 : ρ (.tmp 67) = .pointer (some ⟨ba, 0, none⟩) := hr.1
      clear hr
      refine gives_value (v := .pointer (some ⟨ba, 68, none⟩)) (w' := u) ?_ ⟨rfl, hJ, .inr (Below.refl _ _)⟩
      go_simp
    · intro ρ u hp hJ hr
      have r1 : ρ (.tmp 68) = .pointer (some ⟨ba, 68, none⟩) := hr.1
      clear hr
      have q68 : u.cell? ⟨ba, 68, none⟩ = some (.string d) := cell_b hJ c68
      refine gives_value (v := .string d) (w' := u) ?_ ⟨rfl, hJ, .inr (Below.refl _ _)⟩
      go_simp
    · intro ρ u hp hJ hr
      have r1 : ρ (.tmp 61) = .pointer (some ⟨ba, 0, none⟩) := hr.1
      clear hr
      refine gives_value (v := .pointer (some ⟨ba, 0, none⟩)) (w' := u) ?_ ⟨rfl, hJ, .inr (Below.refl _ _)⟩
      go_simp
    · intro ρ u hp hJ hr
      have r1 : ρ (.tmp 70) = .pointer (some ⟨ba, 0, none⟩) := hr.1
      clear hr
      refine gives_value (v := .pointer (some ⟨ba, 2, none⟩)) (w' := u) ?_ ⟨rfl, hJ, .inr (Below.refl _ _)⟩
      go_simp
    · intro ρ u hp hJ hr
      have r1 : ρ (.tmp 71) = .pointer (some ⟨ba, 2, none⟩) := hr.1
      have r2 : ρ (.tmp 65) = .int .i64 (p : Int) := hr.2.1
      clear hr
      refine gives_value (v := .pointer (some ⟨ba, 2 + p, none⟩)) (w' := u) ?_ ⟨rfl, hJ, .inr (Below.refl _ _)⟩
      go_simp
  case fin =>
    intro f ρ u hF hJ hU hp hρ
    have f69 : f 69 = .string d := (hF.2.2.2.2.2.2.2.2.1).resolve_left (by simp)
    have f72 : f 72 = .pointer (some ⟨ba, 2 + p, none⟩) := (hF.2.2.2.2.2.2.2.2.2.2.2.1).resolve_left (by simp)
    have q1 : ρ (.tmp 72) = .pointer (some ⟨ba, 2 + p, none⟩) := (hρ 72).trans f72
    have q2 : ρ (.tmp 69) = .string d := (hρ 69).trans f69
    have HJ := Lib.hid hJ
    have q3 : ∃ z, u.cell? ⟨ba, 2 + p, none⟩ = some z := ⟨_, cell_b hJ cnp⟩
    obtain ⟨z, q3⟩ := q3
    have q4 : u.frozen? ⟨ba, 2 + p, none⟩ = false := (hJ.frozen (p := ⟨ba, 2 + p, none⟩) hlt).trans hfr2
    clear hF hU hJ hp hρ f72 f69
    refine gives_skip (w' := u.setCell ⟨ba, 2 + p, none⟩ (.string d)) (by go_simp) ?_
    simp only [laid, List.take_succ_cons, List.take_zero]
    have Hds : Hid (d.size ≤ maxLen) := by have h := H2.out.at_.dsz; rw [← Hd.out]; exact h
    have H3 := Lib.hid ((H2.out.step HJ.out).now hp2 d Hds.out)
    clear q1 q2 q3 q4 HJ H2 c67 c68 cnp hfr2 hlt
    generalize u.setCell ⟨ba, 2 + p, none⟩ (.string d) = w4 at H3 ⊢
    obtain ⟨_, _, _, csp, _, c67, c68⟩ := H3.out.at_.cell
    obtain ⟨sv, csp, hsv⟩ := csp p hp2
    have hsv : StrsAt (Im w4 col) w4 sv (A.since.getD p []) := hsv
    obtain ⟨As, cs, hse, _, _⟩ := hsv.form
    subst hse
    have hfr3 := H3.out.at_.frozen (34 + p)
    have hlt := H3.out.at_.lt
    have Hlen : Hid ((A.since.getD p []).length ≤ M) := H3.out.at_.len p
    obtain ⟨ls, hls⟩ : ∃ ls, A.since.getD p [] = ls := ⟨_, rfl⟩
    rw [hls] at csp hsv Hlen
    have HS := Lib.hid hsv.1
    have HSz := Lib.hid hsv.2
    have Hls := Lib.hid hls
    change w4.cell? _ = some (.int .i64 A.pos) at c67
    rw [Hp.out] at c67
    change w4.cell? _ = some (.string A.data) at c68
    rw [Hd.out] at c68
    clear hsv hls
    go_wp2_with fail
    refine wp_region_tail (n := 24) 20 [87, 92] [87, 92, 93] mixed [(73, fun v _ => v = .pointer (some ⟨ba, 0, none⟩)), (74, fun v _ => v = .pointer (some ⟨ba, 0, none⟩)), (75, fun v _ => v = .pointer (some ⟨ba, 0, none⟩)), (76, fun v _ => v = .pointer (some ⟨ba, 67, none⟩)), (77, fun v _ => v = .int .i64 (p : Int)), (78, fun v _ => v = .pointer (some ⟨ba, 0, none⟩)), (79, fun v _ => v = .pointer (some ⟨ba, 0, none⟩)), (80, fun v _ => v = .pointer (some ⟨ba, 0, none⟩)), (81, fun v _ => v = .pointer (some ⟨ba, 67, none⟩)), (82, fun v _ => v = .int .i64 (p : Int)), (83, fun v _ => v = .pointer (some ⟨ba, 0, none⟩)), (84, fun v _ => v = .pointer (some ⟨ba, 34, none⟩)), (85, fun v _ => v = .pointer (some ⟨ba, 34 + p, none⟩)), (86, fun v _ => v = .slice As ls.length cs), (87, OwnF w4.heap.size ls), (88, fun v _ => v = .pointer (some ⟨ba, 0, none⟩)), (89, fun v _ => v = .pointer (some ⟨ba, 0, none⟩)), (90, fun v _ => v = .pointer (some ⟨ba, 68, none⟩)), (91, fun v _ => v = .string d), (92, BoxF w4.heap.size d), (93, OwnF w4.heap.size (ls ++ [d])), (94, fun v _ => v = .pointer (some ⟨ba, 0, none⟩)), (95, fun v _ => v = .pointer (some ⟨ba, 34, none⟩)), (96, fun v _ => v = .pointer (some ⟨ba, 34 + p, none⟩))] (fun u => Below w4.heap.size w4 u) (fun i u u' => i = 20 ∨ Below u.heap.size u u') (by kernel_rfl) rfl rfl rfl (by kernel_rfl) rfl (by decide) (by kernel_rfl) (by kernel_rfl) (Below.refl _ _).drew ?st ?stm ?steps ?fin
    case st => exact fun i hi => ⟨fun v u u' h hr => h, fun v u u' h hr => h, fun v u u' h hr => h, fun v u u' h hr => h, fun v u u' h hr => h, fun v u u' h hr => h, fun v u u' h hr => h, fun v u u' h hr => h, fun v u u' h hr => h, fun v u u' h hr => h, fun v u u' h hr => h, fun v u u' h hr => h, fun v u u' h hr => h, fun v u u' h hr => h, fun v u u' h hr => h.step (hr.resolve_left hi), fun v u u' h hr => h, fun v u u' h hr => h, fun v u u' h hr => h, fun v u u' h hr => h, fun v u u' h hr => h.step (hr.resolve_left hi), fun v u u' h hr => h.step (hr.resolve_left hi), fun v u u' h hr => h, fun v u u' h hr => h, fun v u u' h hr => h, trivial⟩
    case stm => exact ⟨.inr (fun v u u' h hr => h), .inr (fun v u u' h hr => h), .inr (fun v u u' h hr => h), .inr (fun v u u' h hr => h), .inr (fun v u u' h hr => h), .inr (fun v u u' h hr => h), .inr (fun v u u' h hr => h), .inr (fun v u u' h hr => h), .inr (fun v u u' h hr => h), .inr (fun v u u' h hr => h), .inr (fun v u u' h hr => h), .inr (fun v u u' h hr => h), .inr (fun v u u' h hr => h), .inr (fun v u u' h hr => h), .inl (by simp), .inr (fun v u u' h hr => h), .inr (fun v u u' h hr => h), .inr (fun v u u' h hr => h), .inr (fun v u u' h hr => h), .inl (by simp), .inl (by simp), .inr (fun v u u' h hr => h), .inr (fun v u u' h hr => h), .inr (fun v u u' h hr => h), trivial⟩
    case steps =>
      refine ⟨?_, ?_, ?_, ?_, ?_, ?_, ?_, ?_, ?_, ?_, ?_, ?_, ?_, ?_, ?_, ?_, ?_, ?_, ?_, ?_, ?_, ?_, ?_, ?_, trivial⟩
      · intro ρ u hp hJ hr
        have r1 : ρ (.tmp 0) = .pointer (some ⟨ba, 0, none⟩) := hr.1
        clear hr
        refine gives_value (v := .pointer (some ⟨ba, 0, none⟩)) (w' := u) ?_ ⟨rfl, hJ, .inr (Below.refl _ _)⟩
        go_simp
      · intro ρ u hp hJ hr
        have r1 : ρ (.tmp 0) = .pointer (some ⟨ba, 0, none⟩) := hr.1
        clear hr
        refine gives_value (v := .pointer (some ⟨ba, 0, none⟩)) (w' := u) ?_ ⟨rfl, hJ, .inr (Below.refl _ _)⟩
        go_simp
      · intro ρ u hp hJ hr
        have r1 : ρ (.tmp 74) = .pointer (some ⟨ba, 0, none⟩) := hr.1
        clear hr
        refine gives_value (v := .pointer (some ⟨ba, 0, none⟩)) (w' := u) ?_ ⟨rfl, hJ, .inr (Below.refl _ _)⟩
        go_simp
      · intro ρ u hp hJ hr
        have r1 : ρ (.tmp 75) = .pointer (some ⟨ba, 0, none⟩) := hr.1
        clear hr
        refine gives_value (v := .pointer (some ⟨ba, 67, none⟩)) (w' := u) ?_ ⟨rfl, hJ, .inr (Below.refl _ _)⟩
        go_simp
      · intro ρ u hp hJ hr
        have r1 : ρ (.tmp 76) = .pointer (some ⟨ba, 67, none⟩) := hr.1
        clear hr
        have q67 : u.cell? ⟨ba, 67, none⟩ = some (.int .i64 (p : Int)) := cell_b hJ c67
        refine gives_value (v := .int .i64 (p : Int)) (w' := u) ?_ ⟨rfl, hJ, .inr (Below.refl _ _)⟩
        go_simp
      · intro ρ u hp hJ hr
        have r1 : ρ (.tmp 0) = .pointer (some ⟨ba, 0, none⟩) := hr.1
        clear hr
        refine gives_value (v := .pointer (some ⟨ba, 0, none⟩)) (w' := u) ?_ ⟨rfl, hJ, .inr (Below.refl _ _)⟩
        go_simp
      · intro ρ u hp hJ hr
        have r1 : ρ (.tmp 0) = .pointer (some ⟨ba, 0, none⟩) := hr.1
        clear hr
        refine gives_value (v := .pointer (some ⟨ba, 0, none⟩)) (w' := u) ?_ ⟨rfl, hJ, .inr (Below.refl _ _)⟩
        go_simp
      · intro ρ u hp hJ hr
        have r1 : ρ (.tmp 79) = .pointer (some ⟨ba, 0, none⟩) := hr.1
        clear hr
        refine gives_value (v := .pointer (some ⟨ba, 0, none⟩)) (w' := u) ?_ ⟨rfl, hJ, .inr (Below.refl _ _)⟩
        go_simp
      · intro ρ u hp hJ hr
        have r1 : ρ (.tmp 80) = .pointer (some ⟨ba, 0, none⟩) := hr.1
        clear hr
        refine gives_value (v := .pointer (some ⟨ba, 67, none⟩)) (w' := u) ?_ ⟨rfl, hJ, .inr (Below.refl _ _)⟩
        go_simp
      · intro ρ u hp hJ hr
        have r1 : ρ (.tmp 81) = .pointer (some ⟨ba, 67, none⟩) := hr.1
        clear hr
        have q67 : u.cell? ⟨ba, 67, none⟩ = some (.int .i64 (p : Int)) := cell_b hJ c67
        refine gives_value (v := .int .i64 (p : Int)) (w' := u) ?_ ⟨rfl, hJ, .inr (Below.refl _ _)⟩
        go_simp
      · intro ρ u hp hJ hr
        have r1 : ρ (.tmp 78) = .pointer (some ⟨ba, 0, none⟩) := hr.1
        clear hr
        refine gives_value (v := .pointer (some ⟨ba, 0, none⟩)) (w' := u) ?_ ⟨rfl, hJ, .inr (Below.refl _ _)⟩
        go_simp
      · intro ρ u hp hJ hr
        have r1 : ρ (.tmp 83) = .pointer (some ⟨ba, 0, none⟩) := hr.1
        clear hr
        refine gives_value (v := .pointer (some ⟨ba, 34, none⟩)) (w' := u) ?_ ⟨rfl, hJ, .inr (Below.refl _ _)⟩
        go_simp
      · intro ρ u hp hJ hr
        have r1 : ρ (.tmp 84) = .pointer (some ⟨ba, 34, none⟩) := hr.1
        have r2 : ρ (.tmp 82) = .int .i64 (p : Int) := hr.2.1
        clear hr
        refine gives_value (v := .pointer (some ⟨ba, 34 + p, none⟩)) (w' := u) ?_ ⟨rfl, hJ, .inr (Below.refl _ _)⟩
        go_simp
      · intro ρ u hp hJ hr
        have r1 : ρ (.tmp 85) = .pointer (some ⟨ba, 34 + p, none⟩) := hr.1
        clear hr
        have qs : u.cell? ⟨ba, 34 + p, none⟩ = some (.slice As ls.length cs) := cell_b hJ csp
        refine gives_value (v := .slice As ls.length cs) (w' := u) ?_ ⟨rfl, hJ, .inr (Below.refl _ _)⟩
        go_simp
      · intro ρ u hp hJ hr
        have r1 : ρ (.tmp 86) = .slice As ls.length cs := hr.1
        clear hr
        refine gives_append_str (.const (.slice none 0 0)) (.tmp 86) 41 rfl rfl w4.heap.size (.slice none 0 0) [] (hp.const _) (OwnF.nil _ _) _ ls r1 (HS.out.below hJ) (by have := Hlen.out; simp; omega) hJ.size ?_
        intro v' u' h1 h2 h3
        exact ⟨h1, hJ.trans ((h3 rfl).mono hJ.size), .inr (h3 rfl)⟩
      · intro ρ u hp hJ hr
        have r1 : ρ (.tmp 0) = .pointer (some ⟨ba, 0, none⟩) := hr.1
        clear hr
        refine gives_value (v := .pointer (some ⟨ba, 0, none⟩)) (w' := u) ?_ ⟨rfl, hJ, .inr (Below.refl _ _)⟩
        go_simp
      · intro ρ u hp hJ hr
        have r1 : ρ (.tmp 88) = .pointer (some ⟨ba, 0, none⟩) := hr.1
        clear hr
        refine gives_value (v := .pointer (some ⟨ba, 0, none⟩)) (w' := u) ?_ ⟨rfl, hJ, .inr (Below.refl _ _)⟩
        go_simp
      · intro ρ u hp hJ hr
        have r1 : ρ (.tmp 89) = .pointer (some ⟨ba, 0, none⟩) := hr.1
        clear hr
        refine gives_value (v := .pointer (some ⟨ba, 68, none⟩)) (w' := u) ?_ ⟨rfl, hJ, .inr (Below.refl _ _)⟩
        go_simp
      · intro ρ u hp hJ hr
        have r1 : ρ (.tmp 90) = .pointer (some ⟨ba, 68, none⟩) := hr.1
        clear hr
        have q68 : u.cell? ⟨ba, 68, none⟩ = some (.string d) := cell_b hJ c68
        refine gives_value (v := .string d) (w' := u) ?_ ⟨rfl, hJ, .inr (Below.refl _ _)⟩
        go_simp
      · intro ρ u hp hJ hr
        have r1 : ρ (.tmp 91) = .string d := hr.1
        clear hr
        refine gives_value (v := .slice (some ⟨u.heap.size, 0, none⟩) 1 1) (w' := u.alloc (.cells #[.string d] 9)) ?_ ⟨BoxF.new hJ.size, hJ.trans (((Below.refl _ _).alloc (Nat.le_refl _) _).mono hJ.size), .inr ((Below.refl _ _).alloc (Nat.le_refl _) _)⟩
        go_simp
      · intro ρ u hp hJ hr
        have r1 : (OwnF w4.heap.size ls) (ρ (.tmp 87)) u := hr.1
        have r2 : (BoxF w4.heap.size d) (ρ (.tmp 92)) u := hr.2.1
        clear hr
        refine gives_append_str (.tmp 87) (.tmp 92) 41 rfl rfl w4.heap.size _ ls rfl r1 _ [d] rfl r2.at_ (by have := Hlen.out; simp; omega) hJ.size ?_
        intro v' u' h1 h2 h3
        exact ⟨h1, trans2 hJ h2, .inl rfl⟩
      · intro ρ u hp hJ hr
        have r1 : ρ (.tmp 73) = .pointer (some ⟨ba, 0, none⟩) := hr.1
        clear hr
        refine gives_value (v := .pointer (some ⟨ba, 0, none⟩)) (w' := u) ?_ ⟨rfl, hJ, .inr (Below.refl _ _)⟩
        go_simp
      · intro ρ u hp hJ hr
        have r1 : ρ (.tmp 94) = .pointer (some ⟨ba, 0, none⟩) := hr.1
        clear hr
        refine gives_value (v := .pointer (some ⟨ba, 34, none⟩)) (w' := u) ?_ ⟨rfl, hJ, .inr (Below.refl _ _)⟩
        go_simp
      · intro ρ u hp hJ hr
        have r1 : ρ (.tmp 95) = .pointer (some ⟨ba, 34, none⟩) := hr.1
        have r2 : ρ (.tmp 77) = .int .i64 (p : Int) := hr.2.1
        clear hr
        refine gives_value (v := .pointer (some ⟨ba, 34 + p, none⟩)) (w' := u) ?_ ⟨rfl, hJ, .inr (Below.refl _ _)⟩
        go_simp
    case fin =>
      intro f ρ u hF hJ hU hp hρ
      have f93 : (OwnF w4.heap.size (ls ++ [d])) (f 93) u := (hF.2.2.2.2.2.2.2.2.2.2.2.2.2.2.2.2.2.2.2.2.1).resolve_left (by simp)
      have f96 : f 96 = .pointer (some ⟨ba, 34 + p, none⟩) := (hF.2.2.2.2.2.2.2.2.2.2.2.2.2.2.2.2.2.2.2.2.2.2.2.1).resolve_left (by simp)
      have q1 : ρ (.tmp 96) = .pointer (some ⟨ba, 34 + p, none⟩) := (hρ 96).trans f96
      have q2 : ρ (.tmp 93) = f 93 := hρ 93
      have HJ := Lib.hid hJ
      have q3 : u.cell? ⟨ba, 34 + p, none⟩ = some (.slice As ls.length cs) := cell_b hJ csp
      have q4 : u.frozen? ⟨ba, 34 + p, none⟩ = false := (hJ.frozen (p := ⟨ba, 34 + p, none⟩) hlt).trans hfr3
      have HO := Lib.hid f93
      obtain ⟨Av, lv, cv, hfv⟩ : ∃ Av lv cv, f 93 = .slice Av lv cv := ownF_slice f93
      rw [hfv] at q2 HO
      clear hF hU hJ hp hρ f96 f93
      refine gives_skip (w' := u.setCell ⟨ba, 34 + p, none⟩ (.slice Av lv cv)) (by go_simp) ?_
      simp only [laid, List.take_succ_cons, List.take_zero]
      have hst : StrsAt (Im u col) u (.slice Av lv cv) (ls ++ [d]) := own_strs HO.out H3.out.lst.st.s0 (fun z hz => by
        rcases List.mem_append.1 hz with h | h
        · exact HSz.out z h
        · rw [List.mem_singleton.1 h]; exact Hds.out)
      have H4 := Lib.hid ((H3.out.step HJ.out).since hp2 hst (Nat.le_succ M) (by have := Hlen.out; simp; omega))
      clear q1 q2 q3 q4 HJ H3 c67 c68 csp hfr3 hlt hst HO
      generalize u.setCell ⟨ba, 34 + p, none⟩ (.slice Av lv cv) = w6 at H4 ⊢
      go_wp2_with fail
      go_ret
      have e : A.answered s = ⟨A.now.set p d, A.since.set p (ls ++ [d]), 0, A.pos, A.data⟩ := (answered_write Hk.out Hn.out Hg.out).trans (by rw [Hp.out, Hd.out, Int.toNat_natCast, Hls.out])
      rw [e]
      exact ⟨rfl, H4.out⟩
set_option maxRecDepth 100000 in
set_option maxHeartbeats 2000000 in
theorem answered_err_any (h : Alst W0 w col b bd N K x s ba M A) (hk : A.kind = 2 ∨ A.kind = 3) (hn : s.askAt 0 = none) (hg : (s.got 0).2 = 9) (hd : s.dead = true) :
    Calls Try.prog 45 #[.pointer (some ⟨ba, 0, none⟩)] w (RetAl W0 col b bd N K x s ba M (A.answered s)) := by
  rw [answered_none (by omega) hn (by omega)]
  obtain ⟨c0, c1, _, _, c66, _, _⟩ := h.at_.cell
  have hfr := h.at_.frozen 66
  have H := Lib.hid h
  have Hn := Lib.hid hn
  have Hg := Lib.hid hg
  have Hd := Lib.hid hd
  clear h hn hg hd
  rcases hk with hk | hk
  · rw [hk] at c66
    clear hk
    go_enter Try.func45, Try.ntmps45
    go_wp2_with fail
    refine (waits_any col w b bd N x s 0 H.out.lst.st (by omega)).mono ?_
    rintro e w1 ⟨rfl, rfl⟩
    rw [Hn.out]
    simp only [Option.isSome_none]
    have H1 := Lib.hid (H.out.kind 0)
    have d0 := H1.out.at_.cell.1
    go_wp2_with fail
    refine (got_any col _ b bd N x s 0 H1.out.lst.st (by omega)).mono ?_
    rintro e w2 ⟨rfl, hb2⟩
    have H2 := Lib.hid (H1.out.step hb2)
    rw [Hg.out, show errV 9 = .iface 78 (.int .i64 9) from rfl]
    have e0 := H2.out.at_.cell.1
    clear hb2 c0 c1 c66 d0 hfr H1
    go_wp2_with fail
    refine (num_9 _).mono ?_
    rintro e w3 ⟨rfl, rfl⟩
    go_wp2_with fail
    refine (dead_any col _ b bd N x s H2.out.lst.st).mono ?_
    rintro e w3 ⟨rfl, rfl⟩
    rw [Hd.out]
    go_wp2_with fail
    go_ret
    exact ⟨rfl, H2.out⟩
  · rw [hk] at c66
    clear hk
    go_enter Try.func45, Try.ntmps45
    go_wp2_with fail
    refine (waits_any col w b bd N x s 0 H.out.lst.st (by omega)).mono ?_
    rintro e w1 ⟨rfl, rfl⟩
    rw [Hn.out]
    simp only [Option.isSome_none]
    have H1 := Lib.hid (H.out.kind 0)
    have d0 := H1.out.at_.cell.1
    go_wp2_with fail
    refine (got_any col _ b bd N x s 0 H1.out.lst.st (by omega)).mono ?_
    rintro e w2 ⟨rfl, hb2⟩
    have H2 := Lib.hid (H1.out.step hb2)
    rw [Hg.out, show errV 9 = .iface 78 (.int .i64 9) from rfl]
    have e0 := H2.out.at_.cell.1
    clear hb2 c0 c1 c66 d0 hfr H1
    go_wp2_with fail
    go_loopw [6] (fun i wr => Hid (wr = w2) ∧ i = .int .i64 0) (fun _ _ => 0)
    case atStart => exact ⟨rfl, rfl⟩
    case round =>
      obtain ⟨HW, rfl⟩ := hrel
      obtain rfl := HW.out
      go_wp2_with fail
      refine (num_9 _).mono ?_
      rintro e w3 ⟨rfl, rfl⟩
      go_wp2_with fail
      refine (dead_any col _ b bd N x s H2.out.lst.st).mono ?_
      rintro e w3 ⟨rfl, rfl⟩
      rw [Hd.out]
      go_wp2_with fail
      go_ret
      exact ⟨rfl, H2.out⟩
/-- The first k of the sectors are synced. -/
def sinceK (A : Al) (k : Nat) : Al := { A with kind := 0, since := (A.now.map (fun d => [d])).take k ++ A.since.drop k }
omit W0 w col b bd N K x s ba M in
theorem since_set (hl1 : A.now.length = 32) (hl2 : A.since.length = 32) {k : Nat} (hk : k < 32) : ({ sinceK A k with since := (sinceK A k).since.set k [A.now.getD k noB] } : Al) = sinceK A (k + 1) := by
  show (⟨A.now, ((A.now.map (fun d => [d])).take k ++ A.since.drop k).set k [A.now.getD k noB], 0, A.pos, A.data⟩ : Al) = ⟨A.now, (A.now.map (fun d => [d])).take (k + 1) ++ A.since.drop (k + 1), 0, A.pos, A.data⟩
  suffices e : ((A.now.map (fun d => [d])).take k ++ A.since.drop k).set k [A.now.getD k noB] = (A.now.map (fun d => [d])).take (k + 1) ++ A.since.drop (k + 1) by rw [e]
  have hx : A.now[k]? = some A.now[k] := List.getElem?_eq_getElem (by omega)
  have hm : (A.now.map (fun d => [d]))[k]? = some [A.now[k]] := by rw [List.getElem?_map, hx]; rfl
  have hg : A.now.getD k noB = A.now[k] := by rw [List.getD_eq_getElem?_getD, hx]; rfl
  have hlen : ((A.now.map (fun d => [d])).take k).length = k := by simp; omega
  rw [List.set_append_right _ _ (by omega), hlen, Nat.sub_self, List.drop_eq_getElem_cons (by omega : k < A.since.length), List.set_cons_zero, List.take_add_one, hm, hg]
  simp
set_option maxRecDepth 100000 in
set_option maxHeartbeats 2000000 in
theorem answered_sync_any (h : Alst W0 w col b bd N K x s ba M A) (hk : A.kind = 3) (hn : s.askAt 0 = none) (hg : (s.got 0).2 = 0) :
    Calls Try.prog 45 #[.pointer (some ⟨ba, 0, none⟩)] w (RetAl W0 col b bd N K x s ba (M + 1) (A.answered s)) := by
  rw [answered_sync hk hn hg]
  obtain ⟨c0, c1, _, _, c66, _, _⟩ := h.at_.cell
  have hfr := h.at_.frozen 66
  have hl1 := h.at_.now
  have hl2 := h.at_.sl
  have Hns := Lib.hid h.at_.nsz
  have H := Lib.hid h
  have Hn := Lib.hid hn
  have Hg := Lib.hid hg
  clear h hn hg
  rw [hk] at c66
  clear hk
  go_enter Try.func45, Try.ntmps45
  go_wp2_with fail
  refine (waits_any col w b bd N x s 0 H.out.lst.st (by omega)).mono ?_
  rintro e w1 ⟨rfl, rfl⟩
  rw [Hn.out]
  simp only [Option.isSome_none]
  have H1 := Lib.hid (H.out.kind 0)
  have d0 := H1.out.at_.cell.1
  go_wp2_with fail
  refine (got_any col _ b bd N x s 0 H1.out.lst.st (by omega)).mono ?_
  rintro e w2 ⟨rfl, hb2⟩
  have H2 := Lib.hid (H1.out.step hb2)
  rw [Hg.out, errV_zero]
  clear hb2 c0 c1 c66 d0 hfr H1
  go_wp2_with fail
  go_loopw [6] (fun i wr => ∃ k : Nat, k ≤ 32 ∧ i = .int .i64 k ∧ Hid (Alst W0 wr col b bd N K x s ba (M + 1) (sinceK A k))) (fun i _ => 32 - (intOf i).toNat)
  case atStart => exact ⟨0, by omega, rfl, H2.out.more (by omega)⟩
  case round =>
    obtain ⟨k, hk, rfl, HR⟩ := hrel
    by_cases hk2 : k < 32
    · have hk3 : (k : Int) < 32 := by omega
      obtain ⟨_, _, cnk, csk, _, _, _⟩ := HR.out.at_.cell
      have cnk := cnk k hk2
      obtain ⟨vk, csk, _⟩ := csk k hk2
      have hfr3 := HR.out.at_.frozen (34 + k)
      have hlt := HR.out.at_.lt
      change wr.cell? _ = some (.string (A.now.getD k noB)) at cnk
      have Hds := Lib.hid (Hns.out k)
      obtain ⟨d, hd⟩ : ∃ d, A.now.getD k noB = d := ⟨_, rfl⟩
      rw [hd] at cnk Hds
      have Hdk := Lib.hid hd
      clear hd
      go_wp2_with fail
      focus
        refine wp_region_tail (n := 12) 8 [] [115] mixed [(107, fun v _ => v = .pointer (some ⟨ba, 0, none⟩)), (108, fun v _ => v = .int .i64 (k : Int)), (109, fun v _ => v = .pointer (some ⟨ba, 0, none⟩)), (110, fun v _ => v = .int .i64 (k : Int)), (111, fun v _ => v = .pointer (some ⟨ba, 0, none⟩)), (112, fun v _ => v = .pointer (some ⟨ba, 2, none⟩)), (113, fun v _ => v = .pointer (some ⟨ba, 2 + k, none⟩)), (114, fun v _ => v = .string d), (115, BoxF wr.heap.size d), (116, fun v _ => v = .pointer (some ⟨ba, 0, none⟩)), (117, fun v _ => v = .pointer (some ⟨ba, 34, none⟩)), (118, fun v _ => v = .pointer (some ⟨ba, 34 + k, none⟩))] (fun u => Below wr.heap.size wr u) (fun i u u' => i = 8 ∨ Below u.heap.size u u') (by kernel_rfl) rfl rfl rfl (by kernel_rfl) rfl (by decide) (by kernel_rfl) (by kernel_rfl) (Below.refl _ _).drew ?st ?stm ?steps ?fin
        case st => exact fun i hi => ⟨fun v u u' h hr => h, fun v u u' h hr => h, fun v u u' h hr => h, fun v u u' h hr => h, fun v u u' h hr => h, fun v u u' h hr => h, fun v u u' h hr => h, fun v u u' h hr => h, fun v u u' h hr => h.step (hr.resolve_left hi), fun v u u' h hr => h, fun v u u' h hr => h, fun v u u' h hr => h, trivial⟩
        case stm => exact ⟨.inr (fun v u u' h hr => h), .inr (fun v u u' h hr => h), .inr (fun v u u' h hr => h), .inr (fun v u u' h hr => h), .inr (fun v u u' h hr => h), .inr (fun v u u' h hr => h), .inr (fun v u u' h hr => h), .inr (fun v u u' h hr => h), .inl (by simp), .inr (fun v u u' h hr => h), .inr (fun v u u' h hr => h), .inr (fun v u u' h hr => h), trivial⟩
        case steps =>
          refine ⟨?_, ?_, ?_, ?_, ?_, ?_, ?_, ?_, ?_, ?_, ?_, ?_, trivial⟩
          · intro ρ u hp hJ hr
            have r1 : ρ (.tmp 0) = .pointer (some ⟨ba, 0, none⟩) := hr.1
            clear hr
            refine gives_value (v := .pointer (some ⟨ba, 0, none⟩)) (w' := u) ?_ ⟨rfl, hJ, .inr (Below.refl _ _)⟩
            go_simp
          · intro ρ u hp hJ hr
            have r1 : ρ (.tmp 6) = .int .i64 (k : Int) := hr.1
            clear hr
            refine gives_value (v := .int .i64 (k : Int)) (w' := u) ?_ ⟨rfl, hJ, .inr (Below.refl _ _)⟩
            go_simp
          · intro ρ u hp hJ hr
            have r1 : ρ (.tmp 0) = .pointer (some ⟨ba, 0, none⟩) := hr.1
            clear hr
            refine gives_value (v := .pointer (some ⟨ba, 0, none⟩)) (w' := u) ?_ ⟨rfl, hJ, .inr (Below.refl _ _)⟩
            go_simp
          · intro ρ u hp hJ hr
            have r1 : ρ (.tmp 6) = .int .i64 (k : Int) := hr.1
            clear hr
            refine gives_value (v := .int .i64 (k : Int)) (w' := u) ?_ ⟨rfl, hJ, .inr (Below.refl _ _)⟩
            go_simp
          · intro ρ u hp hJ hr
            have r1 : ρ (.tmp 109) = .pointer (some ⟨ba, 0, none⟩) := hr.1
            clear hr
            refine gives_value (v := .pointer (some ⟨ba, 0, none⟩)) (w' := u) ?_ ⟨rfl, hJ, .inr (Below.refl _ _)⟩
            go_simp
          · intro ρ u hp hJ hr
            have r1 : ρ (.tmp 111) = .pointer (some ⟨ba, 0, none⟩) := hr.1
            clear hr
            refine gives_value (v := .pointer (some ⟨ba, 2, none⟩)) (w' := u) ?_ ⟨rfl, hJ, .inr (Below.refl _ _)⟩
            go_simp
          · intro ρ u hp hJ hr
            have r1 : ρ (.tmp 112) = .pointer (some ⟨ba, 2, none⟩) := hr.1
            have r2 : ρ (.tmp 110) = .int .i64 (k : Int) := hr.2.1
            clear hr
            refine gives_value (v := .pointer (some ⟨ba, 2 + k, none⟩)) (w' := u) ?_ ⟨rfl, hJ, .inr (Below.refl _ _)⟩
            go_simp
          · intro ρ u hp hJ hr
            have r1 : ρ (.tmp 113) = .pointer (some ⟨ba, 2 + k, none⟩) := hr.1
            clear hr
            have qk : u.cell? ⟨ba, 2 + k, none⟩ = some (.string d) := cell_b hJ cnk
            refine gives_value (v := .string d) (w' := u) ?_ ⟨rfl, hJ, .inr (Below.refl _ _)⟩
            go_simp
          · intro ρ u hp hJ hr
            have r1 : ρ (.tmp 114) = .string d := hr.1
            clear hr
            refine gives_value (v := .slice (some ⟨u.heap.size, 0, none⟩) 1 1) (w' := u.alloc (.cells #[.string d] 9)) ?_ ⟨BoxF.new hJ.size, hJ.trans (((Below.refl _ _).alloc (Nat.le_refl _) _).mono hJ.size), .inr ((Below.refl _ _).alloc (Nat.le_refl _) _)⟩
            go_simp
          · intro ρ u hp hJ hr
            have r1 : ρ (.tmp 107) = .pointer (some ⟨ba, 0, none⟩) := hr.1
            clear hr
            refine gives_value (v := .pointer (some ⟨ba, 0, none⟩)) (w' := u) ?_ ⟨rfl, hJ, .inr (Below.refl _ _)⟩
            go_simp
          · intro ρ u hp hJ hr
            have r1 : ρ (.tmp 116) = .pointer (some ⟨ba, 0, none⟩) := hr.1
            clear hr
            refine gives_value (v := .pointer (some ⟨ba, 34, none⟩)) (w' := u) ?_ ⟨rfl, hJ, .inr (Below.refl _ _)⟩
            go_simp
          · intro ρ u hp hJ hr
            have r1 : ρ (.tmp 117) = .pointer (some ⟨ba, 34, none⟩) := hr.1
            have r2 : ρ (.tmp 108) = .int .i64 (k : Int) := hr.2.1
            clear hr
            refine gives_value (v := .pointer (some ⟨ba, 34 + k, none⟩)) (w' := u) ?_ ⟨rfl, hJ, .inr (Below.refl _ _)⟩
            go_simp
        case fin =>
          intro f ρ u hF hJ hU hp hρ
          have f115 : (BoxF wr.heap.size d) (f 115) u := (hF.2.2.2.2.2.2.2.2.1).resolve_left (by simp)
          have f118 : f 118 = .pointer (some ⟨ba, 34 + k, none⟩) := (hF.2.2.2.2.2.2.2.2.2.2.2.1).resolve_left (by simp)
          have q1 : ρ (.tmp 118) = .pointer (some ⟨ba, 34 + k, none⟩) := (hρ 118).trans f118
          obtain ⟨kb, hfv, hkb, hrow⟩ := f115
          have q2 : ρ (.tmp 115) = .slice (some ⟨kb, 0, none⟩) 1 1 := (hρ 115).trans hfv
          have HJ := Lib.hid hJ
          have q3 : u.cell? ⟨ba, 34 + k, none⟩ = some vk := cell_b hJ csk
          have q4 : u.frozen? ⟨ba, 34 + k, none⟩ = false := (hJ.frozen (p := ⟨ba, 34 + k, none⟩) hlt).trans hfr3
          have hst : StrsAt (Im u col) u (.slice (some ⟨kb, 0, none⟩) 1 1) [d] := ⟨rd_1 hrow ⟨(Array.getElem?_eq_some_iff.1 hrow).1, HR.out.lst.st.s0 kb hkb⟩, fun z hz => by rw [List.mem_singleton.1 hz]; exact Hds.out⟩
          have Hst := Lib.hid hst
          clear hF hU hJ hp hρ f118 hst hrow hfv
          refine gives_skip (w' := u.setCell ⟨ba, 34 + k, none⟩ (.slice (some ⟨kb, 0, none⟩) 1 1)) (by go_simp) ?_
          simp only [laid, List.take_succ_cons, List.take_zero]
          have H4 := Lib.hid ((HR.out.step HJ.out).since (M' := M + 1) hk2 Hst.out (by omega) (by simp))
          clear q1 q2 q3 q4 HJ HR cnk csk hfr3 hlt Hst
          generalize u.setCell ⟨ba, 34 + k, none⟩ (.slice (some ⟨kb, 0, none⟩) 1 1) = w6 at H4 ⊢
          go_wp2_with fail
          go_roundw
          case rel =>
            refine ⟨k + 1, by omega, by go_num, ?_⟩
            have e := since_set A hl1 hl2 hk2
            rw [Hdk.out] at e
            rw [← e]
            exact H4.out
          case measure => simp [intOf]; omega
    · obtain rfl : k = 32 := by omega
      have hk3 : ¬ ((32 : Nat) : Int) < 32 := by omega
      go_wp2_with fail
      go_ret
      refine ⟨rfl, ?_⟩
      have e : sinceK A 32 = { A with kind := 0, since := A.now.map (fun d => [d]) } := by
        unfold sinceK
        rw [List.take_of_length_le (by simp; omega), List.drop_eq_nil_of_le (by omega), List.append_nil]
      rw [← e]
      exact HR.out
theorem answered_any (h : Alst W0 w col b bd N K x s ba M A) (hM : M ≤ 60000) (hF : Fine s A) :
    Calls Try.prog 45 #[.pointer (some ⟨ba, 0, none⟩)] w (RetAl W0 col b bd N K x s ba (M + 1) (A.answered s)) := by
  have up : ∀ {B : Al} {e : Ending} {w' : World}, RetAl W0 col b bd N K x s ba M B e w' → RetAl W0 col b bd N K x s ba (M + 1) B e w' := fun h => ⟨h.1, h.2.more (by omega)⟩
  by_cases ho : A.kind = 0 ∨ (s.askAt 0).isSome = true
  · rw [answered_same ho]
    exact (answered_same_any W0 w col b bd N K x s ba M A h hF ho).mono (fun _ _ h => up h)
  · have h0 : A.kind ≠ 0 := fun e => ho (.inl e)
    have hn : s.askAt 0 = none := by
      cases hq : s.askAt 0 with
      | none => rfl
      | some a => exact absurd (.inr (by rw [hq]; rfl)) ho
    rcases hF.kind with hk | hk | hk | hk
    · exact absurd hk h0
    · exact (answered_read_any W0 w col b bd N K x s ba M A h hF hk hn).mono (fun _ _ h => up h)
    · rcases hF.more (.inl hk) hn with hg | ⟨hg, hd⟩
      · exact answered_write_any W0 w col b bd N K x s ba M A h hM hF hk hn hg
      · exact (answered_err_any W0 w col b bd N K x s ba M A h (.inl hk) hn hg hd).mono (fun _ _ h => up h)
    · rcases hF.more (.inr hk) hn with hg | ⟨hg, hd⟩
      · exact answered_sync_any W0 w col b bd N K x s ba M A h hk hn hg
      · exact (answered_err_any W0 w col b bd N K x s ba M A h (.inr hk) hn hg hd).mono (fun _ _ h => up h)
end
end Go.Proofs.Ytojmnfelecnenaa
namespace Go.Proofs.Ytojmnfelecnenaa
set_option linter.unusedSimpArgs false
set_option linter.unusedVariables false
open Go.RowKit Go.Sort

theorem kind_read {w : ByteArray} (h0 : (w.toList == [114, 101, 97, 100]) = true) : kindOf w = 1 := by unfold kindOf; rw [cmd_read h0]
theorem kind_write {w : ByteArray} (h0 : (w.toList == [114, 101, 97, 100]) = false) (h1 : (w.toList == [119, 114, 105, 116, 101]) = true) : kindOf w = 2 := by unfold kindOf; rw [cmd_write h0 h1]
theorem kind_sync {w : ByteArray} (h0 : (w.toList == [114, 101, 97, 100]) = false) (h1 : (w.toList == [119, 114, 105, 116, 101]) = false) (h2 : (w.toList == [115, 121, 110, 99]) = true) : kindOf w = 3 := by unfold kindOf; rw [cmd_sync h0 h1 h2]
theorem kind_none {w : ByteArray} (h0 : (w.toList == [114, 101, 97, 100]) = false) (h1 : (w.toList == [119, 114, 105, 116, 101]) = false) (h2 : (w.toList == [115, 121, 110, 99]) = false) : kindOf w = 0 := by
  have h : cmdOf w ≠ .read ∧ cmdOf w ≠ .write ∧ cmdOf w ≠ .sync := by
    unfold cmdOf
    rw [if_neg (by rw [h0]; decide), if_neg (by rw [h1]; decide), if_neg (by rw [h2]; decide)]
    (repeat' split) <;> exact ⟨by decide, by decide, by decide⟩
  unfold kindOf
  split
  · rename_i e; exact absurd e h.1
  · rename_i e; exact absurd e h.2.1
  · rename_i e; exact absurd e h.2.2
  · rfl
theorem asked_yes {A : Al} {z : Sp} {k : Int} (hk : kindOf z.word = k) (h0 : 0 < k) : A.asked z 0 = { A with kind := k, pos := z.b, data := z.data } := by unfold Al.asked; rw [if_pos ⟨by omega, rfl⟩, hk]
theorem asked_no {A : Al} {z : Sp} {e : Nat} (h : kindOf z.word = 0 ∨ e ≠ 0) : A.asked z e = A := by
  unfold Al.asked
  rw [if_neg]
  rintro ⟨h1, h2⟩
  omega
theorem AlOk.step {hf : Bool} {s : St} {A : Al} (h : AlOk hf s A) (z : Sp) : AlOk hf (alStep s A z).1 (alStep s A z).2 := by
  unfold alStep
  cases hs : alSkip z with
  | true => exact h
  | false => exact (al_step h z hs).1.ok
theorem alStep_skip {s : St} {A : Al} {z : Sp} (hs : alSkip z = true) : alStep s A z = (s, A) := by unfold alStep; rw [if_pos hs]
theorem alStep_go {s : St} {A : Al} {z : Sp} (hs : alSkip z = false) : alStep s A z = ((stepM s z).1, (A.asked z (stepM s z).2).answered (stepM s z).1) := by unfold alStep; rw [hs]; rfl
def RetAlS (W0 : World) (b bd N : Nat) (K : Int) (s : St) (ba M : Nat) (A : Al) : Ending → World → Prop := fun e w' => e = .returned (.bool true) ∧ ∃ col y, Alst W0 w' col b bd N K y s ba M A
set_option maxRecDepth 100000 in
set_option maxHeartbeats 4000000 in
theorem alstep_read (W0 w : World) (col : Nat → Nat) (b bd N : Nat) (K : Int) (x : Sv) (s : St) (ba M : Nat) (A : Al) (z : Sp) (hf : Bool) (h : Alst W0 w col b bd N K x s ba M A) (hA : AlOk hf s A) (hzb : i64 z.b) (hzd : z.data.size ≤ maxLen) (hM : M ≤ 60000) (hN : N ≤ 900000000) (hK : K ≤ 600000000) (h0 : (z.word.toList == [114, 101, 97, 100]) = true) :
    Calls Try.prog 23 #[.pointer (some ⟨ba, 0, none⟩), .agg #[.string z.word, .int .i64 z.a, .int .i64 z.b, .string z.data]] w (RetAlS W0 b bd (N + 1) (K + 15) (alStep s A z).1 ba (M + 1) (alStep s A z).2) := by
  obtain ⟨w1, hw1⟩ : ∃ w1, w.alloc (.cells #[.string z.word, .int .i64 z.a, .int .i64 z.b, .string z.data] 33) = w1 := ⟨_, rfl⟩
  have hb1 : Below w.heap.size w w1 := hw1 ▸ (Below.refl _ _).alloc (Nat.le_refl _) _
  have hbox : w1.heap[w.heap.size]? = some (.cells #[.string z.word, .int .i64 z.a, .int .i64 z.b, .string z.data] 33 (0, 0)) := hw1 ▸ heap_alloc_new _ _
  have hcB := h.lst.st.s0 _ (Nat.le_refl w.heap.size)
  have a66 : ∀ o, (w.alloc o).cell? ⟨ba, 66, none⟩ = some (.int .i64 A.kind) := fun o => cell_b ((Below.refl _ _).alloc (Nat.le_refl _) o) h.at_.cell.2.2.2.2.1
  obtain ⟨B, hB⟩ : ∃ B, w.heap.size = B := ⟨_, rfl⟩
  rw [hB] at hbox hcB
  have H1 := Lib.hid (h.step hb1)
  have HA := Lib.hid hA
  have HW := Lib.hid hw1
  have HB := Lib.hid hB
  have Hbox := Lib.hid hbox
  have HcB := Lib.hid hcB
  obtain ⟨c0, _, _, _, c66, _, _⟩ := H1.out.at_.cell
  have k0 : w1.cell? ⟨B, 0, none⟩ = some (.string z.word) := cell_of_row _ _ 0 _ _ _ hbox
  have k1 : w1.cell? ⟨B, 1, none⟩ = some (.int .i64 z.a) := cell_of_row _ _ 1 _ _ _ hbox
  have k2 : w1.cell? ⟨B, 2, none⟩ = some (.int .i64 z.b) := cell_of_row _ _ 2 _ _ _ hbox
  have k3 : w1.cell? ⟨B, 3, none⟩ = some (.string z.data) := cell_of_row _ _ 3 _ _ _ hbox
  clear h hA hb1 hbox hcB hw1 hB
  have hkd : kindOf z.word = 1 := kind_read h0
  by_cases ha : z.a = 0
  · have Hs : Hid (alSkip z = false) := show _ = _ by unfold alSkip; rw [decide_eq_false_iff_not]; exact fun h => h.2 ha
    have ha2 : (z.a != 0) = false := by rw [ha]; rfl
    have HE := Lib.hid (al_step HA.out z Hs.out)
    have Hkd := Lib.hid hkd
    clear ha hkd
    by_cases hk0 : A.kind = 0
    · rw [hk0] at c66 a66
      go_enter Try.func23, Try.ntmps23
      go_wp2_with fail
      rw [HW.out, HB.out]
      go_still_tail 5, (by kernel_rfl)
      change wpList _ _ _ _ _ w1.drew
      have H2 := Lib.hid (H1.out.step (Below.refl _ _).drew)
      have Hbox2 : Hid (w1.drew.heap[B]? = some (.cells #[.string z.word, .int .i64 z.a, .int .i64 z.b, .string z.data] 33 (0, 0))) := Hbox.out
      clear k0 k1 k2 k3 c0 c66 a66
      generalize w1.drew = w2 at H2 Hbox2 ⊢
      go_wp2_with fail
      refine (step_any col w2 b bd N x s z K H2.out.lst.st H2.out.lst.inv H2.out.lst.bnd H2.out.lst.k0 hK hN).mono ?_
      rintro e w3 ⟨c3, y3, rfl, hst3, hc3, hr3⟩
      have H3 := Lib.hid (H2.out.call hst3 (H2.out.lst.inv.stepM z) (H2.out.lst.bnd.stepM H2.out.lst.k0 H2.out.lst.inv z) (by have := H2.out.lst.k0; omega) hc3 hr3)
      have Hbox3 : Hid (w3.heap[B]? = some (.cells #[.string z.word, .int .i64 z.a, .int .i64 z.b, .string z.data] 33 (0, 0))) := (hc3.block B (Array.getElem?_eq_some_iff.1 Hbox2.out).1 (fun hf => hf.1 HcB.out)).trans Hbox2.out
      have hne : B ≠ ba := fun e => by have h1 := H2.out.c9; have h2 : col B = 0 := HcB.out; rw [e, h1] at h2; cases h2
      have hne2 : ba ≠ B := Ne.symm hne
      have k2 : w3.cell? ⟨B, 2, none⟩ = some (.int .i64 z.b) := cell_of_row _ _ 2 _ _ _ Hbox3.out
      have k3 : w3.cell? ⟨B, 3, none⟩ = some (.string z.data) := cell_of_row _ _ 3 _ _ _ Hbox3.out
      obtain ⟨_, _, _, _, d66, d67, d68⟩ := H3.out.at_.cell
      have hfr := H3.out.at_.frozen
      clear hst3 hc3 hr3 H2 Hbox2
      by_cases he : (stepM s z).2 = 0
      · have Ha : Hid (A.asked z (stepM s z).2 = ⟨A.now, A.since, 1, z.b, z.data⟩) := show _ = _ by rw [he]; exact asked_yes Hkd.out (by omega)
        have HE2 := Lib.hid HE.out.1.fine
        rw [Ha.out] at HE2
        have H4 := Lib.hid (((H3.out.kind 1).pos z.b hzb).data z.data hzd)
        rw [he, errV_zero]
        clear he
        go_wp2_with fail
        refine (answered_any W0 _ c3 b bd (N + 1) (K + 15) y3 _ ba M _ H4.out hM HE2.out).mono ?_
        rintro e w5 ⟨rfl, H5⟩
        have H5 := Lib.hid H5
        go_wp2_with fail
        go_ret
        rw [alStep_go Hs.out]
        refine ⟨rfl, c3, y3, ?_⟩
        show Alst _ _ _ _ _ _ _ _ _ _ _ ((A.asked z (stepM s z).2).answered (stepM s z).1)
        rw [Ha.out]
        exact H5.out
      · rw [errV_pos he]
        have Ha : Hid (A.asked z (stepM s z).2 = A) := asked_no (.inr he)
        have HE2 := Lib.hid HE.out.1.fine
        rw [Ha.out] at HE2
        go_wp2_with fail
        refine (answered_any W0 _ c3 b bd (N + 1) (K + 15) y3 _ ba M _ H3.out hM HE2.out).mono ?_
        rintro e w5 ⟨rfl, H5⟩
        have H5 := Lib.hid H5
        go_wp2_with fail
        go_ret
        rw [alStep_go Hs.out]
        refine ⟨rfl, c3, y3, ?_⟩
        show Alst _ _ _ _ _ _ _ _ _ _ _ ((A.asked z (stepM s z).2).answered (stepM s z).1)
        rw [Ha.out]
        exact H5.out
    · have hk1 : (A.kind == 0) = false := by simpa using hk0
      go_enter Try.func23, Try.ntmps23
      go_wp2_with fail
      rw [HW.out, HB.out]
      go_still_tail 5, (by kernel_rfl)
      change wpList _ _ _ _ _ w1.drew
      have H2 := Lib.hid (H1.out.step (Below.refl _ _).drew)
      have Hbox2 : Hid (w1.drew.heap[B]? = some (.cells #[.string z.word, .int .i64 z.a, .int .i64 z.b, .string z.data] 33 (0, 0))) := Hbox.out
      clear k0 k1 k2 k3 c0 c66 a66
      generalize w1.drew = w2 at H2 Hbox2 ⊢
      go_wp2_with fail
      refine (step_any col w2 b bd N x s z K H2.out.lst.st H2.out.lst.inv H2.out.lst.bnd H2.out.lst.k0 hK hN).mono ?_
      rintro e w3 ⟨c3, y3, rfl, hst3, hc3, hr3⟩
      have H3 := Lib.hid (H2.out.call hst3 (H2.out.lst.inv.stepM z) (H2.out.lst.bnd.stepM H2.out.lst.k0 H2.out.lst.inv z) (by have := H2.out.lst.k0; omega) hc3 hr3)
      have Hbox3 : Hid (w3.heap[B]? = some (.cells #[.string z.word, .int .i64 z.a, .int .i64 z.b, .string z.data] 33 (0, 0))) := (hc3.block B (Array.getElem?_eq_some_iff.1 Hbox2.out).1 (fun hf => hf.1 HcB.out)).trans Hbox2.out
      have hne : B ≠ ba := fun e => by have h1 := H2.out.c9; have h2 : col B = 0 := HcB.out; rw [e, h1] at h2; cases h2
      have hne2 : ba ≠ B := Ne.symm hne
      have k2 : w3.cell? ⟨B, 2, none⟩ = some (.int .i64 z.b) := cell_of_row _ _ 2 _ _ _ Hbox3.out
      have k3 : w3.cell? ⟨B, 3, none⟩ = some (.string z.data) := cell_of_row _ _ 3 _ _ _ Hbox3.out
      obtain ⟨_, _, _, _, d66, d67, d68⟩ := H3.out.at_.cell
      have hfr := H3.out.at_.frozen
      clear hst3 hc3 hr3 H2 Hbox2
      have he : (stepM s z).2 ≠ 0 := fun he => hk0 (HE.out.2 (by rw [Hkd.out]; omega) he)
      rw [errV_pos he]
      have Ha : Hid (A.asked z (stepM s z).2 = A) := asked_no (.inr he)
      have HE2 := Lib.hid HE.out.1.fine
      rw [Ha.out] at HE2
      go_wp2_with fail
      refine (answered_any W0 _ c3 b bd (N + 1) (K + 15) y3 _ ba M _ H3.out hM HE2.out).mono ?_
      rintro e w5 ⟨rfl, H5⟩
      have H5 := Lib.hid H5
      go_wp2_with fail
      go_ret
      rw [alStep_go Hs.out]
      refine ⟨rfl, c3, y3, ?_⟩
      show Alst _ _ _ _ _ _ _ _ _ _ _ ((A.asked z (stepM s z).2).answered (stepM s z).1)
      rw [Ha.out]
      exact H5.out
  · have Hs : Hid (alSkip z = true) := show _ = _ by unfold alSkip; rw [decide_eq_true_eq, hkd]; exact ⟨by omega, ha⟩
    have ha2 : (z.a != 0) = true := by simpa using ha
    go_enter Try.func23, Try.ntmps23
    go_wp2_with fail
    rw [HW.out, HB.out]
    go_ret
    rw [alStep_skip Hs.out]
    exact ⟨rfl, _, _, (H1.out.more (by omega)).cast' (by omega) (by omega)⟩
set_option maxRecDepth 100000 in
set_option maxHeartbeats 4000000 in
theorem alstep_write (W0 w : World) (col : Nat → Nat) (b bd N : Nat) (K : Int) (x : Sv) (s : St) (ba M : Nat) (A : Al) (z : Sp) (hf : Bool) (h : Alst W0 w col b bd N K x s ba M A) (hA : AlOk hf s A) (hzb : i64 z.b) (hzd : z.data.size ≤ maxLen) (hM : M ≤ 60000) (hN : N ≤ 900000000) (hK : K ≤ 600000000) (h0 : (z.word.toList == [114, 101, 97, 100]) = false) (h1 : (z.word.toList == [119, 114, 105, 116, 101]) = true) :
    Calls Try.prog 23 #[.pointer (some ⟨ba, 0, none⟩), .agg #[.string z.word, .int .i64 z.a, .int .i64 z.b, .string z.data]] w (RetAlS W0 b bd (N + 1) (K + 15) (alStep s A z).1 ba (M + 1) (alStep s A z).2) := by
  obtain ⟨w1, hw1⟩ : ∃ w1, w.alloc (.cells #[.string z.word, .int .i64 z.a, .int .i64 z.b, .string z.data] 33) = w1 := ⟨_, rfl⟩
  have hb1 : Below w.heap.size w w1 := hw1 ▸ (Below.refl _ _).alloc (Nat.le_refl _) _
  have hbox : w1.heap[w.heap.size]? = some (.cells #[.string z.word, .int .i64 z.a, .int .i64 z.b, .string z.data] 33 (0, 0)) := hw1 ▸ heap_alloc_new _ _
  have hcB := h.lst.st.s0 _ (Nat.le_refl w.heap.size)
  have a66 : ∀ o, (w.alloc o).cell? ⟨ba, 66, none⟩ = some (.int .i64 A.kind) := fun o => cell_b ((Below.refl _ _).alloc (Nat.le_refl _) o) h.at_.cell.2.2.2.2.1
  obtain ⟨B, hB⟩ : ∃ B, w.heap.size = B := ⟨_, rfl⟩
  rw [hB] at hbox hcB
  have H1 := Lib.hid (h.step hb1)
  have HA := Lib.hid hA
  have HW := Lib.hid hw1
  have HB := Lib.hid hB
  have Hbox := Lib.hid hbox
  have HcB := Lib.hid hcB
  obtain ⟨c0, _, _, _, c66, _, _⟩ := H1.out.at_.cell
  have k0 : w1.cell? ⟨B, 0, none⟩ = some (.string z.word) := cell_of_row _ _ 0 _ _ _ hbox
  have k1 : w1.cell? ⟨B, 1, none⟩ = some (.int .i64 z.a) := cell_of_row _ _ 1 _ _ _ hbox
  have k2 : w1.cell? ⟨B, 2, none⟩ = some (.int .i64 z.b) := cell_of_row _ _ 2 _ _ _ hbox
  have k3 : w1.cell? ⟨B, 3, none⟩ = some (.string z.data) := cell_of_row _ _ 3 _ _ _ hbox
  clear h hA hb1 hbox hcB hw1 hB
  have hkd : kindOf z.word = 2 := kind_write h0 h1
  by_cases ha : z.a = 0
  · have Hs : Hid (alSkip z = false) := show _ = _ by unfold alSkip; rw [decide_eq_false_iff_not]; exact fun h => h.2 ha
    have ha2 : (z.a != 0) = false := by rw [ha]; rfl
    have HE := Lib.hid (al_step HA.out z Hs.out)
    have Hkd := Lib.hid hkd
    clear ha hkd
    by_cases hk0 : A.kind = 0
    · rw [hk0] at c66 a66
      go_enter Try.func23, Try.ntmps23
      go_wp2_with fail
      rw [HW.out, HB.out]
      go_still_tail 5, (by kernel_rfl)
      change wpList _ _ _ _ _ w1.drew
      have H2 := Lib.hid (H1.out.step (Below.refl _ _).drew)
      have Hbox2 : Hid (w1.drew.heap[B]? = some (.cells #[.string z.word, .int .i64 z.a, .int .i64 z.b, .string z.data] 33 (0, 0))) := Hbox.out
      clear k0 k1 k2 k3 c0 c66 a66
      generalize w1.drew = w2 at H2 Hbox2 ⊢
      go_wp2_with fail
      refine (step_any col w2 b bd N x s z K H2.out.lst.st H2.out.lst.inv H2.out.lst.bnd H2.out.lst.k0 hK hN).mono ?_
      rintro e w3 ⟨c3, y3, rfl, hst3, hc3, hr3⟩
      have H3 := Lib.hid (H2.out.call hst3 (H2.out.lst.inv.stepM z) (H2.out.lst.bnd.stepM H2.out.lst.k0 H2.out.lst.inv z) (by have := H2.out.lst.k0; omega) hc3 hr3)
      have Hbox3 : Hid (w3.heap[B]? = some (.cells #[.string z.word, .int .i64 z.a, .int .i64 z.b, .string z.data] 33 (0, 0))) := (hc3.block B (Array.getElem?_eq_some_iff.1 Hbox2.out).1 (fun hf => hf.1 HcB.out)).trans Hbox2.out
      have hne : B ≠ ba := fun e => by have h1 := H2.out.c9; have h2 : col B = 0 := HcB.out; rw [e, h1] at h2; cases h2
      have hne2 : ba ≠ B := Ne.symm hne
      have k2 : w3.cell? ⟨B, 2, none⟩ = some (.int .i64 z.b) := cell_of_row _ _ 2 _ _ _ Hbox3.out
      have k3 : w3.cell? ⟨B, 3, none⟩ = some (.string z.data) := cell_of_row _ _ 3 _ _ _ Hbox3.out
      obtain ⟨_, _, _, _, d66, d67, d68⟩ := H3.out.at_.cell
      have hfr := H3.out.at_.frozen
      clear hst3 hc3 hr3 H2 Hbox2
      by_cases he : (stepM s z).2 = 0
      · have Ha : Hid (A.asked z (stepM s z).2 = ⟨A.now, A.since, 2, z.b, z.data⟩) := show _ = _ by rw [he]; exact asked_yes Hkd.out (by omega)
        have HE2 := Lib.hid HE.out.1.fine
        rw [Ha.out] at HE2
        have H4 := Lib.hid (((H3.out.kind 2).pos z.b hzb).data z.data hzd)
        rw [he, errV_zero]
        clear he
        go_wp2_with fail
        refine (answered_any W0 _ c3 b bd (N + 1) (K + 15) y3 _ ba M _ H4.out hM HE2.out).mono ?_
        rintro e w5 ⟨rfl, H5⟩
        have H5 := Lib.hid H5
        go_wp2_with fail
        go_ret
        rw [alStep_go Hs.out]
        refine ⟨rfl, c3, y3, ?_⟩
        show Alst _ _ _ _ _ _ _ _ _ _ _ ((A.asked z (stepM s z).2).answered (stepM s z).1)
        rw [Ha.out]
        exact H5.out
      · rw [errV_pos he]
        have Ha : Hid (A.asked z (stepM s z).2 = A) := asked_no (.inr he)
        have HE2 := Lib.hid HE.out.1.fine
        rw [Ha.out] at HE2
        go_wp2_with fail
        refine (answered_any W0 _ c3 b bd (N + 1) (K + 15) y3 _ ba M _ H3.out hM HE2.out).mono ?_
        rintro e w5 ⟨rfl, H5⟩
        have H5 := Lib.hid H5
        go_wp2_with fail
        go_ret
        rw [alStep_go Hs.out]
        refine ⟨rfl, c3, y3, ?_⟩
        show Alst _ _ _ _ _ _ _ _ _ _ _ ((A.asked z (stepM s z).2).answered (stepM s z).1)
        rw [Ha.out]
        exact H5.out
    · have hk1 : (A.kind == 0) = false := by simpa using hk0
      go_enter Try.func23, Try.ntmps23
      go_wp2_with fail
      rw [HW.out, HB.out]
      go_still_tail 5, (by kernel_rfl)
      change wpList _ _ _ _ _ w1.drew
      have H2 := Lib.hid (H1.out.step (Below.refl _ _).drew)
      have Hbox2 : Hid (w1.drew.heap[B]? = some (.cells #[.string z.word, .int .i64 z.a, .int .i64 z.b, .string z.data] 33 (0, 0))) := Hbox.out
      clear k0 k1 k2 k3 c0 c66 a66
      generalize w1.drew = w2 at H2 Hbox2 ⊢
      go_wp2_with fail
      refine (step_any col w2 b bd N x s z K H2.out.lst.st H2.out.lst.inv H2.out.lst.bnd H2.out.lst.k0 hK hN).mono ?_
      rintro e w3 ⟨c3, y3, rfl, hst3, hc3, hr3⟩
      have H3 := Lib.hid (H2.out.call hst3 (H2.out.lst.inv.stepM z) (H2.out.lst.bnd.stepM H2.out.lst.k0 H2.out.lst.inv z) (by have := H2.out.lst.k0; omega) hc3 hr3)
      have Hbox3 : Hid (w3.heap[B]? = some (.cells #[.string z.word, .int .i64 z.a, .int .i64 z.b, .string z.data] 33 (0, 0))) := (hc3.block B (Array.getElem?_eq_some_iff.1 Hbox2.out).1 (fun hf => hf.1 HcB.out)).trans Hbox2.out
      have hne : B ≠ ba := fun e => by have h1 := H2.out.c9; have h2 : col B = 0 := HcB.out; rw [e, h1] at h2; cases h2
      have hne2 : ba ≠ B := Ne.symm hne
      have k2 : w3.cell? ⟨B, 2, none⟩ = some (.int .i64 z.b) := cell_of_row _ _ 2 _ _ _ Hbox3.out
      have k3 : w3.cell? ⟨B, 3, none⟩ = some (.string z.data) := cell_of_row _ _ 3 _ _ _ Hbox3.out
      obtain ⟨_, _, _, _, d66, d67, d68⟩ := H3.out.at_.cell
      have hfr := H3.out.at_.frozen
      clear hst3 hc3 hr3 H2 Hbox2
      have he : (stepM s z).2 ≠ 0 := fun he => hk0 (HE.out.2 (by rw [Hkd.out]; omega) he)
      rw [errV_pos he]
      have Ha : Hid (A.asked z (stepM s z).2 = A) := asked_no (.inr he)
      have HE2 := Lib.hid HE.out.1.fine
      rw [Ha.out] at HE2
      go_wp2_with fail
      refine (answered_any W0 _ c3 b bd (N + 1) (K + 15) y3 _ ba M _ H3.out hM HE2.out).mono ?_
      rintro e w5 ⟨rfl, H5⟩
      have H5 := Lib.hid H5
      go_wp2_with fail
      go_ret
      rw [alStep_go Hs.out]
      refine ⟨rfl, c3, y3, ?_⟩
      show Alst _ _ _ _ _ _ _ _ _ _ _ ((A.asked z (stepM s z).2).answered (stepM s z).1)
      rw [Ha.out]
      exact H5.out
  · have Hs : Hid (alSkip z = true) := show _ = _ by unfold alSkip; rw [decide_eq_true_eq, hkd]; exact ⟨by omega, ha⟩
    have ha2 : (z.a != 0) = true := by simpa using ha
    go_enter Try.func23, Try.ntmps23
    go_wp2_with fail
    rw [HW.out, HB.out]
    go_ret
    rw [alStep_skip Hs.out]
    exact ⟨rfl, _, _, (H1.out.more (by omega)).cast' (by omega) (by omega)⟩
set_option maxRecDepth 100000 in
set_option maxHeartbeats 4000000 in
theorem alstep_sync (W0 w : World) (col : Nat → Nat) (b bd N : Nat) (K : Int) (x : Sv) (s : St) (ba M : Nat) (A : Al) (z : Sp) (hf : Bool) (h : Alst W0 w col b bd N K x s ba M A) (hA : AlOk hf s A) (hzb : i64 z.b) (hzd : z.data.size ≤ maxLen) (hM : M ≤ 60000) (hN : N ≤ 900000000) (hK : K ≤ 600000000) (h0 : (z.word.toList == [114, 101, 97, 100]) = false) (h1 : (z.word.toList == [119, 114, 105, 116, 101]) = false) (h2 : (z.word.toList == [115, 121, 110, 99]) = true) :
    Calls Try.prog 23 #[.pointer (some ⟨ba, 0, none⟩), .agg #[.string z.word, .int .i64 z.a, .int .i64 z.b, .string z.data]] w (RetAlS W0 b bd (N + 1) (K + 15) (alStep s A z).1 ba (M + 1) (alStep s A z).2) := by
  obtain ⟨w1, hw1⟩ : ∃ w1, w.alloc (.cells #[.string z.word, .int .i64 z.a, .int .i64 z.b, .string z.data] 33) = w1 := ⟨_, rfl⟩
  have hb1 : Below w.heap.size w w1 := hw1 ▸ (Below.refl _ _).alloc (Nat.le_refl _) _
  have hbox : w1.heap[w.heap.size]? = some (.cells #[.string z.word, .int .i64 z.a, .int .i64 z.b, .string z.data] 33 (0, 0)) := hw1 ▸ heap_alloc_new _ _
  have hcB := h.lst.st.s0 _ (Nat.le_refl w.heap.size)
  have a66 : ∀ o, (w.alloc o).cell? ⟨ba, 66, none⟩ = some (.int .i64 A.kind) := fun o => cell_b ((Below.refl _ _).alloc (Nat.le_refl _) o) h.at_.cell.2.2.2.2.1
  obtain ⟨B, hB⟩ : ∃ B, w.heap.size = B := ⟨_, rfl⟩
  rw [hB] at hbox hcB
  have H1 := Lib.hid (h.step hb1)
  have HA := Lib.hid hA
  have HW := Lib.hid hw1
  have HB := Lib.hid hB
  have Hbox := Lib.hid hbox
  have HcB := Lib.hid hcB
  obtain ⟨c0, _, _, _, c66, _, _⟩ := H1.out.at_.cell
  have k0 : w1.cell? ⟨B, 0, none⟩ = some (.string z.word) := cell_of_row _ _ 0 _ _ _ hbox
  have k1 : w1.cell? ⟨B, 1, none⟩ = some (.int .i64 z.a) := cell_of_row _ _ 1 _ _ _ hbox
  have k2 : w1.cell? ⟨B, 2, none⟩ = some (.int .i64 z.b) := cell_of_row _ _ 2 _ _ _ hbox
  have k3 : w1.cell? ⟨B, 3, none⟩ = some (.string z.data) := cell_of_row _ _ 3 _ _ _ hbox
  clear h hA hb1 hbox hcB hw1 hB
  have hkd : kindOf z.word = 3 := kind_sync h0 h1 h2
  by_cases ha : z.a = 0
  · have Hs : Hid (alSkip z = false) := show _ = _ by unfold alSkip; rw [decide_eq_false_iff_not]; exact fun h => h.2 ha
    have ha2 : (z.a != 0) = false := by rw [ha]; rfl
    have HE := Lib.hid (al_step HA.out z Hs.out)
    have Hkd := Lib.hid hkd
    clear ha hkd
    by_cases hk0 : A.kind = 0
    · rw [hk0] at c66 a66
      go_enter Try.func23, Try.ntmps23
      go_wp2_with fail
      rw [HW.out, HB.out]
      go_still_tail 5, (by kernel_rfl)
      change wpList _ _ _ _ _ w1.drew
      have H2 := Lib.hid (H1.out.step (Below.refl _ _).drew)
      have Hbox2 : Hid (w1.drew.heap[B]? = some (.cells #[.string z.word, .int .i64 z.a, .int .i64 z.b, .string z.data] 33 (0, 0))) := Hbox.out
      clear k0 k1 k2 k3 c0 c66 a66
      generalize w1.drew = w2 at H2 Hbox2 ⊢
      go_wp2_with fail
      refine (step_any col w2 b bd N x s z K H2.out.lst.st H2.out.lst.inv H2.out.lst.bnd H2.out.lst.k0 hK hN).mono ?_
      rintro e w3 ⟨c3, y3, rfl, hst3, hc3, hr3⟩
      have H3 := Lib.hid (H2.out.call hst3 (H2.out.lst.inv.stepM z) (H2.out.lst.bnd.stepM H2.out.lst.k0 H2.out.lst.inv z) (by have := H2.out.lst.k0; omega) hc3 hr3)
      have Hbox3 : Hid (w3.heap[B]? = some (.cells #[.string z.word, .int .i64 z.a, .int .i64 z.b, .string z.data] 33 (0, 0))) := (hc3.block B (Array.getElem?_eq_some_iff.1 Hbox2.out).1 (fun hf => hf.1 HcB.out)).trans Hbox2.out
      have hne : B ≠ ba := fun e => by have h1 := H2.out.c9; have h2 : col B = 0 := HcB.out; rw [e, h1] at h2; cases h2
      have hne2 : ba ≠ B := Ne.symm hne
      have k2 : w3.cell? ⟨B, 2, none⟩ = some (.int .i64 z.b) := cell_of_row _ _ 2 _ _ _ Hbox3.out
      have k3 : w3.cell? ⟨B, 3, none⟩ = some (.string z.data) := cell_of_row _ _ 3 _ _ _ Hbox3.out
      obtain ⟨_, _, _, _, d66, d67, d68⟩ := H3.out.at_.cell
      have hfr := H3.out.at_.frozen
      clear hst3 hc3 hr3 H2 Hbox2
      by_cases he : (stepM s z).2 = 0
      · have Ha : Hid (A.asked z (stepM s z).2 = ⟨A.now, A.since, 3, z.b, z.data⟩) := show _ = _ by rw [he]; exact asked_yes Hkd.out (by omega)
        have HE2 := Lib.hid HE.out.1.fine
        rw [Ha.out] at HE2
        have H4 := Lib.hid (((H3.out.kind 3).pos z.b hzb).data z.data hzd)
        rw [he, errV_zero]
        clear he
        go_wp2_with fail
        refine (answered_any W0 _ c3 b bd (N + 1) (K + 15) y3 _ ba M _ H4.out hM HE2.out).mono ?_
        rintro e w5 ⟨rfl, H5⟩
        have H5 := Lib.hid H5
        go_wp2_with fail
        go_ret
        rw [alStep_go Hs.out]
        refine ⟨rfl, c3, y3, ?_⟩
        show Alst _ _ _ _ _ _ _ _ _ _ _ ((A.asked z (stepM s z).2).answered (stepM s z).1)
        rw [Ha.out]
        exact H5.out
      · rw [errV_pos he]
        have Ha : Hid (A.asked z (stepM s z).2 = A) := asked_no (.inr he)
        have HE2 := Lib.hid HE.out.1.fine
        rw [Ha.out] at HE2
        go_wp2_with fail
        refine (answered_any W0 _ c3 b bd (N + 1) (K + 15) y3 _ ba M _ H3.out hM HE2.out).mono ?_
        rintro e w5 ⟨rfl, H5⟩
        have H5 := Lib.hid H5
        go_wp2_with fail
        go_ret
        rw [alStep_go Hs.out]
        refine ⟨rfl, c3, y3, ?_⟩
        show Alst _ _ _ _ _ _ _ _ _ _ _ ((A.asked z (stepM s z).2).answered (stepM s z).1)
        rw [Ha.out]
        exact H5.out
    · have hk1 : (A.kind == 0) = false := by simpa using hk0
      go_enter Try.func23, Try.ntmps23
      go_wp2_with fail
      rw [HW.out, HB.out]
      go_still_tail 5, (by kernel_rfl)
      change wpList _ _ _ _ _ w1.drew
      have H2 := Lib.hid (H1.out.step (Below.refl _ _).drew)
      have Hbox2 : Hid (w1.drew.heap[B]? = some (.cells #[.string z.word, .int .i64 z.a, .int .i64 z.b, .string z.data] 33 (0, 0))) := Hbox.out
      clear k0 k1 k2 k3 c0 c66 a66
      generalize w1.drew = w2 at H2 Hbox2 ⊢
      go_wp2_with fail
      refine (step_any col w2 b bd N x s z K H2.out.lst.st H2.out.lst.inv H2.out.lst.bnd H2.out.lst.k0 hK hN).mono ?_
      rintro e w3 ⟨c3, y3, rfl, hst3, hc3, hr3⟩
      have H3 := Lib.hid (H2.out.call hst3 (H2.out.lst.inv.stepM z) (H2.out.lst.bnd.stepM H2.out.lst.k0 H2.out.lst.inv z) (by have := H2.out.lst.k0; omega) hc3 hr3)
      have Hbox3 : Hid (w3.heap[B]? = some (.cells #[.string z.word, .int .i64 z.a, .int .i64 z.b, .string z.data] 33 (0, 0))) := (hc3.block B (Array.getElem?_eq_some_iff.1 Hbox2.out).1 (fun hf => hf.1 HcB.out)).trans Hbox2.out
      have hne : B ≠ ba := fun e => by have h1 := H2.out.c9; have h2 : col B = 0 := HcB.out; rw [e, h1] at h2; cases h2
      have hne2 : ba ≠ B := Ne.symm hne
      have k2 : w3.cell? ⟨B, 2, none⟩ = some (.int .i64 z.b) := cell_of_row _ _ 2 _ _ _ Hbox3.out
      have k3 : w3.cell? ⟨B, 3, none⟩ = some (.string z.data) := cell_of_row _ _ 3 _ _ _ Hbox3.out
      obtain ⟨_, _, _, _, d66, d67, d68⟩ := H3.out.at_.cell
      have hfr := H3.out.at_.frozen
      clear hst3 hc3 hr3 H2 Hbox2
      have he : (stepM s z).2 ≠ 0 := fun he => hk0 (HE.out.2 (by rw [Hkd.out]; omega) he)
      rw [errV_pos he]
      have Ha : Hid (A.asked z (stepM s z).2 = A) := asked_no (.inr he)
      have HE2 := Lib.hid HE.out.1.fine
      rw [Ha.out] at HE2
      go_wp2_with fail
      refine (answered_any W0 _ c3 b bd (N + 1) (K + 15) y3 _ ba M _ H3.out hM HE2.out).mono ?_
      rintro e w5 ⟨rfl, H5⟩
      have H5 := Lib.hid H5
      go_wp2_with fail
      go_ret
      rw [alStep_go Hs.out]
      refine ⟨rfl, c3, y3, ?_⟩
      show Alst _ _ _ _ _ _ _ _ _ _ _ ((A.asked z (stepM s z).2).answered (stepM s z).1)
      rw [Ha.out]
      exact H5.out
  · have Hs : Hid (alSkip z = true) := show _ = _ by unfold alSkip; rw [decide_eq_true_eq, hkd]; exact ⟨by omega, ha⟩
    have ha2 : (z.a != 0) = true := by simpa using ha
    go_enter Try.func23, Try.ntmps23
    go_wp2_with fail
    rw [HW.out, HB.out]
    go_ret
    rw [alStep_skip Hs.out]
    exact ⟨rfl, _, _, (H1.out.more (by omega)).cast' (by omega) (by omega)⟩
set_option maxRecDepth 100000 in
set_option maxHeartbeats 4000000 in
theorem alstep_other (W0 w : World) (col : Nat → Nat) (b bd N : Nat) (K : Int) (x : Sv) (s : St) (ba M : Nat) (A : Al) (z : Sp) (hf : Bool) (h : Alst W0 w col b bd N K x s ba M A) (hA : AlOk hf s A) (hzb : i64 z.b) (hzd : z.data.size ≤ maxLen) (hM : M ≤ 60000) (hN : N ≤ 900000000) (hK : K ≤ 600000000) (h0 : (z.word.toList == [114, 101, 97, 100]) = false) (h1 : (z.word.toList == [119, 114, 105, 116, 101]) = false) (h2 : (z.word.toList == [115, 121, 110, 99]) = false) :
    Calls Try.prog 23 #[.pointer (some ⟨ba, 0, none⟩), .agg #[.string z.word, .int .i64 z.a, .int .i64 z.b, .string z.data]] w (RetAlS W0 b bd (N + 1) (K + 15) (alStep s A z).1 ba (M + 1) (alStep s A z).2) := by
  obtain ⟨w1, hw1⟩ : ∃ w1, w.alloc (.cells #[.string z.word, .int .i64 z.a, .int .i64 z.b, .string z.data] 33) = w1 := ⟨_, rfl⟩
  have hb1 : Below w.heap.size w w1 := hw1 ▸ (Below.refl _ _).alloc (Nat.le_refl _) _
  have hbox : w1.heap[w.heap.size]? = some (.cells #[.string z.word, .int .i64 z.a, .int .i64 z.b, .string z.data] 33 (0, 0)) := hw1 ▸ heap_alloc_new _ _
  have hcB := h.lst.st.s0 _ (Nat.le_refl w.heap.size)
  have a66 : ∀ o, (w.alloc o).cell? ⟨ba, 66, none⟩ = some (.int .i64 A.kind) := fun o => cell_b ((Below.refl _ _).alloc (Nat.le_refl _) o) h.at_.cell.2.2.2.2.1
  obtain ⟨B, hB⟩ : ∃ B, w.heap.size = B := ⟨_, rfl⟩
  rw [hB] at hbox hcB
  have H1 := Lib.hid (h.step hb1)
  have HA := Lib.hid hA
  have HW := Lib.hid hw1
  have HB := Lib.hid hB
  have Hbox := Lib.hid hbox
  have HcB := Lib.hid hcB
  obtain ⟨c0, _, _, _, c66, _, _⟩ := H1.out.at_.cell
  have k0 : w1.cell? ⟨B, 0, none⟩ = some (.string z.word) := cell_of_row _ _ 0 _ _ _ hbox
  have k1 : w1.cell? ⟨B, 1, none⟩ = some (.int .i64 z.a) := cell_of_row _ _ 1 _ _ _ hbox
  have k2 : w1.cell? ⟨B, 2, none⟩ = some (.int .i64 z.b) := cell_of_row _ _ 2 _ _ _ hbox
  have k3 : w1.cell? ⟨B, 3, none⟩ = some (.string z.data) := cell_of_row _ _ 3 _ _ _ hbox
  clear h hA hb1 hbox hcB hw1 hB
  have hkd : kindOf z.word = 0 := kind_none h0 h1 h2
  have Hs : Hid (alSkip z = false) := show _ = _ by unfold alSkip; rw [decide_eq_false_iff_not]; exact fun h => by omega
  have HE := Lib.hid (al_step HA.out z Hs.out)
  have Hkd := Lib.hid hkd
  clear hkd
  go_enter Try.func23, Try.ntmps23
  go_wp2_with fail
  rw [HW.out, HB.out]
  go_still_tail 5, (by kernel_rfl)
  change wpList _ _ _ _ _ w1.drew
  have H2 := Lib.hid (H1.out.step (Below.refl _ _).drew)
  have Hbox2 : Hid (w1.drew.heap[B]? = some (.cells #[.string z.word, .int .i64 z.a, .int .i64 z.b, .string z.data] 33 (0, 0))) := Hbox.out
  clear k0 k1 k2 k3 c0 c66 a66
  generalize w1.drew = w2 at H2 Hbox2 ⊢
  go_wp2_with fail
  refine (step_any col w2 b bd N x s z K H2.out.lst.st H2.out.lst.inv H2.out.lst.bnd H2.out.lst.k0 hK hN).mono ?_
  rintro e w3 ⟨c3, y3, rfl, hst3, hc3, hr3⟩
  have H3 := Lib.hid (H2.out.call hst3 (H2.out.lst.inv.stepM z) (H2.out.lst.bnd.stepM H2.out.lst.k0 H2.out.lst.inv z) (by have := H2.out.lst.k0; omega) hc3 hr3)
  have Hbox3 : Hid (w3.heap[B]? = some (.cells #[.string z.word, .int .i64 z.a, .int .i64 z.b, .string z.data] 33 (0, 0))) := (hc3.block B (Array.getElem?_eq_some_iff.1 Hbox2.out).1 (fun hf => hf.1 HcB.out)).trans Hbox2.out
  have hne : B ≠ ba := fun e => by have h1 := H2.out.c9; have h2 : col B = 0 := HcB.out; rw [e, h1] at h2; cases h2
  have hne2 : ba ≠ B := Ne.symm hne
  have k2 : w3.cell? ⟨B, 2, none⟩ = some (.int .i64 z.b) := cell_of_row _ _ 2 _ _ _ Hbox3.out
  have k3 : w3.cell? ⟨B, 3, none⟩ = some (.string z.data) := cell_of_row _ _ 3 _ _ _ Hbox3.out
  obtain ⟨_, _, _, _, d66, d67, d68⟩ := H3.out.at_.cell
  have hfr := H3.out.at_.frozen
  clear hst3 hc3 hr3 H2 Hbox2
  have Ha : Hid (A.asked z (stepM s z).2 = A) := asked_no (.inl Hkd.out)
  have HE2 := Lib.hid HE.out.1.fine
  rw [Ha.out] at HE2
  go_wp2_with fail
  refine (answered_any W0 _ c3 b bd (N + 1) (K + 15) y3 _ ba M _ H3.out hM HE2.out).mono ?_
  rintro e w5 ⟨rfl, H5⟩
  have H5 := Lib.hid H5
  go_wp2_with fail
  go_ret
  rw [alStep_go Hs.out]
  refine ⟨rfl, c3, y3, ?_⟩
  show Alst _ _ _ _ _ _ _ _ _ _ _ ((A.asked z (stepM s z).2).answered (stepM s z).1)
  rw [Ha.out]
  exact H5.out
/-- A step of one who asks alone. -/
theorem alstep_any (W0 w : World) (col : Nat → Nat) (b bd N : Nat) (K : Int) (x : Sv) (s : St) (ba M : Nat) (A : Al) (z : Sp) (hf : Bool) (h : Alst W0 w col b bd N K x s ba M A) (hA : AlOk hf s A) (hzb : i64 z.b) (hzd : z.data.size ≤ maxLen) (hM : M ≤ 60000) (hN : N ≤ 900000000) (hK : K ≤ 600000000) :
    Calls Try.prog 23 #[.pointer (some ⟨ba, 0, none⟩), .agg #[.string z.word, .int .i64 z.a, .int .i64 z.b, .string z.data]] w (RetAlS W0 b bd (N + 1) (K + 15) (alStep s A z).1 ba (M + 1) (alStep s A z).2) := by
  rcases Bool.eq_false_or_eq_true (z.word.toList == [114, 101, 97, 100]) with h0 | h0
  · exact alstep_read W0 w col b bd N K x s ba M A z hf h hA hzb hzd hM hN hK h0
  rcases Bool.eq_false_or_eq_true (z.word.toList == [119, 114, 105, 116, 101]) with h1 | h1
  · exact alstep_write W0 w col b bd N K x s ba M A z hf h hA hzb hzd hM hN hK h0 h1
  rcases Bool.eq_false_or_eq_true (z.word.toList == [115, 121, 110, 99]) with h2 | h2
  · exact alstep_sync W0 w col b bd N K x s ba M A z hf h hA hzb hzd hM hN hK h0 h1 h2
  exact alstep_other W0 w col b bd N K x s ba M A z hf h hA hzb hzd hM hN hK h0 h1 h2
end Go.Proofs.Ytojmnfelecnenaa
