/- The law TopTwice: its walk. For all steps: the law TopTwice returns true, and its argument reads as it did. It is a card: tables of Go's library start as their text lays them. -/
import Derived.Test.YtinknleckppciaaGreatDoorR47
import Derived.Test.YtinknleckppciaaGreatDoorR46
import Derived.Test.YtinknleckppciaaGreatDoorCards
import Derived.Test.YtinknleckppciaaGreatDoorTie
import Derived.HandedShaped
import Derived.Handed
import Derived.ProofKit
import Derived.LaidMore
import Derived.Lay
import Derived.SevenTiedAt
import Derived.Stop.Joined
namespace Go.Proofs.YtinknleckppciaaGreatDoor
set_option linter.unusedSimpArgs false
set_option linter.unusedVariables false
open Go.RowKit Go.Sort

/-- Two players that have played the same steps. -/
structure Duo (W0 w : World) (c1 c2 : Nat → Nat) (p q b1 b2 d1 d2 N : Nat) (K : Int) (x1 x2 : Sv) (s : St) : Prop where
  one : PlAt W0 w c1 p b1 d1 N K x1 s
  two : PlAt W0 w c2 q b2 d2 N K x2 s
  d12 : ∀ k, Pf c1 p k → c2 k = 9
  d21 : ∀ k, Pf c2 q k → c1 k = 9
  ne : p ≠ q
section
variable {W0 w w' : World} {c1 c2 c1' : Nat → Nat} {p q b1 b2 b1' d1 d2 N M : Nat} {K L : Int} {x1 x2 x1' : Sv} {s t : St}
theorem Duo.swap (h : Duo W0 w c1 c2 p q b1 b2 d1 d2 N K x1 x2 s) : Duo W0 w c2 c1 q p b2 b1 d2 d1 N K x2 x1 s := ⟨h.two, h.one, h.d21, h.d12, h.ne.symm⟩
end
/-- The first has played one more step. -/
structure Duh (W0 w : World) (c1 c2 : Nat → Nat) (p q b1 b2 d1 d2 N : Nat) (K : Int) (x1 x2 : Sv) (s t : St) : Prop where
  one : PlAt W0 w c1 p b1 d1 (N + 1000) (K + 15000) x1 t
  two : PlAt W0 w c2 q b2 d2 N K x2 s
  d12 : ∀ k, Pf c1 p k → c2 k = 9
  d21 : ∀ k, Pf c2 q k → c1 k = 9
  ne : p ≠ q
section
variable {W0 w w' : World} {c1 c2 c1' c2' : Nat → Nat} {p q b1 b2 b1' b2' d1 d2 N M : Nat} {K L : Int} {x1 x2 x1' x2' : Sv} {s t : St}
theorem Duo.fst (h : Duo W0 w c1 c2 p q b1 b2 d1 d2 N K x1 x2 s) (h1 : PlAt W0 w' c1' p b1' d1 (N + 1000) (K + 15000) x1' t) (hr : Pr c1 c1' p w w') : ∃ c2', Duh W0 w' c1' c2' p q b1' b2 d1 d2 N K x1' x2 s t := by
  obtain ⟨c2', h2, e1, e2⟩ := h.two.other hr h1 h.one.pf h.d12 h.d21 h.ne.symm
  exact ⟨c2', h1, h2, e1, e2, h.ne⟩
theorem Duh.snd (h : Duh W0 w c1 c2 p q b1 b2 d1 d2 N K x1 x2 s t) (h2 : PlAt W0 w' c2' q b2' d2 (N + 1000) (K + 15000) x2' t) (hr : Pr c2 c2' q w w') : ∃ c1', Duo W0 w' c1' c2' p q b1 b2' d1 d2 (N + 1000) (K + 15000) x1 x2' t := by
  obtain ⟨c1', h1, e1, e2⟩ := h.one.other hr h2 h.two.pf h.d21 h.d12 h.ne
  exact ⟨c1', h1, h2, e2, e1, h.ne⟩
theorem Duo.step (h : Duo W0 w c1 c2 p q b1 b2 d1 d2 N K x1 x2 s) (hb : Below w.heap.size w w') : Duo W0 w' c1 c2 p q b1 b2 d1 d2 N K x1 x2 s := ⟨h.one.step hb, h.two.step hb, h.d12, h.d21, h.ne⟩
theorem Duo.more (h : Duo W0 w c1 c2 p q b1 b2 d1 d2 N K x1 x2 s) (hn : N ≤ M) (hk : K ≤ L) : Duo W0 w c1 c2 p q b1 b2 d1 d2 M L x1 x2 s := ⟨h.one.mono hn hk, h.two.mono hn hk, h.d12, h.d21, h.ne⟩
end
/-- Play, what comes of it named. -/
def RetPl2 (W0 : World) (col : Nat → Nat) (w : World) (p bd N : Nat) (K : Int) (t : St) (o : ByteArray) : Ending → World → Prop := fun e w' =>
  e = .returned (.string o) ∧ ∃ (col' : Nat → Nat) (b' : Nat) (y : Sv), PlAt W0 w' col' p b' bd (N + 1000) (K + 15000) y t ∧ Pr col col' p w w'
theorem play_to (W0 : World) (col : Nat → Nat) (w : World) (p b bd N : Nat) (x : Sv) (s : St) (z : Stp) (K : Int) (h : PlAt W0 w col p b bd N K x s) (hE : Env W0) (hK : K ≤ 500000000) (hN : N ≤ 800000000) (ha : 0 ≤ z.a ∧ z.a ≤ 999) {t : St} {o : ByteArray} (ht : (playM s z).1 = t) (ho : (playM s z).2 = o) :
    Calls Tryz.prog 6 #[.pointer (some ⟨p, 0, none⟩), .agg #[.string z.word, .int .i64 z.a, .int .i64 z.b, .string z.data]] w (RetPl2 W0 col w p bd N K t o) := by
  subst ht ho
  exact play_any W0 col w p b bd N x s z K h hE hK hN ha
set_option maxRecDepth 100000 in
set_option maxHeartbeats 4000000 in
theorem twice_walk (l : List Stp) (v : Value) (w : World) (h : StpsAt Any w v l) (hE : Env w) : Calls Tryz.prog 3 #[v] w (Ret (.bool true) w) := by
  obtain ⟨A, cap, rfl, hcl, hcap⟩ := h.form
  have H := Lib.hid h
  have HE := Lib.hid hE
  unfold maxLen at hcap
  clear h hE
  go_enter Tryz.func3, Tryz.ntmps3
  go_wp2_with fail
  refine (plnew_any w w (Below.refl _ _)).mono ?_
  rintro e w0 ⟨p0, b0, bd0, col0, y0, rfl, hp0, _, _, _⟩
  have HP0 := Lib.hid hp0
  clear hp0
  go_wp2_with fail
  refine (play_any w col0 w0 p0 b0 bd0 0 y0 pst0 dirtyZ 0 HP0.out HE.out (by omega) (by omega) ⟨Int.le_refl _, by decide⟩).mono ?_
  rintro e w1 ⟨rfl, col1, b1, y1, hp1, _⟩
  have HB1 := Lib.hid hp1.below
  rw [play_dirty0]
  clear hp1
  go_wp2_with fail
  refine (lightscript_any Any l _ 80 w1 (H.out.below HB1.out) (by omega)).mono ?_
  rintro e w2 ⟨rfl, rfl⟩
  cases hl : lightStp l 80 with
  | false =>
    clear hl
    go_wp2_with fail
    go_ret
    exact ⟨rfl, HB1.out⟩
  | true =>
    have hlen := lightStp_len hl
    clear hl
    go_wp2_with fail
    refine (plnew_any w w1 HB1.out).mono ?_
    rintro e w2 ⟨p, b, bd, colp, y, rfl, hp, _, _, _⟩
    have HP := Lib.hid hp
    clear hp
    go_wp2_with fail
    refine (plnew_any w w2 HP.out.below).mono ?_
    rintro e w3 ⟨q, bq, bdq, colq, yq, rfl, hq, hq9, hqn, hbq⟩
    have hne : p ≠ q := fun e => by have := (Array.getElem?_eq_some_iff.1 HP.out.row).1; have := hqn q (.inr rfl); omega
    obtain ⟨colp', hpp, e1, e2⟩ := HP.out.beside hbq hq hqn hq9
    have HD : Hid (Duo w w3 colp' colq p q b bq bd bdq 0 0 y yq pst0) := ⟨hpp, hq, e2, e1, hne⟩
    clear hq hq9 hqn hbq hpp e1 e2 hne
    go_wp2_with fail
    go_loopw [5] (fun i wr => ∃ (k : Nat) (c1 c2 : Nat → Nat) (b1 b2 : Nat) (x1 x2 : Sv), k ≤ l.length ∧ i = .int .i64 k ∧ Hid (Duo w wr c1 c2 p q b1 b2 bd bdq (1000 * k) (15000 * (k : Int)) x1 x2 (playsM pst0 (l.take k)))) (fun i _ => l.length - (intOf i).toNat)
    case atStart => exact ⟨0, colp', colq, b, bq, y, yq, by omega, rfl, HD.out⟩
    case round =>
      obtain ⟨k, c1, c2, b1, b2, x1, x2, hk, rfl, HL⟩ := hrel
      by_cases hlt : k < l.length
      · have hlt2 : (k : Int) < (l.length : Int) := by omega
        obtain ⟨g, off, z, rfl, hgl, hx, k0, k1, k2, k3⟩ := (H.out.below HL.out.one.below).cells hlt
        have Hx := Lib.hid hx
        have hzl := H.out.2 z (List.mem_of_getElem? hx)
        have Hzw := Lib.hid hzl.word
        clear hx hzl
        obtain ⟨s, hs⟩ : ∃ s, playsM pst0 (l.take k) = s := ⟨_, rfl⟩
        have HL : Hid (Duo w wr c1 c2 p q b1 b2 bd bdq (1000 * k) (15000 * (k : Int)) x1 x2 s) := hs ▸ HL.out
        have Hs := Lib.hid hs
        have Hgl := Lib.hid hgl
        clear hs hgl
        go_wp2_with fail
        refine (checks_any z wr Hzw.out).mono ?_
        rintro e w4 ⟨rfl, hb4⟩
        have h4 : Hid (Duo w w4 c1 c2 p q b1 b2 bd bdq (1000 * k) (15000 * (k : Int)) x1 x2 s) := HL.out.step hb4
        have hcz : ∀ (u : World), Below w.heap.size w u → u.cell? ⟨g, off + k * 4, none⟩ = some (.string z.word) ∧ u.cell? ⟨g, off + k * 4 + 1, none⟩ = some (.int .i64 z.a) ∧ u.cell? ⟨g, off + k * 4 + 2, none⟩ = some (.int .i64 z.b) ∧ u.cell? ⟨g, off + k * 4 + 3, none⟩ = some (.string z.data) := by
          intro u hu
          obtain ⟨g', off', z', e, _, hx', m0, m1, m2, m3⟩ := (H.out.below hu).cells hlt
          cases e
          obtain rfl : z = z' := Option.some.inj (Hx.out.symm.trans hx')
          exact ⟨m0, m1, m2, m3⟩
        have HC := Lib.hid hcz
        clear hb4 hcz k0 k1 k2 k3
        by_cases hch : checkM z = 0
        · have ha := check_a hch
          have hpm : playsM pst0 (l.take (k + 1)) = (playM s z).1 := by rw [playsM_succ _ Hx.out, if_pos hch, Hs.out]
          obtain ⟨t, ht⟩ : ∃ t, (playM s z).1 = t := ⟨_, rfl⟩
          obtain ⟨o, ho⟩ : ∃ o, (playM s z).2 = o := ⟨_, rfl⟩
          rw [ht] at hpm
          have Ht := Lib.hid ht
          have Ho := Lib.hid ho
          have Hpm := Lib.hid hpm
          have Ha := Lib.hid ha
          rw [hch]
          clear hpm ha hch ht ho
          obtain ⟨k0, k1, k2, k3⟩ := HC.out _ h4.out.one.below
          have e2' : (1000 * k + 1000) = 1000 * (k + 1) := by omega
          have e3' : 15000 * (k : Int) + 15000 = 15000 * ((k + 1 : Nat) : Int) := by omega
          have H4d : Hid (Duo w w4.drew c1 c2 p q b1 b2 bd bdq (1000 * k) (15000 * (k : Int)) x1 x2 s) := h4.out.step (Below.refl _ _).drew
          go_wp2_with fail
          go_region_held3 (fun u => u.cell? ⟨g, off + k * 4, none⟩ = some (.string z.word) ∧ u.cell? ⟨g, off + k * 4 + 1, none⟩ = some (.int .i64 z.a) ∧ u.cell? ⟨g, off + k * 4 + 2, none⟩ = some (.int .i64 z.b) ∧ u.cell? ⟨g, off + k * 4 + 3, none⟩ = some (.string z.data))
            (first | exact HC.out _ H6.out.one.below | exact HC.out _ H5.out.one.below | exact HC.out _ H4d.out.one.below | exact HC.out _ h4.out.one.below)
            (first
              | (go_at_call 6; refine (play_to w c2' u1 q b2 bdq (1000 * k) x2 s z (15000 * (k : Int)) H5.out.two HE.out (by omega) (by omega) Ha.out Ht.out Ho.out).mono ?_; rintro e u2 ⟨rfl, c2'', b2', x2', g1, hr1⟩; obtain ⟨c1'', g2⟩ := H5.out.snd g1 hr1; have H6 := Lib.hid g2; clear g1 hr1 g2)
              | (go_at_call 6; refine (play_to w c1 w4.drew p b1 bd (1000 * k) x1 s z (15000 * (k : Int)) H4d.out.one HE.out (by omega) (by omega) Ha.out Ht.out Ho.out).mono ?_; rintro e u1 ⟨rfl, c1', b1', x1', g1, hr1⟩; obtain ⟨c2', g2⟩ := H4d.out.fst g1 hr1; have H5 := Lib.hid g2; clear g1 hr1 g2))
          clear k0 k1 k2 k3
          have H7 : Hid (Duo w u2 c1'' c2'' p q b1' b2' bd bdq (1000 * (k + 1)) (15000 * ((k + 1 : Nat) : Int)) x1' x2' (playsM pst0 (l.take (k + 1)))) := by
            have := H6.out
            rw [e2', e3', ← Hpm.out] at this
            exact this
          go_wp2_with fail
          go_roundw
          case rel => exact ⟨k + 1, c1'', c2'', b1', b2', x1', x2', by omega, by go_num, H7.out⟩
          case measure => simp [intOf]; omega
        · have hpm : playsM pst0 (l.take (k + 1)) = s := by rw [playsM_succ _ Hx.out, if_neg hch, Hs.out]
          have hne := errV_pos hch
          rw [hne]
          have H7 : Hid (Duo w w4 c1 c2 p q b1 b2 bd bdq (1000 * (k + 1)) (15000 * ((k + 1 : Nat) : Int)) x1 x2 (playsM pst0 (l.take (k + 1)))) := by
            rw [hpm]; exact h4.out.more (by omega) (by omega)
          clear hpm hne hch
          go_wp2_with fail
          go_roundw
          case rel => exact ⟨k + 1, c1, c2, b1, b2, x1, x2, by omega, by go_num, H7.out⟩
          case measure => simp [intOf]; omega
      · obtain rfl : k = l.length := by omega
        have hlt2 : ¬ (l.length : Int) < (l.length : Int) := by omega
        go_wp2_with fail
        go_ret
        exact ⟨rfl, HL.out.one.below⟩
end Go.Proofs.YtinknleckppciaaGreatDoor
namespace Go.Proofs.YtinknleckppciaaGreatDoor.topTwice
open Go.ChangeShapes Go.WideShapes Go.ChangeAt Go.RowKit Go.Joins

set_option maxRecDepth 100000 in
theorem lifted (os : Os) (started : os.Started) (H : Type) (enc : TypeId × Value → H) :
    ReturnsInHanded {} Tryz.checked os 3 .any (fun w args => (Rows.topTwiceSpec.pre enc Tryz.prog Tryz.f3 Rows.topTwiceRow.domain false w args ∧ laidMetH Tryz.prog Rows.topTwiceRow.laid w) ∧ sizedMet enc Tryz.prog Tryz.f3 (OpenSpec.ofChange Rows.topTwiceSpec) false w args)
      (Rows.topTwiceSpec.post enc Tryz.prog Tryz.f3 false true false false) := by
  refine returnsInHanded_of_change_and (C := Tryz.checked) (X := fun w _ => laidMetH Tryz.prog Rows.topTwiceRow.laid w) (fun _ _ _ hh h => h.of_heap hh) own started (by kernel_rfl) Tryz.func3
    (ChangeSpec.witness_shaped (enc := enc) (C := Tryz.checked) (os := os) (X := fun w _ => laidMetH Tryz.prog Rows.topTwiceRow.laid w) false (World.laidAll Tryz.prog os Rows.topTwiceRow.laid) #[.slice none 0 0] 8 (World.laidAll_os _ _ _)
      (World.shaped_of_ZipB (by kernel_rfl) (by kernel_rfl)) (by kernel_rfl) (by kernel_rfl) (by kernel_rfl)
      (by rw [MakeChecks.laidMetH_plain _ _ _ (by kernel_rfl)]; exact laidMet_laidAll _ (by kernel_rfl) (by kernel_rfl))) ?_
  intro W base args ds gs before hval0 hW hc _ hL _
  have hval : ∀ (j : Nat) t v, Tryz.f3.params[j]? = some t → args[j]? = some v → Value.okWide Tryz.prog W .any base t v := hval0
  refine law_contract (fn := Tryz.f3) rfl rfl (fun ds h => ?_) (by rw [Tryz.params3]; intro t ht; simp at ht; subst ht; exact ⟨by kernel_rfl, of_decide_eq_true (by kernel_rfl)⟩) hW ?_
  · match ds, h with
    | [_], _ => rfl
  · intro p hA hlt
    rw [Tryz.params3] at hA hval
    obtain ⟨v0, vs0, d0, ds0, p0, q0, hargs, rfl, rfl, h0, r0⟩ := trodAll_cons hA
    obtain ⟨rfl, rfl, rfl⟩ := trodAll_nil r0
    obtain rfl : args = #[v0] := by cases args; simp_all
    obtain ⟨l0, hl0⟩ := stps_of h0 (okWide_slice Tryz.underlying22 (hval 0 22 v0 rfl rfl))
    exact twice_walk l0 v0 W hl0 (envp_of rfl hL)

theorem holds : Rows.TopTwiceSaid :=
  OpenClaim.holds_of_wide 3 Tryz.f3 rfl rfl rfl rfl rfl rfl rfl ⟨rfl, rfl, rfl, rfl, rfl⟩ rfl rfl rfl rfl rfl (by kernel_rfl) Tryz.func3 (by kernel_rfl)
    (of_decide_eq_true (by kernel_rfl)) (by unfold Func.isWrapper; first | (rw [if_pos (by decide +kernel)]; kernel_rfl) | (rw [if_neg (by decide +kernel)]; exact ⟨rfl, rfl⟩))
    (fun os started H enc _ => lifted os started H enc)
theorem proved : Rows.TopTwiceCardSaid :=
  Claim7.holds_tied_plain_at .later [] Rows.topTwiceCard.laidKinds true Rows.topTwiceCard.stood.harness true holds (fun _ h => by cases h) (by kernel_rfl) (fun _ h => by cases h) topTwice_row_tie rfl ⟨rfl, rfl⟩ (by kernel_rfl) rfl
    (fun f fn hf hfn => by
      obtain rfl : f = 3 := Option.some.inj ((show Tryz.prog.funcNamed "weighbridge/weighbridgetop.TopTwice" = some 3 by kernel_rfl).symm.trans hf) |>.symm
      obtain rfl : fn = Tryz.f3 := (Option.some.inj (Tryz.func3.symm.trans hfn)).symm
      exact ⟨by kernel_rfl, fun j t ht => by
        rw [Tryz.params3] at ht
        have hm : t ∈ [22] := by simpa using Array.mem_of_getElem? ht
        have hall : ([22].all fun u => !Tryz.prog.wantsStandIn u) = true := by kernel_rfl
        exact (show Tryz.prog.wantsStandIn t = false by simpa using List.all_eq_true.1 hall t hm)⟩)
    (by kernel_rfl)
#print axioms proved
end Go.Proofs.YtinknleckppciaaGreatDoor.topTwice
