
/- The reference's Decimal: a number's digits. -/
import Derived.Test.YtecnpdkoodfemaaDoorRegEv
import Derived.Test.YtecnpdkoodfemaaDoorLay
import Derived.Test.YtecnpdkoodfemaaDoorQuiet
namespace Go.Proofs.YtecnpdkoodfemaaDoor
set_option linter.unusedSimpArgs false
set_option linter.unusedVariables false
open Go.RowKit Go.Sort

def digit (c : Nat) : ByteArray := ⟨#[UInt8.ofNat (48 + c)]⟩
def decN (n : Nat) : ByteArray := if n < 10 then digit n else decN (n / 10) ++ digit (n % 10)
theorem decN_small {n : Nat} (h : n < 10) : decN n = digit n := by unfold decN; rw [if_pos h]
theorem decN_big {n : Nat} (h : ¬ n < 10) : decN n = decN (n / 10) ++ digit (n % 10) := by rw [decN, if_neg h]
theorem digit_size (c : Nat) : (digit c).size = 1 := rfl
theorem decN_size : ∀ (k n : Nat), n < 10 ^ (k + 1) → (decN n).size ≤ k + 1
  | k, n, h => by
    by_cases h1 : n < 10
    · rw [decN_small h1, digit_size]; omega
    · cases k with
      | zero => simp at h; omega
      | succ k =>
        rw [decN_big h1, ByteArray.size_append, digit_size]
        have := decN_size k (n / 10) (by rw [Nat.pow_succ] at h; omega)
        omega
theorem conv_digit {w : World} {b c : Nat} (hc : c < 10) (h : w.cell? ⟨b, 0, none⟩ = some (.int .u8 (48 + (c : Int)))) :
    (convert 60 9 (.slice (some ⟨b, 0, none⟩) 1 1)).run Tryd.prog w = .ok (.string (digit c)) w := by
  have := run_convert_bytes_back (P := Tryd.prog) w 60 9 5 ⟨b, 0, none⟩ 1 [UInt8.ofNat (48 + c)] Tryd.underlying60 Tryd.underlying5 Tryd.underlying9 (fun j hj => by
    obtain rfl : j = 0 := by simpa using hj
    have e : ((UInt8.ofNat (48 + c)).toNat : Int) = 48 + (c : Int) := by
      rw [UInt8.toNat_ofNat']
      omega
    simp only [List.getElem_cons_zero, e]
    exact h)
  exact this
set_option maxRecDepth 100000 in
set_option maxHeartbeats 2000000 in
theorem dec_small (n : Nat) (w : World) (h : n < 10) : Calls Tryd.prog 21 #[.int .i64 n] w (Ret (.string (decN n)) w) := by
  rw [decN_small h]
  have h1 : decide ((n : Int) < -9) = false := decide_eq_false (by omega)
  have h2 : decide ((n : Int) < 0) = false := decide_eq_false (by omega)
  have h3 : decide ((n : Int) < 10) = true := decide_eq_true (by omega)
  have h4 : IntKind.i64.wrap (48 + (n : Int)) = 48 + (n : Int) := IntWalk.i64_in _ (by omega)
  have hconv := conv_digit (w := w.alloc (Obj.cells #[Value.int IntKind.u8 (48 + (n : Int))] 5)) (b := w.heap.size) h (cell_of_row _ _ 0 _ _ _ (heap_alloc_new w _))
  go_enter Tryd.func21, Tryd.ntmps21
  go_wp2
  go_ret
  exact ⟨rfl, (Below.refl _ _).alloc (Nat.le_refl _) _⟩

/-- A row of one byte. -/
def DigF (base c : Nat) : SlotFact := fun v u => ∃ b, v = .slice (some ⟨b, 0, none⟩) 1 1 ∧ base ≤ b ∧ b < u.heap.size ∧ u.heap[b]? = some (.cells #[.int .u8 (48 + (c : Int))] 5 (0, 0))
theorem DigF.step {base c : Nat} {v : Value} {u u' : World} (h : DigF base c v u) (hb : Below u.heap.size u u') : DigF base c v u' := by
  obtain ⟨b, e, h1, h2, h3⟩ := h
  exact ⟨b, e, h1, by have := hb.size; omega, (hb.block _ h2).trans h3⟩
set_option maxRecDepth 100000 in
set_option maxHeartbeats 2000000 in
theorem dec_nat : ∀ (n : Nat) (w : World), n ≤ 9223372036854775807 → Calls Tryd.prog 21 #[.int .i64 n] w (Ret (.string (decN n)) w) := by
  intro n
  induction n using Nat.strongRecOn with
  | _ n ih =>
    intro w hn
    by_cases h : n < 10
    · exact dec_small n w h
    · have hsz : (decN (n / 10)).size ≤ 19 := decN_size 18 _ (by omega)
      have IH := Lib.hid (fun w' => ih (n / 10) (by omega) w' (by omega))
      clear ih
      rw [decN_big h]
      generalize hd : decN (n / 10) = ds at *
      clear hd
      have h1 : decide ((n : Int) < -9) = false := decide_eq_false (by omega)
      have h2 : decide ((n : Int) < 0) = false := decide_eq_false (by omega)
      have h3 : decide ((n : Int) < 10) = false := decide_eq_false (by omega)
      have h4 : IntKind.i64.wrap (48 + ((n % 10 : Nat) : Int)) = 48 + ((n % 10 : Nat) : Int) := IntWalk.i64_in _ (by omega)
      have h5 : (n : Int).tdiv 10 = ((n / 10 : Nat) : Int) := by rw [Int.tdiv_eq_ediv_of_nonneg (by omega)]; omega
      have h6 : (n : Int).tmod 10 = ((n % 10 : Nat) : Int) := by rw [Int.tmod_eq_emod_of_nonneg (by omega)]; omega
      have h10 : n % 10 < 10 := Nat.mod_lt _ (by omega)
      have h11 : n / 10 ≤ n := Nat.div_le_self _ _
      generalize n % 10 = c at *
      generalize n / 10 = m at *
      have h12 : IntKind.i64.wrap (m : Int) = (m : Int) := IntWalk.i64_in _ (by omega)
      have h13 : IntKind.u8.wrap (48 + (c : Int)) = 48 + (c : Int) := by simp only [IntKind.wrap, IntKind.bits, IntKind.signed]; simp; omega
      have h14 : ds.size ≤ 9223372036854775806 := by omega
      go_enter Tryd.func21, Tryd.ntmps21
      go_wp2_with fail
      -- REGION BEGIN
      refine wp_region_inv mixed [(28, fun v _ => v = .int .i64 (n : Int)), (29, fun v _ => v = .int .i64 (m : Int)), (30, fun v _ => v = .string ds), (31, fun v _ => v = .int .i64 (n : Int)), (32, fun v _ => v = .int .i64 (c : Int)), (33, fun v _ => v = .int .i64 (48 + (c : Int))), (34, fun v _ => v = .int .u8 (48 + (c : Int))), (35, DigF w.heap.size c), (36, fun v _ => v = .string (digit c)), (37, fun v _ => v = .string (ds ++ digit c)), (2, fun v _ => v = .string (ds ++ digit c))] (fun u => Below w.heap.size w u) (fun u u' => Below u.heap.size u u') (fun _ _ => True) (by kernel_rfl) rfl (by decide) (Below.refl _ _).drew ?st (fun _ _ _ _ _ => trivial) ?steps ?fin
      case st => exact ⟨fun v u u' h _ => h, fun v u u' h _ => h, fun v u u' h _ => h, fun v u u' h _ => h, fun v u u' h _ => h, fun v u u' h _ => h, fun v u u' h _ => h, fun v u u' h hr => h.step hr, fun v u u' h _ => h, fun v u u' h _ => h, fun v u u' h _ => h, trivial⟩
      case steps =>
        refine ⟨?_, ?_, ?_, ?_, ?_, ?_, ?_, ?_, ?_, ?_, ?_, trivial⟩
        · intro ρ u hp hJ hr
          have r1 : ρ (.tmp 0) = .int .i64 (n : Int) := hr.1
          clear hr
          have hpc := hp.const
          refine gives_value (v := .int .i64 (n : Int)) (w' := u) ?_ ⟨rfl, hJ, Below.refl _ _, trivial⟩
          go_simp
        · intro ρ u hp hJ hr
          have r1 : ρ (.tmp 28) = .int .i64 (n : Int) := hr.1
          clear hr
          have hpc := hp.const
          refine gives_value (v := .int .i64 (m : Int)) (w' := u) ?_ ⟨rfl, hJ, Below.refl _ _, trivial⟩
          go_simp
        · intro ρ u hp hJ hr
          have r1 : ρ (.tmp 29) = .int .i64 (m : Int) := hr.1
          clear hr
          refine gives_enter (f := 21) (args := #[.int .i64 (m : Int)]) (w' := u) ?_ ((IH.out u).mono ?_)
          · have hpf := hp.func 21
            go_simp
          rintro e u' ⟨rfl, hb⟩
          exact ⟨_, rfl, rfl, hJ.trans (hb.mono hJ.size), hb, trivial⟩
        · intro ρ u hp hJ hr
          have r1 : ρ (.tmp 0) = .int .i64 (n : Int) := hr.1
          clear hr
          have hpc := hp.const
          refine gives_value (v := .int .i64 (n : Int)) (w' := u) ?_ ⟨rfl, hJ, Below.refl _ _, trivial⟩
          go_simp
        · intro ρ u hp hJ hr
          have r1 : ρ (.tmp 31) = .int .i64 (n : Int) := hr.1
          clear hr
          have hpc := hp.const
          refine gives_value (v := .int .i64 (c : Int)) (w' := u) ?_ ⟨rfl, hJ, Below.refl _ _, trivial⟩
          go_simp
        · intro ρ u hp hJ hr
          have r1 : ρ (.tmp 32) = .int .i64 (c : Int) := hr.1
          clear hr
          have hpc := hp.const
          refine gives_value (v := .int .i64 (48 + (c : Int))) (w' := u) ?_ ⟨rfl, hJ, Below.refl _ _, trivial⟩
          go_simp
        · intro ρ u hp hJ hr
          have r1 : ρ (.tmp 33) = .int .i64 (48 + (c : Int)) := hr.1
          clear hr
          have hpc := hp.const
          refine gives_value (v := .int .u8 (48 + (c : Int))) (w' := u) ?_ ⟨rfl, hJ, Below.refl _ _, trivial⟩
          go_simp
        · intro ρ u hp hJ hr
          have r1 : ρ (.tmp 34) = .int .u8 (48 + (c : Int)) := hr.1
          clear hr
          refine gives_value (v := .slice (some ⟨u.heap.size, 0, none⟩) 1 1) (w' := u.alloc (.cells #[.int .u8 (48 + (c : Int))] 5)) ?_ ⟨⟨_, rfl, hJ.size, by simp, heap_alloc_new _ _⟩, hJ.trans (((Below.refl _ _).alloc (Nat.le_refl _) _).mono hJ.size), (Below.refl _ _).alloc (Nat.le_refl _) _, trivial⟩
          go_simp
        · intro ρ u hp hJ hr
          have r1 : DigF w.heap.size c (ρ (.tmp 35)) u := hr.1
          clear hr
          obtain ⟨b, e, _, _, hcell⟩ := r1
          have hconv := conv_digit (w := u) (b := b) h10 (cell_of_row _ _ 0 _ _ _ hcell)
          refine gives_value (v := .string (digit c)) (w' := u) ?_ ⟨rfl, hJ, Below.refl _ _, trivial⟩
          clear hcell
          go_simp
        · intro ρ u hp hJ hr
          have r1 : ρ (.tmp 30) = .string ds := hr.1
          have r2 : ρ (.tmp 36) = .string (digit c) := hr.2.1
          clear hr
          have hlen : (digit c).size = 1 := rfl
          refine gives_value (v := .string (ds ++ digit c)) (w' := u) ?_ ⟨rfl, hJ, Below.refl _ _, trivial⟩
          go_simp
        · intro ρ u hp hJ hr
          have r1 : ρ (.tmp 37) = .string (ds ++ digit c) := hr.1
          clear hr
          have hpc := hp.const
          refine gives_value (v := .string (ds ++ digit c)) (w' := u) ?_ ⟨rfl, hJ, Below.refl _ _, trivial⟩
          go_simp
      intro f u hF hJ _
      have f2 : f 2 = .string (ds ++ digit c) := hF.2.2.2.2.2.2.2.2.2.2.1
      clear hF
      simp only [laid]
      -- REGION END
      go_wp2_with fail
      refine bodyPost_ret (v := .string (ds ++ digit c)) (by simp [results, Tryd.results21, go_sem, Act.put, f2]) rfl ⟨rfl, hJ⟩

abbrev dash : ByteArray := ⟨#[45]⟩
/-- A number's digits. -/
def decI (n : Int) : ByteArray := if n < -9 then dash ++ decN (-(n.tdiv 10)).toNat ++ decN (-(n.tmod 10)).toNat else if n < 0 then dash ++ decN (-n).toNat else decN n.toNat
theorem decI_size {n : Int} (h1 : -9223372036854775808 ≤ n) (h2 : n ≤ 9223372036854775807) : (decI n).size ≤ 40 := by
  have hs : ∀ m : Int, m ≤ 9223372036854775807 → (decN m.toNat).size ≤ 19 := fun m hm => decN_size 18 _ (by omega)
  unfold decI
  split
  · have e1 := hs (-(n.tdiv 10)) (by
      have : -(n.tdiv 10) = (-n).tdiv 10 := by rw [Int.neg_tdiv]
      rw [this, Int.tdiv_eq_ediv_of_nonneg (by omega)]; omega)
    have e2 := hs (-(n.tmod 10)) (by
      have : -(n.tmod 10) = (-n).tmod 10 := by rw [Int.neg_tmod]
      rw [this, Int.tmod_eq_emod_of_nonneg (by omega)]; omega)
    rw [ByteArray.size_append, ByteArray.size_append]
    show 1 + _ + _ ≤ 40
    omega
  · split
    · have e1 := hs (-n) (by omega)
      rw [ByteArray.size_append]
      show 1 + _ ≤ 40
      omega
    · have e1 := hs n (by omega)
      omega
set_option maxRecDepth 100000 in
set_option maxHeartbeats 2000000 in
theorem dec_any (n : Int) (w : World) (ha : -9223372036854775808 ≤ n) (hb : n ≤ 9223372036854775807) : Calls Tryd.prog 21 #[.int .i64 n] w (Ret (.string (decI n)) w) := by
  by_cases h1 : n < -9
  · have e : decI n = dash ++ decN (-(n.tdiv 10)).toNat ++ decN (-(n.tmod 10)).toNat := by unfold decI; rw [if_pos h1]
    rw [e]
    clear e
    have h1' : decide (n < -9) = true := decide_eq_true h1
    have q1 : -(n.tdiv 10) = (-n) / 10 := by rw [← Int.neg_tdiv, Int.tdiv_eq_ediv_of_nonneg (by omega)]
    have q2 : -(n.tmod 10) = (-n) % 10 := by rw [← Int.neg_tmod, Int.tmod_eq_emod_of_nonneg (by omega)]
    obtain ⟨a, qa⟩ : ∃ a : Nat, -(n.tdiv 10) = (a : Int) := ⟨((-n) / 10).toNat, by omega⟩
    obtain ⟨b, qb⟩ : ∃ b : Nat, -(n.tmod 10) = (b : Int) := ⟨((-n) % 10).toNat, by omega⟩
    have wa : IntKind.i64.wrap (n.tdiv 10) = n.tdiv 10 := IntWalk.i64_in _ (by omega)
    have wb : IntKind.i64.wrap (n.tmod 10) = n.tmod 10 := IntWalk.i64_in _ (by omega)
    have wa' : IntKind.i64.wrap (-(n.tdiv 10)) = (a : Int) := by rw [qa]; exact IntWalk.i64_in _ (by omega)
    have wb' : IntKind.i64.wrap (-(n.tmod 10)) = (b : Int) := by rw [qb]; exact IntWalk.i64_in _ (by omega)
    rw [qa, qb, Int.toNat_natCast, Int.toNat_natCast]
    have s1 : (decN a).size ≤ 19 := decN_size 18 _ (by omega)
    have s2 : (decN b).size ≤ 19 := decN_size 18 _ (by omega)
    have hla : a ≤ 9223372036854775807 := by omega
    have hlb : b ≤ 9223372036854775807 := by omega
    have Ha := Lib.hid (fun w => dec_nat a w hla)
    have Hb := Lib.hid (fun w => dec_nat b w hlb)
    generalize decN a = da at *
    generalize decN b = db at *
    clear qa qb q1 q2
    have z1 : da.size ≤ 9223372036854775806 := by omega
    have z2 : (dash ++ da).size + db.size ≤ 9223372036854775807 := by rw [ByteArray.size_append]; show 1 + _ + _ ≤ _; omega
    go_enter Tryd.func21, Tryd.ntmps21
    go_wp2_with fail
    refine (Ha.out _).mono ?_
    rintro e w1 ⟨rfl, hb1⟩
    go_wp2_with fail
    refine (Hb.out _).mono ?_
    rintro e w2 ⟨rfl, hb2⟩
    go_wp2_with fail
    go_ret
    exact ⟨rfl, hb1.trans (hb2.mono hb1.size)⟩
  · by_cases h2 : n < 0
    · have e : decI n = dash ++ decN (-n).toNat := by unfold decI; rw [if_neg h1, if_pos h2]
      rw [e]
      clear e
      have h1' : decide (n < -9) = false := decide_eq_false h1
      have h2' : decide (n < 0) = true := decide_eq_true h2
      obtain ⟨a, qa⟩ : ∃ a : Nat, -n = (a : Int) := ⟨(-n).toNat, by omega⟩
      have wa : IntKind.i64.wrap (-n) = (a : Int) := by rw [qa]; exact IntWalk.i64_in _ (by omega)
      rw [qa, Int.toNat_natCast]
      have s1 : (decN a).size ≤ 19 := decN_size 18 _ (by omega)
      have hla : a ≤ 9223372036854775807 := by omega
      have Ha := Lib.hid (fun w => dec_nat a w hla)
      generalize decN a = da at *
      clear qa
      have z1 : da.size ≤ 9223372036854775806 := by omega
      go_enter Tryd.func21, Tryd.ntmps21
      go_wp2_with fail
      refine (Ha.out _).mono ?_
      rintro e w1 ⟨rfl, hb1⟩
      go_wp2_with fail
      go_ret
      exact ⟨rfl, hb1⟩
    · have e : decI n = decN n.toNat := by unfold decI; rw [if_neg h1, if_neg h2]
      rw [e]
      obtain ⟨a, rfl⟩ : ∃ a : Nat, n = (a : Int) := ⟨n.toNat, by omega⟩
      rw [Int.toNat_natCast]
      exact dec_nat a w (by omega)
end Go.Proofs.YtecnpdkoodfemaaDoor
