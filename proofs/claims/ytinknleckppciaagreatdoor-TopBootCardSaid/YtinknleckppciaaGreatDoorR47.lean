/- From a law's walk to its row: whatever the arguments, the call returns true and writes nothing that was there. The arguments of the laws, opened: turns, requests, lists of requests. Arguments that are steps of a player: how they lie, and opened. Printed by gen_openstps.py out of XOpenSteps. What the laws of the player share: scripts that are light, a new player. From a card's row to what the walks ask of the library's tables (the player's seat). -/
import Derived.Test.YtinknleckppciaaGreatDoorR1
import Derived.ProofKit
import Derived.OpenShut
import Derived.Lib.SmallJoins
import Derived.Test.YtinknleckppciaaGreatDoorR5
import Derived.Deep.Slices
import Derived.Deep.Fields
import Derived.SliceStrings
import Derived.Test.YtinknleckppciaaGreatDoorR6
import Derived.Test.YtinknleckppciaaGreatDoorR4
import Derived.Test.YtinknleckppciaaGreatDoorR23
import Derived.Test.YtinknleckppciaaGreatDoorR44
import Derived.Test.YtinknleckppciaaGreatDoorR7
import Derived.Test.YtinknleckppciaaGreatDoorR16
import Derived.Test.YtinknleckppciaaGreatDoorRows
import Derived.HandedShaped
import Derived.Handed
import Derived.Shelf.Vars
import Derived.Stop.LaidErr
import Derived.LaidMore
import Derived.Lay
import Derived.SevenTiedAt
import Derived.Stop.Joined
import Derived.Lib.LaidTab
namespace Go.Proofs.YtinknleckppciaaGreatDoor
open Go.ChangeShapes Go.WideShapes Go.ChangeAt Go.RowKit Go.Joins

theorem own : ownKnob Tryz.prog.godebug = none := by kernel_rfl
theorem laidOut : laidOutB Tryz.prog = true := by kernel_rfl

section
variable {H : Type} {enc : TypeId × Value → H} {P : Program}
theorem post_of_below {f : Func} {s : ChangeSpec} {apart fresh handsOn again : Bool} {W W' : World} {args : Array Value} {v : Value} {ds gs : List (DataW H)} {before pa pv : List MemPlace}
    (hW : DataW.Whole enc P f.params.toList s.vars apart W args.toList ds gs before)
    (hres : ∀ (b : Nat) (sp : Nat → Bool) (hd : Bool), DataW.TrodAll enc P W' b sp hd f.resultTypes.toList (v.resultList f.resultTypes.size) (s.fn H (ds ++ gs)).results [])
    (hargs : ∀ sp : Nat → Bool, (∀ p ∈ before, sp p.block = true) → DataW.TrodAll enc P W' 0 sp true f.params.toList args.toList (s.fn H (ds ++ gs)).args pa)
    (hvars : ∀ sp : Nat → Bool, (∀ p ∈ before, sp p.block = true) → DataW.TrodVars enc P W' sp s.vars (s.fn H (ds ++ gs)).vars pv)
    (hps : before = pa ++ pv) (hb : Below W.heap.size W W')
    (hok : ∀ (j : Nat) (t : TypeId) (r : Value), f.resultTypes[j]? = some t → (v.resultList f.resultTypes.size)[j]? = some r → Value.okWide P W' .any 0 t r) :
    s.post enc P f apart fresh handsOn again W args v W' := by
  have hlt : ∀ p ∈ before, p.block < W.heap.size := fun p hp => hW.lt p hp
  have hold : ∀ p ∈ before, (fun b => decide (b < W.heap.size)) p.block = true := fun p hp => by simpa using hlt p hp
  refine ⟨ds, gs, before, [], pa, pv, hW, hres _ _ _, hargs _ hold, hvars _ hold, World.keptBut_mono (fun p hp => ⟨hp, ?_⟩) (hb.frame (· ∈ before)), fun _ => ?_⟩
  · rw [hps, List.mem_append] at hp
    exact Or.inr hp
  · obtain ⟨_, _, _, _, _, hz, hn⟩ := hW
    refine ⟨hok, _, _, ([] ++ pa) ++ pv, ⟨[] ++ pa, pv, trodAll_append (hargs _ (fun _ _ => rfl)) (hres _ _ _), hvars _ (fun _ _ => rfl), rfl, ?_, ?_⟩, ?_⟩
    · intro b off hp
      have hin : MemPlace.cell b off ∈ before := by rw [hps]; simpa using hp
      rw [hb.frozen (hlt _ hin)]
      exact hz b off hin
    · intro ha
      have := hn ha
      rw [hps] at this
      simpa using this
    · intro p hp _
      rw [hps]
      simpa using hp

theorem trodAll_stays (hl : laidOutB P = true) {W W' : World} (hb : Below W.heap.size W W') {sp : Nat → Bool} : ∀ {ts : List TypeId} {vs : List Value} {ds : List (DataW H)} {ps : List MemPlace},
    (∀ t ∈ ts, P.readableRec t = true ∧ t < P.types.size) → DataW.TrodAll enc P W 0 (fun _ => true) true ts vs ds ps → (∀ x ∈ ps, x.block < W.heap.size) → (∀ p ∈ ps, sp p.block = true) →
    DataW.TrodAll enc P W' 0 sp true ts vs ds ps
  | [], vs, ds, ps, _, h, _, _ => by
    obtain ⟨rfl, rfl, rfl⟩ := trodAll_nil h
    exact trodAll_mk0
  | t :: ts, vs, ds, ps, ht, h, hlt, hsp => by
    obtain ⟨v, vs', d, ds', p, q, rfl, rfl, rfl, h0, h1⟩ := trodAll_cons h
    refine trodAll_cons_mk ?_ (trodAll_stays hl hb (fun x hx => ht x (by simp [hx])) h1 (fun x hx => hlt x (by simp [hx])) (fun x hx => hsp x (by simp [hx])))
    exact WideElems.Trod_stays hl (ht t (by simp)).1 (ht t (by simp)).2 h0 (fun x hx => hb.same (hlt x (by simp [hx]))) (fun x hx => hsp x (by simp [hx]))
end

set_option maxRecDepth 100000 in
theorem ok_bool {fn : Func} {W' : World} (hres : fn.resultTypes = #[4]) (b : Bool) :
    ∀ (j : Nat) (t' : TypeId) (r : Value), fn.resultTypes[j]? = some t' → ((Value.bool b).resultList fn.resultTypes.size)[j]? = some r → Value.okWide Tryz.prog W' .any 0 t' r := by
  have h0 : Value.okWide Tryz.prog W' .any 0 4 (.bool b) := okWide_bool_mk Tryz.underlying4 b
  generalize Tryz.prog = P at h0 ⊢
  exact ok_one hres rfl h0

set_option maxRecDepth 100000 in
/-- A law's contract, out of its walk. -/
theorem law_contract {H : Type} {enc : TypeId × Value → H} {F : FuncId} {fn : Func} {s : ChangeSpec} {apart fresh handsOn again : Bool} (hvars : s.vars = []) (hres : fn.resultTypes = #[4])
    (hspec : ∀ ds : List (DataW H), ds.length = fn.params.size → s.fn H ds = { results := [.lit (.bool true)], args := ds })
    (hread : ∀ t ∈ fn.params.toList, Tryz.prog.readableRec t = true ∧ t < Tryz.prog.types.size)
    {W : World} {args : Array Value} {ds gs : List (DataW H)} {before : List MemPlace}
    (hW : DataW.Whole enc Tryz.prog fn.params.toList s.vars apart W args.toList ds gs before)
    (walk : ∀ p, DataW.TrodAll enc Tryz.prog W 0 (fun _ => true) true fn.params.toList args.toList ds p → (∀ x ∈ p, x.block < W.heap.size) → Calls Tryz.prog F args W (Ret (.bool true) W)) :
    Calls Tryz.prog F args W fun e W' => ∃ v, e = .returned v ∧ s.post enc Tryz.prog fn apart fresh handsOn again W args v W' := by
  have hW' := hW
  obtain ⟨p, q, hA, hV, rfl, hfz, hnd⟩ := hW
  rw [hvars] at hV
  obtain ⟨rfl, rfl⟩ := trodVars_none hV
  have hlt : ∀ x ∈ p, x.block < W.heap.size := fun x hx => hW'.lt x (by simp [hx])
  refine (walk p hA hlt).mono fun e W' ⟨he, hb⟩ => ?_
  subst he
  have hlen : ds.length = fn.params.size := by
    have : ∀ (ts : List TypeId) (vs : List Value) (ds : List (DataW H)) (ps : List MemPlace), DataW.TrodAll enc Tryz.prog W 0 (fun _ => true) true ts vs ds ps → ds.length = ts.length := by
      intro ts
      induction ts with
      | nil => intro vs ds ps h; obtain ⟨_, rfl, _⟩ := trodAll_nil h; rfl
      | cons t ts ih => intro vs ds ps h; obtain ⟨v, vs', d, ds', p, q, rfl, rfl, rfl, h0, h1⟩ := trodAll_cons h; simp [ih _ _ _ h1]
    have h2 := this _ _ _ _ hA
    simpa using h2
  have e1 : s.fn H (ds ++ []) = { results := [.lit (.bool true)], args := ds } := by rw [List.append_nil]; exact hspec ds hlen
  simp only [List.append_nil] at hW'
  refine ⟨_, rfl, post_of_below (pa := p) (pv := []) hW' ?_ ?_ ?_ (by simp) hb ?_⟩
  · intro b sp hd
    rw [e1, hres]
    exact trodAll_mk1 (shut_bool Tryz.underlying4 true)
  · intro sp hsp
    rw [e1]
    exact trodAll_stays laidOut hb hread hA hlt hsp
  · intro sp hsp
    rw [e1, hvars]
    rfl
  · exact ok_bool hres true

theorem cells_span : Tryz.prog.cellsOf 94 = 2 := by kernel_rfl

set_option maxRecDepth 100000 in
theorem open_span {H : Type} {enc : TypeId × Value → H} {W : World} {base b0 : Nat} {v : Value} {d : DataW H} {p : List MemPlace}
    (hv : Value.okWide Tryz.prog W .any b0 94 v) (h : DataW.Trod enc Tryz.prog W base (fun _ => true) true 94 v d p) :
    ∃ a b : Int, v = spanV a b ∧ (-9223372036854775808 ≤ a ∧ a ≤ 9223372036854775807) ∧ (-9223372036854775808 ≤ b ∧ b ≤ 9223372036854775807) := by
  obtain ⟨c0, c1, y0, y1, m, rfl, rfl, rfl, hy0, hy1⟩ := open_agg2 Tryz.underlying94 (by kernel_rfl) cells_span hv h
  obtain ⟨a, e0, _, wa⟩ := DataW.trod_int Tryz.underlying3 hy0
  obtain ⟨b, e1, _, wb⟩ := DataW.trod_int Tryz.underlying3 hy1
  simp at e0 e1
  subst e0 e1
  exact ⟨a, b, rfl, bounds_i64 wa, bounds_i64 wb⟩

end Go.Proofs.YtinknleckppciaaGreatDoor
namespace Go.Proofs.YtinknleckppciaaGreatDoor
open Go.ChangeShapes Go.WideShapes Go.ChangeAt Go.RowKit Go.Joins Go.Deep

theorem cells_req : Tryz.prog.cellsOf 97 = 6 := by kernel_rfl
theorem cells_int : Tryz.prog.cellsOf 3 = 1 := by kernel_rfl
theorem cells_string : Tryz.prog.cellsOf 9 = 1 := by kernel_rfl

section
variable {H : Type} {enc : TypeId × Value → H} {W : World} {base b0 : Nat} {v : Value} {d : DataW H} {p : List MemPlace}
theorem flat_len (cs : List Rc) : (cs.flatMap Rc.cells).length = cs.length * 6 := by
  induction cs with
  | nil => rfl
  | cons a cs ih => rw [List.flatMap_cons, List.length_append, ih]; simp [Rc.cells]; omega
def Any : Nat → Prop := fun _ => True
theorem ints_spot {a : Addr} {u : Value} (h : W.cell? (a.add 0) = some u) : ∃ b off, a = ⟨b, off, none⟩ := by
  obtain ⟨b, off, spot⟩ := a
  have hspot : spot = none := by simpa [Addr.add] using World.cell?_spot h
  subst hspot
  exact ⟨b, off, rfl⟩

theorem strs_of {fuel : Nat} {v : Value} {x : DataW H × List MemPlace} {sp : Nat → Bool} (h : DataW.trod enc Tryz.prog W base sp true fuel 95 [v] = some x) : ∃ l, StrsAt Any W v l := by
  rcases open_strings Tryz.underlying95 Tryz.underlying9 cells_string h with ⟨hcs, _⟩ | ⟨a, len, cap, ss, hcs, _, hl, hm, hz, _, hcell, hws⟩
  · cases hcs; exact ⟨[], Rd.nil, by simp⟩
  · cases hcs
    refine ⟨ss.take len, ?_, fun s hs => hws s (List.mem_of_mem_take hs)⟩
    have hlen : (ss.take len).length = len := by rw [List.length_take, hz]; split <;> omega
    rw [hlen]
    refine ⟨some a, cap, rfl, hl, hm, by rw [List.length_map, hlen]; omega, fun hn => ?_⟩
    have hpos : 0 < ss.length := by rw [hz]; split <;> omega
    obtain ⟨b, off, rfl⟩ := ints_spot (hcell 0 hpos)
    refine ⟨b, off, rfl, trivial, fun j u hu => ?_⟩
    rw [List.getElem?_map] at hu
    obtain ⟨s, hs, rfl⟩ := Option.map_eq_some_iff.1 hu
    rw [List.getElem?_take] at hs
    split at hs
    · rename_i hj
      have hjl : j < ss.length := by rcases Nat.lt_or_ge j ss.length with h | h; exact h; rw [List.getElem?_eq_none h] at hs; cases hs
      have := hcell j hjl
      rw [Go.WideShapes.add_plain, List.getD_eq_getElem?_getD, hs] at this
      exact this
    · cases hs

theorem ints_of {fuel : Nat} {v : Value} {x : DataW H × List MemPlace} {sp : Nat → Bool} (h : DataW.trod enc Tryz.prog W base sp true fuel 79 [v] = some x) : ∃ l, IntsAt Any W v l := by
  rcases open_ints Tryz.underlying79 Tryz.underlying3 cells_int h with ⟨hcs, _⟩ | ⟨a, len, cap, ss, hcs, _, hl, hm, hz, _, hcell, hws⟩
  · cases hcs; exact ⟨[], Rd.nil, by simp⟩
  · cases hcs
    refine ⟨ss.take len, ?_, fun s hs => bounds_i64 (hws s (List.mem_of_mem_take hs))⟩
    have hlen : (ss.take len).length = len := by rw [List.length_take, hz]; split <;> omega
    rw [hlen]
    refine ⟨some a, cap, rfl, hl, hm, by rw [List.length_map, hlen]; omega, fun hn => ?_⟩
    have hpos : 0 < ss.length := by rw [hz]; split <;> omega
    obtain ⟨b, off, rfl⟩ := ints_spot (hcell 0 hpos)
    refine ⟨b, off, rfl, trivial, fun j u hu => ?_⟩
    rw [List.getElem?_map] at hu
    obtain ⟨s, hs, rfl⟩ := Option.map_eq_some_iff.1 hu
    rw [List.getElem?_take] at hs
    split at hs
    · rename_i hj
      have hjl : j < ss.length := by rcases Nat.lt_or_ge j ss.length with h | h; exact h; rw [List.getElem?_eq_none h] at hs; cases hs
      have := hcell j hjl
      rw [Go.WideShapes.add_plain, List.getD_eq_getElem?_getD, hs] at this
      exact this
    · cases hs

set_option maxRecDepth 100000 in
/-- Six cells that read as a request. -/
theorem req_of {fuel : Nat} {cs : List Value} {x : DataW H × List MemPlace} {sp : Nat → Bool} (h : DataW.trod enc Tryz.prog W base sp true fuel 97 cs = some x) : ∃ c : Rc, cs = c.cells ∧ RcOk Any W c := by
  obtain ⟨xs, n, _, _, hlen, hxl, hf⟩ := DataW.trod_struct Tryz.underlying97 h
  rw [cells_req] at hlen
  match cs, hlen with
  | [v0, v1, v2, v3, v4, v5], _ =>
    match xs, hxl with
    | [x0, x1, x2, x3, x4], _ =>
      have f0 := hf 0 _ rfl
      have f1 := hf 1 _ rfl
      have f2 := hf 2 _ rfl
      have f3 := hf 3 _ rfl
      have f4 := hf 4 _ rfl
      have cb : Tryz.prog.cellsOf 4 = 1 := by kernel_rfl
      have cs2 : Tryz.prog.cellsOf 94 = 2 := by kernel_rfl
      have cl1 : Tryz.prog.cellsOf 95 = 1 := by kernel_rfl
      have cl2 : Tryz.prog.cellsOf 79 = 1 := by kernel_rfl
      simp [cb, cs2, cl1, cl2, cells_int] at f0 f1 f2 f3 f4
      obtain ⟨wr, e0, _⟩ := DataW.trod_bool Tryz.underlying4 f0
      obtain ⟨ys, m, _, _, hl2, hy2, hg⟩ := DataW.trod_struct Tryz.underlying94 f1
      obtain ⟨born, e5, _, w5⟩ := DataW.trod_int Tryz.underlying3 f4
      match ys, hy2 with
      | [y0, y1], _ =>
        have g0 := hg 0 _ rfl
        have g1 := hg 1 _ rfl
        simp [cells_int] at g0 g1
        obtain ⟨lo, e1, _, w1⟩ := DataW.trod_int Tryz.underlying3 g0
        obtain ⟨many, e2, _, w2⟩ := DataW.trod_int Tryz.underlying3 g1
        obtain ⟨data, hd⟩ := strs_of f2
        obtain ⟨tags, ht⟩ := ints_of f3
        simp at e0 e1 e2 e5
        subst e0 e1 e2 e5
        exact ⟨⟨⟨wr, lo, many, data, tags, born⟩, v3, v4⟩, rfl, hd, ht, bounds_i64 w1, bounds_i64 w2, bounds_i64 w5⟩

set_option maxRecDepth 100000 in
theorem reqs_of (h : DataW.Trod enc Tryz.prog W base (fun _ => true) true 55 v d p) (hs : ∃ A n c, v = .slice A n c) : ∃ l, ReqsAt Any W v l := by
  obtain ⟨A, n0, c0, rfl⟩ := hs
  obtain ⟨fuel, hf⟩ := h
  rcases open_slice Tryz.underlying55 hf with ⟨hcs, _⟩ | ⟨a, len, cap, m, n, D, Pl, hcs, _, hl, hm, hmm, _, hi⟩
  · simp [Value.cells] at hcs
    obtain ⟨rfl, rfl, rfl⟩ := hcs
    exact ⟨[], [], rfl, Rd.nil, by simp⟩
  · simp [Value.cells] at hcs
    obtain ⟨rfl, rfl, rfl⟩ := hcs
    simp at hmm
    subst hmm
    rw [cells_req] at hi
    have hc : ∀ i, i < n0 → ∃ c : Rc, W.cells? base (a.add (i * 6)) 6 = some c.cells ∧ RcOk Any W c := by
      intro i hin
      obtain ⟨cs', h1, h2⟩ := hi i (by omega)
      obtain ⟨c, rfl, hok⟩ := req_of h2
      exact ⟨c, h1, hok⟩
    clear hi
    have hlist : ∀ k, k ≤ n0 → ∃ cs : List Rc, cs.length = k ∧ ∀ i c, cs[i]? = some c → W.cells? base (a.add (i * 6)) 6 = some c.cells ∧ RcOk Any W c := by
      intro k
      induction k with
      | zero => intro _; exact ⟨[], rfl, by simp⟩
      | succ k ih =>
        intro hk
        obtain ⟨cs, hlen, hall⟩ := ih (by omega)
        obtain ⟨c, h1, h2⟩ := hc k (by omega)
        refine ⟨cs ++ [c], by simp [hlen], fun i c' hi => ?_⟩
        rcases Nat.lt_or_ge i cs.length with hlt | hge
        · rw [List.getElem?_append_left hlt] at hi; exact hall i c' hi
        · rw [List.getElem?_append_right hge] at hi
          have hi0 : i - cs.length = 0 := by
            rcases Nat.eq_zero_or_pos (i - cs.length) with h | h
            · exact h
            · rw [List.getElem?_eq_none (by simp; omega)] at hi; cases hi
          rw [hi0] at hi
          simp at hi
          subst hi
          obtain rfl : i = k := by omega
          exact ⟨h1, h2⟩
    obtain ⟨cs, hlen, hall⟩ := hlist n0 (Nat.le_refl _)
    subst hlen
    refine ⟨cs.map (·.r), cs, rfl, ⟨some a, _, rfl, hl, hm, flat_len cs, fun hn => ?_⟩, fun c hc => ?_⟩
    · have h0 := (hall 0 cs[0] (List.getElem?_eq_getElem hn)).1
      obtain ⟨_, hcl, hat⟩ := World.cells?_some h0
      have hz := hat 0 (by omega)
      obtain ⟨b, off, rfl⟩ : ∃ b off, a = ⟨b, off, none⟩ := by
        apply ints_spot (u := .bool cs[0].r.write)
        have : (a.add (0 * 6)).add 0 = a.add 0 := by simp [Addr.add]
        rw [← this, hz]; rfl
      refine ⟨b, off, rfl, trivial, fun j u hu => ?_⟩
      have hjl : j < cs.length * 6 := by
        rcases Nat.lt_or_ge j (cs.length * 6) with h | h
        · exact h
        · rw [List.getElem?_eq_none (by rw [flat_len]; omega)] at hu; cases hu
      have hq : j / 6 < cs.length := by omega
      have hcq : cs[j / 6]? = some cs[j / 6] := List.getElem?_eq_getElem hq
      have he : j = j / 6 * 6 + j % 6 := by omega
      rw [he, flat_get cs _ _ _ hcq (by omega)] at hu
      obtain ⟨_, _, hat⟩ := World.cells?_some (hall _ _ hcq).1
      have := hat (j % 6) (by omega)
      rw [hu, Go.WideShapes.add_plain, Go.WideShapes.add_plain] at this
      rw [he]
      rw [← this]
      simp [Nat.add_assoc]
    · obtain ⟨i, hi⟩ := List.getElem?_of_mem hc
      exact (hall i c hi).2
end
end Go.Proofs.YtinknleckppciaaGreatDoor
namespace Go.Proofs.YtinknleckppciaaGreatDoor
set_option linter.unusedSimpArgs false
set_option linter.unusedVariables false
open Go.ChangeShapes Go.WideShapes Go.ChangeAt Go.RowKit Go.Joins Go.Deep

def Stp.cells (b : Stp) : List Value := [.string b.word, .int .i64 b.a, .int .i64 b.b, .string b.data]
structure StpOk (z : Stp) : Prop where
  a : i64 z.a
  b : i64 z.b
  word : z.word.size ≤ maxLen
  data : z.data.size ≤ maxLen
def flatStp (l : List Stp) : List Value := l.flatMap Stp.cells
def StpsAt (S : Nat → Prop) (w : World) (v : Value) (l : List Stp) : Prop := Rd S w 4 v l.length (flatStp l) ∧ ∀ b ∈ l, StpOk b
theorem flatStp_len (l : List Stp) : (flatStp l).length = l.length * 4 := by
  induction l with
  | nil => rfl
  | cons b l ih => rw [flatStp, List.flatMap_cons, List.length_append]; rw [flatStp] at ih; rw [ih]; simp [Stp.cells]; omega
theorem flatStp_app (a b : List Stp) : flatStp (a ++ b) = flatStp a ++ flatStp b := by simp [flatStp]
theorem flatStp_cons (b : Stp) (l : List Stp) : flatStp (b :: l) = b.cells ++ flatStp l := rfl
theorem flatStp_get : ∀ (l : List Stp) (i j : Nat) (b : Stp), l[i]? = some b → j < 4 → (flatStp l)[i * 4 + j]? = b.cells[j]? := by
  intro l
  induction l with
  | nil => intro i j c h _; simp at h
  | cons a cs ih =>
    intro i j c h hj
    rw [flatStp_cons]
    cases i with
    | zero =>
      simp at h; subst h
      rw [List.getElem?_append_left (by simp [Stp.cells]; omega)]
      simp
    | succ i =>
      rw [List.getElem?_append_right (by simp [Stp.cells]; omega)]
      simp at h
      rw [← ih i j c h hj]
      congr 1
      simp [Stp.cells]; omega
section
variable {S S' : Nat → Prop} {w w' : World} {v : Value} {l : List Stp}
theorem StpsAt.keep (h : StpsAt S w v l) (hk : ∀ b, S b → b < w.heap.size → w'.heap[b]? = w.heap[b]?) : StpsAt S w' v l := ⟨h.1.keep hk, h.2⟩
theorem StpsAt.below (h : StpsAt S w v l) (hb : Below w.heap.size w w') : StpsAt S w' v l := ⟨h.1.below hb, h.2⟩
theorem StpsAt.more (h : StpsAt S w v l) (hS : ∀ b, S b → S' b) : StpsAt S' w v l := ⟨h.1.more hS, h.2⟩
theorem StpsAt.lt (h : StpsAt S w v l) : StpsAt (fun b => S b ∧ b < w.heap.size) w v l := ⟨h.1.lt (by omega), h.2⟩
theorem StpsAt.form (h : StpsAt S w v l) : ∃ A cap, v = .slice A l.length cap ∧ l.length ≤ cap ∧ cap ≤ maxLen := h.1.form
theorem StpsAt.at_ {A : Option Addr} {n cap : Nat} (h : StpsAt S w (.slice A n cap) l) (hn : 0 < l.length) :
    ∃ b off, A = some ⟨b, off, none⟩ ∧ S b ∧ b < w.heap.size ∧ ∀ i x, l[i]? = some x → StpOk x ∧
      w.cell? ⟨b, off + i * 4, none⟩ = some (.string x.word) ∧ w.cell? ⟨b, off + i * 4 + 1, none⟩ = some (.int .i64 x.a) ∧ w.cell? ⟨b, off + i * 4 + 2, none⟩ = some (.int .i64 x.b) ∧
      w.cell? ⟨b, off + i * 4 + 3, none⟩ = some (.string x.data) := by
  have he : n = l.length := by obtain ⟨_, _, e, _⟩ := h.1.form; injection e
  subst he
  obtain ⟨b, off, e, hS, hlt, hc⟩ := h.1.at_ hn (by omega)
  refine ⟨b, off, e, hS, hlt, fun i x hi => ?_⟩
  have hg := fun j hj => flatStp_get l i j x hi hj
  refine ⟨h.2 x (List.mem_of_getElem? hi), ?_, ?_, ?_, ?_⟩
  · exact hc (i * 4 + 0) _ ((hg 0 (by omega)).trans rfl)
  · have := hc (i * 4 + 1) _ ((hg 1 (by omega)).trans rfl); rwa [← Nat.add_assoc] at this
  · have := hc (i * 4 + 2) _ ((hg 2 (by omega)).trans rfl); rwa [← Nat.add_assoc] at this
  · have := hc (i * 4 + 3) _ ((hg 3 (by omega)).trans rfl); rwa [← Nat.add_assoc] at this
theorem StpsAt.nil : StpsAt S w (.slice none 0 0) [] := ⟨Rd.nil, by simp⟩
end
theorem cells_stpl : Tryz.prog.cellsOf 27 = 4 := by kernel_rfl
section
variable {H : Type} {enc : TypeId × Value → H} {W : World} {base b0 : Nat} {v : Value} {d : DataW H} {p : List MemPlace}
set_option maxRecDepth 100000 in
/-- Four cells that read as a step. -/
theorem stp_of {fuel : Nat} {cs : List Value} {x : DataW H × List MemPlace} {sp : Nat → Bool} (h : DataW.trod enc Tryz.prog W base sp true fuel 27 cs = some x) : ∃ b : Stp, cs = b.cells ∧ StpOk b := by
  obtain ⟨xs, n, _, _, hlen, hxl, hf⟩ := DataW.trod_struct Tryz.underlying27 h
  rw [cells_stpl] at hlen
  match cs, hlen with
  | [v0, v1, v2, v3], _ =>
    match xs, hxl with
    | [x0, x1, x2, x3], _ =>
      have f0 := hf 0 _ rfl
      have f1 := hf 1 _ rfl
      have f2 := hf 2 _ rfl
      have f3 := hf 3 _ rfl
      have cs1 : Tryz.prog.cellsOf 9 = 1 := by kernel_rfl
      simp [cs1, cells_int] at f0 f1 f2 f3
      obtain ⟨s0, e0, _, w0⟩ := DataW.trod_string Tryz.underlying9 f0
      obtain ⟨n1, e1, _, w1⟩ := DataW.trod_int Tryz.underlying3 f1
      obtain ⟨n2, e2, _, w2⟩ := DataW.trod_int Tryz.underlying3 f2
      obtain ⟨s3, e3, _, w3⟩ := DataW.trod_string Tryz.underlying9 f3
      simp at e0 e1 e2 e3
      subst e0 e1 e2 e3
      exact ⟨⟨s0, n1, n2, s3⟩, rfl, bounds_i64 w1, bounds_i64 w2, w0, w3⟩
set_option maxRecDepth 100000 in
theorem stps_of (h : DataW.Trod enc Tryz.prog W base (fun _ => true) true 22 v d p) (hs : ∃ A n c, v = .slice A n c) : ∃ l, StpsAt Any W v l := by
  obtain ⟨A, n0, c0, rfl⟩ := hs
  obtain ⟨fuel, hf⟩ := h
  rcases open_slice Tryz.underlying22 hf with ⟨hcs, _⟩ | ⟨a, len, cap, m, n, D, Pl, hcs, _, hl, hm, hmm, _, hi⟩
  · simp [Value.cells] at hcs
    obtain ⟨rfl, rfl, rfl⟩ := hcs
    exact ⟨[], Rd.nil, by simp⟩
  · simp [Value.cells] at hcs
    obtain ⟨rfl, rfl, rfl⟩ := hcs
    simp at hmm
    subst hmm
    rw [cells_stpl] at hi
    have hc : ∀ i, i < n0 → ∃ c : Stp, W.cells? base (a.add (i * 4)) 4 = some c.cells ∧ StpOk c := by
      intro i hin
      obtain ⟨cs', h1, h2⟩ := hi i (by omega)
      obtain ⟨c, rfl, hok⟩ := stp_of h2
      exact ⟨c, h1, hok⟩
    clear hi
    have hlist : ∀ k, k ≤ n0 → ∃ cs : List Stp, cs.length = k ∧ ∀ i c, cs[i]? = some c → W.cells? base (a.add (i * 4)) 4 = some c.cells ∧ StpOk c := by
      intro k
      induction k with
      | zero => intro _; exact ⟨[], rfl, by simp⟩
      | succ k ih =>
        intro hk
        obtain ⟨cs, hlen, hall⟩ := ih (by omega)
        obtain ⟨c, h1, h2⟩ := hc k (by omega)
        refine ⟨cs ++ [c], by simp [hlen], fun i c' hi => ?_⟩
        rcases Nat.lt_or_ge i cs.length with hlt | hge
        · rw [List.getElem?_append_left hlt] at hi; exact hall i c' hi
        · rw [List.getElem?_append_right hge] at hi
          have hi0 : i - cs.length = 0 := by
            rcases Nat.eq_zero_or_pos (i - cs.length) with h | h
            · exact h
            · rw [List.getElem?_eq_none (by simp; omega)] at hi; cases hi
          rw [hi0] at hi
          simp at hi
          subst hi
          obtain rfl : i = k := by omega
          exact ⟨h1, h2⟩
    obtain ⟨cs, hlen, hall⟩ := hlist n0 (Nat.le_refl _)
    subst hlen
    refine ⟨cs, ⟨some a, _, rfl, hl, hm, flatStp_len cs, fun hn => ?_⟩, fun c hc => ?_⟩
    · have h0 := (hall 0 cs[0] (List.getElem?_eq_getElem hn)).1
      obtain ⟨_, hcl, hat⟩ := World.cells?_some h0
      have hz := hat 0 (by omega)
      obtain ⟨b, off, rfl⟩ : ∃ b off, a = ⟨b, off, none⟩ := by
        apply ints_spot (u := .string cs[0].word)
        have : (a.add (0 * 4)).add 0 = a.add 0 := by simp [Addr.add]
        rw [← this, hz]; rfl
      refine ⟨b, off, rfl, trivial, fun j u hu => ?_⟩
      have hjl : j < cs.length * 4 := by
        rcases Nat.lt_or_ge j (cs.length * 4) with h | h
        · exact h
        · rw [List.getElem?_eq_none (by rw [flatStp_len]; omega)] at hu; cases hu
      have hq : j / 4 < cs.length := by omega
      have hcq : cs[j / 4]? = some cs[j / 4] := List.getElem?_eq_getElem hq
      have he : j = j / 4 * 4 + j % 4 := by omega
      rw [he, flatStp_get cs _ _ _ hcq (by omega)] at hu
      obtain ⟨_, _, hat⟩ := World.cells?_some (hall _ _ hcq).1
      have := hat (j % 4) (by omega)
      rw [hu, Go.WideShapes.add_plain, Go.WideShapes.add_plain] at this
      rw [he]
      rw [← this]
      simp [Nat.add_assoc]
    · obtain ⟨i, hi⟩ := List.getElem?_of_mem hc
      exact (hall i c hi).2
end
end Go.Proofs.YtinknleckppciaaGreatDoor
namespace Go.Proofs.YtinknleckppciaaGreatDoor
set_option linter.unusedSimpArgs false
set_option linter.unusedVariables false
open Go.RowKit Go.Sort

def lightStp (l : List Stp) (most : Nat) : Bool := decide (l.length ≤ most) && l.all (fun z => decide (z.word.size ≤ 20) && decide (z.data.size ≤ 20))
set_option maxRecDepth 100000 in
set_option maxHeartbeats 1000000 in
theorem lightscript_any (S : Nat → Prop) (l : List Stp) (v : Value) (most : Nat) (w : World) (h : StpsAt S w v l) (hm : most ≤ 1000) :
    Calls Tryz.prog 7 #[v, .int .i64 (most : Int)] w (RetSame (.bool (lightStp l most)) w) := by
  obtain ⟨A, cap, rfl, hcl, hcap⟩ := h.form
  have H := Lib.hid h
  unfold maxLen at hcap
  clear h
  by_cases hl : l.length ≤ most
  · have hl2 : ¬ (most : Int) < (l.length : Int) := by omega
    have Hl := Lib.hid hl
    go_enter Tryz.func7, Tryz.ntmps7
    go_wp2_with fail
    go_loop [5] (fun i => ∃ k : Nat, k ≤ l.length ∧ i = .int .i64 k ∧ Hid ((l.take k).all (fun z => decide (z.word.size ≤ 20) && decide (z.data.size ≤ 20)) = true)) (fun i => l.length - (intOf i).toNat)
    case atStart => exact ⟨0, by omega, rfl, rfl⟩
    case round =>
      obtain ⟨k, hk, rfl, hall⟩ := hrel
      by_cases hlt : k < l.length
      · have hlt2 : (k : Int) < (l.length : Int) := by omega
        obtain ⟨g, off, rfl, _, hgl, hc⟩ := H.out.at_ (by omega)
        have hx : l[k]? = some l[k] := List.getElem?_eq_getElem hlt
        obtain ⟨hok, c0, c1, c2, c3⟩ := hc k _ hx
        have hw := hok.word
        have hd := hok.data
        unfold maxLen at hw hd
        clear hc hok
        have Hx := Lib.hid hx
        clear hx
        generalize l[k] = z at *
        by_cases h1 : z.word.size ≤ 20
        · have h1' : ¬ (20 : Int) < (z.word.size : Int) := by omega
          by_cases h2 : z.data.size ≤ 20
          · have h2' : ¬ (20 : Int) < (z.data.size : Int) := by omega
            go_wp2_with fail
            go_round
            case rel => exact ⟨k + 1, by omega, by go_num, by show _ = true; rw [all_take_succ _ _ _ _ Hx.out, hall.out]; simp [h1, h2]⟩
            case measure => simp [intOf]; omega
          · have h2' : (20 : Int) < (z.data.size : Int) := by omega
            have e : Hid (lightStp l most = false) := show _ = _ by unfold lightStp; rw [all_not _ _ _ _ Hx.out (by simp [h2])]; simp
            go_wp2_with fail
            go_ret
            rw [e.out]
            exact ⟨rfl, rfl⟩
        · have h1' : (20 : Int) < (z.word.size : Int) := by omega
          have e : Hid (lightStp l most = false) := show _ = _ by unfold lightStp; rw [all_not _ _ _ _ Hx.out (by simp [h1])]; simp
          go_wp2_with fail
          go_ret
          rw [e.out]
          exact ⟨rfl, rfl⟩
      · have hlt2 : ¬ (k : Int) < (l.length : Int) := by omega
        have e : Hid (lightStp l most = true) := show _ = _ by unfold lightStp; rw [all_end _ _ _ (by omega) hall.out]; simp [Hl.out]
        go_wp2_with fail
        go_ret
        rw [e.out]
        exact ⟨rfl, rfl⟩
  · have hl2 : (most : Int) < (l.length : Int) := by omega
    have e : Hid (lightStp l most = false) := show _ = _ by unfold lightStp; simp [hl]
    go_enter Tryz.func7, Tryz.ntmps7
    go_wp2_with fail
    go_ret
    rw [e.out]
    exact ⟨rfl, rfl⟩
theorem lightStp_len {l : List Stp} {m : Nat} (h : lightStp l m = true) : l.length ≤ m := by
  unfold lightStp at h
  rw [Bool.and_eq_true, decide_eq_true_eq] at h
  exact h.1
theorem StpsAt.cells {S : Nat → Prop} {w : World} {A : Option Addr} {n cap k : Nat} {l : List Stp} (h : StpsAt S w (.slice A n cap) l) (hk : k < l.length) : ∃ (g off : Nat) (z : Stp), A = some ⟨g, off, none⟩ ∧ g < w.heap.size ∧ l[k]? = some z ∧
    w.cell? ⟨g, off + k * 4, none⟩ = some (.string z.word) ∧ w.cell? ⟨g, off + k * 4 + 1, none⟩ = some (.int .i64 z.a) ∧ w.cell? ⟨g, off + k * 4 + 2, none⟩ = some (.int .i64 z.b) ∧ w.cell? ⟨g, off + k * 4 + 3, none⟩ = some (.string z.data) := by
  obtain ⟨g, off, e, _, hgl, hc⟩ := h.at_ (by omega)
  have hx : l[k]? = some l[k] := List.getElem?_eq_getElem hk
  obtain ⟨_, c0, c1, c2, c3⟩ := hc k _ hx
  exact ⟨g, off, _, e, hgl, hx, c0, c1, c2, c3⟩
/-- A new stack over a new disk. -/
def pst0 : St := St.new Dv.new
def RetPlNew (W0 w : World) : Ending → World → Prop := fun e w' =>
  ∃ (p b bd : Nat) (col : Nat → Nat) (y : Sv), e = .returned (.pointer (some ⟨p, 0, none⟩)) ∧ PlAt W0 w' col p b bd 0 0 y pst0 ∧ (∀ k, k < w.heap.size → col k = 9) ∧ (∀ k, Pf col p k → w.heap.size ≤ k) ∧ Below w.heap.size w w'
set_option maxRecDepth 100000 in
set_option maxHeartbeats 1000000 in
theorem plnew_any (W0 w : World) (hW : Below W0.heap.size W0 w) : Calls Tryz.prog 5 #[] w (RetPlNew W0 w) := by
  have HW := Lib.hid hW
  clear hW
  go_enter Tryz.func5, Tryz.ntmps5
  go_wp2_with fail
  refine (devnew_any w).mono ?_
  rintro e w1 ⟨rfl, hd1, hb1, hs1⟩
  go_wp2_with fail
  refine (stnew_any (fun _ => False) (fun k => k = w.heap.size) w1 w.heap.size Dv.new (hd1 _) (fun k hk => by omega) (fun k hk => hk.elim) (fun k hk => hk.elim)).mono ?_
  rintro e w2 ⟨b, col, y, rfl, hst, hb2, hfl, _⟩
  have HF : Hid (∀ k, Fl col k → w.heap.size ≤ k) := fun k hk => (hfl k hk).elim (fun e => by omega) (fun e => Nat.le_trans hb1.size e)
  have HB := Lib.hid (hb1.trans (hb2.mono hb1.size))
  have HS := Lib.hid hst
  obtain ⟨bd, hbd⟩ : ∃ n, w.heap.size = n := ⟨_, rfl⟩
  rw [hbd] at HS
  clear hd1 hb1 hs1 hst hb2 hfl
  go_wp2_with fail
  go_ret
  have hb3 := (Below.refl w2.heap.size w2).alloc (Nat.le_refl _) (.cells #[.pointer (some ⟨bd, 0, none⟩), .pointer (some ⟨b, 0, none⟩)] tPl)
  obtain ⟨col', h1, h2, h3⟩ := PlAt.made (F := fun _ => False) (w1 := w) (d := Dv.new) HW.out HS.out rfl DvOk.new rfl HB.out HF.out hb3 (Nat.le_refl _) (heap_alloc_new _ _) (Bd.newB rfl)
  exact ⟨_, b, bd, col', y, rfl, h1, h2, h3, HB.out.trans (hb3.mono HB.out.size)⟩
def dirtyZ : Stp := ⟨⟨#[100, 105, 114, 116, 121]⟩, 0, 0, ⟨#[]⟩⟩
def crashZ (m : Int) : Stp := ⟨⟨#[99, 114, 97, 115, 104]⟩, m, 0, ⟨#[]⟩⟩
theorem play_dirty0 : (playM pst0 dirtyZ).2 = ⟨#[48]⟩ := by kernel_rfl
theorem play_crashZ (s : St) (m : Int) : playM s (crashZ m) = (St.new (s.v.d.crash m.toNat), p_okB) := by
  have e : pcOf (crashZ m).word = .crash := by kernel_rfl
  unfold playM
  rw [e]
  rfl
end Go.Proofs.YtinknleckppciaaGreatDoor
namespace Go.Proofs.YtinknleckppciaaGreatDoor
set_option linter.unusedVariables false
open Go.RowKit Go.ChangeShapes

set_option maxRecDepth 100000 in
theorem envp_of {W : World} {L : List (String × DataW Unit)} (e : L = Rows.topTwiceRow.laid) (hL : laidMetH Tryz.prog L W) : Env W := by
  subst e
  rw [MakeChecks.laidMetH_plain _ _ _ (by kernel_rfl)] at hL
  have t2 := hL.tail.tail
  exact ⟨Lib.tabIs_of_head (g := 1) (t := 186) (e := 58) (n := 20) (by kernel_rfl) (by kernel_rfl) Tryz.underlying186 Tryz.underlying58 (by kernel_rfl) (by kernel_rfl) t2⟩
end Go.Proofs.YtinknleckppciaaGreatDoor
