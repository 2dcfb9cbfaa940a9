/- The law PlayerSays: its walk. -/
import Derived.Test.YtaeadmlgffaegaaGreatDoorQ46
import Derived.HandedShaped
import Derived.Handed
import Derived.Shelf.Vars
import Derived.Stop.LaidErr
import Derived.LaidMore
import Derived.Lay
import Derived.SevenTiedAt
import Derived.Stop.Joined
import Derived.Lib.LaidTab
set_option linter.unusedSimpArgs false
set_option linter.unusedVariables false
set_option maxRecDepth 100000
set_option maxHeartbeats 8000000
namespace Go.Proofs.YtaeadmlgffaegaaGreatDoor
open Go.RowKit Go.Sort
structure Duo (W0 w:World) (c1 c2:Nat→Nat) (p q b1 b2 d1 d2 N:Nat) (K:Int) (x1 x2:Sv) (s t:St):Prop where
 one:PlAt Ts tPl W0 w c1 p b1 d1 N K x1 s
 two:PlAt Tr tPr W0 w c2 q b2 d2 N K x2 t
 d12:∀ k,Pf c1 p k→c2 k=9
 d21:∀ k,Pf c2 q k→c1 k=9
 ne:p≠q
section
variable {W0 w w':World} {c1 c2 c1' c2':Nat→Nat} {p q b1 b2 b1' b2' d1 d2 N M:Nat} {K L:Int} {x1 x2 x1' x2':Sv} {s t s' t':St}
theorem Duo.fst (h:Duo W0 w c1 c2 p q b1 b2 d1 d2 N K x1 x2 s t) (h1:PlAt Ts tPl W0 w' c1' p b1' d1 M L x1' s') (hr:Pr c1 c1' p w w') (hn:N≤M) (hk:K≤L):∃ c2',Duo W0 w' c1' c2' p q b1' b2 d1 d2 M L x1' x2 s' t∧∀ k,Fl c2' k→Fl c2 k:=by
 obtain ⟨c2',h2,e1,e2,e3⟩:=h.two.other hr h1 h.one.pf h.d12 h.d21 h.ne.symm
 exact ⟨c2',⟨h1,h2.mono hn hk,e1,e2,h.ne⟩,e3⟩
theorem Duo.snd (h:Duo W0 w c1 c2 p q b1 b2 d1 d2 N K x1 x2 s t) (h2:PlAt Tr tPr W0 w' c2' q b2' d2 M L x2' t') (hr:Pr c2 c2' q w w') (hn:N≤M) (hk:K≤L):∃ c1',Duo W0 w' c1' c2' p q b1 b2' d1 d2 M L x1 x2' s t':=by
 obtain ⟨c1',h1,e1,e2,_⟩:=h.one.other hr h2 h.two.pf h.d21 h.d12 h.ne
 exact ⟨c1',h1.mono hn hk,h2,e2,e1,h.ne⟩
theorem Duo.step (h:Duo W0 w c1 c2 p q b1 b2 d1 d2 N K x1 x2 s t) (hb:Below w.heap.size w w'):Duo W0 w' c1 c2 p q b1 b2 d1 d2 N K x1 x2 s t:=⟨h.one.step hb,h.two.step hb,h.d12,h.d21,h.ne⟩
theorem Duo.more (h:Duo W0 w c1 c2 p q b1 b2 d1 d2 N K x1 x2 s t) (hn:N≤M) (hk:K≤L):Duo W0 w c1 c2 p q b1 b2 d1 d2 M L x1 x2 s t:=⟨h.one.mono hn hk,h.two.mono hn hk,h.d12,h.d21,h.ne⟩
end
theorem rzcells:(Tryz.zeroCells49:Array Value)=(devCells Dv.new (.slice none 0 0) (.slice none 0 0)).toArray:=by kernel_rfl
theorem rplnew_any (W0 w:World) (hW:Below W0.heap.size W0 w):Calls Tryz.prog 7 #[] w (RetPlNew Tr tPr W0 w):=by
 have HW:=Lib.hid hW
 clear hW
 go_enter Tryz.func7,Tryz.ntmps7
 go_wp2_with fail
 have hd1:∀ S,DevAt TDr TPr S (fun k=>k=w.heap.size) (w.alloc (Obj.cells Tryz.zeroCells49 TDr)) w.heap.size Dv.new:=fun S=>dev_new _ _ _ _ (by rw [← rzcells]; exact heap_alloc_new _ _) rfl
 have hb1:=(Below.refl w.heap.size w).alloc (Nat.le_refl _) (Obj.cells Tryz.zeroCells49 TDr)
 have hs1:(w.alloc (Obj.cells Tryz.zeroCells49 TDr)).heap.size=w.heap.size+1:=by simp
 have HA:=Lib.hid (And.intro hd1 (And.intro hb1 hs1))
 clear hd1 hb1 hs1
 generalize World.alloc _ _=w1 at HA ⊢
 refine (rstnew_any (fun _=>False) (fun k=>k=w.heap.size) w1 w.heap.size Dv.new (HA.out.1 _) (fun k hk=>by have:=HA.out.2.2; omega) (fun k hk=>hk.elim) (fun k hk=>hk.elim)).mono ?_
 rintro e w2 ⟨b,col,y,rfl,hst,hb2,hfl,_⟩
 obtain ⟨_,hb1,hs1⟩:=HA.out
 have HF:Hid (∀ k,Fl col k→w.heap.size≤k):=fun k hk=>(hfl k hk).elim (fun e=>by omega) (fun e=>Nat.le_trans hb1.size e)
 have HB:=Lib.hid (hb1.trans (hb2.mono hb1.size))
 have HS:=Lib.hid hst
 obtain ⟨bd,hbd⟩:∃ n,w.heap.size=n:=⟨_,rfl⟩
 rw [hbd] at HS
 clear HA hb1 hs1 hst hb2 hfl
 go_wp2_with fail
 go_ret
 have hb3:=(Below.refl w2.heap.size w2).alloc (Nat.le_refl _) (.cells #[.pointer (some ⟨bd,0,none⟩),.pointer (some ⟨b,0,none⟩)] tPr)
 obtain ⟨col',h1,h2,h3⟩:=PlAt.made (F:=fun _=>False) (w1:=w) (d:=Dv.new) HW.out HS.out rfl DvOk.new rfl HB.out HF.out hb3 (Nat.le_refl _) (heap_alloc_new _ _) (Bd.newB rfl)
 exact ⟨_,b,bd,col',y,rfl,h1,h2,h3,HB.out.trans (hb3.mono HB.out.size)⟩
def writeZ:Stp:=⟨⟨#[119,114,105,116,101]⟩,0,3,⟨#[120]⟩⟩
theorem plays_one:(playM pst0 writeZ).2=⟨#[111,107]⟩:=by kernel_rfl
theorem plays_two:(playM (playM pst0 writeZ).1 dirtyZ).2=⟨#[49]⟩:=by kernel_rfl
theorem plays_any (w:World) (hE:Env w):Calls Tryz.prog 4 #[] w (Ret (.bool true) w):=by
 have HE:=Lib.hid hE
 clear hE
 go_enter Tryz.func4,Tryz.ntmps4
 go_wp2_with fail
 refine (plnew_any w w (Below.refl _ _)).mono ?_
 rintro e w0 ⟨p,b0,bd,col0,y0,rfl,hp0,_,_,_⟩
 have HP0:=Lib.hid hp0
 clear hp0
 go_wp2_with fail
 refine (play_any w col0 w0 p b0 bd 0 y0 pst0 writeZ 0 HP0.out HE.out (by omega) (by omega) ⟨Int.le_refl _,by decide⟩).mono ?_
 rintro e w1 ⟨rfl,col1,b1,y1,hp1,_⟩
 rw [plays_one]
 have HP1:=Lib.hid hp1
 clear hp1
 go_wp2_with fail
 refine (play_any w col1 w1 p b1 bd _ y1 _ dirtyZ _ HP1.out HE.out (by omega) (by omega) ⟨Int.le_refl _,by decide⟩).mono ?_
 rintro e w2 ⟨rfl,col2,b2,y2,hp2,_⟩
 rw [plays_two]
 have HB:=Lib.hid hp2.below
 clear hp2
 go_wp2_with fail
 go_ret
 exact ⟨rfl,HB.out⟩
def RetPl2 (T:Tys) (tp:TypeId) (W0:World) (col:Nat→Nat) (w:World) (p bd N:Nat) (K:Int) (t:St) (o:ByteArray):Ending→World→Prop:=fun e w' =>
 e=.returned (.string o)∧∃ (col':Nat→Nat) (b':Nat) (y:Sv),PlAt T tp W0 w' col' p b' bd (N+2000) (K+15000) y t∧Pr col col' p w w'
section
variable {W0 w:World} {col:Nat→Nat} {p b bd N:Nat} {x:Sv} {s t:St} {z:Stp} {K:Int} {o:ByteArray}
theorem play_to (h:PlAt Ts tPl W0 w col p b bd N K x s) (hE:Env W0) (hK:K≤500000000) (hN:N≤800000000) (ha:0≤z.a∧z.a≤999) (ht:(playM s z).1=t) (ho:(playM s z).2=o) :
  Calls Tryz.prog 9 #[.pointer (some ⟨p,0,none⟩),.agg #[.string z.word,.int .i64 z.a,.int .i64 z.b,.string z.data]] w (RetPl2 Ts tPl W0 col w p bd N K t o):=by
 subst ht ho
 exact play_any W0 col w p b bd N x s z K h hE hK hN ha
theorem rplay_to (h:PlAt Tr tPr W0 w col p b bd N K x s) (hE:Env W0) (hK:K≤500000000) (hN:N≤800000000) (ha:0≤z.a∧z.a≤999) (ht:(playM s z).1=t) (ho:(playM s z).2=o) :
  Calls Tryz.prog 10 #[.pointer (some ⟨p,0,none⟩),.agg #[.string z.word,.int .i64 z.a,.int .i64 z.b,.string z.data]] w (RetPl2 Tr tPr W0 col w p bd N K t o):=by
 subst ht ho
 exact rplay_any W0 col w p b bd N x s z K h hE hK hN ha
theorem pstack_any (h:PlAt Ts tPl W0 w col p b bd N K x s):Calls Tryz.prog 12 #[.pointer (some ⟨p,0,none⟩)] w (RetSame (.pointer (some ⟨b,0,none⟩)) w):=by
 obtain ⟨c0,c1⟩:=h.cell
 clear h
 go_enter Tryz.func12,Tryz.ntmps12
 go_wp2
 go_ret
 exact ⟨rfl,rfl⟩
theorem pdevice_any (h:PlAt Ts tPl W0 w col p b bd N K x s):Calls Tryz.prog 13 #[.pointer (some ⟨p,0,none⟩)] w (RetSame (.pointer (some ⟨bd,0,none⟩)) w):=by
 obtain ⟨c0,c1⟩:=h.cell
 clear h
 go_enter Tryz.func13,Tryz.ntmps13
 go_wp2
 go_ret
 exact ⟨rfl,rfl⟩
end
theorem zero_stp:∀ w,(zeroValue 31).run Tryz.prog w=.ok (.agg #[.string ⟨#[]⟩,.int .i64 0,.int .i64 0,.string ⟨#[]⟩]) w:=fun _=>by kernel_rfl
theorem StAt.nowAt {T:Tys} {col:Nat→Nat} {w:World} {b bd N i:Nat} {x:Sv} {s:St} (h:StAt T col w b bd N x s) (hi:i<32):w.cell? ⟨bd,32+i,none⟩=some (.string (s.v.d.peek i)):=by
 have hd:=h.drv.dev
 obtain ⟨wv,lv,hrow⟩:=hd.row
 have hx:s.v.d.now[i]?=some (s.v.d.now[i]'(by rw [hd.now]; exact hi)):=List.getElem?_eq_getElem _
 have he:s.v.d.peek i=s.v.d.now[i]'(by rw [hd.now]; exact hi):=by unfold Dv.peek; rw [List.getD_eq_getElem?_getD,hx]; rfl
 rw [he,cell_of_row _ _ _ _ _ _ hrow]
 simpa using devCells_at_now s.v.d wv lv hd.kept i _ hx
def Rz (g o:Nat) (z:Stp) (u:World):Prop:=u.cell? ⟨g,o,none⟩=some (.string z.word)∧u.cell? ⟨g,o+1,none⟩=some (.int .i64 z.a)∧u.cell? ⟨g,o+2,none⟩=some (.int .i64 z.b)∧u.cell? ⟨g,o+3,none⟩=some (.string z.data)
theorem Rz.b {g o:Nat} {z:Stp} {u u':World} (h:Rz g o z u) (hb:Below u.heap.size u u'):Rz g o z u':=⟨cell_b hb h.1,cell_b hb h.2.1,cell_b hb h.2.2.1,cell_b hb h.2.2.2⟩
theorem Rz.row {b:Nat} {z:Stp} {T:TypeId} {u:World} (h:u.heap[b]?=some (.cells #[.string z.word,.int .i64 z.a,.int .i64 z.b,.string z.data] T (0,0))):Rz b 0 z u:=⟨cell_of_row _ _ 0 _ _ _ h,cell_of_row _ _ 1 _ _ _ h,cell_of_row _ _ 2 _ _ _ h,cell_of_row _ _ 3 _ _ _ h⟩
theorem Rz.o {b:Nat} {z:Stp} {u:World} (h:Rz b 0 z u):u.cell? ⟨b,0,none⟩=some (.string z.word)∧u.cell? ⟨b,1,none⟩=some (.int .i64 z.a)∧u.cell? ⟨b,2,none⟩=some (.int .i64 z.b)∧u.cell? ⟨b,3,none⟩=some (.string z.data):=h
theorem Rz.chg {g o:Nat} {z:Stp} {u u':World} {F:Nat→Prop} (h:Rz g o z u) (hc:Chg F u u') (hn:¬ F g) (hl:g<u.heap.size):Rz g o z u':=by
 have e:=hc.block g hl hn
 obtain ⟨h0,h1,h2,h3⟩:=h
 exact ⟨(World.cell?_of_block e).trans h0,(World.cell?_of_block e).trans h1,(World.cell?_of_block e).trans h2,(World.cell?_of_block e).trans h3⟩
theorem player_walk (l:List Stp) (v:Value) (w:World) (h:StpsAt Any w v l) (hE:Env w):Calls Tryz.prog 3 #[v] w (Ret (.bool true) w):=by
 obtain ⟨A,cap,rfl,hcl,hcap⟩:=h.form
 have H:=Lib.hid h
 have HE:=Lib.hid hE
 unfold maxLen at hcap
 clear h hE
 go_enter Tryz.func3,Tryz.ntmps3
 go_wp2_with fail
 refine (plays_any w HE.out).mono ?_
 rintro e w1 ⟨rfl,hb1⟩
 have HB1:=Lib.hid hb1
 clear hb1
 go_wp2_with fail
 refine (lightscript_any Any l _ 100 w1 (H.out.below HB1.out) (by omega)).mono ?_
 rintro e w2 ⟨rfl,rfl⟩
 cases hl:lightStp l 100 with
 |false =>
  clear hl
  go_wp2_with fail
  go_ret
  exact ⟨rfl,HB1.out⟩
 |true =>
  have hlen:=lightStp_len hl
  clear hl
  go_wp2_with fail
  refine (plnew_any w w1 HB1.out).mono ?_
  rintro e w2 ⟨p,b,bd,colp,y,rfl,hp,_,_,_⟩
  have HP:=Lib.hid hp
  clear hp
  go_wp2_with fail
  refine (rplnew_any w w2 HP.out.below).mono ?_
  rintro e w3 ⟨q,bq,bdq,colq,yq,rfl,hq,hq9,hqn,hbq⟩
  have hne:p≠q:=fun e=>by have:=(Array.getElem?_eq_some_iff.1 HP.out.row).1; have:=hqn q (.inr rfl); omega
  obtain ⟨colp',hpp,e1,e2⟩:=HP.out.beside hbq hq hqn hq9
  have HD:Hid (Duo w w3 colp' colq p q b bq bd bdq 0 0 y yq pst0 pst0):=⟨hpp,hq,e2,e1,hne⟩
  clear hq hq9 hqn hbq hpp e1 e2 hne
  go_wp2_with fail
  go_loopw [6,7,8] (fun i _ _ wr=>∃ (k:Nat) (c1 c2:Nat→Nat) (b1 b2:Nat) (x1 x2:Sv),k≤l.length∧i=.int .i64 k∧Hid (Duo w wr c1 c2 p q b1 b2 bd bdq (4000 * k) (30000 * (k:Int)) x1 x2 (playsM pst0 (l.take k)) (playsM pst0 (l.take k)))) (fun i _ _ _=>l.length - (intOf i).toNat)
  case atStart=>exact ⟨0,colp',colq,b,bq,y,yq,by omega,rfl,HD.out⟩
  case round =>
   obtain ⟨k,c1,c2,b1,b2,x1,x2,hk,rfl,HL⟩:=hrel
   by_cases hlt:k<l.length
   ·have hlt2:(k:Int)<(l.length:Int):=by omega
    have hk0:¬ (k:Int)<0:=by omega
    obtain ⟨g,off,z,rfl,hgl,hx,k0,k1,k2,k3⟩:=(H.out.below HL.out.one.below).cells hlt
    have Hx:=Lib.hid hx
    have hzl:=H.out.2 z (List.mem_of_getElem? hx)
    have Hzw:=Lib.hid hzl
    have HZ:Hid (Rz g (off+k * 4) z wr):=⟨k0,k1,k2,k3⟩
    clear hx hzl
    obtain ⟨s,hs⟩:∃ s,playsM pst0 (l.take k)=s:=⟨_,rfl⟩
    have HL:Hid (Duo w wr c1 c2 p q b1 b2 bd bdq (4000 * k) (30000 * (k:Int)) x1 x2 s s):=hs▸HL.out
    have Hs:=Lib.hid hs
    have Hgl:=Lib.hid hgl
    clear hs hgl
    go_wp2_with fail
    have hz:=zero_stp
    obtain ⟨FB,hFB⟩:∃ F:Array Value,F=#[.string z.word,.int .i64 z.a,.int .i64 z.b,.string z.data]:=⟨_,rfl⟩
    refine wp_region_ev mixed [(26,fun v _=>v=(.slice (some ⟨g,off,none⟩) l.length cap)),(27,fun v _=>v=(.int .i64 (k:Int))),(28,fun v _=>v=(.pointer (some ⟨g,off+k * 4,none⟩))),(29,fun v _=>v=(.pointer (some ⟨g,off+k * 4,none⟩))),(30,fun v _=>v=(.string z.word)),(31,fun v _=>v=(.slice (some ⟨g,off,none⟩) l.length cap)),(32,fun v _=>v=(.int .i64 (k:Int))),(33,fun v _=>v=(.pointer (some ⟨g,off+k * 4,none⟩))),(34,fun v _=>v=(.pointer (some ⟨g,off+k * 4+1,none⟩))),(35,fun v _=>v=(.int .i64 z.a)),(36,fun v _=>v=(.slice (some ⟨g,off,none⟩) l.length cap)),(37,fun v _=>v=(.int .i64 (k:Int))),(38,fun v _=>v=(.pointer (some ⟨g,off+k * 4,none⟩))),(39,fun v _=>v=(.pointer (some ⟨g,off+k * 4+2,none⟩))),(40,fun v _=>v=(.int .i64 z.b)),(41,fun v _=>v=(.slice (some ⟨g,off,none⟩) l.length cap)),(42,fun v _=>v=(.int .i64 (k:Int))),(43,fun v _=>v=(.pointer (some ⟨g,off+k * 4,none⟩))),(44,fun v _=>v=(.pointer (some ⟨g,off+k * 4+3,none⟩))),(45,fun v _=>v=(.string z.data)),(46,fun v _=>v=.agg #[.string z.word,.int .i64 z.a,.int .i64 z.b,.string z.data]),(7,BxF 31 FB wr.heap.size)] (fun u=>Below wr.heap.size wr u) (BR 31 FB wr.heap.size) (BxE 31 FB 22) (by kernel_rfl) rfl (by decide) (Below.refl _ _).drew ?st (fun k vs u u' h hr=>h.step hr) ?steps ?fin
    case st=>exact ⟨fun v u u' h _=>h,fun v u u' h _=>h,fun v u u' h _=>h,fun v u u' h _=>h,fun v u u' h _=>h,fun v u u' h _=>h,fun v u u' h _=>h,fun v u u' h _=>h,fun v u u' h _=>h,fun v u u' h _=>h,fun v u u' h _=>h,fun v u u' h _=>h,fun v u u' h _=>h,fun v u u' h _=>h,fun v u u' h _=>h,fun v u u' h _=>h,fun v u u' h _=>h,fun v u u' h _=>h,fun v u u' h _=>h,fun v u u' h _=>h,fun v u u' h _=>h,fun v u u' h hr=>h.step hr,trivial⟩
    case steps =>
     refine ⟨?_,?_,?_,?_,?_,?_,?_,?_,?_,?_,?_,?_,?_,?_,?_,?_,?_,?_,?_,?_,?_,?_,?_,trivial⟩
     all_goals
      intro ρ u hp hJ hr
      try
       try have r1:ρ _=_:=hr.1
       try have r2:ρ _=_:=hr.2.1
       try have r3:ρ _=_:=hr.2.2.1
       try have r4:ρ _=_:=hr.2.2.2.1
       clear hr
       have k0:=cell_b hJ k0
       have k1:=cell_b hJ k1
       have k2:=cell_b hJ k2
       have k3:=cell_b hJ k3
       refine gives_value (v:=_) (w':=u) ?_ ⟨rfl,hJ,BR.refl _,fun h=>absurd h (by decide)⟩
       go_simp
       done
     ·clear hr
      refine gives_value (v:=.pointer (some ⟨u.heap.size,0,none⟩)) (w':=u.alloc (.cells #[.string ⟨#[]⟩,.int .i64 0,.int .i64 0,.string ⟨#[]⟩] 31)) ?_ ⟨⟨_,rfl,hJ.size,⟨_,by rw [hFB]; rfl,heap_alloc_new _ _⟩⟩,hJ.trans (((Below.refl _ _).alloc (Nat.le_refl _) _).mono hJ.size),BR.below ((Below.refl _ _).alloc (Nat.le_refl _) _),fun h=>absurd h (by decide)⟩
      go_simp
     ·have r1:BxF 31 FB wr.heap.size (ρ (.tmp 7)) u:=hr.1
      have r2:ρ (.tmp 46)=.agg #[.string z.word,.int .i64 z.a,.int .i64 z.b,.string z.data]:=hr.2.1
      clear hr
      obtain ⟨bb,e1,hbb,hbx⟩:=r1
      rw [show FB.size=4 by rw [hFB]; rfl] at hbx
      obtain ⟨g1,g2,g3⟩:=bx_put4 (v0:=.string z.word) (v1:=.int .i64 z.a) (v2:=.int .i64 z.b) (v3:=.string z.data) hbb hbx _ rfl
      rw [← hFB] at g1 g2
      refine gives_skip (w':=_) ?_ ⟨trivial,hJ.trans g3,g1,BxE.at e1 rfl g2⟩
      obtain ⟨z0,z1,z2,z3,hz⟩:=bx4 hbx
      have z0:u.cell? ⟨bb,0,none⟩=some _:=cell_of_row _ _ 0 _ _ _ hz
      have z1:u.cell? ⟨bb,1,none⟩=some _:=cell_of_row _ _ 1 _ _ _ hz
      have z2:u.cell? ⟨bb,2,none⟩=some _:=cell_of_row _ _ 2 _ _ _ hz
      have z3:u.cell? ⟨bb,3,none⟩=some _:=cell_of_row _ _ 3 _ _ _ hz
      have f0:∀ j,u.frozen? ⟨bb,j,none⟩=false:=fun j=>frozen_of_row _ _ j _ _ hz
      clear g1 g2 g3 hz hbx
      go_simp
    intro f w4 hF hJ hU hE
    have f7:BxF 31 FB wr.heap.size (f 7) w4:=hF.2.2.2.2.2.2.2.2.2.2.2.2.2.2.2.2.2.2.2.2.2.1
    obtain ⟨bb,e7,hbb,hbz⟩:=f7
    have hbx:w4.heap[bb]?=some (.cells FB 31 (0,0)):=hE 22 _ rfl rfl bb (by rw [argsOf_store rfl,e7]; rfl)
    rw [hFB] at hbx
    have HX4:Hid (Rz bb 0 z w4):=Rz.row hbx
    have Hbb:=Lib.hid hbb
    have Hbl:=Lib.hid (Array.getElem?_eq_some_iff.1 hbx).1
    have h4:Hid (Duo w w4 c1 c2 p q b1 b2 bd bdq (4000 * k) (30000 * (k:Int)) x1 x2 s s):=HL.out.step hJ
    have HZ4:=Lib.hid (HZ.out.b hJ)
    clear hF hU hE hFB hbx hbz FB hbb hJ k0 k1 k2 k3 hz
    simp only [laid]
    obtain ⟨m0,m1,m2,m3⟩:=HX4.out
    go_wp2_with fail
    refine (rfault_any z w4 Hzw.out.word Hzw.out.data).mono ?_
    rintro e w5 ⟨rfl,hb5⟩
    have h5:Hid (Duo w w5 c1 c2 p q b1 b2 bd bdq (4000 * k) (30000 * (k:Int)) x1 x2 s s):=h4.out.step hb5
    have HZ5:=Lib.hid (HZ4.out.b hb5)
    have HX5:=Lib.hid (HX4.out.b hb5)
    have Hbl5:=Lib.hid (Nat.lt_of_lt_of_le Hbl.out hb5.size)
    clear hb5 m0 m1 m2 m3
    by_cases hch:checkM z=0
    ·have e0:decide (0<checkM z)=false:=by rw [hch]; rfl
     have ha:=check_a hch
     have hpm:playsM pst0 (l.take (k+1))=(playM s z).1:=by rw [playsM_succ _ Hx.out,if_pos hch,Hs.out]
     obtain ⟨t,ht⟩:∃ t,(playM s z).1=t:=⟨_,rfl⟩
     obtain ⟨o,ho⟩:∃ o,(playM s z).2=o:=⟨_,rfl⟩
     rw [ht] at hpm
     have Ht:=Lib.hid ht
     have Ho:=Lib.hid ho
     have Hpm:=Lib.hid hpm
     have Ha:=Lib.hid ha
     clear hpm ha hch ht ho
     have h5d:Hid (Duo w w5.drew c1 c2 p q b1 b2 bd bdq (4000 * k) (30000 * (k:Int)) x1 x2 s s):=h5.out.step (Below.refl _ _).drew
     have hp1:¬ Pf c1 p bb:=fun e=>e.elim (fun e=>e.1 (HL.out.one.st.s0 _ Hbb.out)) (fun e=>by have:=(Array.getElem?_eq_some_iff.1 HL.out.one.row).1; have:=Hbb.out; omega)
     have HP1:=Lib.hid hp1
     clear hp1
     go_upto_region 11 with fail
     go_cut [69] from 50 to 87 (fun v wx=>v=.bool false∧∃ (c1 c2:Nat→Nat) (b1 b2:Nat) (x1 x2:Sv),Hid (Duo w wx c1 c2 p q b1 b2 bd bdq (4000 * (k+1)) (30000 * ((k+1:Nat):Int)) x1 x2 t t))
     case first =>
      obtain ⟨k0,k1,k2,k3⟩:=HZ5.out.b (Below.refl w5.heap.size w5).drew
      obtain ⟨m0,m1,m2,m3⟩:=(HX5.out.b (Below.refl w5.heap.size w5).drew).o
      go_region_with (first
       |(go_at_call 11; refine (asstack_any c1'' c2'' u2 b1' bd b2' bdq _ _ x1' x2' t H6.out.one.st H6.out.two.st H6.out.one.inv).mono ?_; rintro e u3 ⟨rfl,hb3⟩; have H7:=Lib.hid (H6.out.step hb3); clear hb3)
       |(go_at_call 12; refine (pstack_any H6.out.one).mono ?_; rintro e u3 ⟨rfl,rfl⟩)
       |(go_at_call 10; refine (rplay_to H5.out.two HE.out (by omega) (by omega) Ha.out Ht.out Ho.out).mono ?_; rintro e u2 ⟨rfl,c2'',b2',x2',g1,hr1⟩; obtain ⟨c1'',g2⟩:=H5.out.snd (M:=4000 * (k+1)) (L:=30000 * ((k+1:Nat):Int)) (g1.mono (by omega) (by omega)) hr1 (by omega) (by omega); have H6:=Lib.hid g2; have q1:=g1.cell.2; clear g1 hr1 g2)
       |(go_at_call 9; refine (play_to h5d.out.one HE.out (by omega) (by omega) Ha.out Ht.out Ho.out).mono ?_; rintro e u1 ⟨rfl,c1',b1',x1',g1,hr1⟩; obtain ⟨c2',g2,hf2⟩:=h5d.out.fst g1 hr1 (by omega) (by omega); have H5:=Lib.hid g2; obtain ⟨m0',m1',m2',m3'⟩:=(Rz.chg (HX5.out.b (Below.refl w5.heap.size w5).drew) hr1.chg HP1.out Hbl5.out).o; clear g1 hr1 g2 hf2))
      all_goals
       go_wp2_with fail
       go_meet
       case rel=>exact ⟨rfl,c1'',c2'',b1',b2',x1',x2',H7.out⟩
     case rest =>
      obtain ⟨rfl,c1',c2',b1',b2',x1',x2',HM⟩:=hcut
      have Hpm2:Hid (playsM pst0 (l.take (k+1))=t):=Hpm.out
      clear Hpm
      go_wp2_with fail
      go_loopw [8] (fun a wr=>∃ m:Nat,m≤32∧a=.int .i64 m∧Hid (Below wc.heap.size wc wr)) (fun a _=>32 - (intOf a).toNat)
      case atStart=>exact ⟨0,by omega,rfl,Below.refl _ _⟩
      case round =>
       obtain ⟨m,hm,rfl,HB⟩:=hrel
       by_cases h32:m<32
       ·have hm2:(m:Int)<32:=by omega
        have hm0:¬ (m:Int)<0:=by omega
        have HW:=Lib.hid (HM.out.step HB.out)
        have hP:Hid (∀ d os,Calls Tryz.prog 13 #[.pointer (some ⟨p,0,none⟩)] (grow (redrawn wr d) os) (RetSame (.pointer (some ⟨bd,0,none⟩)) (grow (redrawn wr d) os))):=fun d os=>pdevice_any (HW.out.one.step (below_regrown wr d os))
        have hK:∀ d os,Calls Tryz.prog 14 #[.pointer (some ⟨bd,0,none⟩),.int .i64 (m:Int)] (grow (redrawn wr d) os) (RetSame (.string (t.v.d.peek m)) (grow (redrawn wr d) os)):=fun d os=>devpeek_any _ _ _ bd t.v.d m h32 (HW.out.one.step (below_regrown wr d os)).st.drv.dev
        have gA:=cell_regrown (HW.out.two.st.nowAt h32)
        have gB:=cell_regrown HW.out.two.cell.1
        generalize t.v.d.peek m=pk at hK gA
        have HK:=Lib.hid hK
        clear hK
        go_wp2_with fail
        refine wp_region_quiet_below mixed (by kernel_rfl) ?_
        repeat (first
         |go_big_quiet_step ((first | (go_at_call 13; exact Calls.rgSame (hP.out _ _)) | (go_at_call 14; exact Calls.rgSame (HK.out _ _))))
         |quiet_step ((first | (go_at_call 13; exact Calls.rgSame (hP.out _ _)) | (go_at_call 14; exact Calls.rgSame (HK.out _ _)))))
        refine wpQuiet_nil ?_
        intro _ hw'
        obtain ⟨⟨dq,osq⟩,hw''⟩:=hw'
        subst hw''
        have H4:=Lib.hid (below_regrown wr dq osq)
        clear gA gB HK hP
        generalize grow (redrawn wr dq) osq=w4 at H4 ⊢
        go_wp2_with fail
        go_roundw
        case rel=>exact ⟨m+1,by omega,by go_num,HB.out.trans (H4.out.mono HB.out.size)⟩
        case measure=>simp [intOf]; omega
       ·obtain rfl:m=32:=by omega
        have hi:((32:Nat):Int)=32:=rfl
        clear h32
        go_wp2_with fail
        go_roundw
        case rel=>exact ⟨k+1,c1',c2',b1',b2',x1',x2',by omega,by go_num,by rw [Hpm2.out]; exact HM.out.step HB.out⟩
        case measure=>simp [intOf]; omega
    ·have e0:decide (0<checkM z)=true:=decide_eq_true (by omega)
     have Hpm:Hid (playsM pst0 (l.take (k+1))=s):=show _=_ by rw [playsM_succ _ Hx.out,if_neg hch,Hs.out]
     clear hch
     go_wp2_with fail
     go_roundw
     case rel=>exact ⟨k+1,c1,c2,b1,b2,x1,x2,by omega,by go_num,by rw [Hpm.out]; exact h5.out.more (by omega) (by omega)⟩
     case measure=>simp [intOf]; omega
   ·obtain rfl:k=l.length:=by omega
    have hlt2:¬ (l.length:Int)<(l.length:Int):=by omega
    go_wp2_with fail
    go_ret
    exact ⟨rfl,HL.out.one.below⟩
end Go.Proofs.YtaeadmlgffaegaaGreatDoor
namespace Go.Proofs.YtaeadmlgffaegaaGreatDoor
open Go.RowKit Go.ChangeShapes
theorem envp_of {W:World} {L:List (String × DataW Unit)} (e:L=[("math/bits.deBruijn32tab",Rows.laid_math_bits_deBruijn32tab),("math/bits.deBruijn64tab",Rows.laid_math_bits_deBruijn64tab),("internal/strconv.uint64pow10",Rows.laid_internal_strconv_uint64pow10)]) (hL:laidMetH Tryz.prog L W):Env W:=by
 subst e
 rw [MakeChecks.laidMetH_plain _ _ _ (by kernel_rfl)] at hL
 have t2:=hL.tail.tail
 exact ⟨Lib.tabIs_of_head (g:=0) (t:=224) (e:=70) (n:=20) (by kernel_rfl) (by kernel_rfl) Tryz.underlying224 Tryz.underlying70 (by kernel_rfl) (by kernel_rfl) t2⟩
end Go.Proofs.YtaeadmlgffaegaaGreatDoor
