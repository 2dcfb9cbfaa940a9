/- How a player lies in memory, beside others: its own block has the colour 9; what others write has the colour 9 too. -/
import Derived.Test.YtagndjihiklmiaaGreatDoorQ41
set_option linter.unusedSimpArgs false
set_option linter.unusedVariables false
set_option maxRecDepth 100000
set_option maxHeartbeats 8000000
namespace Go.Proofs.YtagndjihiklmiaaGreatDoor
open Go.RowKit Go.Sort
abbrev tPl:TypeId:=89
abbrev tPr:TypeId:=56
structure PlAt (T:Tys) (tp:TypeId) (W0 w:World) (col:Nat→Nat) (p b bd N:Nat) (K:Int) (x:Sv) (s:St):Prop where
 st:StAt T col w b bd N x s
 inv:Inv s
 bnd:Bd K s
 k0:0≤K
 row:w.heap[p]?=some (.cells #[.pointer (some ⟨bd,0,none⟩),.pointer (some ⟨b,0,none⟩)] tp (0,0))
 c9:col p=9
 below:Below W0.heap.size W0 w
 own:∀ k,Fl col k→W0.heap.size≤k
 base:W0.heap.size≤p
def Pf (col:Nat→Nat) (p:Nat):Nat→Prop:=fun k=>Fl col k∨k=p
structure Pr (col col':Nat→Nat) (p:Nat) (w w':World):Prop where
 chg:Chg (Pf col p) w w'
 grow:∀ k,Fl col' k→Fl col k∨w.heap.size≤k
 nine:∀ k,col k=9→col' k=9
section
variable {T T2:Tys} {tp tp2:TypeId} {W0 w w' w2:World} {col col' col2:Nat→Nat} {p q b bd N M:Nat} {K L:Int} {x y:Sv} {s t:St}
theorem PlAt.step (h:PlAt T tp W0 w col p b bd N K x s) (hb:Below w.heap.size w w'):PlAt T tp W0 w' col p b bd N K x s :=
 ⟨h.st.below hb,h.inv,h.bnd,h.k0,(hb.block _ (Array.getElem?_eq_some_iff.1 h.row).1).trans h.row,h.c9,h.below.trans (hb.mono h.below.size),h.own,h.base⟩
theorem PlAt.cell (h:PlAt T tp W0 w col p b bd N K x s):w.cell? ⟨p,0,none⟩=some (.pointer (some ⟨bd,0,none⟩))∧w.cell? ⟨p,1,none⟩=some (.pointer (some ⟨b,0,none⟩)) :=
 ⟨cell_of_row _ _ 0 _ _ _ h.row,cell_of_row _ _ 1 _ _ _ h.row⟩
theorem PlAt.env (h:PlAt T tp W0 w col p b bd N K x s) (hE:Env W0):Env w:=hE.below h.below
theorem PlAt.mono (h:PlAt T tp W0 w col p b bd N K x s) (hn:N≤M) (hk:K≤L):PlAt T tp W0 w col p b bd M L x s :=
 ⟨h.st.moreN hn,h.inv,h.bnd.mono hk,Int.le_trans h.k0 hk,h.row,h.c9,h.below,h.own,h.base⟩
theorem Pr.rest (hb:Below w.heap.size w w'):Pr col col p w w':=⟨Chg.of_below hb,fun k hk=>.inl hk,fun k hk=>hk⟩
theorem PlAt.call (h:PlAt T tp W0 w col p b bd N K x s) (ha:StAt T col' w' b bd M y t) (hI:Inv t) (hB:Bd L t) (hL:0≤L) (hc:Chg (Fl col) w w') (hr:Rec col col' w w'):PlAt T tp W0 w' col' p b bd M L y t∧Pr col col' p w w':=by
 have hlt:=(Array.getElem?_eq_some_iff.1 h.row).1
 have hq:∀ k,col k=9→col' k=9:=fun k hk=>by
  have hl:k<w.heap.size:=h.st.lt k (by rw [hk]; decide);rw [hr.old k hl]; exact hk
 exact ⟨⟨ha,hI,hB,hL,(hc.block _ hlt (fun hf=>hf.2 h.c9)).trans h.row,hq _ h.c9,h.below.trans (hc.below h.own h.below.size),fun k hk=>(hr.grow k hk).elim (h.own k) (fun h1=>Nat.le_trans h.below.size h1),h.base⟩,
  ⟨hc.mono (fun k hk=>.inl hk),hr.grow,hq⟩⟩
theorem PlAt.five {v:Value} {e:Ending} (h:PlAt T tp W0 w col p b bd N K x s) (hr:Ret5 T col w b bd M t v e w') (hI:Inv t) (hB:Bd L t) (hL:0≤L):e=.returned v∧∃ col' y,PlAt T tp W0 w' col' p b bd M L y t∧Pr col col' p w w':=by
 obtain ⟨col',y,he,hst,hc,hrc⟩:=hr;exact ⟨he,col',y,h.call hst hI hB hL hc hrc⟩
theorem PlAt.two {v:Value} {e:Ending} (h:PlAt T tp W0 w col p b bd N K x s) (hr:Ret2 T col w b bd N x t v e w') (hI:Inv t) (hB:Bd L t) (hL:0≤L):e=.returned v∧∃ col' y,PlAt T tp W0 w' col' p b bd N L y t∧Pr col col' p w w':=by
 obtain ⟨y,he,hst,hc,_⟩:=hr;exact ⟨he,col,y,h.call hst hI hB hL (h.st.chg1 hc) .refl⟩
theorem PlAt.four {v:Value} {e:Ending} (h:PlAt T tp W0 w col p b bd N K x s) (hr:Ret4 T col w b bd N x t v e w') (hI:Inv t) (hB:Bd L t) (hL:0≤L):e=.returned v∧∃ col' y,PlAt T tp W0 w' col' p b bd N L y t∧Pr col col' p w w':=by
 obtain ⟨y,he,hst,hc,_⟩:=hr;exact ⟨he,col,y,h.call hst hI hB hL hc .refl⟩
theorem Pr.after {w3:World} {col3:Nat→Nat} (h:Pr col col' p w w') (h2:Pr col' col3 p w' w3) (hc9:col p=9):Pr col col3 p w w3:=by
 refine ⟨?_,fun k hk=>?_,fun k hk=>h2.nine k (h.nine k hk)⟩
 ·refine ⟨h2.chg.os.trans h.chg.os,h2.chg.tape.trans h.chg.tape,h2.chg.output.trans h.chg.output,Nat.le_trans h.chg.size h2.chg.size,fun k hk hn=>?_⟩
  refine (h2.chg.block k (Nat.lt_of_lt_of_le hk h.chg.size) (fun hf=>?_)).trans (h.chg.block k hk hn);rcases hf with hf | hf
  ·rcases h.grow k hf with h3 | h3
   ·exact hn (.inl h3)
   ·omega
  ·exact hn (.inr hf)
 ·rcases h2.grow k hk with h3 | h3
  ·exact h.grow k h3
  ·exact .inr (Nat.le_trans h.chg.size h3)
theorem Pr.before {w1:World} (h:Pr col col' p w1 w') (hb:Below w.heap.size w w1):Pr col col' p w w':=by
 refine ⟨?_,fun k hk=>(h.grow k hk).imp id (fun h3=>Nat.le_trans hb.size h3),h.nine⟩;exact ⟨h.chg.os.trans hb.os,h.chg.tape.trans hb.tape,h.chg.output.trans hb.output,Nat.le_trans hb.size h.chg.size,fun k hk hn=>(h.chg.block k (Nat.lt_of_lt_of_le hk hb.size) hn).trans (hb.block k hk)⟩
theorem PlAt.pf (h:PlAt T tp W0 w col p b bd N K x s):∀ k,Pf col p k→W0.heap.size≤k:=fun k hk=>hk.elim (h.own k) (fun e=>by rw [e]; exact h.base)
theorem PlAt.other {b2 bd2 N2:Nat} {K2:Int} {y2:Sv} {s2:St} (h:PlAt T tp W0 w col p b bd N K x s) {c2 c2':Nat→Nat} (hr:Pr c2 c2' q w w') (h2:PlAt T2 tp2 W0 w' c2' q b2 bd2 N2 K2 y2 s2) (ho:∀ k,Pf c2 q k→W0.heap.size≤k) (hd:∀ k,Pf c2 q k→col k=9) (hd2:∀ k,Pf col p k→c2 k=9) (hpq:p≠q) :
  ∃ col',PlAt T tp W0 w' col' p b bd N K x s∧(∀ k,Pf c2' q k→col' k=9)∧(∀ k,Pf col' p k→c2' k=9)∧∀ k,Fl col' k→Fl col k:=by
 classical
 have hpl:=(Array.getElem?_eq_some_iff.1 h.row).1
 have hP:∀ k,(w.heap.size≤k∧Fl c2' k)→w.heap.size≤k∧k<w'.heap.size:=fun k hk=>⟨hk.1,h2.st.lt k hk.2.1⟩
 have hst:=h.st.far9 hr.chg hd (fun k=>w.heap.size≤k∧Fl c2' k) hP
 obtain ⟨col',hcol⟩:∃ f:Nat→Nat,(fun k=>if w.heap.size≤k∧Fl c2' k then 9 else col k)=f:=⟨_,rfl⟩
 have hc:∀ k,col' k=if w.heap.size≤k∧Fl c2' k then 9 else col k:=fun k=>by rw [← hcol]
 rw [hcol] at hst;clear hcol
 have hF:∀ k,Fl col' k→Fl col k:=fun k hk=>by
  obtain ⟨h1,h2⟩:=hk;rw [hc] at h1 h2;by_cases e:w.heap.size≤k∧Fl c2' k
  ·rw [if_pos e] at h2; exact absurd rfl h2
  ·rw [if_neg e] at h1 h2; exact ⟨h1,h2⟩
 have hn:∀ k,col k=9→col' k=9:=fun k hk=>by
  rw [hc]
  split
  ·rfl
  ·exact hk
 have hpn:¬ Pf c2 q p:=fun e=>by
  rcases e with e | e
  ·exact e.2 (hd2 p (.inr rfl))
  ·exact hpq e
 refine ⟨col',⟨hst,h.inv,h.bnd,h.k0,(hr.chg.block p hpl hpn).trans h.row,hn _ h.c9,h.below.trans (hr.chg.below ho h.below.size),fun k hk=>h.own k (hF k hk),h.base⟩,fun k hk=>?_,fun k hk=>?_,hF⟩
 ·rcases hk with hk | rfl
  ·by_cases hl:w.heap.size≤k
   ·rw [hc,if_pos ⟨hl,hk⟩]
   ·rcases hr.grow k hk with h3 | h3
    ·exact hn _ (hd k (.inl h3))
    ·exact absurd h3 hl
  ·exact hn _ (hd _ (.inr rfl))
 ·refine hr.nine k (hd2 k ?_)
  rcases hk with hk | hk
  ·exact .inl (hF k hk)
  ·exact .inr hk
theorem PlAt.crashed {u1 u2 u3:World} {m b2:Nat} {y2:Sv} (h:PlAt T tp W0 w col p b bd N K x s) (hc:Chg (Fd col) w u1) (hs:StAt T col2 u2 b2 bd 0 y2 (St.new (s.v.d.crash m))) (hb:Below u1.heap.size u1 u2)
  (hfl:∀ k,Fl col2 k→Fd col k∨u1.heap.size≤k) (hu:Same1 p u2 u3) (hrow:u3.heap[p]?=some (.cells #[.pointer (some ⟨bd,0,none⟩),.pointer (some ⟨b2,0,none⟩)] tp (0,0))) (hB:Bd 0 (St.new (s.v.d.crash m))) :
  ∃ col',PlAt T tp W0 u3 col' p b2 bd 0 0 y2 (St.new (s.v.d.crash m))∧Pr col col' p w u3:=by
 classical
 have hpl:=(Array.getElem?_eq_some_iff.1 h.row).1;have hp1:p<u1.heap.size:=Nat.lt_of_lt_of_le hpl hc.size;have hs':=hs.blank rfl (fun k=>k<u1.heap.size∧¬ Fd col k) (fun k hk=>⟨fun hf=>(hfl k hf).elim hk.2 (fun e=>by omega),Nat.lt_of_lt_of_le hk.1 hb.size⟩)
 obtain ⟨col',hcol⟩:∃ f:Nat→Nat,(fun k=>if k<u1.heap.size∧¬ Fd col k then 9 else col2 k)=f:=⟨_,rfl⟩
 have hcc:∀ k,col' k=if k<u1.heap.size∧¬ Fd col k then 9 else col2 k:=fun k=>by rw [← hcol]
 rw [hcol] at hs';clear hcol;have hpF:¬ Fd col p:=fun e=>by have e:col p=4:=e; rw [h.c9] at e; cases e
 have h9:col' p=9:=by rw [hcc,if_pos ⟨hp1,hpF⟩]
 have hF:∀ k,Fl col' k→Fd col k∨u1.heap.size≤k:=fun k hk=>by
  obtain ⟨h1,h2⟩:=hk;rw [hcc] at h1 h2;by_cases e:k<u1.heap.size∧¬ Fd col k
  ·rw [if_pos e] at h2; exact absurd rfl h2
  ·rw [if_neg e] at h1 h2; exact hfl k ⟨h1,h2⟩
 have hFF:∀ k,Fd col k→Fl col k:=fun k (hk:col k=4)=>⟨by rw [hk]; decide,by rw [hk]; decide⟩
 have hst:StAt T col' u3 b2 bd 0 y2 (St.new (s.v.d.crash m)):=by
  have:=hs'.far9 (F:=fun k=>k=p) (hu.chg rfl) (fun k hk=>by rw [hk]; exact h9) (fun _=>False) (fun k hk=>hk.elim)
  simpa using this
 have hch:Chg (Pf col p) w u3:=by
  refine ⟨?_,?_,?_,?_,fun k hk hn=>?_⟩
  ·exact (hu.os.trans hb.os).trans hc.os
  ·exact (hu.tape.trans hb.tape).trans hc.tape
  ·exact (hu.output.trans hb.output).trans hc.output
  ·rw [hu.size]; exact Nat.le_trans hc.size hb.size
  ·exact ((hu.block k (fun e=>hn (.inr e))).trans (hb.block k (Nat.lt_of_lt_of_le hk hc.size))).trans (hc.block k hk (fun e=>hn (.inl (hFF k e))))
 exact ⟨col',⟨hst,Inv.new (h.inv.dv.crash _) rfl,hB,Int.le_refl _,hrow,h9,h.below.trans (hch.below h.pf h.below.size),fun k hk=>(hF k hk).elim (fun e=>h.own k (hFF k e)) (fun e=>Nat.le_trans h.below.size (Nat.le_trans hc.size e)),h.base⟩,
  ⟨hch,fun k hk=>(hF k hk).imp (hFF k) (fun e=>Nat.le_trans hc.size e),fun k hk=>by
   have hkF:¬ Fd col k:=fun e=>by have e:col k=4:=e; rw [hk] at e; cases e
   have hkl:=h.st.lt k (by rw [hk]; decide)
   rw [hcc,if_pos ⟨Nat.lt_of_lt_of_le hkl hc.size,hkF⟩]⟩⟩
theorem PlAt.made {w1 w2 w3:World} {F:Nat→Prop} {d:Dv} (hW:Below W0.heap.size W0 w) (hs:StAt T col w2 b bd 0 x (St.new d)) (hl:d.l=[]) (hd:DvOk d) (hw:d.waits=[]) (hb:Below w.heap.size w w2) (hfl:∀ k,Fl col k→w.heap.size≤k)
  (hb3:Below w2.heap.size w2 w3) (hp:w2.heap.size≤p) (hrow:w3.heap[p]?=some (.cells #[.pointer (some ⟨bd,0,none⟩),.pointer (some ⟨b,0,none⟩)] tp (0,0))) (hB:Bd 0 (St.new d)) :
  ∃ col',PlAt T tp W0 w3 col' p b bd 0 0 x (St.new d)∧(∀ k,k<w.heap.size→col' k=9)∧(∀ k,Pf col' p k→w.heap.size≤k):=by
 classical
 have hpl:=(Array.getElem?_eq_some_iff.1 hrow).1;have h0:=hs.s0 p hp;have hs':=(hs.below hb3).blank hl (fun k=>k<w.heap.size∨k=p) (fun k hk=>hk.elim (fun e=>⟨fun hf=>by have:=hfl k hf; omega,Nat.lt_of_lt_of_le e (Nat.le_trans hb.size hb3.size)⟩) (fun e=>by rw [e]; exact ⟨fun hf=>hf.1 h0,hpl⟩))
 obtain ⟨col',hcol⟩:∃ f:Nat→Nat,(fun k=>if k<w.heap.size∨k=p then 9 else col k)=f:=⟨_,rfl⟩
 have hcc:∀ k,col' k=if k<w.heap.size∨k=p then 9 else col k:=fun k=>by rw [← hcol]
 rw [hcol] at hs';clear hcol
 have hF:∀ k,Fl col' k→w.heap.size≤k:=fun k hk=>by
  rcases Nat.lt_or_ge k w.heap.size with hlt | hge
  ·exact absurd (by rw [hcc,if_pos (.inl hlt)]) hk.2
  ·exact hge
 have hpw:w.heap.size≤p:=Nat.le_trans hb.size hp
 exact ⟨col',⟨hs',Inv.new hd hl,hB,Int.le_refl _,hrow,by rw [hcc,if_pos (.inr rfl)],hW.trans ((hb.trans (hb3.mono hb.size)).mono hW.size),fun k hk=>Nat.le_trans hW.size (hF k hk),Nat.le_trans hW.size hpw⟩,
  fun k hk=>by rw [hcc,if_pos (.inl hk)],fun k hk=>hk.elim (hF k) (fun e=>by rw [e]; exact hpw)⟩
end
end Go.Proofs.YtagndjihiklmiaaGreatDoor
namespace Go.Proofs.YtagndjihiklmiaaGreatDoor
open Go.RowKit Go.Sort
def txs (l:List Rq) (k:Nat):List ByteArray:=(l.take k).map textP
theorem txs_succ {l:List Rq} {k:Nat} {x:Rq} (h:l[k]?=some x):txs l (k+1)=txs l k ++ [textP x]:=by
 unfold txs; rw [List.take_add_one,h]; simp
theorem txs_len {l:List Rq} {k:Nat} (h:k≤l.length):(txs l k).length=k:=by unfold txs; simp; omega
theorem txs_size {S:Nat→Prop} {w:World} {l:List Rq} {v:Value} (h:ReqsAt S w v l) (hok:∀ r ∈ l,ReqOk r):∀ x ∈ txs l l.length,x.size≤300:=fun x hx=>by
 unfold txs at hx;obtain ⟨y,hy,rfl⟩:=List.mem_map.1 hx;have hy:=List.mem_of_mem_take hy;obtain ⟨cs,rfl,_,hc⟩:=h;obtain ⟨c,hcm,rfl⟩:=List.mem_map.1 hy;have h1:=hc c hcm;have h2:=(hok _ hy).tags;exact textP_size (fun x hx=>h1.tags.2 x hx) h1.lo h1.many (Nat.le_trans h2.2 (by decide))
theorem texts_any (S:Nat→Prop) (l:List Rq) (v:Value) (w:World) (h:ReqsAt S w v l) (hl:l.length≤6) (hok:∀ r ∈ l,ReqOk r) (hE:Env w) :
  Calls Tryz.prog 52 #[v] w (Ret (.string (textsM l)) w):=by
 obtain ⟨i0,hi0,hz0,hz1,hz2⟩:=info_parts ptrInfo;obtain ⟨A,cap,rfl,_,hcap⟩:=h.form;have Hsz:=Lib.hid (txs_size h hok);have H:=Lib.hid h;have HE:=Lib.hid hE;have Hok:=Lib.hid hok;clear h hE hok;go_enter Tryz.func52,Tryz.ntmps52;go_wp2_with fail;go_loopw [3,8] (fun v i wr=>∃ (k:Nat),k≤l.length∧i=.int .i64 k∧Below w.heap.size w wr∧Hid (wr.ownsRow w.heap.size 9 1 v k ((txs l k).map .string))) (fun _ i _=>l.length - (intOf i).toNat)
 case atStart=>exact ⟨0,by omega,rfl,Below.refl _ _,World.ownsRow_nil _ _ _ _⟩
 case round =>
  obtain ⟨k,hk,rfl,hb,HO⟩:=hrel;by_cases hlt:k<l.length
  ·obtain ⟨b,off,rfl,_,_,hc⟩:=(H.out.below hb).at_ (by omega)
   have hx:l[k]?=some l[k]:=List.getElem?_eq_getElem hlt;obtain ⟨Ad,cd,At,ct,hreq,c0,c1,c2,c3,c4,c5⟩:=hc k _ hx;have Hx:=Lib.hid hx;have Hreq:=Lib.hid hreq;have Hr:=Lib.hid (Hok.out _ (List.mem_of_getElem? hx));clear hx hc hreq;generalize l[k]=r at *;have hk1:(k:Int)<(l.length:Int):=by omega
   have Hdec:=Lib.hid (txs_succ Hx.out);have Hd:=Lib.hid (fun v w h hE=>textp_any S r v w h (Nat.le_trans Hr.out.tags.2 (by decide)) hE);generalize textP r=dx at *;go_wp2_with fail;have L:=(Lay.refl wr).alloc' wr.heap.size #[Value.bool r.write,Value.int IntKind.i64 r.lo,Value.int IntKind.i64 r.many,Value.slice Ad r.data.length cd,Value.slice At r.tags.length ct,Value.int IntKind.i64 r.born] 117 rfl;generalize World.alloc _ _=W at L ⊢;have hw0:=hb.trans (L.below.mono hb.size);refine (Hd.out _ W (Hreq.out.below L.below) (HE.out.below hw0)).mono ?_;rintro e w1 ⟨rfl,hb1⟩;have hbr:=(Below.refl w1.heap.size w1).alloc (Nat.le_refl _) (Obj.cells #[Value.string dx] 9);have hw1:=hw0.trans (hb1.mono hw0.size);have hwb:=hw1.trans (hbr.mono hw1.size);have hb2:=hb1.trans (hbr.mono hb1.size)
   have hba:=(L.below.trans (hb2.mono L.below.size):Below wr.heap.size wr _)
   have HO1:=Lib.hid (own_keepL HO.out (fun g _ hg=>hba.block g hg));have Hrow:=Lib.hid (rd_row1 w1 (.string dx) 9);have Hwb:=Lib.hid hwb;clear hbr hba hwb hb2 c0 c1 c2 c3 c4 c5 L;go_wp2_with (at_builtin; refine wpList_append_rd (S:=fun _=>True) _ rfl (.tmp 12) (.tmp 15) _ rfl w.heap.size 9 i0 _ 1 16 Tryz.underlying22 hi0 hz0 hz1 hz2 rfl (by omega) _ k ((txs l k).map .string) rfl HO1.out _ 1 _ rfl Hrow.out (fun u hu=>by simp at hu; subst hu; rfl) (by simp only [maxLen]; omega) (by omega) Hwb.out.size ?_; intro v5 w5 hown5 hg5 hat5);have HB5:=Lib.hid (Hwb.out.grown hg5 Hwb.out.size (fun k hk=>(HO1.out.lt k hk).1));have HO5:=Lib.hid hown5;clear hown5 hg5 hat5;go_roundw
   case rel=>exact ⟨k+1,by omega,by go_num,HB5.out,by show World.ownsRow _ _ _ _ _ _ _; rw [Hdec.out,List.map_append]; exact HO5.out⟩
   case measure=>simp [intOf]; omega
  ·obtain rfl:k=l.length:=by omega
   have hj:(joinP (txs l l.length) 32).size≤2000:=by
    have:=joinP_size (txs l l.length) 32 300 Hsz.out;rw [txs_len (Nat.le_refl _)] at this;have h4:l.length * (300+1)≤6 * 301:=Nat.mul_le_mul hl (Nat.le_refl _);omega
   obtain ⟨A6,c6,rfl⟩:=own_slice HO.out;have hk1:¬ (l.length:Int)<(l.length:Int):=by omega
   by_cases h0:l=[]
   ·have HT:Hid (textsM l=⟨#[45]⟩):=show _=_ by unfold textsM; rw [if_pos h0]; rfl
    have hz:((l.length:Int) == 0)=true:=by rw [h0]; rfl
    clear h0 hj;go_wp2_with fail;go_ret;rw [HT.out];exact ⟨rfl,hb⟩
   ·have HT:Hid (textsM l=joinP (txs l l.length) 32):=show _=_ by unfold textsM txs; rw [if_neg h0,List.take_length]
    have hz:((l.length:Int) == 0)=false:=by
     have:=List.length_pos_iff.2 h0;simp only [beq_eq_false_iff_ne]; omega
    have Hil:=Lib.hid (txs_len (l:=l) (Nat.le_refl _));have Hjo:=Lib.hid (fun hN=>joinp_own (32:UInt8) HO.out Hil.out hN (by omega));have Hj:=Lib.hid hj;clear h0 hj;go_wp2_with fail;refine (Hjo.out (Nat.le_trans Hj.out (by decide))).mono ?_;rintro e w7 ⟨rfl,hb7⟩;go_wp2_with fail;go_ret;rw [HT.out];exact ⟨rfl,hb.trans (hb7.mono hb.size)⟩
theorem got_err {s:St} (h:Inv s) (c:Nat):(s.got c).2≤9:=by
 unfold St.got
 split
 ·exact Nat.zero_le _
 ·show s.errs.getD c 0≤9
  rw [List.getD_eq_getElem?_getD]
  cases he:s.errs[c]? with
  |none=>exact Nat.zero_le _
  |some e=>exact h.errs.2 e (List.mem_of_getElem? he)
theorem got_size {s:St} (h:Inv s) (c:Nat):(s.got c).1.size≤16:=by
 unfold St.got
 split
 ·show (s.done.getD c noB).size≤16
  rw [List.getD_eq_getElem?_getD]
  cases he:s.done[c]? with
  |none=>exact noB16
  |some e=>exact h.done.2 e (List.mem_of_getElem? he)
 ·exact noB16
theorem pgot_any (W0:World) (col:Nat→Nat) (w:World) (p b bd N:Nat) (x:Sv) (s:St) (K:Int) (a:Int) (h:PlAt Ts tPl W0 w col p b bd N K x s) (hE:Env W0) (ha:0≤a) :
  Calls Tryz.prog 43 #[.pointer (some ⟨p,0,none⟩),.int .i64 a] w (Ret (.string (gotM s a)) w):=by
 have H:=Lib.hid h;have HE:=Lib.hid (h.env hE);obtain ⟨c0,c1⟩:=h.cell;clear h hE;go_enter Tryz.func43,Tryz.ntmps43;by_cases h3:3≤a
 ·have HT:Hid (gotM s a=doneB 5):=show _=_ by unfold gotM; rw [if_pos h3]
  have e5:Value.iface 38 (.int .i64 5)=errV 5:=rfl;go_wp2_with fail;refine (done_any 5 w (by decide) HE.out).mono ?_;rintro e w1 ⟨rfl,hb1⟩;go_wp2_with fail;go_ret;rw [HT.out];exact ⟨rfl,hb1⟩
 ·obtain ⟨c,rfl⟩:=Int.eq_ofNat_of_zero_le ha
  have hc:c<3:=by omega
  have hn:gotM s (c:Int)=if (s.askAt c).isSome then p_waitsB else if (s.got c).2≠0 then doneB (s.got c).2 else p_dataB ++ (s.got c).1:=by
   unfold gotM; rw [if_neg h3,Int.toNat_natCast]
  have HN:=Lib.hid hn;clear hn;go_wp2_with fail;refine (waits_any col w b bd N x s c H.out.st hc).mono ?_;rintro e w1 ⟨rfl,rfl⟩
  cases ho:(s.askAt c).isSome with
  |true =>
   have HT:Hid (gotM s (c:Int)=⟨#[119,97,105,116,115]⟩):=show _=_ by rw [HN.out,ho]; rfl
   clear ho;go_wp2_with fail;go_ret;rw [HT.out];exact ⟨rfl,Below.refl _ _⟩
  |false =>
   have Ho:=Lib.hid ho;clear ho;go_wp2_with fail;refine (got_any col w b bd N x s c H.out.st hc).mono ?_;rintro e w1 ⟨rfl,hb1⟩;have g9:=got_err H.out.inv c;have g16:=got_size H.out.inv c;by_cases he:(s.got c).2=0
   ·have HT:Hid (gotM s (c:Int)=(⟨#[100,97,116,97,32]⟩:ByteArray) ++ (s.got c).1):=show _=_ by rw [HN.out,Ho.out,he]; rfl
    rw [he,errV_zero];clear he g9;generalize (s.got c).1=d at *;have z1:¬ (9223372036854775807<5+d.size):=by omega
    go_wp2_with fail;go_ret;rw [HT.out];exact ⟨rfl,hb1⟩
   ·have HT:Hid (gotM s (c:Int)=doneB (s.got c).2):=show _=_ by rw [HN.out,Ho.out,if_neg (by decide),if_pos he]
    rw [errV_pos he];generalize (s.got c).2=n at *;have HV:Hid (Value.iface 38 (.int .i64 (n:Int))=errV n):=show _=_ from (errV_pos he).symm;generalize (s.got c).1=d at *;clear he;go_wp2_with fail;rw [HV.out];refine (done_any n w1 (by omega) (HE.out.below hb1)).mono ?_;rintro e w2 ⟨rfl,hb2⟩;go_wp2_with fail;go_ret;rw [HT.out];exact ⟨rfl,hb1.trans (hb2.mono hb1.size)⟩
end Go.Proofs.YtagndjihiklmiaaGreatDoor
namespace Go.Proofs.YtagndjihiklmiaaGreatDoor
open Go.RowKit Go.Sort
theorem decN_dec:∀ n:Nat,decN n=⟨(Lib.decDigits n).toArray⟩:=by
 intro n
 induction n using Nat.strongRecOn with
 |_ n ih =>
  by_cases h:n<10
  ·rw [decN_small h,Lib.decDigits,dif_pos h]; rfl
  ·rw [decN_big h,Lib.decDigits,dif_neg h,ih (n / 10) (by omega)]
   apply Go.WideShapes.bytes_inj;show (ByteArray.data (_ ++ _)).toList=_;rw [ByteArray.data_append];simp [digit]
theorem decI_neg {m:Nat} (h:0<m):decI (-(m:Int))=dash ++ decN m:=by
 unfold decI;by_cases h9:9<m
 ·rw [if_pos (by omega),decN_big (n:=m) (by omega),← decN_small (n:=m % 10) (by omega)]
  have e1:(-((-(m:Int)).tdiv 10)).toNat=m / 10:=by rw [Int.neg_tdiv,Int.tdiv_eq_ediv_of_nonneg (by omega)]; omega
  have e2:(-((-(m:Int)).tmod 10)).toNat=m % 10:=by rw [Int.neg_tmod,Int.tmod_eq_emod_of_nonneg (by omega)]; omega
  rw [e1,e2,ByteArray.append_assoc]
 ·rw [if_neg (by omega),if_pos (by omega)]
  have e1:(- -(m:Int)).toNat=m:=by omega
  rw [e1]
theorem decI_itoa (n:Int):decI n=itoaB n:=by
 rcases Int.lt_or_le n 0 with h | h
 ·obtain ⟨m,rfl⟩:∃ m:Nat,n = -(m:Int):=⟨(-n).toNat,by omega⟩
  rw [decI_neg (by omega),decN_dec];unfold itoaB Lib.itoa;rw [if_pos h];have e1:(-(m:Int)).natAbs=m:=by omega
  rw [e1];apply Go.WideShapes.bytes_inj;show (ByteArray.data (_ ++ _)).toList=_;rw [ByteArray.data_append];simp [dash]
 ·obtain ⟨m,rfl⟩:∃ m:Nat,n=m:=⟨n.toNat,by omega⟩
  unfold decI itoaB Lib.itoa;rw [if_neg (by omega),if_neg (by omega),if_neg (by omega),decN_dec]
theorem rdec_any (n:Int) (w:World) (h0 : -9223372036854775808≤n) (h1:n≤9223372036854775807):Calls Tryz.prog 30 #[.int .i64 n] w (Ret (.string (itoaB n)) w):=by
 rw [← decI_itoa n];exact dec_any n w h0 h1
theorem rdone_any (n:Nat) (w:World) (hn:n≤1000):Calls Tryz.prog 20 #[.int .i64 (n:Int)] w (Ret (.string (doneB n)) w):=by
 by_cases h:n=0
 ·subst h
  have e:doneB 0=⟨#[111,107]⟩:=rfl;rw [e];go_enter Tryz.func20,Tryz.ntmps20;go_wp2;go_ret;exact ⟨rfl,Below.refl _ _⟩
 ·have e:doneB n=(⟨#[101,114,114,111,114,32]⟩:ByteArray) ++ itoaB n:=by unfold doneB; rw [if_neg h]; rfl
  have hs:=itoaB_size (n:Int) (by omega) (by omega);have h0:decide ((0:Int)<n)=true:=decide_eq_true (by omega);rw [e];clear e;have Hi:=Lib.hid (rdec_any (n:Int) w (by omega) (by omega));generalize itoaB (n:Int)=d at *;have z1:¬ (9223372036854775807<6+d.size):=by omega
  go_enter Tryz.func20,Tryz.ntmps20;go_wp2_with fail;refine Hi.out.mono ?_;rintro e w1 ⟨rfl,hb⟩;go_wp2;go_ret;exact ⟨rfl,hb⟩
theorem ryes_any (b:Bool) (w:World):Calls Tryz.prog 24 #[.bool b] w (Ret (.string (yesB b)) w):=by
 cases b
 all_goals
  go_enter Tryz.func24,Tryz.ntmps24;go_wp2;go_ret;exact ⟨rfl,Below.refl _ _⟩
theorem join_snoc (xs:List (List UInt8)) (y sep:List UInt8) (h:xs≠[]):Lib.join (xs ++ [y]) sep=Lib.join xs sep ++ sep ++ y:=by
 induction xs with
 |nil=>exact absurd rfl h
 |cons a r ih =>
  cases r with
  |nil=>simp [Lib.join,List.intercalate]
  |cons b r =>
   have:=ih (by simp);simp only [Lib.join,List.intercalate,List.cons_append,List.intersperse] at this ⊢;simp at this ⊢;rw [this]
section
variable {xs ys:List ByteArray} {y st hd:ByteArray} {c:UInt8}
theorem jst0 (h:ys=xs ++ [y]) (hx:xs=[]) (hs:st=hd ++ joinP xs c):st ++ y=hd ++ joinP ys c:=by
 subst h hx hs;apply Go.WideShapes.bytes_inj;simp [joinP,Lib.join,List.intercalate]
theorem jst (h:ys=xs ++ [y]) (hx:xs≠[]) (hs:st=hd ++ joinP xs c):st ++ ⟨#[c]⟩ ++ y=hd ++ joinP ys c:=by
 subst h hs;apply Go.WideShapes.bytes_inj;simp [joinP,join_snoc _ _ _ (show xs.map (·.data.toList)≠[] by simpa using hx)]
end
theorem itoas_nil {l:List Int} {k:Nat} (h:k≤l.length):itoas l k=[]↔k=0:=by
 rw [← List.length_eq_zero_iff,itoas_len h]
theorem txs_nil {l:List Rq} {k:Nat} (h:k≤l.length):txs l k=[]↔k=0:=by
 rw [← List.length_eq_zero_iff,txs_len h]
theorem rreqtext_any (S:Nat→Prop) (r:Rq) (v:Value) (w:World) (h:ReqAt S w v r) (ht:r.tags.length≤8) :
  Calls Tryz.prog 71 #[v] w (Ret (.string (textP r)) w):=by
 obtain ⟨Ad,cd,At,ct,rfl,_,hat,_,_,⟨l1,l2⟩,⟨m1,m2⟩,_⟩:=h.opened;have Ht:=Lib.hid hat;clear hat h;have s1:=itoaB_size r.lo l1 l2;have s2:=itoaB_size r.many m1 m2;have Hl:=Lib.hid (fun w=>rdec_any r.lo w l1 l2);have Hm:=Lib.hid (fun w=>rdec_any r.many w m1 m2);have hT:textP r=(kindP r.write ++ ((itoaB r.lo ++ ⟨#[43]⟩) ++ itoaB r.many)) ++ ⟨#[35]⟩ ++ joinP (itoas r.tags r.tags.length) 44:=rfl;generalize textP r=tr at hT ⊢;generalize itoaB r.lo=dl at *;generalize itoaB r.many=dm at *
 obtain ⟨hd,hh⟩:∃ hd:ByteArray,kindP r.write ++ dl ++ ⟨#[43]⟩ ++ dm ++ ⟨#[35]⟩=hd:=⟨_,rfl⟩
 have hT:Hid (tr=hd ++ joinP (itoas r.tags r.tags.length) 44):=show _=_ by rw [hT,← hh]; simp only [ByteArray.append_assoc]
 have hhs:hd.size≤90:=by
  have e:(kindP r.write).size=1:=by unfold kindP; split <;> rfl
  rw [← hh]; simp only [ByteArray.size_append,e]; show 1+_+1+_+1≤_; omega
 cases hw:r.write
 all_goals
  rw [hw] at hh;simp only [kindP,reduceIte,Bool.false_eq_true] at hh;have Hh:=Lib.hid hh;clear hh;go_enter Tryz.func71,Tryz.ntmps71;go_wp2_with fail;have L:=(Lay.refl w).alloc' w.heap.size #[Value.bool r.write,Value.int IntKind.i64 r.lo,Value.int IntKind.i64 r.many,Value.slice Ad r.data.length cd,Value.slice At r.tags.length ct,Value.int IntKind.i64 r.born] 117 rfl;rw [hw] at L;generalize World.alloc _ _=W at L ⊢;obtain ⟨c0,c1,c2,c3,c4,c5⟩:=L.c6 0 rfl;have c1:=cell_regrown c1;have c2:=cell_regrown c2;have z1:¬ (9223372036854775807<1+dl.size):=by omega
  have z2:¬ (9223372036854775807<1+dl.size+1):=by omega
  have z3:¬ (9223372036854775807<1+dl.size+1+dm.size):=by omega
  have z4:¬ (9223372036854775807<1+dl.size+1+dm.size+1):=by omega
  refine wp_region_quiet_below mixed (by kernel_rfl) ?_;repeat (quiet_step (first | (go_at_call 30; first | (with_reducible exact Calls.rg (Hl.out _)) | (with_reducible exact Calls.rg (Hm.out _)))))
  refine wpQuiet_nil ?_;intro _ hw';obtain ⟨⟨dq,osq⟩,hw''⟩:=hw';subst hw'';have L2:=L.step (below_regrown W dq osq);generalize grow (redrawn W dq) osq=W2 at L2 ⊢;clear c0 c1 c2 c3 c4 c5 L z1 z2 z3 z4;have HL:=Lib.hid L2;clear L2;go_wp2_with fail;rw [Hh.out];go_loopw [3,4] (fun s i wr=>∃ (k:Nat) (st:ByteArray),k≤r.tags.length∧i=.int .i64 k∧s=.string st∧st.size≤90+50 * k∧Below W2.heap.size W2 wr∧Hid (st=hd ++ joinP (itoas r.tags k) 44)) (fun _ i _=>r.tags.length - (intOf i).toNat)
  case atStart=>exact ⟨0,hd,by omega,rfl,rfl,by omega,Below.refl _ _,by apply Go.WideShapes.bytes_inj; simp [itoas,joinP,Lib.join,List.intercalate]⟩
  case round =>
   obtain ⟨k,st,hk,rfl,rfl,hst,hb,hs⟩:=hrel;obtain ⟨c0,c1,c2,c3,c4,c5⟩:=(HL.out.step hb).c6 0 rfl;by_cases hlt:k<r.tags.length
   ·obtain ⟨b,off,rfl,_,_,hc⟩:=((Ht.out.below HL.out.below).below hb).at_ (by omega)
    have hx:r.tags[k]?=some r.tags[k]:=List.getElem?_eq_getElem hlt;obtain ⟨hcell,hx1,hx2⟩:=hc k _ hx;have Hx:=Lib.hid (itoas_succ hx);clear hx hc;generalize r.tags[k]=x at *;have hk1:(k:Int)<(r.tags.length:Int):=by omega
    have hds:=itoaB_size x hx1 hx2;have Hd:=Lib.hid (fun w=>rdec_any x w hx1 hx2);generalize itoaB x=dx at *;have y0:¬ (9223372036854775807<st.size+1):=by omega
    have y1:¬ (9223372036854775807<st.size+dx.size):=by omega
    have y3:¬ (9223372036854775807<st.size+1+dx.size):=by omega
    by_cases hk0:k=0
    ·have HN:=Lib.hid ((itoas_nil (l:=r.tags) hk).2 hk0)
     have y2:decide (0<k)=false:=by simp; omega
     clear hk0;go_wp2_with fail;refine (Hd.out _).mono ?_;rintro e w1 ⟨rfl,hb1⟩;go_wp2_with fail;go_roundw
     case rel=>exact ⟨k+1,_,by omega,by go_num,rfl,by rw [ByteArray.size_append]; omega,hb.trans (hb1.mono hb.size),jst0 Hx.out HN.out hs.out⟩
     case measure=>simp [intOf]; omega
    ·have HN:=Lib.hid (mt (itoas_nil (l:=r.tags) hk).1 hk0)
     have y2:decide (0<k)=true:=by simp; omega
     go_wp2_with fail;refine (Hd.out _).mono ?_;rintro e w1 ⟨rfl,hb1⟩;go_wp2_with fail;go_roundw
     case rel=>exact ⟨k+1,_,by omega,by go_num,rfl,by rw [ByteArray.size_append,ByteArray.size_append]; show _+1+_≤_; omega,hb.trans (hb1.mono hb.size),jst Hx.out HN.out hs.out⟩
     case measure=>simp [intOf]; omega
   ·obtain rfl:k=r.tags.length:=by omega
    go_wp2_with fail;go_ret;exact ⟨congrArg (fun t=>Ending.returned (Value.string t)) (hs.out.trans hT.out.symm),HL.out.below.trans (hb.mono HL.out.size)⟩
theorem textP_pos (r:Rq):0<(textP r).size:=by
 unfold textP;simp only [ByteArray.size_append];have:(⟨#[35]⟩:ByteArray).size=1:=rfl;omega
theorem rtexts_any (S:Nat→Prop) (l:List Rq) (v:Value) (w:World) (h:ReqsAt S w v l) (hl:l.length≤6) (hok:∀ r ∈ l,ReqOk r) :
  Calls Tryz.prog 31 #[v] w (Ret (.string (textsM l)) w):=by
 obtain ⟨A,cap,rfl,_,hcap⟩:=h.form;have Hsz:=Lib.hid (txs_size h hok);have H:=Lib.hid h;have Hok:=Lib.hid hok;clear h hok;go_enter Tryz.func31,Tryz.ntmps31;go_wp2_with fail;go_loopw [3,4] (fun s i wr=>∃ (k:Nat) (st:ByteArray),k≤l.length∧i=.int .i64 k∧s=.string st∧st.size≤400 * k∧k≤st.size∧Below w.heap.size w wr∧Hid (st=⟨#[]⟩ ++ joinP (txs l k) 32)) (fun _ i _=>l.length - (intOf i).toNat)
 case atStart=>exact ⟨0,⟨#[]⟩,by omega,rfl,rfl,Nat.le_refl _,Nat.le_refl _,Below.refl _ _,by apply Go.WideShapes.bytes_inj; simp [txs,joinP,Lib.join,List.intercalate]⟩
 case round =>
  obtain ⟨k,st,hk,rfl,rfl,hst,hsk,hb,hs⟩:=hrel;by_cases hlt:k<l.length
  ·obtain ⟨b,off,rfl,_,_,hc⟩:=(H.out.below hb).at_ (by omega)
   have hx:l[k]?=some l[k]:=List.getElem?_eq_getElem hlt;obtain ⟨Ad,cd,At,ct,hreq,c0,c1,c2,c3,c4,c5⟩:=hc k _ hx;have Hreq:=Lib.hid hreq;have Hr:=Lib.hid (Hok.out _ (List.mem_of_getElem? hx));have Hdec:=Lib.hid (txs_succ hx);have hzs:=Hsz.out (textP l[k]) (by unfold txs; rw [List.take_length]; exact List.mem_map_of_mem (List.mem_of_getElem? hx));have hzp:=textP_pos l[k];clear hx hc hreq;generalize l[k]=r at *;have hk1:(k:Int)<(l.length:Int):=by omega
   have Hd:=Lib.hid (fun v w h=>rreqtext_any S r v w h (Nat.le_trans Hr.out.tags.2 (by decide)));generalize textP r=dx at *;have y0:¬ (9223372036854775807<st.size+1):=by omega
   have y1:¬ (9223372036854775807<st.size+dx.size):=by omega
   have y3:¬ (9223372036854775807<st.size+1+dx.size):=by omega
   by_cases hk0:k=0
   ·have HN:=Lib.hid ((txs_nil (l:=l) hk).2 hk0)
    have y2:decide (0<k)=false:=by simp; omega
    clear hk0;go_wp2_with fail;refine (Hd.out _ wr Hreq.out).mono ?_;rintro e w1 ⟨rfl,hb1⟩;go_wp2_with fail;go_roundw
    case rel=>exact ⟨k+1,_,by omega,by go_num,rfl,by rw [ByteArray.size_append]; omega,by rw [ByteArray.size_append]; omega,hb.trans (hb1.mono hb.size),jst0 Hdec.out HN.out hs.out⟩
    case measure=>simp [intOf]; omega
   ·have HN:=Lib.hid (mt (txs_nil (l:=l) hk).1 hk0)
    have y2:decide (0<k)=true:=by simp; omega
    go_wp2_with fail;refine (Hd.out _ wr Hreq.out).mono ?_;rintro e w1 ⟨rfl,hb1⟩;go_wp2_with fail;go_roundw
    case rel=>exact ⟨k+1,_,by omega,by go_num,rfl,by rw [ByteArray.size_append,ByteArray.size_append]; show _+1+_≤_; omega,by rw [ByteArray.size_append,ByteArray.size_append]; omega,hb.trans (hb1.mono hb.size),jst Hdec.out HN.out hs.out⟩
    case measure=>simp [intOf]; omega
  ·obtain rfl:k=l.length:=by omega
   by_cases h0:l=[]
   ·have HT:Hid (textsM l=⟨#[45]⟩):=show _=_ by unfold textsM; rw [if_pos h0]; rfl
    have hz:st.toList.isEmpty=true:=by
     have h9:l.length=0:=by rw [h0]; rfl
     have h8:st.size=0:=by omega
     have h7:st=ByteArray.empty:=by simpa using h8
     rw [h7,ByteArray.toList_eq]; rfl
    clear h0;go_wp2_with fail;go_ret;rw [HT.out];exact ⟨rfl,hb⟩
   ·have HT:Hid (textsM l=st):=show _=_ by
     rw [hs.out]; unfold textsM txs; rw [if_neg h0,List.take_length];apply Go.WideShapes.bytes_inj; simp
    have hz:st.toList.isEmpty=false:=by
     have:=List.length_pos_iff.2 h0
     cases he:st.toList.isEmpty with
     |false=>rfl
     |true =>
      have h5:l.length≤0:=by rw [empty_of he] at hsk; exact hsk
      omega
    clear h0;go_wp2_with fail;go_ret;rw [HT.out];exact ⟨rfl,hb⟩
end Go.Proofs.YtagndjihiklmiaaGreatDoor
