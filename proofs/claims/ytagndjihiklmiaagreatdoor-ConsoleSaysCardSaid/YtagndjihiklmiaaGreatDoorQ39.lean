/- The disk crashes: the reference's Crash. -/
import Derived.Test.YtagndjihiklmiaaGreatDoorQ38
import Derived.Maps.StringElems
set_option linter.unusedSimpArgs false
set_option linter.unusedVariables false
set_option maxRecDepth 100000
set_option maxHeartbeats 8000000
namespace Go.Proofs.YtagndjihiklmiaaGreatDoor
open Go.RowKit
theorem rdevcrash_any (S F:Nat→Prop) (w:World) (b:Nat) (d:Dv) (keep:Nat) (hkeep:keep<18446744073709551616) (h:DevAt TDr TPr S F w b d) (hp:∀ q ∈ d.waits,q.1<32) (hwl:d.waits.length≤1000000000000) (hF:∀ k,F k→k<w.heap.size) (hSF:∀ k,S k→¬ F k) :
  Calls Tryz.prog 33 #[.pointer (some ⟨b,0,none⟩),.int .u64 (keep:Int)] w (RetCrash TDr TPr S F w b (d.crash keep)):=by
 obtain ⟨wv,lv,cs,hrow,hw,hl,hcs,hok⟩:=h.two;obtain ⟨A,cap,rfl,hA1,hA2⟩:=hw.form;have c64:w.cell? ⟨b,64,none⟩=some (.slice A d.waits.length cap):=by rw [cell_of_row _ _ _ _ _ _ hrow]; simpa using devCells_at_w d _ lv h.kept h.now
 have hbl:=(Array.getElem?_eq_some_iff.1 hrow).1;have H:=Lib.hid h;have Hw:=Lib.hid hw;have Hrow:=Lib.hid hrow;have Hp:=Lib.hid hp;have HF:=Lib.hid hF;have HS:=Lib.hid hSF;clear h hw hrow hl hcs hok hp hF hSF;go_enter Tryz.func33,Tryz.ntmps33;go_wp2_with fail;go_loopw [4] (fun j wr=>∃ k:Nat,k≤d.waits.length∧j=.int .i64 k∧Hid (Chg (fun q=>q=b) w wr)∧Hid (wr.heap[b]?=some (.cells (devCells { d with kept:=Dv.keepFrom keep d.kept (d.waits.take k) 0 } (.slice A d.waits.length cap) lv).toArray TDr (0,0)))) (fun j _=>d.waits.length - (intOf j).toNat)
 case atStart=>exact ⟨0,by omega,rfl,Chg.refl,Hrow.out⟩
 case round =>
  obtain ⟨k,hk,rfl,hcw,hrw⟩:=hrel;have hkl:(Dv.keepFrom keep d.kept (d.waits.take k) 0).length=32:=by rw [Dv.keepFrom_len,H.out.kept]
  have z64:wr.cell? ⟨b,64,none⟩=some (.slice A d.waits.length cap):=by rw [cell_of_row _ _ _ _ _ _ hrw.out]; simpa using devCells_at_w { d with kept:=Dv.keepFrom keep d.kept (d.waits.take k) 0 } _ lv hkl H.out.now
  by_cases hlt:k<d.waits.length
  ·have hx:d.waits[k]?=some d.waits[k]:=List.getElem?_eq_getElem hlt
   generalize d.waits[k]=x at hx;obtain ⟨p,s⟩:=x;have hp32:=Hp.out _ (List.mem_of_getElem? hx);simp only at hp32;obtain ⟨g,off,rfl,hFg,hgl,hcell⟩:=Hw.out.rd.at_ (by omega) (by omega)
   have hgb:g≠b:=by
    rcases Hw.out.1.2 with ⟨hv,_⟩ | ⟨_,_,_,hv,_⟩
    ·cases hv
    ·cases hv
     exact own_ne Hw.out.1 Hrow.out (by decide) g rfl
   have hpc:=putCells_at _ _ _ _ hx;have x0:wr.cell? ⟨g,off+k * 2,none⟩=some (.int .i64 (p:Int)):=(World.cell?_of_block (w:=w) (hcw.out.block g hgl hgb)).trans (hcell _ _ hpc.1);have x1:wr.cell? ⟨g,off+k * 2+1,none⟩=some (.string s):=(World.cell?_of_block (w:=w) (hcw.out.block g hgl hgb)).trans (hcell _ _ hpc.2);have Hx:=Lib.hid hx;have hk2:(k:Int)<(d.waits.length:Int):=by omega
   clear hx hcell hpc;have hrow':=hrw.out;have Hkl:=Lib.hid hkl
   obtain ⟨y,hy⟩:∃ y,(Dv.keepFrom keep d.kept (d.waits.take k) 0)[p]?=some y:=⟨_,List.getElem?_eq_getElem (by rw [Dv.keepFrom_len,H.out.kept]; exact hp32)⟩
   have hcy:wr.cell? ⟨b,p,none⟩=some (.string y):=by
    rw [cell_of_row _ _ _ _ _ _ hrow'];have hlt:p<(Dv.keepFrom keep d.kept (d.waits.take k) 0).length:=(List.getElem?_eq_some_iff.1 hy).1;simp only [List.getElem?_toArray];unfold devCells;rw [List.getElem?_append_left (by simpa using hlt),List.getElem?_map,hy];rfl
   have hfy:wr.frozen? ⟨b,p,none⟩=false :=
    frozen_of_row _ _ _ _ _ hrow'
   have hpi:(p:Int)<32:=by omega
   have Hcw:=Lib.hid hcw.out;clear hy hrow' hcw hkl;rcases Bool.eq_false_or_eq_true (Dv.bit keep k) with hb | hb
   ·have hbit:(bits BinOp.and IntKind.u64 ((keep:Int) / 2 ^ (k % 64)) 1 == 1)=true:=by rw [keep_bit hkeep]; exact hb
    have Hb:=Lib.hid hb;clear hb;go_wp2_with fail;go_region
    go_wp2_with fail;go_roundw
    case rel =>
     refine ⟨k+1,by omega,by go_num,(Hcw.out.setCell (.inl rfl) _).drew,?_⟩;show _=_;rw [Dv.keepFrom_succ Hx.out,Hb.out];have h9:=heap_setCell_same _ _ p _ _ (.string s) hrw.out;rw [devCells_set_kept { d with kept:=Dv.keepFrom keep d.kept (d.waits.take k) 0 } _ _ Hkl.out p hp32] at h9;exact h9
    case measure=>simp [intOf]; omega
   ·have hbit:(bits BinOp.and IntKind.u64 ((keep:Int) / 2 ^ (k % 64)) 1 == 1)=false:=by rw [keep_bit hkeep]; exact hb
    have Hb:=Lib.hid hb;clear hb;go_wp2_with fail;go_roundw
    case rel =>
     refine ⟨k+1,by omega,by go_num,Hcw.out,?_⟩;show _=_;rw [Dv.keepFrom_succ Hx.out,Hb.out];exact hrw.out
    case measure=>simp [intOf]; omega
  ·obtain rfl:k=d.waits.length:=by omega
   have hrow':=hrw.out;rw [List.take_of_length_le (Nat.le_refl _)] at hrow' hkl;generalize hK:Dv.keepFrom keep d.kept d.waits 0=K at hrow' hkl;have hk':K.length=32:=hkl;have hn':d.now.length=32:=H.out.now;have HR:Hid (wr.rangeAt b 0 (K.map .string)):=range_kept hrow';have HT:Hid (wr.there b 32 (K.map Value.string).toArray.size):=there_of_row hrow' 32 _ (by rw [List.size_toArray,List.size_toArray,List.length_map,devCells_len { d with kept:=K } _ _ hk' hn']; omega);have Hs:Hid ((Tryz.prog.info? 48).map (·.size)=some (K.map Value.string).length):=show _=_ by rw [List.length_map,hk']; kernel_rfl
   have H1:Hid ((K.map Value.string).toArray.all (·.oneCell')=true):=all_oneCell_toArray (fun v hv=>by obtain ⟨s,_,rfl⟩:=List.mem_map.1 hv; rfl);have hrow1:=heap_setCells_row b _ (K.map .string) 32 wr _ hrow';rw [devCells_back { d with kept:=K } (.slice A d.waits.length cap) lv hk' hn'] at hrow1
   obtain ⟨W1,hW1⟩:∃ u,wr.setCells b 32 (K.map .string)=u:=⟨_,rfl⟩
   rw [hW1] at hrow1;have c64:W1.cell? ⟨b,64,none⟩=some (.slice A d.waits.length cap):=by rw [cell_of_row _ _ _ _ _ _ hrow1]; simpa using devCells_at_w { d with kept:=K,now:=K } (.slice A d.waits.length cap) lv hk' hk'
   have f64:W1.frozen? ⟨b,64,none⟩=false:=frozen_of_row _ _ _ _ _ hrow1;have hrow2:=heap_setCell_same _ _ 64 _ _ (.slice none 0 0) hrow1;rw [devCells_set_w { d with kept:=K,now:=K } _ _ _ hk' hk'] at hrow2;have c65:(W1.setCell ⟨b,64,none⟩ (.slice none 0 0)).cell? ⟨b,65,none⟩=some lv:=by rw [cell_of_row _ _ _ _ _ _ hrow2]; simpa using devCells_at_l { d with kept:=K,now:=K } (.slice none 0 0) lv hk' hk'
   have f65:(W1.setCell ⟨b,64,none⟩ (.slice none 0 0)).frozen? ⟨b,65,none⟩=false:=frozen_of_row _ _ _ _ _ hrow2;have hrow3:=heap_setCell_same _ _ 65 _ _ (.slice none 0 0) hrow2;rw [devCells_set_l { d with kept:=K,now:=K } _ _ _ hk' hk'] at hrow3;have hfb:=H.out.fb;have hcr:Chg F wr W1:=hW1▸Chg.refl.setCells (.inl hfb) _ _;have hc:=(hcr.setCell (p:=⟨b,64,none⟩) (.inl hfb) (.slice none 0 0)).setCell (p:=⟨b,65,none⟩) (.inl hfb) (.slice none 0 0);have Hrow3:=Lib.hid hrow3;have Hc:=Lib.hid ((hcw.out.mono (fun q hq=>hq▸hfb)).trans (hc.mono (fun q hq=>.inl hq)));have HW:=Lib.hid hW1;have HKk:=Lib.hid hK;have Hfb:=Lib.hid hfb;clear hrow' hrow1 hrow2 hrow3 hc hcr hW1 hrw hcw hK hfb hkl
   go_wp2_with (first
    |(refine wpList_load_mid rfl 48 (.tmp 44) rfl b 0 rfl (K.map .string) _ HR.out Tryz.underlying48 rfl Hs.out ?_)
    |(refine wpList_store_mid rfl 48 (.tmp 47) (.tmp 45) rfl b 32 (K.map Value.string).toArray rfl rfl HT.out (by rw [List.size_toArray]; exact Hs.out) H1.out ?_
      rw [show wr.setCells b 32 (K.map Value.string).toArray.toList=W1 from HW.out]))
   go_end0;refine ⟨rfl,?_,Hc.out⟩;have he:d.crash keep=⟨K,K,[],[]⟩:=by unfold Dv.crash; rw [HKk.out]
   rw [he];exact ⟨Hfb.out,hk',hk',_,_,[],Hrow3.out,Ow.nil,Ow.nil,rfl,by simp⟩
end Go.Proofs.YtagndjihiklmiaaGreatDoor
namespace Go.Proofs.YtagndjihiklmiaaGreatDoor
open Go.RowKit Go.Sort
def digit (c:Nat):ByteArray:=⟨#[UInt8.ofNat (48+c)]⟩
def decN (n:Nat):ByteArray:=if n<10 then digit n else decN (n / 10) ++ digit (n % 10)
theorem decN_small {n:Nat} (h:n<10):decN n=digit n:=by unfold decN; rw [if_pos h]
theorem decN_big {n:Nat} (h:¬ n<10):decN n=decN (n / 10) ++ digit (n % 10):=by rw [decN,if_neg h]
theorem digit_size (c:Nat):(digit c).size=1:=rfl
theorem decN_size:∀ (k n:Nat),n<10 ^ (k+1)→(decN n).size≤k+1
 |k,n,h=>by
  by_cases h1:n<10
  ·rw [decN_small h1,digit_size]; omega
  ·cases k with
   |zero=>simp at h; omega
   |succ k =>
    rw [decN_big h1,ByteArray.size_append,digit_size];have:=decN_size k (n / 10) (by rw [Nat.pow_succ] at h; omega);omega
theorem conv_digit {w:World} {b c:Nat} (hc:c<10) (h:w.cell? ⟨b,0,none⟩=some (.int .u8 (48+(c:Int)))) :
  (convert 131 9 (.slice (some ⟨b,0,none⟩) 1 1)).run Tryz.prog w=.ok (.string (digit c)) w:=by
 have:=run_convert_bytes_back (P:=Tryz.prog) w 131 9 5 ⟨b,0,none⟩ 1 [UInt8.ofNat (48+c)] Tryz.underlying131 Tryz.underlying5 Tryz.underlying9 (fun j hj=>by
  obtain rfl:j=0:=by simpa using hj
  have e:((UInt8.ofNat (48+c)).toNat:Int)=48+(c:Int):=by
   rw [UInt8.toNat_ofNat'];omega
  simp only [List.getElem_cons_zero,e]
  exact h)
 exact this
theorem dec_small (n:Nat) (w:World) (h:n<10):Calls Tryz.prog 30 #[.int .i64 n] w (Ret (.string (decN n)) w):=by
 rw [decN_small h];have h1:decide ((n:Int) < -9)=false:=decide_eq_false (by omega);have h2:decide ((n:Int)<0)=false:=decide_eq_false (by omega);have h3:decide ((n:Int)<10)=true:=decide_eq_true (by omega);have h4:IntKind.i64.wrap (48+(n:Int))=48+(n:Int):=IntWalk.i64_in _ (by omega);have hconv:=conv_digit (w:=w.alloc (Obj.cells #[Value.int IntKind.u8 (48+(n:Int))] 5)) (b:=w.heap.size) h (cell_of_row _ _ 0 _ _ _ (heap_alloc_new w _));go_enter Tryz.func30,Tryz.ntmps30;go_wp2;go_ret;exact ⟨rfl,(Below.refl _ _).alloc (Nat.le_refl _) _⟩
def DigF (base c:Nat):SlotFact:=fun v u=>∃ b,v=.slice (some ⟨b,0,none⟩) 1 1∧base≤b∧b<u.heap.size∧u.heap[b]?=some (.cells #[.int .u8 (48+(c:Int))] 5 (0,0))
theorem DigF.step {base c:Nat} {v:Value} {u u':World} (h:DigF base c v u) (hb:Below u.heap.size u u'):DigF base c v u':=by
 obtain ⟨b,e,h1,h2,h3⟩:=h;exact ⟨b,e,h1,by have:=hb.size; omega,(hb.block _ h2).trans h3⟩
theorem dec_nat:∀ (n:Nat) (w:World),n≤9223372036854775807→Calls Tryz.prog 30 #[.int .i64 n] w (Ret (.string (decN n)) w):=by
 intro n
 induction n using Nat.strongRecOn with
 |_ n ih =>
  intro w hn;by_cases h:n<10
  ·exact dec_small n w h
  ·have hsz:(decN (n / 10)).size≤19:=decN_size 18 _ (by omega)
   have IH:=Lib.hid (fun w'=>ih (n / 10) (by omega) w' (by omega));clear ih;rw [decN_big h];generalize hd:decN (n / 10)=ds at *;clear hd;have h1:decide ((n:Int) < -9)=false:=decide_eq_false (by omega);have h2:decide ((n:Int)<0)=false:=decide_eq_false (by omega);have h3:decide ((n:Int)<10)=false:=decide_eq_false (by omega);have h4:IntKind.i64.wrap (48+((n % 10:Nat):Int))=48+((n % 10:Nat):Int):=IntWalk.i64_in _ (by omega);have h5:(n:Int).tdiv 10=((n / 10:Nat):Int):=by rw [Int.tdiv_eq_ediv_of_nonneg (by omega)]; omega
   have h6:(n:Int).tmod 10=((n % 10:Nat):Int):=by rw [Int.tmod_eq_emod_of_nonneg (by omega)]; omega
   have h10:n % 10<10:=Nat.mod_lt _ (by omega);have h11:n / 10≤n:=Nat.div_le_self _ _;generalize n % 10=c at *;generalize n / 10=m at *;have h12:IntKind.i64.wrap (m:Int)=(m:Int):=IntWalk.i64_in _ (by omega);have h13:IntKind.u8.wrap (48+(c:Int))=48+(c:Int):=by simp only [IntKind.wrap,IntKind.bits,IntKind.signed]; simp; omega
   have h14:ds.size≤9223372036854775806:=by omega
   go_enter Tryz.func30,Tryz.ntmps30;go_wp2_with fail;refine wp_region_inv mixed [(28,fun v _=>v=.int .i64 (n:Int)),(29,fun v _=>v=.int .i64 (m:Int)),(30,fun v _=>v=.string ds),(31,fun v _=>v=.int .i64 (n:Int)),(32,fun v _=>v=.int .i64 (c:Int)),(33,fun v _=>v=.int .i64 (48+(c:Int))),(34,fun v _=>v=.int .u8 (48+(c:Int))),(35,DigF w.heap.size c),(36,fun v _=>v=.string (digit c)),(37,fun v _=>v=.string (ds ++ digit c)),(2,fun v _=>v=.string (ds ++ digit c))] (fun u=>Below w.heap.size w u) (fun u u'=>Below u.heap.size u u') (fun _ _=>True) (by kernel_rfl) rfl (by decide) (Below.refl _ _).drew ?st (fun _ _ _ _ _=>trivial) ?steps ?fin;case st=>exact ⟨fun v u u' h _=>h,fun v u u' h _=>h,fun v u u' h _=>h,fun v u u' h _=>h,fun v u u' h _=>h,fun v u u' h _=>h,fun v u u' h _=>h,fun v u u' h hr=>h.step hr,fun v u u' h _=>h,fun v u u' h _=>h,fun v u u' h _=>h,trivial⟩
   case steps =>
    refine ⟨?_,?_,?_,?_,?_,?_,?_,?_,?_,?_,?_,trivial⟩
    ·intro ρ u hp hJ hr
     have r1:ρ (.tmp 0)=.int .i64 (n:Int):=hr.1;clear hr;have hpc:=hp.const;refine gives_value (v:=.int .i64 (n:Int)) (w':=u) ?_ ⟨rfl,hJ,Below.refl _ _,trivial⟩;go_simp
    ·intro ρ u hp hJ hr
     have r1:ρ (.tmp 28)=.int .i64 (n:Int):=hr.1;clear hr;have hpc:=hp.const;refine gives_value (v:=.int .i64 (m:Int)) (w':=u) ?_ ⟨rfl,hJ,Below.refl _ _,trivial⟩;go_simp
    ·intro ρ u hp hJ hr
     have r1:ρ (.tmp 29)=.int .i64 (m:Int):=hr.1;clear hr;refine gives_enter (f:=30) (args:=#[.int .i64 (m:Int)]) (w':=u) ?_ ((IH.out u).mono ?_)
     ·have hpf:=hp.func 30
      go_simp
     rintro e u' ⟨rfl,hb⟩;exact ⟨_,rfl,rfl,hJ.trans (hb.mono hJ.size),hb,trivial⟩
    ·intro ρ u hp hJ hr
     have r1:ρ (.tmp 0)=.int .i64 (n:Int):=hr.1;clear hr;have hpc:=hp.const;refine gives_value (v:=.int .i64 (n:Int)) (w':=u) ?_ ⟨rfl,hJ,Below.refl _ _,trivial⟩;go_simp
    ·intro ρ u hp hJ hr
     have r1:ρ (.tmp 31)=.int .i64 (n:Int):=hr.1;clear hr;have hpc:=hp.const;refine gives_value (v:=.int .i64 (c:Int)) (w':=u) ?_ ⟨rfl,hJ,Below.refl _ _,trivial⟩;go_simp
    ·intro ρ u hp hJ hr
     have r1:ρ (.tmp 32)=.int .i64 (c:Int):=hr.1;clear hr;have hpc:=hp.const;refine gives_value (v:=.int .i64 (48+(c:Int))) (w':=u) ?_ ⟨rfl,hJ,Below.refl _ _,trivial⟩;go_simp
    ·intro ρ u hp hJ hr
     have r1:ρ (.tmp 33)=.int .i64 (48+(c:Int)):=hr.1;clear hr;have hpc:=hp.const;refine gives_value (v:=.int .u8 (48+(c:Int))) (w':=u) ?_ ⟨rfl,hJ,Below.refl _ _,trivial⟩;go_simp
    ·intro ρ u hp hJ hr
     have r1:ρ (.tmp 34)=.int .u8 (48+(c:Int)):=hr.1;clear hr;refine gives_value (v:=.slice (some ⟨u.heap.size,0,none⟩) 1 1) (w':=u.alloc (.cells #[.int .u8 (48+(c:Int))] 5)) ?_ ⟨⟨_,rfl,hJ.size,by simp,heap_alloc_new _ _⟩,hJ.trans (((Below.refl _ _).alloc (Nat.le_refl _) _).mono hJ.size),(Below.refl _ _).alloc (Nat.le_refl _) _,trivial⟩;go_simp
    ·intro ρ u hp hJ hr
     have r1:DigF w.heap.size c (ρ (.tmp 35)) u:=hr.1;clear hr;obtain ⟨b,e,_,_,hcell⟩:=r1;have hconv:=conv_digit (w:=u) (b:=b) h10 (cell_of_row _ _ 0 _ _ _ hcell);refine gives_value (v:=.string (digit c)) (w':=u) ?_ ⟨rfl,hJ,Below.refl _ _,trivial⟩;clear hcell;go_simp
    ·intro ρ u hp hJ hr
     have r1:ρ (.tmp 30)=.string ds:=hr.1;have r2:ρ (.tmp 36)=.string (digit c):=hr.2.1;clear hr;have hlen:(digit c).size=1:=rfl;refine gives_value (v:=.string (ds ++ digit c)) (w':=u) ?_ ⟨rfl,hJ,Below.refl _ _,trivial⟩;go_simp
    ·intro ρ u hp hJ hr
     have r1:ρ (.tmp 37)=.string (ds ++ digit c):=hr.1;clear hr;have hpc:=hp.const;refine gives_value (v:=.string (ds ++ digit c)) (w':=u) ?_ ⟨rfl,hJ,Below.refl _ _,trivial⟩;go_simp
   intro f u hF hJ _;have f2:f 2=.string (ds ++ digit c):=hF.2.2.2.2.2.2.2.2.2.2.1;clear hF;simp only [laid];go_wp2_with fail;refine bodyPost_ret (v:=.string (ds ++ digit c)) (by simp [results,Tryz.results30,go_sem,Act.put,f2]) rfl ⟨rfl,hJ⟩
abbrev dash:ByteArray:=⟨#[45]⟩
def decI (n:Int):ByteArray:=if n < -9 then dash ++ decN (-(n.tdiv 10)).toNat ++ decN (-(n.tmod 10)).toNat else if n<0 then dash ++ decN (-n).toNat else decN n.toNat
theorem dec_any (n:Int) (w:World) (ha : -9223372036854775808≤n) (hb:n≤9223372036854775807):Calls Tryz.prog 30 #[.int .i64 n] w (Ret (.string (decI n)) w):=by
 by_cases h1:n < -9
 ·have e:decI n=dash ++ decN (-(n.tdiv 10)).toNat ++ decN (-(n.tmod 10)).toNat:=by unfold decI; rw [if_pos h1]
  rw [e];clear e;have h1':decide (n < -9)=true:=decide_eq_true h1;have q1 : -(n.tdiv 10)=(-n) / 10:=by rw [← Int.neg_tdiv,Int.tdiv_eq_ediv_of_nonneg (by omega)]
  have q2 : -(n.tmod 10)=(-n) % 10:=by rw [← Int.neg_tmod,Int.tmod_eq_emod_of_nonneg (by omega)]
  obtain ⟨a,qa⟩:∃ a:Nat,-(n.tdiv 10)=(a:Int):=⟨((-n) / 10).toNat,by omega⟩
  obtain ⟨b,qb⟩:∃ b:Nat,-(n.tmod 10)=(b:Int):=⟨((-n) % 10).toNat,by omega⟩
  have wa:IntKind.i64.wrap (n.tdiv 10)=n.tdiv 10:=IntWalk.i64_in _ (by omega);have wb:IntKind.i64.wrap (n.tmod 10)=n.tmod 10:=IntWalk.i64_in _ (by omega);have wa':IntKind.i64.wrap (-(n.tdiv 10))=(a:Int):=by rw [qa]; exact IntWalk.i64_in _ (by omega)
  have wb':IntKind.i64.wrap (-(n.tmod 10))=(b:Int):=by rw [qb]; exact IntWalk.i64_in _ (by omega)
  rw [qa,qb,Int.toNat_natCast,Int.toNat_natCast];have s1:(decN a).size≤19:=decN_size 18 _ (by omega);have s2:(decN b).size≤19:=decN_size 18 _ (by omega);have hla:a≤9223372036854775807:=by omega
  have hlb:b≤9223372036854775807:=by omega
  have Ha:=Lib.hid (fun w=>dec_nat a w hla);have Hb:=Lib.hid (fun w=>dec_nat b w hlb);generalize decN a=da at *;generalize decN b=db at *;clear qa qb q1 q2;have z1:da.size≤9223372036854775806:=by omega
  have z2:(dash ++ da).size+db.size≤9223372036854775807:=by rw [ByteArray.size_append]; show 1+_+_≤_; omega
  go_enter Tryz.func30,Tryz.ntmps30;go_wp2_with fail;refine (Ha.out _).mono ?_;rintro e w1 ⟨rfl,hb1⟩;go_wp2_with fail;refine (Hb.out _).mono ?_;rintro e w2 ⟨rfl,hb2⟩;go_wp2_with fail;go_ret;exact ⟨rfl,hb1.trans (hb2.mono hb1.size)⟩
 ·by_cases h2:n<0
  ·have e:decI n=dash ++ decN (-n).toNat:=by unfold decI; rw [if_neg h1,if_pos h2]
   rw [e];clear e;have h1':decide (n < -9)=false:=decide_eq_false h1;have h2':decide (n<0)=true:=decide_eq_true h2
   obtain ⟨a,qa⟩:∃ a:Nat,-n=(a:Int):=⟨(-n).toNat,by omega⟩
   have wa:IntKind.i64.wrap (-n)=(a:Int):=by rw [qa]; exact IntWalk.i64_in _ (by omega)
   rw [qa,Int.toNat_natCast];have s1:(decN a).size≤19:=decN_size 18 _ (by omega);have hla:a≤9223372036854775807:=by omega
   have Ha:=Lib.hid (fun w=>dec_nat a w hla);generalize decN a=da at *;clear qa;have z1:da.size≤9223372036854775806:=by omega
   go_enter Tryz.func30,Tryz.ntmps30;go_wp2_with fail;refine (Ha.out _).mono ?_;rintro e w1 ⟨rfl,hb1⟩;go_wp2_with fail;go_ret;exact ⟨rfl,hb1⟩
  ·have e:decI n=decN n.toNat:=by unfold decI; rw [if_neg h1,if_neg h2]
   rw [e]
   obtain ⟨a,rfl⟩:∃ a:Nat,n=(a:Int):=⟨n.toNat,by omega⟩
   rw [Int.toNat_natCast];exact dec_nat a w (by omega)
end Go.Proofs.YtagndjihiklmiaaGreatDoor
namespace Go.Proofs.YtagndjihiklmiaaGreatDoor
open Go.RowKit Go.Maps Go.WideShapes Go.WideMaps Go.WideElems
def formW:List (List UInt8 × Nat):=[([98,117,115,121],0),([99,108,101,97,110],0),([99,114,97,115,104],1),([100,105,114,116,121],0),([100,105,115,112,97,116,99,104],0),([101,110,100],1),([102,97,117,108,116],1),([103,111,116],1),([113,117,101,117,101],0),([114,101,97,100],2),([114,111,117,110,100],0),([115,101,116,116,108,101],1),([115,121,110,99],1),([116,105,99,107],0),([119,114,105,116,101],3)]
def formK (s:ByteArray):Option Nat:=(formW.find? fun p=>p.1 == s.toList).map (·.2)
def formS (k:Nat):List UInt8:=if k=0 then [] else if k=1 then [97] else if k=2 then [97,98] else [97,98,100]
def formT (s:ByteArray):Value:=match formK s with
 |some k=>.tuple #[.string ⟨(formS k).toArray⟩,.bool true]
 |none=>.tuple #[.string ⟨#[]⟩,.bool false]
theorem formK_le {s:ByteArray} {k:Nat} (h:formK s=some k):k≤3:=by
 unfold formK at h
 cases hf:formW.find? (fun p=>p.1 == s.toList) with
 |none=>rw [hf] at h; cases h
 |some p =>
  rw [hf] at h;obtain rfl:=Option.some.inj h;have hm:=List.mem_of_find?_eq_some hf;revert hm;generalize p=q;revert q
  decide
theorem strLaw:Keyed Tryz.prog 9:=string_keyed Tryz.underlying9
def formD:DataW Unit:=.map (formW.map fun p=>(.string p.1,.lit (.string (formS p.2))))
theorem has_form (l:List (List UInt8 × Nat)) (x:List UInt8):has (.map (l.map fun p=>(.string p.1,(.lit (.string (formS p.2)):DataW Unit)))) (.string x)=((l.find? fun p=>p.1 == x).map (·.2)).isSome:=by
 rw [has_eq]
 induction l with
 |nil=>rfl
 |cons p l ih =>
  rw [List.map_cons,List.any_cons,ih,List.find?_cons];have e:(Lit.string p.1).sameKey (.string x)=(p.1 == x):=rfl;rw [e]
  cases (p.1 == x) <;> rfl
theorem at_form (l:List (List UInt8 × Nat)) (x:List UInt8) (z:DataW Unit):(DataW.map (l.map fun p=>(.string p.1,(.lit (.string (formS p.2)):DataW Unit)))).atKey (.string x) z=match (l.find? fun p=>p.1 == x).map (·.2) with | some k=>.lit (.string (formS k)) | none=>z:=by
 have e0:∀ es:List (Lit × DataW Unit),(DataW.map es).atKey (.string x) z=match es.find? (fun p=>p.1.sameKey (.string x)) with | some p=>p.2 | none=>z:=by
  intro es;unfold DataW.atKey;simp only []
  cases es.find? (fun p=>p.1.sameKey (.string x)) <;> rfl
 rw [e0]
 induction l with
 |nil=>rfl
 |cons p l ih =>
  rw [List.map_cons,List.find?_cons,List.find?_cons];have e:(Lit.string p.1).sameKey (.string x)=(p.1 == x):=rfl;rw [e]
  cases (p.1 == x)
  ·exact ih
  ·rfl
theorem form_any (s:ByteArray) (w:World) (hs:s.size≤maxLen):Calls Tryz.prog 38 #[.string s] w (Ret (formT s) w):=by
 have z9:∀ w,(zeroValue 9).run Tryz.prog w=.ok (.string ⟨#[]⟩) w:=fun w=>by kernel_rfl
 have hmm:=@run_makeMap Tryz.prog;have hb0:Below w.heap.size w (w.alloc (.map #[] 0)):=(Below.refl _ _).alloc (Nat.le_refl _) _;have g0:=World.ownsMap_made (H:=Unit) w Tryz.prog 9 (plainElem Tryz.prog 9);generalize hw0:w.alloc (.map #[] 0)=w0 at hb0 g0;have k0:keyOf Tryz.prog 9 (.string ⟨#[114,101,97,100]⟩)=some (.string [114,101,97,100]):=keyOf_string_mk (s:=⟨#[114,101,97,100]⟩) Tryz.underlying9 (by decide);have e0:plainElem (H:=Unit) Tryz.prog 9 (.string ⟨#[97,98]⟩)=some (.lit (.string [97,98]),[]):=plainElem_string (s:=⟨#[97,98]⟩) Tryz.underlying9 (by decide);obtain ⟨w1,r1,g1,t1⟩:=g0.update strLaw Tryz.underlying147 (by decide) k0 e0;have hb1:Below w.heap.size w w1:=hb0.grown t1 hb0.size (fun j hj=>by cases hj; exact Nat.le_refl _);clear t1;have k1:keyOf Tryz.prog 9 (.string ⟨#[119,114,105,116,101]⟩)=some (.string [119,114,105,116,101]):=keyOf_string_mk (s:=⟨#[119,114,105,116,101]⟩) Tryz.underlying9 (by decide);have e1:plainElem (H:=Unit) Tryz.prog 9 (.string ⟨#[97,98,100]⟩)=some (.lit (.string [97,98,100]),[]):=plainElem_string (s:=⟨#[97,98,100]⟩) Tryz.underlying9 (by decide);obtain ⟨w2,r2,g2,t2⟩:=g1.update strLaw Tryz.underlying147 (by decide) k1 e1;have hb2:Below w.heap.size w w2:=hb1.grown t2 hb1.size (fun j hj=>by cases hj; exact Nat.le_refl _);clear t2;have k2:keyOf Tryz.prog 9 (.string ⟨#[115,121,110,99]⟩)=some (.string [115,121,110,99]):=keyOf_string_mk (s:=⟨#[115,121,110,99]⟩) Tryz.underlying9 (by decide);have e2:plainElem (H:=Unit) Tryz.prog 9 (.string ⟨#[97]⟩)=some (.lit (.string [97]),[]):=plainElem_string (s:=⟨#[97]⟩) Tryz.underlying9 (by decide);obtain ⟨w3,r3,g3,t3⟩:=g2.update strLaw Tryz.underlying147 (by decide) k2 e2;have hb3:Below w.heap.size w w3:=hb2.grown t3 hb2.size (fun j hj=>by cases hj; exact Nat.le_refl _);clear t3;have k3:keyOf Tryz.prog 9 (.string ⟨#[103,111,116]⟩)=some (.string [103,111,116]):=keyOf_string_mk (s:=⟨#[103,111,116]⟩) Tryz.underlying9 (by decide);have e3:plainElem (H:=Unit) Tryz.prog 9 (.string ⟨#[97]⟩)=some (.lit (.string [97]),[]):=plainElem_string (s:=⟨#[97]⟩) Tryz.underlying9 (by decide);obtain ⟨w4,r4,g4,t4⟩:=g3.update strLaw Tryz.underlying147 (by decide) k3 e3;have hb4:Below w.heap.size w w4:=hb3.grown t4 hb3.size (fun j hj=>by cases hj; exact Nat.le_refl _);clear t4;have k4:keyOf Tryz.prog 9 (.string ⟨#[116,105,99,107]⟩)=some (.string [116,105,99,107]):=keyOf_string_mk (s:=⟨#[116,105,99,107]⟩) Tryz.underlying9 (by decide);have e4:plainElem (H:=Unit) Tryz.prog 9 (.string ⟨#[]⟩)=some (.lit (.string []),[]):=plainElem_string (s:=⟨#[]⟩) Tryz.underlying9 (by decide);obtain ⟨w5,r5,g5,t5⟩:=g4.update strLaw Tryz.underlying147 (by decide) k4 e4;have hb5:Below w.heap.size w w5:=hb4.grown t5 hb4.size (fun j hj=>by cases hj; exact Nat.le_refl _);clear t5;have k5:keyOf Tryz.prog 9 (.string ⟨#[99,108,101,97,110]⟩)=some (.string [99,108,101,97,110]):=keyOf_string_mk (s:=⟨#[99,108,101,97,110]⟩) Tryz.underlying9 (by decide);have e5:plainElem (H:=Unit) Tryz.prog 9 (.string ⟨#[]⟩)=some (.lit (.string []),[]):=plainElem_string (s:=⟨#[]⟩) Tryz.underlying9 (by decide);obtain ⟨w6,r6,g6,t6⟩:=g5.update strLaw Tryz.underlying147 (by decide) k5 e5;have hb6:Below w.heap.size w w6:=hb5.grown t6 hb5.size (fun j hj=>by cases hj; exact Nat.le_refl _);clear t6;have k6:keyOf Tryz.prog 9 (.string ⟨#[100,105,115,112,97,116,99,104]⟩)=some (.string [100,105,115,112,97,116,99,104]):=keyOf_string_mk (s:=⟨#[100,105,115,112,97,116,99,104]⟩) Tryz.underlying9 (by decide);have e6:plainElem (H:=Unit) Tryz.prog 9 (.string ⟨#[]⟩)=some (.lit (.string []),[]):=plainElem_string (s:=⟨#[]⟩) Tryz.underlying9 (by decide);obtain ⟨w7,r7,g7,t7⟩:=g6.update strLaw Tryz.underlying147 (by decide) k6 e6;have hb7:Below w.heap.size w w7:=hb6.grown t7 hb6.size (fun j hj=>by cases hj; exact Nat.le_refl _);clear t7;have k7:keyOf Tryz.prog 9 (.string ⟨#[101,110,100]⟩)=some (.string [101,110,100]):=keyOf_string_mk (s:=⟨#[101,110,100]⟩) Tryz.underlying9 (by decide);have e7:plainElem (H:=Unit) Tryz.prog 9 (.string ⟨#[97]⟩)=some (.lit (.string [97]),[]):=plainElem_string (s:=⟨#[97]⟩) Tryz.underlying9 (by decide);obtain ⟨w8,r8,g8,t8⟩:=g7.update strLaw Tryz.underlying147 (by decide) k7 e7;have hb8:Below w.heap.size w w8:=hb7.grown t8 hb7.size (fun j hj=>by cases hj; exact Nat.le_refl _);clear t8;have k8:keyOf Tryz.prog 9 (.string ⟨#[102,97,117,108,116]⟩)=some (.string [102,97,117,108,116]):=keyOf_string_mk (s:=⟨#[102,97,117,108,116]⟩) Tryz.underlying9 (by decide);have e8:plainElem (H:=Unit) Tryz.prog 9 (.string ⟨#[97]⟩)=some (.lit (.string [97]),[]):=plainElem_string (s:=⟨#[97]⟩) Tryz.underlying9 (by decide);obtain ⟨w9,r9,g9,t9⟩:=g8.update strLaw Tryz.underlying147 (by decide) k8 e8;have hb9:Below w.heap.size w w9:=hb8.grown t9 hb8.size (fun j hj=>by cases hj; exact Nat.le_refl _);clear t9;have k9:keyOf Tryz.prog 9 (.string ⟨#[114,111,117,110,100]⟩)=some (.string [114,111,117,110,100]):=keyOf_string_mk (s:=⟨#[114,111,117,110,100]⟩) Tryz.underlying9 (by decide);have e9:plainElem (H:=Unit) Tryz.prog 9 (.string ⟨#[]⟩)=some (.lit (.string []),[]):=plainElem_string (s:=⟨#[]⟩) Tryz.underlying9 (by decide);obtain ⟨w10,r10,g10,t10⟩:=g9.update strLaw Tryz.underlying147 (by decide) k9 e9;have hb10:Below w.heap.size w w10:=hb9.grown t10 hb9.size (fun j hj=>by cases hj; exact Nat.le_refl _);clear t10;have k10:keyOf Tryz.prog 9 (.string ⟨#[115,101,116,116,108,101]⟩)=some (.string [115,101,116,116,108,101]):=keyOf_string_mk (s:=⟨#[115,101,116,116,108,101]⟩) Tryz.underlying9 (by decide);have e10:plainElem (H:=Unit) Tryz.prog 9 (.string ⟨#[97]⟩)=some (.lit (.string [97]),[]):=plainElem_string (s:=⟨#[97]⟩) Tryz.underlying9 (by decide);obtain ⟨w11,r11,g11,t11⟩:=g10.update strLaw Tryz.underlying147 (by decide) k10 e10;have hb11:Below w.heap.size w w11:=hb10.grown t11 hb10.size (fun j hj=>by cases hj; exact Nat.le_refl _);clear t11;have k11:keyOf Tryz.prog 9 (.string ⟨#[113,117,101,117,101]⟩)=some (.string [113,117,101,117,101]):=keyOf_string_mk (s:=⟨#[113,117,101,117,101]⟩) Tryz.underlying9 (by decide);have e11:plainElem (H:=Unit) Tryz.prog 9 (.string ⟨#[]⟩)=some (.lit (.string []),[]):=plainElem_string (s:=⟨#[]⟩) Tryz.underlying9 (by decide)
 obtain ⟨w12,r12,g12,t12⟩:=g11.update strLaw Tryz.underlying147 (by decide) k11 e11;have hb12:Below w.heap.size w w12:=hb11.grown t12 hb11.size (fun j hj=>by cases hj; exact Nat.le_refl _);clear t12;have k12:keyOf Tryz.prog 9 (.string ⟨#[98,117,115,121]⟩)=some (.string [98,117,115,121]):=keyOf_string_mk (s:=⟨#[98,117,115,121]⟩) Tryz.underlying9 (by decide);have e12:plainElem (H:=Unit) Tryz.prog 9 (.string ⟨#[]⟩)=some (.lit (.string []),[]):=plainElem_string (s:=⟨#[]⟩) Tryz.underlying9 (by decide);obtain ⟨w13,r13,g13,t13⟩:=g12.update strLaw Tryz.underlying147 (by decide) k12 e12;have hb13:Below w.heap.size w w13:=hb12.grown t13 hb12.size (fun j hj=>by cases hj; exact Nat.le_refl _);clear t13;have k13:keyOf Tryz.prog 9 (.string ⟨#[100,105,114,116,121]⟩)=some (.string [100,105,114,116,121]):=keyOf_string_mk (s:=⟨#[100,105,114,116,121]⟩) Tryz.underlying9 (by decide);have e13:plainElem (H:=Unit) Tryz.prog 9 (.string ⟨#[]⟩)=some (.lit (.string []),[]):=plainElem_string (s:=⟨#[]⟩) Tryz.underlying9 (by decide);obtain ⟨w14,r14,g14,t14⟩:=g13.update strLaw Tryz.underlying147 (by decide) k13 e13;have hb14:Below w.heap.size w w14:=hb13.grown t14 hb13.size (fun j hj=>by cases hj; exact Nat.le_refl _);clear t14;have k14:keyOf Tryz.prog 9 (.string ⟨#[99,114,97,115,104]⟩)=some (.string [99,114,97,115,104]):=keyOf_string_mk (s:=⟨#[99,114,97,115,104]⟩) Tryz.underlying9 (by decide);have e14:plainElem (H:=Unit) Tryz.prog 9 (.string ⟨#[97]⟩)=some (.lit (.string [97]),[]):=plainElem_string (s:=⟨#[97]⟩) Tryz.underlying9 (by decide);obtain ⟨w15,r15,g15,t15⟩:=g14.update strLaw Tryz.underlying147 (by decide) k14 e14;have hb15:Below w.heap.size w w15:=hb14.grown t15 hb14.size (fun j hj=>by cases hj; exact Nat.le_refl _);clear t15;have hD:(((((((((((((((((DataW.map []).put (.string [114,101,97,100]) (.lit (.string [97,98]))).put (.string [119,114,105,116,101]) (.lit (.string [97,98,100]))).put (.string [115,121,110,99]) (.lit (.string [97]))).put (.string [103,111,116]) (.lit (.string [97]))).put (.string [116,105,99,107]) (.lit (.string []))).put (.string [99,108,101,97,110]) (.lit (.string []))).put (.string [100,105,115,112,97,116,99,104]) (.lit (.string []))).put (.string [101,110,100]) (.lit (.string [97]))).put (.string [102,97,117,108,116]) (.lit (.string [97]))).put (.string [114,111,117,110,100]) (.lit (.string []))).put (.string [115,101,116,116,108,101]) (.lit (.string [97]))).put (.string [113,117,101,117,101]) (.lit (.string []))).put (.string [98,117,115,121]) (.lit (.string []))).put (.string [100,105,114,116,121]) (.lit (.string []))).put (.string [99,114,97,115,104]) (.lit (.string [97]))):DataW Unit)=formD:=by kernel_rfl
 rw [hD] at g15;obtain ⟨v,ps,rl,hv⟩:=g15.look_ok strLaw Tryz.underlying147 (z9 w15) (plainElem_string (s:=⟨#[]⟩) Tryz.underlying9 (by decide)) (keyOf_string_mk (s:=s) Tryz.underlying9 hs);unfold formD at hv rl;rw [at_form] at hv;rw [has_form] at rl;have e:(List.find? (fun p=>p.1 == s.data.toList) formW).map (·.2)=formK s:=by unfold formK; rw [ByteArray.toList_eq]
 rw [e] at hv rl
 have hfin:(Value.tuple #[v,.bool (formK s).isSome])=formT s:=by
  obtain ⟨s',rfl,e2,_⟩:=plainElem_string_inv Tryz.underlying9 hv;unfold formT
  cases hk:formK s with
  |none =>
   rw [hk] at e2;simp only [Prod.mk.injEq,DataW.lit.injEq,Lit.string.injEq] at e2;have:s'=⟨#[]⟩:=by cases s'; simp at e2; try simp [e2]
   rw [this]; rfl
  |some k =>
   rw [hk] at e2;simp only [Prod.mk.injEq,DataW.lit.injEq,Lit.string.injEq] at e2;have:s'=⟨(formS k).toArray⟩:=by cases s'; simp at e2; simp [e2.1]
   rw [this]; rfl
 have HF:=Lib.hid hfin;have HB:=Lib.hid hb15;clear hfin hv e;clear g0 hb0 g1 hb1 g2 hb2 g3 hb3 g4 hb4 g5 hb5 g6 hb6 g7 hb7 g8 hb8 g9 hb9 g10 hb10 g11 hb11 g12 hb12 g13 hb13 g14 hb14 g15 hb15 k0 e0 k1 e1 k2 e2 k3 e3 k4 e4 k5 e5 k6 e6 k7 e7 k8 e8 k9 e9 k10 e10 k11 e11 k12 e12 k13 e13 k14 e14;go_enter Tryz.func38,Tryz.ntmps38;go_wp2;go_ret2;exact ⟨congrArg Ending.returned HF.out,HB.out⟩
theorem rform_any (s:ByteArray) (w:World):Calls Tryz.prog 17 #[.string s] w (RetSame (formT s) w):=by
 rcases Bool.eq_false_or_eq_true (s.toList == [114,101,97,100]) with ht | h0;rotate_left;rcases Bool.eq_false_or_eq_true (s.toList == [119,114,105,116,101]) with ht | h1;rotate_left;rcases Bool.eq_false_or_eq_true (s.toList == [115,121,110,99]) with ht | h2;rotate_left;rcases Bool.eq_false_or_eq_true (s.toList == [103,111,116]) with ht | h3;rotate_left;rcases Bool.eq_false_or_eq_true (s.toList == [116,105,99,107]) with ht | h4;rotate_left;rcases Bool.eq_false_or_eq_true (s.toList == [99,108,101,97,110]) with ht | h5;rotate_left;rcases Bool.eq_false_or_eq_true (s.toList == [100,105,115,112,97,116,99,104]) with ht | h6;rotate_left;rcases Bool.eq_false_or_eq_true (s.toList == [101,110,100]) with ht | h7;rotate_left;rcases Bool.eq_false_or_eq_true (s.toList == [102,97,117,108,116]) with ht | h8;rotate_left;rcases Bool.eq_false_or_eq_true (s.toList == [114,111,117,110,100]) with ht | h9;rotate_left;rcases Bool.eq_false_or_eq_true (s.toList == [115,101,116,116,108,101]) with ht | h10;rotate_left;rcases Bool.eq_false_or_eq_true (s.toList == [113,117,101,117,101]) with ht | h11;rotate_left;rcases Bool.eq_false_or_eq_true (s.toList == [98,117,115,121]) with ht | h12;rotate_left;rcases Bool.eq_false_or_eq_true (s.toList == [100,105,114,116,121]) with ht | h13;rotate_left;rcases Bool.eq_false_or_eq_true (s.toList == [99,114,97,115,104]) with ht | h14;rotate_left
 ·have e:formT s=.tuple #[.string ⟨#[]⟩,.bool false]:=by
   have hf:formK s=none:=by
    unfold formK
    have:formW.find? (fun p=>p.1 == s.toList)=none:=by
     rw [List.find?_eq_none];intro p hp;unfold formW at hp;simp only [List.mem_cons,List.mem_nil_iff,or_false] at hp;rcases hp with rfl | rfl | rfl | rfl | rfl | rfl | rfl | rfl | rfl | rfl | rfl | rfl | rfl | rfl | rfl
     all_goals (intro hh; simp_all [Bool.beq_comm] )
    rw [this]; rfl
   unfold formT; rw [hf]
  rw [e];clear e;go_enter Tryz.func17,Tryz.ntmps17;go_wp2;go_ret2;exact ⟨rfl,rfl⟩
 all_goals
  have e1:=eq_of_beq ht;clear ht;go_enter Tryz.func17,Tryz.ntmps17;go_wp2;go_ret2;refine ⟨?_,rfl⟩;unfold formT formK;rw [e1];rfl
end Go.Proofs.YtagndjihiklmiaaGreatDoor
