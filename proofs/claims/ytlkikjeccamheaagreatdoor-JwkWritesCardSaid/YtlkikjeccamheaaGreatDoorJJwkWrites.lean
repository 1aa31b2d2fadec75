/-
  PROVED: 'brevetlaw11.JwkWrites': a bundle's text is just the document's, and is read as it, or it is refused. The listed variables are tied to the program's text by the card.
-/
import Derived.Lib.SlTrimSet
import Derived.Deep.QuietTactic
import Derived.BigQuiet
import Derived.Test.YtlkikjeccamheaaGreatDoorProg
import Derived.Deep.DeepCutAuto
import Derived.Deep.Slices
import Derived.Deep.CutBlock
import Derived.Laws.StructEq
import Derived.Test.YtlkikjeccamheaaGreatDoorCards
import Derived.Test.YtlkikjeccamheaaGreatDoorTie
import Derived.SevenTiedAt
import Derived.Lay
import Derived.ProofKit
import Derived.OpenShut
import Derived.Test.YtlkikjeccamheaaGreatDoorJ4
import Derived.Test.YtlkikjeccamheaaGreatDoorJ1
import Derived.Test.YtlkikjeccamheaaGreatDoorJ2
namespace Go.Proofs.YtlkikjeccamheaaGreatDoor.Js
set_option linter.unusedSimpArgs false
set_option linter.unusedVariables false
set_option maxRecDepth 100000
set_option maxHeartbeats 4000000
open Go.RowKit
def zBD:BD:=⟨[],0,[]⟩
def bdOf (j:JT):BD:=⟨textJ (getJ j [100,111,109,97,105,110]),numJ (getJ j [110,117,109,98,101,114]),(kidsJ (getJ j [107,101,121,115])).map keyOfJ⟩
def sureB (b:BD) (s:Bs):Bool:=mayB b.dom b.num b.keys && decide (writeV (bundleJ b)=s)
def readK (s:Bs):BD × Int:=match readP s with
 | .error _=>(zBD,if 2000<s.length then 4 else 13)
 | .ok j=>if sureB (bdOf j) s then (bdOf j,0) else (zBD,13)
def RdkPost (s:Bs) (w:World) (e:Ending) (w':World):Prop :=
 ∃ (A:Option Addr) (c:Nat),e=.returned (.tuple #[.agg (bC (readK s).1.dom (readK s).1.num A (readK s).1.keys.length c),.int .i64 (readK s).2])∧RdS w' (fun b=>w.heap.size≤b) A (rowsV kCell (readK s).1.keys)∧Below w.heap.size w w'
theorem readP_long2 {s:Bs} (h:2000<s.length):∃ e,readP s=.error e:=by
 unfold readP;rw [if_pos h];exact ⟨_,rfl⟩
theorem decS_len:∀ (s:Bs) (n w:Nat) (b:Bs),decS n w s=some b→b.length≤s.length
 | [],n,w,b,h=>by
  unfold decS at h
  split at h
  ·cases h
  ·injection h with h
   rw [← h];exact Nat.le_refl _
 | c :: r,n,w,b,h=>by
  unfold decS at h
  split at h
  ·cases h
  ·split at h
   ·exact Nat.le_succ_of_le (decS_len r _ _ b h)
   ·obtain ⟨b2,h2,rfl⟩:=Option.map_eq_some_iff.1 h;have:=decS_len r _ _ b2 h2;simp;exact this
theorem decB_len (s:Bs):(decB s).length≤s.length:=by
 unfold decB dec
 cases h:decS 0 0 s with
 | none=>simp
 | some b=>exact decS_len s 0 0 b h
theorem RdkPost.zero {s:Bs} {w w':World} {k:Int} (h:readK s=(zBD,k)) (hb:Below w.heap.size w w'):RdkPost s w (.returned (.tuple #[.agg zB,.int .i64 k])) w':=by
 refine ⟨none,0,?_,?_,hb⟩
 ·rw [h];rfl
 ·rw [h];exact RdS.nil _ _ _
set_option maxHeartbeats 8000000 in
theorem jwkread_any (s:Bs) (w:World) (hs:(s.length:Int)≤9223372036854775807) (hG:Sh.TabG w) :
  Calls Tryz.prog 9 #[.string (bs s)] w (RdkPost s w):=by
 have hu:=Tryz.underlying44;have hub:=Tryz.underlying24;have hmf:∀ (fn:Fn) (first cap:Array Value) (u:World),(Instr.makeFunc fn first cap).run Tryz.prog u=.ok (.func fn first cap) u:=fun _ _ _ _=>rfl;obtain ⟨n,hn⟩:=eX (s.length);have hsz:((bs s).size:Int)=(n:Int):=by rw [qaB,hn]
 obtain ⟨W0,hW0⟩:=eX (w.alloc (.cells zB 24));have hb0:Below w.heap.size w W0:=by rw [hW0]; exact (Below.refl _ w).alloc (Nat.le_refl _) _
 have HB0:=zY hb0;have HZ0:=zY (show Blk W0 w.heap.size 24 zB by rw [hW0]; exact Blk.new _ _ _);have HS0:=zY (show W0.heap.size=w.heap.size+1 by rw [hW0]; simp);have HW0:=zY hW0;have HN:=zY hn;have HGT:=zY (fun (u:World) (h:Below w.heap.size w u)=>show Sh.TabG u from hG.below h hG.size)
 have CJ:=zY (show Calls Tryz.prog 20 #[.string (bs s)] W0 fun x w'=>∃ v:JV,x=.returned (.tuple #[.agg (jvCells v),.int .i64 (errE (readP s))])∧Below W0.heap.size W0 w' ∧
   (∀ j,readP s=.ok j→JRep w' (fun b=>W0.heap.size≤b) j v)∧(∀ e,readP s=.error e→v=zJV) from jread_any (bs s) W0)
 have HZR:=zY (fun (k:Int) (h:readK s=(zBD,k)) (u u5:World) (hb:Below w.heap.size w u) (hw5:Wrote w.heap.size u u5)=>show RdkPost s w (.returned (.tuple #[.agg zB,.int .i64 k])) u5 from
  RdkPost.zero h (hw5.below hb (Nat.le_refl _) hb.size))
 have hn1:(n:Int)≤9223372036854775807:=by omega
 clear hW0 hb0 hG hs hn;go_enter Tryz.func9,Tryz.ntmps9
 go_upto_region 1 with (fail)
 rw [show w.alloc (.cells #[.string ⟨#[]⟩,.int .i64 0,.slice none 0 0] 24)=W0 from HW0.out.symm]
 by_cases hl:2000<n
 ·have hl':(2000:Int)<(n:Int):=by omega
  have HRK:=zY (show readK s=(zBD,4) by
   obtain ⟨e,he⟩:=readP_long2 (s:=s) (by rw [← HN.out]; exact hl);rw [readK,he,if_pos (by rw [← HN.out]; exact hl)])
  clear hl;go_wp2_with (refine qae (x:=.tmp 2) (cells:=zB) HZ0.out rfl rfl rfl rfl qaC rfl (by simp [zB,Value.oneCell']) ?_; intro w5 hb5 hw5);refine bodyPost_ret (qax (P:=Tryz.prog) rfl rfl hb5 hub rfl qaC) rfl ?_;exact HZR.out 4 HRK.out W0 w5 HB0.out hw5
 ·have hl':¬ (2000:Int)<(n:Int):=by omega
  have HNL:=zY (show ¬ 2000<s.length by rw [← HN.out]; exact hl);clear hl;go_wp2_with fail;refine qaa CJ.out ?_;rintro e w1 ⟨v,rfl,hb1,hj1,hz1⟩;have HB1:=zY (HB0.out.trans (hb1.mono HB0.out.size));have HZ1:=zY (HZ0.out.below hb1 HZ0.out.lt);have HJ1:=zY hj1;clear hb1 hj1 hz1
  go_upto_region 4 with (refine qae (cells:=jvCells v) (Blk.new _ _ _) rfl rfl rfl rfl qav rfl (qai _) ?_; intro w2 hb2 hw2)
  obtain ⟨H4,hH4⟩:=eX (w1.heap.size);have hbw2:Below w1.heap.size w1 w2:=qaN hw2;rw [← hH4] at hb2 ⊢;have HV2:=zY hb2;have HZ2:=zY (HZ1.out.below hbw2 HZ1.out.lt);have HB2:=zY (HB1.out.trans (hbw2.mono HB1.out.size));have HJ2:=zY (fun (j:JT) (h:readP s=.ok j)=>show JRep w2 (fun b=>W0.heap.size≤b) j v from (HJ1.out j h).heap fun b hb _=>hbw2.block b hb);clear hbw2 hb2 hw2 hH4
  cases hq:readP s with
  | error e0 =>
   have HNE:=zY (show e0≠0 from by
    unfold readP at hq;rw [if_neg HNL.out] at hq
    split at hq
    ·rename_i e1 he
     injection hq with hq
     rw [← hq];exact qbz 6 he
    ·cases hq
    ·injection hq with hq
     omega)
   have hne:((errE (Except.error (α:=JT) e0)) != 0)=true:=by
    have:=HNE.out
    simpa [errE] using this
   have HRK:=zY (show readK s=(zBD,13) by rw [readK,hq,if_neg HNL.out]);clear hq;go_wp2_with (refine qae (x:=.tmp 2) (cells:=zB) HZ2.out rfl rfl rfl rfl qaC rfl (by simp [zB,Value.oneCell']) ?_; intro w5 hb5 hw5);refine bodyPost_ret (qax (P:=Tryz.prog) rfl rfl hb5 hub rfl qaC) rfl ?_;exact HZR.out 13 HRK.out w2 w5 HB2.out hw5
  | ok j =>
   have HJ3:=zY (HJ2.out j hq);have HOK:=zY (show OkJ 40000 j from ⟨⟨_,readP_right hq⟩,qdc hq,readP_small hq⟩);have HRK:=zY (show readK s=if sureB (bdOf j) s then (bdOf j,0) else (zBD,13) by rw [readK,hq]);have HGY:=zY (fun (x:Bs) (u:World) (h:JRep u (fun b=>W0.heap.size≤b) j v)=>get_any j v x (fun b=>W0.heap.size≤b) u h (qbZ h HOK.out).1 (qbZ h HOK.out).2);clear hq;have he0:(errE (Except.ok (ε:=Int) j) != 0)=false:=rfl
   go_upto_region 6 with (fail)
   go_wp2_with (refine qad (x:=.tmp 4) (cs:=jvCells v) HV2.out rfl rfl rfl hu rfl qav ?_);refine qaa (HGY.out [100,111,109,97,105,110] w2 HJ3.out) ?_;rintro e w3 ⟨v1,b1,rfl,hj1,hb3⟩;have HB3:=zY (HB2.out.trans (hb3.mono HB2.out.size));have HV3:=zY (HV2.out.below hb3 HV2.out.lt);have HZ3:=zY (HZ2.out.below hb3 HZ2.out.lt);have HR3:=zY (HJ3.out.heap fun b hb _=>hb3.block b hb);have HT1:=zY (show v1.t=textJ (getJ j [100,111,109,97,105,110]) from (qcQ hj1).1.symm);clear hj1 hb3
   go_upto_region 7 with (refine qae (cells:=jvCells v1) (Blk.new _ _ _) rfl rfl rfl rfl qav rfl (qai _) ?_; intro w4 hb4 hw4)
   obtain ⟨H6,hH6⟩:=eX (w3.heap.size);have hbw4:Below w3.heap.size w3 w4:=qaN hw4;rw [← hH6] at hb4 ⊢;have HD4:=zY hb4;have HB4:=zY (HB3.out.trans (hbw4.mono HB3.out.size));have HV4:=zY (HV3.out.below hbw4 HV3.out.lt);have HZ4:=zY (HZ3.out.below hbw4 HZ3.out.lt);have HR4:=zY (HR3.out.heap fun b hb _=>hbw4.block b hb);clear hbw4 hb4 hw4 hH6;go_wp2_with (refine qad (x:=.tmp 4) (cs:=jvCells v) HV4.out rfl rfl rfl hu rfl qav ?_);refine qaa (HGY.out [110,117,109,98,101,114] w4 HR4.out) ?_;rintro e w5 ⟨v2,b2,rfl,hj2,hb5⟩;have HB5:=zY (HB4.out.trans (hb5.mono HB4.out.size));have HV5:=zY (HV4.out.below hb5 HV4.out.lt);have HZ5:=zY (HZ4.out.below hb5 HZ4.out.lt);have HD5:=zY (HD4.out.below hb5 HD4.out.lt);have HR5:=zY (HR4.out.heap fun b hb _=>hb5.block b hb);have HT2:=zY (show v2.n=numJ (getJ j [110,117,109,98,101,114]) from (qcQ hj2).2.symm);clear hj2 hb5
   go_upto_region 8 with (refine qae (cells:=jvCells v2) (Blk.new _ _ _) rfl rfl rfl rfl qav rfl (qai _) ?_; intro w6 hb6 hw6)
   obtain ⟨H8,hH8⟩:=eX (w5.heap.size);have hbw6:Below w5.heap.size w5 w6:=qaN hw6;rw [← hH8] at hb6 ⊢;have HN6:=zY hb6;have HB6:=zY (HB5.out.trans (hbw6.mono HB5.out.size));have HV6:=zY (HV5.out.below hbw6 HV5.out.lt);have HZ6:=zY (HZ5.out.below hbw6 HZ5.out.lt);have HD6:=zY (HD5.out.below hbw6 HD5.out.lt);have HR6:=zY (HR5.out.heap fun b hb _=>hbw6.block b hb);clear hbw6 hb6 hw6 hH8;go_wp2_with (refine qad (x:=.tmp 4) (cs:=jvCells v) HV6.out rfl rfl rfl hu rfl qav ?_);refine qaa (HGY.out [107,101,121,115] w6 HR6.out) ?_;rintro e w7 ⟨v3,b3,rfl,hj3,hb7⟩;have HB7:=zY (HB6.out.trans (hb7.mono HB6.out.size));have HZ7:=zY (HZ6.out.below hb7 HZ6.out.lt);have HD7:=zY (HD6.out.below hb7 HD6.out.lt);have HN7:=zY (HN6.out.below hb7 HN6.out.lt);have HJ7:=zY hj3;clear hj3 hb7
   go_upto_region 9 with (refine qae (cells:=jvCells v3) (Blk.new _ _ _) rfl rfl rfl rfl qav rfl (qai _) ?_; intro w8 hb8 hw8)
   obtain ⟨H10,hH10⟩:=eX (w7.heap.size);have hbw8:Below w7.heap.size w7 w8:=qaN hw8;rw [← hH10] at hb8 ⊢;have HK8:=zY hb8;have HB8:=zY (HB7.out.trans (hbw8.mono HB7.out.size));have HZ8:=zY (HZ7.out.below hbw8 HZ7.out.lt);have HJ8:=zY (HJ7.out.heap fun b hb _=>hbw8.block b hb);have d6:w8.cell? ⟨H6,2,none⟩=some (.string (bs (textJ (getJ j [100,111,109,97,105,110])))):=by rw [← HT1.out]; exact (HD7.out.below hbw8 HD7.out.lt).cell 2
   have d8:w8.cell? ⟨H8,1,none⟩=some (.int .i64 (numJ (getJ j [110,117,109,98,101,114]))):=by rw [← HT2.out]; exact (HN7.out.below hbw8 HN7.out.lt).cell 1
   clear hbw8 hb8 hw8 hH10;obtain ⟨D,hD⟩:=eX (textJ (getJ j [100,111,109,97,105,110]));obtain ⟨num,hnum⟩:=eX (numJ (getJ j [110,117,109,98,101,114]));obtain ⟨JK,hJK⟩:=eX (getJ j [107,101,121,115]);have HOJ:=zY (show OkJ 40000 JK by rw [hJK]; exact HOK.out.get (by decide) _);have HBD:=zY (show bdOf j=⟨D,num,(kidsJ JK).map keyOfJ⟩ by rw [hD,hnum,hJK]; rfl);have HDL:=zY (show D.length≤40000 by rw [hD]; exact (HOK.out.get (by decide) _).text);rw [← hD] at d6;rw [← hnum] at d8;rw [← hJK] at HJ8;clear hD hnum hJK
   go_upto_region 10 with (refine qae (cells:=bC D num none 0 0) (Blk.new _ _ _) rfl rfl rfl rfl qaC rfl (by simp [bC,Value.oneCell']) ?_; intro w9 hb9 hw9)
   obtain ⟨K,hK⟩:=eX (w8.heap.size);have hbw9:Below w8.heap.size w8 w9:=qaN hw9;rw [← hK] at hb9 hbw9 ⊢;have HK9:=zY (HK8.out.below hbw9 (by rw [hK]; exact HK8.out.lt));have HB9:=zY (HB8.out.trans (hbw9.mono (by rw [hK]; exact HB8.out.size)));have HZ9:=zY (HZ8.out.below hbw9 (by rw [hK]; exact HZ8.out.lt));have HJ9:=zY (show JRep w9 (fun b=>b<K) JK v3 from (HJ8.out.imp (S':=fun b=>b<K) fun b hb _=>by rw [hK]; exact hb).heap fun b hb hlt=>hbw9.block b hlt);have HKR:=zY (show Kr w9 K D num none 0 [] w9 from ⟨Below.refl _ _,hb9,OwnR.nil _ _ _ _⟩);have HWK:=zY (show w.heap.size+1≤K by rw [hK,← HS0.out]; have:=HZ8.out.lt; have:=HS0.out; omega);have HHK:=zY (show K<w9.heap.size from hb9.lt);clear hb9 hw9 hbw9 hK d6 d8;have CE:=zY (each_any JK v3 40000 (by decide) (by decide) HOJ.out w9 K (Nat.le_of_lt HHK.out) D num w9 HJ9.out HKR.out)
   go_upto_region 11 with (first
    | refine qad (x:=.tmp 10) (cs:=jvCells v3) HK9.out rfl rfl rfl hu rfl qav ?_
    | (go_at_call 22; refine qaa CE.out ?_; rintro e w10 ⟨rfl,A',c',hkr⟩; have HKA:=zY hkr; clear hkr))
   obtain ⟨L,hL⟩:=eX ((kidsJ JK).map keyOfJ);have HLL:=zY (show L.length≤4096 by rw [hL,List.length_map]; exact HOJ.out.counts)
   have HLX:=zY (show ∀ k ∈ L,(k.2.length:Int)≤9223372036854775807 from fun k hk=>by
    rw [hL] at hk;obtain ⟨x,hx,rfl⟩:=List.mem_map.1 hk;have h1:=decB_len (textJ (getJ x [120]));have h2:=((HOJ.out.kid hx).get (by decide) [120]).text;show ((decB (textJ (getJ x [120]))).length:Int)≤_
    omega)
   rw [← hL] at HKA HBD;clear hL;have HBA:=zY (HB9.out.trans (HKA.out.low.mono (by have:=HWK.out; omega)));have HZA:=zY (HZ9.out.below HKA.out.low (by have:=HWK.out; omega));have CW:=zY (qcJ D num L A' c' w10.heap.size w10 (HKA.out.row.row.rd) (Nat.le_refl _) (by rw [qaB]; have:=HDL.out; omega) (by have:=HLL.out; omega) HLX.out (HGT.out _ HBA.out));have HWD:=zY (show wrB D num L=if mayB D num L then (writeV (bundleJ ⟨D,num,L⟩),0) else ([],1) from rfl);have HSU:=zY (show sureB (bdOf j) s=(mayB D num L && decide (writeV (bundleJ ⟨D,num,L⟩)=s)) by rw [HBD.out]; rfl);obtain ⟨R,hR⟩:=eX (wrB D num L);obtain ⟨m,hm⟩:=eX (mayB D num L);obtain ⟨T,hT⟩:∃ T,T=writeV (bundleJ ⟨D,num,L⟩):=⟨_,rfl⟩;rw [← hR] at CW HWD;rw [← hm] at HWD HSU;rw [← hT] at HWD HSU;have HKB:=zY (show Blk w10 K 24 (bC D num A' L.length c') from HKA.out.box);clear hR hm hT;go_wp2_with (refine qad (x:=.tmp 12) (cs:=bC D num A' L.length c') HKB.out rfl rfl rfl hub rfl qaC ?_);refine qaa CW.out ?_;rintro e w11 ⟨rfl,hb11⟩;have HBB:=zY (HBA.out.trans (hb11.mono HBA.out.size));have HZB:=zY (HZA.out.below hb11 HZA.out.lt);have HKC:=zY (HKB.out.below hb11 HKB.out.lt);have HRW:=zY (HKA.out.row.below hb11);clear hb11;have hzero:readK s=(zBD,13)→∀ w5,Wrote w.heap.size w11 w5→RdkPost s w (.returned (.tuple #[.agg zB,.int .i64 13])) w5:=fun h w5 hw5=>HZR.out 13 h w11 w5 HBB.out hw5;have HZERO:=zY hzero;clear hzero
   cases m with
   | false =>
    obtain rfl:R=([],1):=HWD.out;have HRZ:=zY (show readK s=(zBD,13) by rw [HRK.out,HSU.out]; rfl);go_wp2_with (refine qae (x:=.tmp 2) (cells:=zB) HZB.out rfl rfl rfl rfl qaC rfl (by simp [zB,Value.oneCell']) ?_; intro w5 hb5 hw5);refine bodyPost_ret (qax (P:=Tryz.prog) rfl rfl hb5 hub rfl qaC) rfl ?_;exact HZERO.out HRZ.out w5 hw5
   | true =>
    obtain rfl:R=(T,0):=HWD.out
    by_cases hq:T=s
    ·have hq':((bs T).toList == (bs s).toList)=true:=by rw [qas,qas]; simpa using hq
     have HRZ:=zY (show readK s=(bdOf j,0) by rw [HRK.out,HSU.out,decide_eq_true hq]; rfl);clear hq
     go_wp2_with (first
      | refine qad (x:=.tmp 12) (cs:=bC D num A' L.length c') HKC.out rfl rfl rfl hub rfl qaC ?_
      | (refine qae (x:=.tmp 2) (cells:=bC D num A' L.length c') HZB.out rfl rfl rfl rfl qaC rfl (by simp [bC,Value.oneCell']) ?_; intro w5 hb5 hw5))
     refine bodyPost_ret (qax (P:=Tryz.prog) rfl rfl hb5 hub rfl qaC) rfl ?_;refine ⟨A',c',?_,?_,hw5.below HBB.out (Nat.le_refl _) HBB.out.size⟩
     ·rw [HRZ.out,HBD.out];rfl
     ·rw [HRZ.out,HBD.out];exact ((qdh HRW.out).heap fun b hb hs=>hw5.grown.block b hb (by intro h; injection h with h; have:=HWK.out; omega)).imp fun b _ hb=>by have:=HWK.out; omega
    ·have hq':((bs T).toList == (bs s).toList)=false:=by rw [qas,qas]; simpa using hq
     have HRZ:=zY (show readK s=(zBD,13) by rw [HRK.out,HSU.out,decide_eq_false hq]; rfl);clear hq;go_wp2_with (refine qae (x:=.tmp 2) (cells:=zB) HZB.out rfl rfl rfl rfl qaC rfl (by simp [zB,Value.oneCell']) ?_; intro w5 hb5 hw5);refine bodyPost_ret (qax (P:=Tryz.prog) rfl rfl hb5 hub rfl qaC) rfl ?_;exact HZERO.out HRZ.out w5 hw5
theorem rin_any (c:UInt8) (s:Bs) (hs:s.length≤100000) (w:World):Calls Tryz.prog 39 #[.int .u8 ((c.toNat:Nat):Int),.string (bs s)] w fun e w'=>e=.returned (.bool (decide (c ∈ s)))∧w'=w:=by
 obtain ⟨n,hn⟩:=eX (s.length);have hsz:((bs s).size:Int)=(n:Int):=by rw [qaB,hn]
 have hs':(n:Int)≤100000:=by omega
 have HN:=zY hn;have HSZ:=zY (qaB s);obtain ⟨z,hz⟩:∃ z:Int,z=((c.toNat:Nat):Int):=⟨_,rfl⟩;rw [← hz];have HZ:=zY hz;clear hn hz;go_enter Tryz.func39,Tryz.ntmps39;go_wp2_with fail
 go_loop [5] (fun i=>∃ k:Nat,k≤n∧i=.int .i64 k∧c ∉ s.take k) (fun i=>n - (intOf i).toNat)
 case atStart=>exact ⟨0,Nat.zero_le _,rfl,by simp⟩
 case round =>
  obtain ⟨k,hk,rfl,hno⟩:=hrel;have HNO:=zY hno;clear hno
  by_cases hlt:k<n
  ·have hks:k<s.length:=by rw [← HN.out]; exact hlt
   have hkb:k<(bs s).size:=by rw [HSZ.out]; exact hks
   have hlt':(k:Int)<(n:Int):=by omega
   obtain ⟨x,hx⟩:∃ x:Int,x=(((bs s)[k]'hkb).toNat:Int):=⟨_,rfl⟩;have HX:=zY (show x=((s[k].toNat:Nat):Int) by rw [hx]; rfl)
   by_cases he:x=z
   ·have HIN:=zY (show c ∈ s by
     have h1:s[k].toNat=c.toNat:=by have:=HX.out; have:=HZ.out; omega
     have h2:s[k]=c:=UInt8.toNat.inj h1;rw [← h2];exact List.getElem_mem hks)
    have hxz:(x == z)=true:=by simpa using he
    have HLT:=zY hlt;clear he;go_wp2_with fail;go_ret;exact ⟨by rw [decide_eq_true HIN.out]; rfl,rfl⟩
   ·have HNX:=zY (show c ∉ s.take (k+1) by
     rw [List.take_succ_eq_append_getElem hks,List.mem_append];rintro (h1 | h1)
     ·exact HNO.out h1
     ·have h2:c=s[k]:=List.mem_singleton.1 h1;exact he (by rw [HX.out,HZ.out,h2]))
    have hxz:(x == z)=false:=by simpa using he
    have HLT:=zY hlt;clear he;go_wp2_with fail
    go_round
    case rel=>exact ⟨k+1,HLT.out,by go_num,HNX.out⟩
    case measure=>have:=HLT.out; simp [intOf]; omega
  ·obtain rfl:k=n:=by omega
   have HF:=zY (show c ∉ s by
    have h:=HNO.out
    rwa [HN.out,List.take_length] at h)
   go_wp2_with fail;go_ret;exact ⟨by rw [decide_eq_false HF.out]; rfl,rfl⟩
def of9 (s t:Bs) (m:Nat):Bool:=s.all (fun c=>decide (c ∈ t)) && (decide (1≤s.length) && decide (s.length≤m))
theorem rof_any (s t:Bs) (m:Nat) (hs:s.length≤100000) (ht:t.length≤100000) (hm:(m:Int)≤100000) (w:World):Calls Tryz.prog 38 #[.string (bs s),.string (bs t),.int .i64 (m:Int)] w fun e w'=>e=.returned (.bool (of9 s t m))∧w'=w:=by
 obtain ⟨n,hn⟩:=eX (s.length);have hsz:((bs s).size:Int)=(n:Int):=by rw [qaB,hn]
 have hs':(n:Int)≤100000:=by omega
 have HN:=zY hn;have HSZ:=zY (qaB s);have C:=zY (fun (c:UInt8)=>rin_any c t ht w);obtain ⟨r,hr⟩:=eX (of9 s t m);rw [← hr];have HR:=zY hr;clear hn hr hs ht;go_enter Tryz.func38,Tryz.ntmps38;go_wp2_with fail
 go_loop [7] (fun i=>∃ k:Nat,k≤n∧i=.int .i64 k∧(s.take k).all (fun c=>decide (c ∈ t))=true) (fun i=>n - (intOf i).toNat)
 case atStart=>exact ⟨0,Nat.zero_le _,rfl,by simp⟩
 case round =>
  obtain ⟨k,hk,rfl,hok⟩:=hrel;have HOK:=zY hok;clear hok
  by_cases hlt:k<n
  ·have hks:k<s.length:=by rw [← HN.out]; exact hlt
   have hkb:k<(bs s).size:=by rw [HSZ.out]; exact hks
   have hlt':(k:Int)<(n:Int):=by omega
   obtain ⟨x,hx⟩:∃ x:UInt8,x=s[k]:=⟨_,rfl⟩;have hxv:(((bs s)[k]'hkb).toNat:Int)=((x.toNat:Nat):Int):=by rw [hx]; rfl
   obtain ⟨b,hb⟩:=eX (decide (x ∈ t));have CX:=zY (C.out x);rw [← hb] at CX
   have HST:=zY (show (s.take (k+1)).all (fun c=>decide (c ∈ t))=b by
    rw [List.take_succ_eq_append_getElem hks,List.all_append,HOK.out,hb,hx];simp only [List.all_cons,List.all_nil,Bool.and_true,Bool.true_and]
    rfl)
   have HSF:=zY (show b=false→r=false from fun h=>by
    rw [HR.out,of9]
    have:s.all (fun c=>decide (c ∈ t))=false:=by
     rw [List.all_eq_false];exact ⟨s[k],List.getElem_mem hks,by rw [← hx,← hb,h]; simp⟩
    rw [this]
    rfl)
   have HLT:=zY hlt;clear hx hb;go_wp2_with fail;refine qaa CX.out ?_;rintro e w' ⟨rfl,rfl⟩
   cases b with
   | true =>
    go_wp2_with fail
    go_round
    case rel=>exact ⟨k+1,HLT.out,by go_num,HST.out⟩
    case measure=>have:=HLT.out; simp [intOf]; omega
   | false =>
    have HRF:=zY (HSF.out rfl);go_wp2_with fail;go_ret;exact ⟨by rw [HRF.out]; rfl,rfl⟩
  ·obtain rfl:k=n:=by omega
   have HRE:=zY (show r=(decide (1≤k) && decide (k≤m)) by
    have h:=HOK.out;rw [HN.out,List.take_length] at h;rw [HR.out,of9,h,HN.out]
    rfl)
   by_cases h1:(1:Int)≤(k:Int)
   ·have d1:decide ((1:Int)≤(k:Int))=true:=by simpa using h1
    have D2:=zY (show decide (1≤k)=true by simp; omega);go_wp2_with fail;go_ret;exact ⟨by rw [HRE.out,D2.out]; rfl,rfl⟩
   ·have d1:decide ((1:Int)≤(k:Int))=false:=by simpa using h1
    have D2:=zY (show decide (1≤k)=false by simp; omega);go_wp2_with fail;go_ret;exact ⟨by rw [HRE.out,D2.out]; rfl,rfl⟩
def domC:Bs:=[97,98,99,100,101,102,103,104,105,106,107,108,109,110,111,112,113,114,115,116,117,118,119,120,121,122,48,49,50,51,52,53,54,55,56,57,46,45]
theorem innerC_eq (c:UInt8):innerC c=decide (c ∈ domC):=by
 have key:∀ x:Fin 256,innerC (UInt8.ofNat x.1)=decide (UInt8.ofNat x.1 ∈ domC):=by decide +kernel
 have:=key ⟨c.toNat,c.toNat_lt⟩
 simpa using this
theorem drop_eq {p:UInt8→Bool} {l:Bs}:l.dropWhile p=l↔∀ h:0<l.length,p (l[0])=false:=by
 cases l with
 | nil=>simp
 | cons a r =>
  rw [List.dropWhile_cons]
  constructor
  ·intro h _
   cases hp:p a with
   | false=>simpa using hp
   | true =>
    rw [hp,if_pos rfl] at h;have:=congrArg List.length h;have h2:=(List.dropWhile_sublist p (l:=r)).length_le;simp at this;omega
  ·intro h;have:=h (by simp);simp at this;rw [if_neg (by simp [this])]
theorem trim_eq (s cs:Bs) (h0:0<s.length):(Lib.trimS s cs=s)↔(s[0] ∉ cs∧s[s.length - 1] ∉ cs):=by
 have hl:s.reverse.length=s.length:=List.length_reverse;have hlast:s.reverse[0]'(by omega)=s[s.length - 1]:=by rw [List.getElem_reverse]; congr 1
 have hD:∀ l:Bs,l.dropWhile (cs.contains ·)=l↔∀ h:0<l.length,l[0] ∉ cs:=fun l=>by
  rw [drop_eq]
  constructor
  ·intro h h1;have:=h h1
   simpa using this
  ·intro h h1
   simpa using h h1
 unfold Lib.trimS Lib.trimLeftS Lib.trimRightS
 constructor
 ·intro h;have e1:=congrArg List.length h;have e2:=(List.dropWhile_sublist (cs.contains ·) (l:=(s.reverse.dropWhile (cs.contains ·)).reverse)).length_le;have e3:=(List.dropWhile_sublist (cs.contains ·) (l:=s.reverse)).length_le;rw [List.length_reverse] at e2;have e4:s.reverse.dropWhile (cs.contains ·)=s.reverse:=(List.dropWhile_sublist _).eq_of_length (by omega);rw [e4,List.reverse_reverse] at h;refine ⟨(hD s).1 h h0,?_⟩;rw [← hlast];exact (hD s.reverse).1 e4 (by omega)
 ·rintro ⟨h1,h2⟩;rw [(hD s.reverse).2 (fun h=>by rw [hlast]; exact h2),List.reverse_reverse];exact (hD s).2 fun _=>h1
theorem of9_dom (s:Bs):of9 s domC 16=(decide (s.length≤16) && allD s):=by
 unfold of9 allD;rw [show (fun c:UInt8=>decide (c ∈ domC))=innerC from funext fun c=>(innerC_eq c).symm]
 cases hq:s.all innerC with
 | false=>simp
 | true =>
  cases s with
  | nil=>simp
  | cons a r=>simp
theorem rdom_any (s:Bs) (hs:s.length≤100000) (w:World):Calls Tryz.prog 19 #[.string (bs s)] w fun e w'=>e=.returned (.bool (domB s))∧w'=w:=by
 have CO:=zY (show Calls Tryz.prog 38 #[.string (bs s),.string ⟨#[97,98,99,100,101,102,103,104,105,106,107,108,109,110,111,112,113,114,115,116,117,118,119,120,121,122,48,49,50,51,52,53,54,55,56,57,46,45]⟩,.int .i64 16] w fun e w'=>e=.returned (.bool (of9 s domC 16))∧w'=w from rof_any s domC 16 hs (by decide) (by decide) w);have CI:=zY (fun (c:UInt8)=>show Calls Tryz.prog 39 #[.int .u8 ((c.toNat:Nat):Int),.string ⟨#[46,45]⟩] w fun e w'=>e=.returned (.bool (decide (c ∈ ([46,45]:Bs))))∧w'=w from rin_any c [46,45] (by decide) w);obtain ⟨r,hr⟩:=eX (domB s);rw [← hr];have hr2:r=(of9 s domC 16 && decide (trimD s=s)):=by rw [hr,domB,of9_dom,Bool.and_assoc]
 have HLE:=zY (show of9 s domC 16=true→0<s.length from fun h=>by
  unfold of9 at h;simp only [Bool.and_eq_true,decide_eq_true_eq] at h
  omega)
 obtain ⟨b,hb⟩:=eX (of9 s domC 16);rw [← hb] at CO hr2 HLE;have HR:=zY hr2;clear hr hr2 hb;have hsz:((bs s).size:Int)=(s.length:Int):=by rw [qaB]
 have hsn:(s.length:Int)≤100000:=by omega
 have HSZ:=zY (qaB s);go_enter Tryz.func19,Tryz.ntmps19;go_wp2_with fail;refine qaa CO.out ?_;rintro e w' ⟨rfl,rfl⟩
 cases b with
 | false =>
  have HRF:=zY (show r=false from HR.out);go_wp2_with fail;go_ret;exact ⟨by rw [HRF.out]; rfl,rfl⟩
 | true =>
  have h0:=HLE.out rfl;have h0':0<(s.length:Int):=by omega
  obtain ⟨x,hx⟩:∃ x:UInt8,x=s[0]:=⟨_,rfl⟩;obtain ⟨y,hy⟩:∃ y:UInt8,y=s[s.length - 1]:=⟨_,rfl⟩;have hk0:0<(bs s).size:=by rw [HSZ.out]; exact h0
  have hk1:s.length - 1<(bs s).size:=by rw [HSZ.out]; omega
  have hxv:(((bs s)[0]'hk0).toNat:Int)=((x.toNat:Nat):Int):=by rw [hx]; rfl
  have hyv:(((bs s)[s.length - 1]'hk1).toNat:Int)=((y.toNat:Nat):Int):=by rw [hy]; rfl
  have HRE:=zY (show r=(!decide (x ∈ ([46,45]:Bs)) && !decide (y ∈ ([46,45]:Bs))) by
   rw [HR.out,Bool.true_and];unfold trimD;have h:=trim_eq s [46,45] h0;rw [← hx,← hy] at h
   by_cases h1:x ∈ ([46,45]:Bs) <;> by_cases h2:y ∈ ([46,45]:Bs) <;> simp only [h1,h2,decide_true,decide_false,Bool.not_true,Bool.not_false,Bool.and_true,Bool.and_false] <;> (first | exact decide_eq_true (h.2 ⟨h1,h2⟩) | exact decide_eq_false (fun he=>absurd h1 (h.1 he).1) | exact decide_eq_false (fun he=>absurd h2 (h.1 he).2)))
  clear hx hy;obtain ⟨p,hp⟩:=eX (decide (x ∈ ([46,45]:Bs)));obtain ⟨q,hq⟩:=eX (decide (y ∈ ([46,45]:Bs)));have CX:=zY (CI.out x);have CY:=zY (CI.out y);rw [← hp] at CX HRE;rw [← hq] at CY HRE;clear hp hq CI;go_wp2_with fail;refine qaa CX.out ?_;rintro e w' ⟨rfl,rfl⟩;go_wp2_with fail;refine qaa CY.out ?_;rintro e w' ⟨rfl,rfl⟩
  cases p <;> go_wp2_with fail
  all_goals go_ret
  all_goals exact ⟨by rw [HRE.out]; rfl,rfl⟩
theorem qbT {B:Nat} {a w:World} (h:Below B a w) (n:Nat):Below B a (w.drewN n):=⟨h.os,h.tape,h.output,h.size,h.block⟩
set_option maxHeartbeats 8000000 in
theorem rmay_any (D:Bs) (num:Int) (ks:List (Bs × Bs)) (A:Option Addr) (c B:Nat) (w:World) (hr:Rd w B A (rowsV kCell ks)) (hB:B≤w.heap.size) (hD:D.length≤100000) (hl:(ks.length:Int)≤9223372036854775807)
  (hk:∀ k ∈ ks,(k.2.length:Int)≤9223372036854775807) :
  Calls Tryz.prog 7 #[.agg (bC D num A ks.length c)] w fun e w'=>e=.returned (.bool (mayB D num ks))∧Below w.heap.size w w':=by
 obtain ⟨r,hrr⟩:=eX (mayB D num ks);rw [← hrr];have HRR:=zY hrr;clear hrr;obtain ⟨n,hn⟩:=eX (ks.length);rw [← hn] at hl ⊢;have HN:=zY hn;obtain ⟨W0,hW0⟩:=eX (w.alloc (.cells (bC D num A n c) 24));have hb0:Below w.heap.size w W0:=by rw [hW0]; exact (Below.refl _ w).alloc (Nat.le_refl _) _
 have HB0:=zY hb0;have HK:=zY (show Blk W0 w.heap.size 24 (bC D num A n c) by rw [hW0]; exact Blk.new _ _ _);have HW0:=zY hW0;have HR:=zY (hr.below (hb0.mono hB));have HBB:=zY hB;have HKX:=zY hk;have HHD:=zY (show headOk D num ks=(domB D && decide (0≤num) && decide (num≤1099511627776) && decide (n≤8)) by rw [hn]; rfl);have C:=zY (rdom_any D hD W0);obtain ⟨d,hd⟩:=eX (domB D);rw [← hd] at C HHD;have a0:W0.cell? ⟨w.heap.size,0,none⟩=some (.string (bs D)):=HK.out.cell 0;have a1:W0.cell? ⟨w.heap.size,1,none⟩=some (.int .i64 num):=HK.out.cell 1;have a2:W0.cell? ⟨w.heap.size,2,none⟩=some (.slice A n c):=HK.out.cell 2;clear hW0 hn hr hB hk hD hd hb0;go_enter Tryz.func7,Tryz.ntmps7
 go_upto_region 1 with (fail)
 rw [show w.alloc (.cells (bC D num A n c) 24)=W0 from HW0.out.symm];generalize Value.agg (bC D num A n c)=AV;go_wp2_with fail;refine qaa C.out ?_;rintro e W0 ⟨rfl,rfl⟩
 cases d with
 | false =>
  have HNO:=zY (qbO (HHD.out.trans (by rfl)));go_wp2_with fail;go_ret;exact ⟨by rw [HRR.out,HNO.out]; rfl,HB0.out⟩
 | true =>
  by_cases hn0:num<0
  ·have HNO:=zY (qbO (HHD.out.trans (by rw [decide_eq_false (show ¬ (0≤num) by omega)]; rfl)));go_wp2_with fail;go_ret;exact ⟨by rw [HRR.out,HNO.out]; rfl,HB0.out⟩
  by_cases hn1:1099511627776<num
  ·have HNO:=zY (qbO (HHD.out.trans (by rw [decide_eq_false (show ¬ (num≤1099511627776) by omega)]; simp)));go_wp2_with fail;go_ret;exact ⟨by rw [HRR.out,HNO.out]; rfl,HB0.out⟩
  by_cases hn8:8<(n:Int)
  ·have HNO:=zY (qbO (HHD.out.trans (by rw [decide_eq_false (show ¬ (n≤8) by omega)]; simp)));go_wp2_with fail;go_ret;exact ⟨by rw [HRR.out,HNO.out]; rfl,HB0.out⟩
  have HHO:=zY (show mayB D num ks=keysOk [] ks by
   unfold mayB;rw [HHD.out,decide_eq_true (show 0≤num by omega),decide_eq_true (show num≤1099511627776 by omega),decide_eq_true (show n≤8 by omega)]
   rfl)
  have hn8':(n:Int)≤8:=by omega
  clear hl
  go_upto_region 4 with (fail)
  clear hn0 hn1 hn8 a0 a1;go_wp2_with fail
  go_loopw [4] (fun x wr=>∃ i:Nat,i≤n∧x=.int .i64 (i:Int)∧keysTo ks i∧Below W0.heap.size W0 wr) (fun x _=>n - (intOf x).toNat)
  case atStart=>exact ⟨0,Nat.zero_le _,rfl,qds ks,Below.refl _ _⟩
  case round =>
   obtain ⟨i,hi,rfl,hto,hbw⟩:=hrel;have HTO:=zY hto;have HBW:=zY hbw;have a2:wr.cell? ⟨w.heap.size,2,none⟩=some (.slice A n c):=(HK.out.below hbw HK.out.lt).cell 2;clear hto hbw
   by_cases hlt:i<n
   ·have huj:=Tryz.underlying38;have hil:i<ks.length:=by rw [← HN.out]; exact hlt
    have hlt':(i:Int)<(n:Int):=by omega
    obtain ⟨ad,hA,hadb,hcell⟩:=qaX (f:=kCell) (m:=2) (fun _=>rfl) (by decide) (HR.out.below (HBW.out.mono (Nat.le_trans HBB.out HB0.out.size))) hil;subst hA;obtain ⟨X,hX⟩:=eX (ks[i]);rw [← hX] at hcell;have HCL:=zY (show ∀ j u,(kCell X).toList[j]?=some u→wr.cell? ((ad.add (i*2)).add j)=some u from fun j u hu=>hcell j u (by simpa using hu));have HKL:=zY (HKX.out X (by rw [hX]; exact List.getElem_mem hil));have HLT:=zY hlt
    have HNK:=zY (fun (hno:X.2.length=32→X.1=nameL X.2→X.1 ∈ (ks.take i).map (·.1))=>show mayB D num ks=false by
     rw [HHO.out];exact keysTo_no HTO.out hil (by rw [← hX]; exact hno))
    have HYK:=zY (fun (h1:X.2.length=32) (h2:X.1=nameL X.2) (h3:X.1 ∉ (ks.take i).map (·.1))=>show keysTo ks (i+1) from
     qdt HTO.out hil (by rw [← hX]; exact h1) (by rw [← hX]; exact h2) (by rw [← hX]; exact h3))
    clear hX hcell hadb hil hlt
    go_upto_region 8 with (first
     | refine qaD (r:=(kCell X).toList) HCL.out rfl rfl rfl huj rfl qbq ?_
     | (refine qae (cells:=kCell X) (Blk.new _ _ _) rfl rfl rfl rfl qbq rfl (qdw X) ?_; intro w5 hb5 hw5))
    have hbw5:Below wr.heap.size wr w5:=qaN hw5;obtain ⟨H,hH⟩:=eX (wr.heap.size);rw [← hH] at hb5 ⊢;have HK5:=zY hb5;have HB5:=zY (HBW.out.trans (hbw5.mono HBW.out.size));have hc1:w5.cell? ⟨H,1,none⟩=some (.string (bs X.2)):=hb5.cell 1;have hs0:((bs X.2).size:Int)=(X.2.length:Int):=by rw [qaB]
    have HHW:=zY (show W0.heap.size≤H by rw [hH]; exact HBW.out.size);clear hb5 hw5 hbw5 a2 hH
    by_cases h32:X.2.length=32
    ·have HS32:=zY (show (bs X.2).size=32 by rw [qaB,h32]);have HSZ:=zY (show ((bs X.2).size:Int)=32 by rw [hs0,h32]; rfl)
     have HNA:=zY (show ∀ A c u,Rd u u.heap.size A (bytesV X.2)→32≤c→Calls Tryz.prog 14 #[.slice A 32 c] u (fun e w'=>e=.returned (.string (bs (nameL X.2)))∧Below u.heap.size u w') from
      fun A c u h1 h2=>by have h:=rname_any X.2 (by omega) A c u h1 (by omega) (qce X.2); rw [h32] at h; exact h)
     have hus:=Tryz.underlying9;have hub8:=Tryz.underlying40;have hu8:=Tryz.underlying5;have HC0:Below w5.heap.size w5 w5.drew:=(Below.refl _ _).drew;have H32:=zY h32;clear hs0 h32 hc1;obtain ⟨q,hq⟩:=eX (decide (X.1=nameL X.2));have HQ:=zY (show ((bs X.1).toList == (bs (nameL X.2)).toList)=q by rw [qas,qas,hq]; by_cases h:X.1=nameL X.2 <;> simp [h]);have HQQ:=zY hq;clear hq
     refine qap (fun u=>Below w5.heap.size w5 u) (fun | false=>(fun _=>True) | true=>(fun _=>True)) (fun | false,_=>false | true,_=>false)
      [fun z _=>z 0=.pointer (some ⟨H,1,none⟩),
       fun z _=>z 1=.string (bs X.2),
       fun z _=>z 2=.int .i64 32,
       fun z _=>z 3=.bool false,
       fun z _=>z 4=.bool false,
       fun z _=>z 5=.pointer (some ⟨H,0,none⟩),
       fun z _=>z 6=.string (bs X.1),
       fun z _=>z 7=.pointer (some ⟨H,1,none⟩),
       fun z _=>z 8=.string (bs X.2),
       fun z u=>(fun v u=>BytFrom u 0 32 X.2 v) (z 9) u,
       fun z _=>z 10=.string (bs (nameL X.2)),
       fun z _=>z 11=.bool (!q),
       fun z _=>z 12=.bool (!q)]
      [Eq,Eq,Eq,Eq,Eq,Eq,Eq,Eq,Eq,fun u u'=>Below u.heap.size u u',fun u u'=>Below u.heap.size u u',Eq,Eq]
      (fun _ _=>false) [(0,some 40),(1,some 41),(2,some 42),(3,some 43),(4,some 44),(5,some 45),(6,some 46),(7,some 47),(8,some 48),(9,some 49),(10,some 50),(11,some 51),(12,some 52)] (by kernel_rfl) (by kernel_rfl) rfl (fun _=>rfl) ?_ ?_ ?_ ?_ ?_ ?_
     ·exact HC0
     ·intro m; cases m; exact trivial; exact trivial
     ·intro m; cases m
      ·refine ⟨?_,?_,?_,?_,?_,?_,?_,?_,?_,?_,?_,?_,?_,trivial⟩ <;> first | exact .inr fun _ _ h h0=>h▸h0 | exact .inr fun _ _ _ h=>h
      ·refine ⟨?_,?_,?_,?_,?_,?_,?_,?_,?_,?_,?_,?_,?_,trivial⟩ <;> first | exact .inr fun _ _ h h0=>h▸h0 | exact .inr fun _ _ _ h=>h
     ·refine ⟨⟨.inl rfl,?_,?_,?_,?_,?_,?_,?_,?_,?_,?_,?_,?_,trivial⟩,⟨?_,.inl rfl,?_,?_,?_,?_,?_,?_,?_,?_,?_,?_,?_,trivial⟩,⟨?_,?_,.inl rfl,?_,?_,?_,?_,?_,?_,?_,?_,?_,?_,trivial⟩,⟨?_,?_,?_,.inl rfl,?_,?_,?_,?_,?_,?_,?_,?_,?_,trivial⟩,⟨?_,?_,?_,?_,.inl rfl,?_,?_,?_,?_,?_,?_,?_,?_,trivial⟩,⟨?_,?_,?_,?_,?_,.inl rfl,?_,?_,?_,?_,?_,?_,?_,trivial⟩,⟨?_,?_,?_,?_,?_,?_,.inl rfl,?_,?_,?_,?_,?_,?_,trivial⟩,⟨?_,?_,?_,?_,?_,?_,?_,.inl rfl,?_,?_,?_,?_,?_,trivial⟩,⟨?_,?_,?_,?_,?_,?_,?_,?_,.inl rfl,?_,?_,?_,?_,trivial⟩,⟨?_,?_,?_,?_,?_,?_,?_,?_,?_,.inl rfl,?_,?_,?_,trivial⟩,⟨?_,?_,?_,?_,?_,?_,?_,?_,?_,.inr (.inr (.inr (fun _ _ _ _ h h0=>h0.step h))),.inl rfl,?_,?_,trivial⟩,⟨?_,?_,?_,?_,?_,?_,?_,?_,?_,?_,?_,.inl rfl,?_,trivial⟩,⟨?_,?_,?_,?_,?_,?_,?_,?_,?_,?_,?_,?_,.inl rfl,trivial⟩,trivial⟩ <;> first | exact .inr (.inr (.inl rfl)) | exact .inr (.inr (.inr fun _ _ _ _ _ h=>h)) | exact .inr (.inr (.inr fun _ _ _ _ h h0=>by cases h; exact h0))
     ·refine ⟨?_,?_,?_,?_,?_,?_,?_,?_,?_,?_,?_,?_,?_,trivial⟩
      ·refine qab [] (fun _=>rfl) rfl ?_;intro w1 vals hC1 hi0 hf E hE;clear hi0;clear hf;simp only [sP] at hE ⊢;go_wp2;exact .mk (hE _ _ rfl hC1 rfl)
      ·refine qab [(0,some 40)] (fun _=>rfl) rfl ?_;intro w1 vals hC1 hi0 hf E hE;clear hi0;have f0:vals 0=_:=hf 0 rfl
       try dsimp only at f0
       clear hf;simp only [sP,f0] at hE ⊢;clear f0;have d0:=(HK5.out.below hC1 HK5.out.lt).cell 1;simp only [kCell,List.getElem?_toArray,List.getElem?_cons_zero,List.getElem?_cons_succ] at d0;go_wp2;exact .mk (hE _ _ rfl hC1 rfl)
      ·refine qab [(1,some 41)] (fun _=>rfl) rfl ?_;intro w1 vals hC1 hi0 hf E hE;clear hi0;have f1:vals 1=_:=hf 1 rfl
       try dsimp only at f1
       clear hf;simp only [sP,f1] at hE ⊢;clear f1;have hsz:=HSZ.out;go_wp2;exact .mk (hE _ _ rfl hC1 rfl)
      ·refine qab [(2,some 42)] (fun _=>rfl) rfl ?_;intro w1 vals hC1 hi0 hf E hE;clear hi0;have f2:vals 2=_:=hf 2 rfl
       try dsimp only at f2
       clear hf;simp only [sP,f2] at hE ⊢;clear f2;go_wp2;exact .mk (hE _ _ rfl hC1 rfl)
      ·refine qab [(3,some 43)] (fun _=>rfl) rfl ?_;intro w1 vals hC1 hi0 hf E hE;clear hi0;have f3:vals 3=_:=hf 3 rfl
       try dsimp only at f3
       clear hf;simp only [sP,f3] at hE ⊢;clear f3;go_wp2;exact .mk (hE _ _ rfl hC1 rfl)
      ·refine qaj [(4,some 44)] (fun _=>rfl) 4 44 false rfl rfl ?_ ?_
       ·intro w1 vals hC1 hi0 hf hy E hE;dsimp only at hE ⊢;clear hi0;have f4:vals 4=_:=hf 4 rfl
        try dsimp only at f4
        clear hf;clear hy;simp only [sP,f4] at hE ⊢;clear f4;go_wp2;exact .mk (hE _ _ rfl hC1 rfl)
       ·intro w1 vals hC1 hi0 hf hy;clear hi0;have f4:vals 4=_:=hf 4 rfl
        try dsimp only at f4
        clear hf;exact absurd (by simp only [sP,f4]; rfl) hy
      ·refine qaj [(5,some 45),(4,some 44)] (fun _=>rfl) 4 44 false rfl rfl ?_ ?_
       ·intro w1 vals hC1 hi0 hf hy E hE;dsimp only at hE ⊢;clear hi0;have f4:vals 4=_:=hf 4 rfl;have f5:vals 5=_:=hf 5 rfl
        try dsimp only at f4 f5
        clear hf;clear hy;simp only [sP,f4,f5] at hE ⊢;clear f4 f5;have d0:=(HK5.out.below hC1 HK5.out.lt).cell 0;simp only [kCell,List.getElem?_toArray,List.getElem?_cons_zero,List.getElem?_cons_succ] at d0;go_wp2;exact .mk (hE _ _ rfl hC1 rfl)
       ·intro w1 vals hC1 hi0 hf hy;clear hi0;have f4:vals 4=_:=hf 4 rfl;have f5:vals 5=_:=hf 5 rfl
        try dsimp only at f4 f5
        clear hf;exact absurd (by simp only [sP,f4]; rfl) hy
      ·refine qaj [(4,some 44)] (fun _=>rfl) 4 44 false rfl rfl ?_ ?_
       ·intro w1 vals hC1 hi0 hf hy E hE;dsimp only at hE ⊢;clear hi0;have f4:vals 4=_:=hf 4 rfl
        try dsimp only at f4
        clear hf;clear hy;simp only [sP,f4] at hE ⊢;clear f4;go_wp2;exact .mk (hE _ _ rfl hC1 rfl)
       ·intro w1 vals hC1 hi0 hf hy;clear hi0;have f4:vals 4=_:=hf 4 rfl
        try dsimp only at f4
        clear hf;exact absurd (by simp only [sP,f4]; rfl) hy
      ·refine qaj [(7,some 47),(4,some 44)] (fun _=>rfl) 4 44 false rfl rfl ?_ ?_
       ·intro w1 vals hC1 hi0 hf hy E hE;dsimp only at hE ⊢;clear hi0;have f4:vals 4=_:=hf 4 rfl;have f7:vals 7=_:=hf 7 rfl
        try dsimp only at f4 f7
        clear hf;clear hy;simp only [sP,f4,f7] at hE ⊢;clear f4 f7;have d0:=(HK5.out.below hC1 HK5.out.lt).cell 1;simp only [kCell,List.getElem?_toArray,List.getElem?_cons_zero,List.getElem?_cons_succ] at d0;go_wp2;exact .mk (hE _ _ rfl hC1 rfl)
       ·intro w1 vals hC1 hi0 hf hy;clear hi0;have f4:vals 4=_:=hf 4 rfl;have f7:vals 7=_:=hf 7 rfl
        try dsimp only at f4 f7
        clear hf;exact absurd (by simp only [sP,f4]; rfl) hy
      ·refine qaj [(8,some 48),(4,some 44)] (fun _=>rfl) 4 44 false rfl rfl ?_ ?_
       ·intro w1 vals hC1 hi0 hf hy E hE;dsimp only at hE ⊢;clear hi0;have f4:vals 4=_:=hf 4 rfl;have f8:vals 8=_:=hf 8 rfl
        try dsimp only at f4 f8
        clear hf;clear hy;simp only [sP,f4,f8] at hE ⊢;clear f4 f8;refine qaT (s:=bs X.2) hus hub8 hu8 rfl rfl rfl (by rw [HS32.out]; decide) ?_;intro c7 w7 hr7 hc7 hm7 hb7;rw [HS32.out] at hc7 ⊢;go_wp2_with fail;exact .mk (hE _ _ ⟨_,c7,rfl,hc7,hm7,Nat.zero_le _,hr7⟩ (hC1.trans (hb7.mono hC1.size)) hb7)
       ·intro w1 vals hC1 hi0 hf hy;clear hi0;have f4:vals 4=_:=hf 4 rfl;have f8:vals 8=_:=hf 8 rfl
        try dsimp only at f4 f8
        clear hf;exact absurd (by simp only [sP,f4]; rfl) hy
      ·refine qaj [(9,some 49),(4,some 44),(4,some 44)] (fun _=>rfl) 4 44 false rfl rfl ?_ ?_
       ·intro w1 vals hC1 hi0 hf hy E hE;dsimp only at hE ⊢;clear hi0;have f4:vals 4=_:=hf 4 rfl;have f9:(fun v u=>BytFrom u 0 32 X.2 v) (vals 9) w1:=hf 9 rfl
        try dsimp only at f4 f9
        clear hf;clear hy;obtain ⟨g9,c9,hx9,hc9,hm9,hl9,hr9⟩:=f9;simp only [sP,f4,hx9] at hE ⊢;clear f4;clear hx9;go_wp2_with fail;refine qaa (HNA.out _ c9 _ hr9 hc9) ?_;rintro e w2 ⟨rfl,hb2⟩;go_wp2_with fail;exact .mk (hE _ _ rfl (hC1.trans (hb2.mono hC1.size)) hb2)
       ·intro w1 vals hC1 hi0 hf hy;clear hi0;have f4:vals 4=_:=hf 4 rfl;have f9:(fun v u=>BytFrom u 0 32 X.2 v) (vals 9) w1:=hf 9 rfl
        try dsimp only at f4 f9
        clear hf;exact absurd (by simp only [sP,f4]; rfl) hy
      ·refine qaj [(6,some 46),(10,some 50),(4,some 44)] (fun _=>rfl) 4 44 false rfl rfl ?_ ?_
       ·intro w1 vals hC1 hi0 hf hy E hE;dsimp only at hE ⊢;clear hi0;have f4:vals 4=_:=hf 4 rfl;have f6:vals 6=_:=hf 6 rfl;have f10:vals 10=_:=hf 10 rfl
        try dsimp only at f4 f6 f10
        clear hf;clear hy;simp only [sP,f4,f6,f10] at hE ⊢;clear f4 f6 f10;have hq:=HQ.out;go_wp2;exact .mk (hE _ _ rfl hC1 rfl)
       ·intro w1 vals hC1 hi0 hf hy;clear hi0;have f4:vals 4=_:=hf 4 rfl;have f6:vals 6=_:=hf 6 rfl;have f10:vals 10=_:=hf 10 rfl
        try dsimp only at f4 f6 f10
        clear hf;exact absurd (by simp only [sP,f4]; rfl) hy
      ·refine qab [(4,some 44),(11,some 51)] (fun _=>rfl) rfl ?_;intro w1 vals hC1 hi0 hf E hE;clear hi0;have f4:vals 4=_:=hf 4 rfl;have f11:vals 11=_:=hf 11 rfl
       try dsimp only at f4 f11
       clear hf;simp only [sP,f4,f11] at hE ⊢;clear f4 f11;go_wp2;exact .mk (hE _ _ rfl hC1 rfl)
     intro w1 vals hC1 hf;have f0:vals 0=_:=hf 0 (by decide) rfl;have f1:vals 1=_:=hf 1 (by decide) rfl;have f2:vals 2=_:=hf 2 (by decide) rfl;have f3:vals 3=_:=hf 3 (by decide) rfl;have f4:vals 4=_:=hf 4 (by decide) rfl;have f5:vals 5=_:=hf 5 (by decide) rfl;have f6:vals 6=_:=hf 6 (by decide) rfl;have f7:vals 7=_:=hf 7 (by decide) rfl;have f8:vals 8=_:=hf 8 (by decide) rfl;have f9:(fun v u=>BytFrom u 0 32 X.2 v) (vals 9) w1:=hf 9 (by decide) rfl;have f10:vals 10=_:=hf 10 (by decide) rfl;have f11:vals 11=_:=hf 11 (by decide) rfl;have f12:vals 12=_:=hf 12 (by decide) rfl
     try dsimp only at f0 f1 f2 f3 f4 f5 f6 f7 f8 f9 f10 f11 f12
     clear hf;simp only [sP,f0,f1,f2,f3,f4,f5,f6,f7,f8,f10,f11,f12];clear f0 f1 f2 f3 f4 f5 f6 f7 f8 f10 f11 f12;generalize vals 9=x9 at *;have HB6:=zY (HB5.out.trans (hC1.mono HB5.out.size));have HK6:=zY (HK5.out.below hC1 HK5.out.lt);clear hC1 HC0
     cases q with
     | false =>
      have HNO:=zY (HNK.out fun _ h=>absurd h (of_decide_eq_false HQQ.out.symm));go_wp2_with fail;go_ret;exact ⟨by rw [HRR.out,HNO.out]; rfl,HB0.out.trans (HB6.out.mono HB0.out.size)⟩
     | true =>
      have HKN:=zY (show X.1=nameL X.2 from of_decide_eq_true HQQ.out.symm);go_wp2_with fail
      go_loopw [6] (fun x wq=>∃ j:Nat,j≤i∧x=.int .i64 (j:Int)∧X.1 ∉ (ks.take j).map (·.1)∧Below w1.heap.size w1 wq) (fun x _=>i - (intOf x).toNat)
      case atStart=>exact ⟨0,Nat.zero_le _,rfl,by simp,Below.refl _ _⟩
      case round =>
       obtain ⟨j,hj,rfl,hno,hbq⟩:=hrel;have HNJ:=zY hno;have HBQ:=zY hbq;have HBX:=zY (HB6.out.trans (hbq.mono HB6.out.size));have b2:wr.cell? ⟨w.heap.size,2,none⟩=some (.slice (some ad) n c):=(HK.out.below HBX.out HK.out.lt).cell 2;have b0:wr.cell? ⟨H,0,none⟩=some (.string (bs X.1)):=(HK6.out.below hbq HK6.out.lt).cell 0;clear hno hbq
       by_cases hlj:j<i
       ·have hjl:j<ks.length:=by have:=HN.out; have:=HLT.out; omega
        have hlj':(j:Int)<(i:Int):=by omega
        have hjn:(j:Int)<(n:Int):=by have:=HLT.out; omega
        obtain ⟨ad2,hA2,-,hcell2⟩:=qaX (f:=kCell) (m:=2) (fun _=>rfl) (by decide) (HR.out.below (HBX.out.mono (Nat.le_trans HBB.out HB0.out.size))) hjl
        injection hA2 with hA2
        subst hA2;obtain ⟨Y,hY⟩:=eX (ks[j]);rw [← hY] at hcell2;have c0:wr.cell? (ad.add (j*2))=some (.string (bs Y.1)):=hcell2 0 _ rfl;have HLJ:=zY hlj
        by_cases hq:Y.1=X.1
        ·have hq':((bs Y.1).toList == (bs X.1).toList)=true:=by rw [qas,qas]; simpa using hq
         have HNO:=zY (HNK.out fun _ _=>List.mem_map.2 ⟨Y,by
          rw [hY];exact List.mem_take_iff_getElem.2 ⟨j,by omega,rfl⟩,hq⟩)
         clear hY hcell2 hjl hlj hq;go_wp2_with fail
         go_quiet (fail)
         go_wp2_with fail;go_ret;exact ⟨by rw [HRR.out,HNO.out]; rfl,qbT (HB0.out.trans (HBX.out.mono HB0.out.size)) _⟩
        ·have hq':((bs Y.1).toList == (bs X.1).toList)=false:=by rw [qas,qas]; simpa using hq
         have HN2:=zY (show X.1 ∉ (ks.take (j+1)).map (·.1) by
          rw [List.take_succ_eq_append_getElem hjl,List.map_append,List.mem_append];rintro (h1 | h1)
          ·exact HNJ.out h1
          ·have h2:X.1=ks[j].1:=List.mem_singleton.1 h1;exact hq (by rw [hY,h2]))
         clear hY hcell2 hjl hlj hq;go_wp2_with fail
         go_quiet (fail)
         go_wp2_with fail
         go_roundw
         case rel=>exact ⟨j+1,HLJ.out,by go_num,HN2.out,qbT HBQ.out _⟩
         case measure=>have:=HLJ.out; simp [intOf]; omega
       ·obtain rfl:j=i:=by omega
        have HTO2:=zY (HYK.out H32.out HKN.out HNJ.out);clear hlj;go_wp2_with fail
        go_roundw
        case rel=>exact ⟨j+1,HLT.out,by go_num,HTO2.out,HBX.out⟩
        case measure=>have:=HLT.out; simp [intOf]; omega
    ·have h32':¬ ((bs X.2).size:Int)=32:=by omega
     have HNO:=zY (HNK.out fun h=>absurd h h32);clear hs0 h32
     go_quiet (fail)
     go_wp2_with fail;go_ret;exact ⟨by rw [HRR.out,HNO.out]; rfl,qbT (HB0.out.trans (HB5.out.mono HB0.out.size)) _⟩
   ·obtain rfl:i=n:=by omega
    have HYS:=zY (show mayB D num ks=true by rw [HHO.out]; exact keysTo_all HTO.out HN.out);go_wp2_with fail;go_ret;exact ⟨by rw [HRR.out,HYS.out]; rfl,HB0.out.trans (HBW.out.mono HB0.out.size)⟩
def valueI (z:Int):Int:=if 65≤z∧z≤90 then z - 65 else if 97≤z∧z≤122 then z - 97+26 else if 48≤z∧z≤57 then z - 48+52 else if z=45 then 62 else if z=95 then 63 else -1
theorem value64_any (z:Int) (h0:0≤z) (h1:z≤255) (w:World):Calls Tryz.prog 50 #[.int .u8 z] w fun e w'=>e=.returned (.int .i64 (valueI z))∧w'=w:=by
 have hc:(0≤z∧z≤44)∨(45≤z∧z≤45)∨(46≤z∧z≤47)∨(48≤z∧z≤57)∨(58≤z∧z≤64)∨(65≤z∧z≤90)∨(91≤z∧z≤94)∨(95≤z∧z≤95)∨(96≤z∧z≤96)∨(97≤z∧z≤122)∨(123≤z∧z≤255):=by omega
 rcases hc with ⟨l,h⟩ | ⟨l,h⟩ | ⟨l,h⟩ | ⟨l,h⟩ | ⟨l,h⟩ | ⟨l,h⟩ | ⟨l,h⟩ | ⟨l,h⟩ | ⟨l,h⟩ | ⟨l,h⟩ | ⟨l,h⟩
 ·clear h0 h1;have HV:=zY (show valueI z=-1 by unfold valueI; repeat (first | rw [if_pos (by omega)] | rw [if_neg (by omega)]));have:¬ 65≤z:=by omega
  have:z≤90:=by omega
  have:¬ 97≤z:=by omega
  have:z≤122:=by omega
  have:¬ 48≤z:=by omega
  have:z≤57:=by omega
  have:(z == 45)=false:=by simp; omega
  have:(z == 95)=false:=by simp; omega
  go_enter Tryz.func50,Tryz.ntmps50;go_wp2_with fail;go_ret;exact ⟨by rw [HV.out]; rfl,rfl⟩
 ·clear h0 h1;have HV:=zY (show valueI z=62 by unfold valueI; repeat (first | rw [if_pos (by omega)] | rw [if_neg (by omega)]));obtain rfl:z=45:=by omega
  go_enter Tryz.func50,Tryz.ntmps50;go_wp2_with fail;go_ret;exact ⟨by rw [HV.out]; rfl,rfl⟩
 ·clear h0 h1;have HV:=zY (show valueI z=-1 by unfold valueI; repeat (first | rw [if_pos (by omega)] | rw [if_neg (by omega)]));have:¬ 65≤z:=by omega
  have:z≤90:=by omega
  have:¬ 97≤z:=by omega
  have:z≤122:=by omega
  have:¬ 48≤z:=by omega
  have:z≤57:=by omega
  have:(z == 45)=false:=by simp; omega
  have:(z == 95)=false:=by simp; omega
  go_enter Tryz.func50,Tryz.ntmps50;go_wp2_with fail;go_ret;exact ⟨by rw [HV.out]; rfl,rfl⟩
 ·clear h0 h1;have HV:=zY (show valueI z=z - 48+52 by unfold valueI; repeat (first | rw [if_pos (by omega)] | rw [if_neg (by omega)]));have:¬ 65≤z:=by omega
  have:z≤90:=by omega
  have:¬ 97≤z:=by omega
  have:z≤122:=by omega
  have:48≤z:=by omega
  have:z≤57:=by omega
  have:(z == 45)=false:=by simp; omega
  have:(z == 95)=false:=by simp; omega
  go_enter Tryz.func50,Tryz.ntmps50;go_wp2_with fail;go_ret;exact ⟨by rw [HV.out]; rfl,rfl⟩
 ·clear h0 h1;have HV:=zY (show valueI z=-1 by unfold valueI; repeat (first | rw [if_pos (by omega)] | rw [if_neg (by omega)]));have:¬ 65≤z:=by omega
  have:z≤90:=by omega
  have:¬ 97≤z:=by omega
  have:z≤122:=by omega
  have:48≤z:=by omega
  have:¬ z≤57:=by omega
  have:(z == 45)=false:=by simp; omega
  have:(z == 95)=false:=by simp; omega
  go_enter Tryz.func50,Tryz.ntmps50;go_wp2_with fail;go_ret;exact ⟨by rw [HV.out]; rfl,rfl⟩
 ·clear h0 h1;have HV:=zY (show valueI z=z - 65 by unfold valueI; repeat (first | rw [if_pos (by omega)] | rw [if_neg (by omega)]));have:65≤z:=by omega
  have:z≤90:=by omega
  have:¬ 97≤z:=by omega
  have:z≤122:=by omega
  have:48≤z:=by omega
  have:¬ z≤57:=by omega
  have:(z == 45)=false:=by simp; omega
  have:(z == 95)=false:=by simp; omega
  go_enter Tryz.func50,Tryz.ntmps50;go_wp2_with fail;go_ret;exact ⟨by rw [HV.out]; rfl,rfl⟩
 ·clear h0 h1;have HV:=zY (show valueI z=-1 by unfold valueI; repeat (first | rw [if_pos (by omega)] | rw [if_neg (by omega)]));have:65≤z:=by omega
  have:¬ z≤90:=by omega
  have:¬ 97≤z:=by omega
  have:z≤122:=by omega
  have:48≤z:=by omega
  have:¬ z≤57:=by omega
  have:(z == 45)=false:=by simp; omega
  have:(z == 95)=false:=by simp; omega
  go_enter Tryz.func50,Tryz.ntmps50;go_wp2_with fail;go_ret;exact ⟨by rw [HV.out]; rfl,rfl⟩
 ·clear h0 h1;have HV:=zY (show valueI z=63 by unfold valueI; repeat (first | rw [if_pos (by omega)] | rw [if_neg (by omega)]));obtain rfl:z=95:=by omega
  go_enter Tryz.func50,Tryz.ntmps50;go_wp2_with fail;go_ret;exact ⟨by rw [HV.out]; rfl,rfl⟩
 ·clear h0 h1;have HV:=zY (show valueI z=-1 by unfold valueI; repeat (first | rw [if_pos (by omega)] | rw [if_neg (by omega)]));obtain rfl:z=96:=by omega
  go_enter Tryz.func50,Tryz.ntmps50;go_wp2_with fail;go_ret;exact ⟨by rw [HV.out]; rfl,rfl⟩
 ·clear h0 h1;have HV:=zY (show valueI z=z - 97+26 by unfold valueI; repeat (first | rw [if_pos (by omega)] | rw [if_neg (by omega)]));have:65≤z:=by omega
  have:¬ z≤90:=by omega
  have:97≤z:=by omega
  have:z≤122:=by omega
  have:48≤z:=by omega
  have:¬ z≤57:=by omega
  have:(z == 45)=false:=by simp; omega
  have:(z == 95)=false:=by simp; omega
  go_enter Tryz.func50,Tryz.ntmps50;go_wp2_with fail;go_ret;exact ⟨by rw [HV.out]; rfl,rfl⟩
 ·clear h0 h1;have HV:=zY (show valueI z=-1 by unfold valueI; repeat (first | rw [if_pos (by omega)] | rw [if_neg (by omega)]));have:65≤z:=by omega
  have:¬ z≤90:=by omega
  have:97≤z:=by omega
  have:¬ z≤122:=by omega
  have:48≤z:=by omega
  have:¬ z≤57:=by omega
  have:(z == 45)=false:=by simp; omega
  have:(z == 95)=false:=by simp; omega
  go_enter Tryz.func50,Tryz.ntmps50;go_wp2_with fail;go_ret;exact ⟨by rw [HV.out]; rfl,rfl⟩
def bitL:Nat→Nat→List Nat
 | 0,_=>[]
 | m+1,n=>bitL m (n/2)++[n%2]
def numL (l:List Nat):Nat:=l.foldl (fun n b=>2*n+b) 0
def intsV (l:List Nat):List Value:=l.map fun n=>.int .i64 ((n:Nat):Int)
theorem qco (l:List Nat):(intsV l).length=l.length:=by simp [intsV]
theorem qcp (l r:List Nat):intsV (l++r)=intsV l++intsV r:=by simp [intsV]
theorem qby:∀ m n:Nat,(bitL m n).length=m
 | 0,_=>rfl
 | m+1,n=>by simp [bitL,qby m]
theorem bitL_le:∀ m n:Nat,∀ b ∈ bitL m n,b≤1
 | 0,_,b,h=>by cases h
 | m+1,n,b,h=>by
  rcases List.mem_append.1 h with h | h
  ·exact bitL_le m _ b h
  ·have:b=n%2:=by simpa using h
   omega
theorem qdk (l:List Nat) (b:Nat):numL (l++[b])=2*numL l+b:=by simp [numL]
theorem fold_lt:∀ (l:List Nat) (a:Nat),(∀ b ∈ l,b≤1)→l.foldl (fun n b=>2*n+b) a<(a+1)*2^l.length
 | [],a,_=>by simp
 | b :: r,a,h=>by
  have h1:=fold_lt r (2*a+b) (fun x hx=>h x (List.mem_cons_of_mem _ hx));have h2:=h b List.mem_cons_self;rw [List.foldl_cons,List.length_cons,Nat.pow_succ];have h3:(2*a+b+1)*2^r.length≤(2*(a+1))*2^r.length:=Nat.mul_le_mul_right _ (by omega);rw [show (a+1)*(2^r.length*2)=(2*(a+1))*2^r.length by rw [Nat.mul_comm (2^r.length) 2,← Nat.mul_assoc,Nat.mul_comm (a+1) 2]];omega
theorem numL_lt (l:List Nat) (h:∀ b ∈ l,b≤1):numL l<2^l.length:=by
 have:=fold_lt l 0 h
 simpa [numL] using this
theorem qdl:∀ (m n:Nat),n<2^m→numL (bitL m n)=n
 | 0,n,h=>by simp [bitL,numL] at h ⊢; omega
 | m+1,n,h=>by
  rw [bitL,qdk,qdl m (n/2) (by rw [Nat.pow_succ] at h; omega)];omega
theorem letter64_any (n:Nat) (hn:n<64) (w:World):Calls Tryz.prog 45 #[.int .i64 (n:Int)] w fun e w'=>e=.returned (byteV (ltr n))∧w'=w:=by
 have key:∀ (x:Fin 64) (c:Fin 128),(valueI ((c.1:Nat):Int)=((x.1:Nat):Int))↔c.1=(ltr x.1).toNat:=by decide +kernel
 have hlt:(ltr n).toNat<128:=by
  have k2:∀ x:Fin 64,(ltr x.1).toNat<128:=by decide +kernel
  exact k2 ⟨n,hn⟩
 obtain ⟨t,ht⟩:=eX ((ltr n).toNat);have HV:=zY (fun (c:Nat) (hc:c<128)=>show (valueI ((c:Nat):Int)=(n:Int))↔c=t by rw [ht]; exact key ⟨n,hn⟩ ⟨c,hc⟩);have HC:=zY (fun (c:Nat) (hc:c<128)=>value64_any ((c:Nat):Int) (by omega) (by omega) w);have hb:byteV (ltr n)=.int .u8 ((t:Nat):Int):=by rw [ht]; rfl
 rw [hb];rw [← ht] at hlt;have HT:=zY hlt;clear ht hb hlt key;go_enter Tryz.func45,Tryz.ntmps45;go_wp2_with fail
 go_loop [3] (fun i=>∃ k:Nat,k≤t∧i=.int .i64 (k:Int)) (fun i=>128 - (intOf i).toNat)
 case atStart=>exact ⟨0,Nat.zero_le _,rfl⟩
 case round =>
  obtain ⟨k,hk,rfl⟩:=hrel;have hk':(k:Int)<128:=by have:=HT.out; omega
  have hkn:k<128:=by omega
  have CK:=zY (HC.out k hkn);have HVK:=zY (HV.out k hkn);obtain ⟨v,hv⟩:=eX (valueI ((k:Nat):Int));rw [← hv] at CK HVK;clear hv hkn
  by_cases he:k=t
  ·have hvn:v=(n:Int):=HVK.out.2 he;have hq:(v == (n:Int))=true:=by simpa using hvn
   subst he;clear hvn;go_wp2_with fail;refine qaa CK.out ?_;rintro e w' ⟨rfl,rfl⟩;go_wp2_with fail;go_ret;exact ⟨rfl,rfl⟩
  ·have hvn:¬ v=(n:Int):=fun h=>he (HVK.out.1 h);have hq:(v == (n:Int))=false:=by simpa using hvn
   have HLT:=zY (show k+1≤t by omega);clear hvn he;go_wp2_with fail;refine qaa CK.out ?_;rintro e w' ⟨rfl,rfl⟩;go_wp2_with fail
   go_round
   case rel=>exact ⟨k+1,HLT.out,by go_num⟩
   case measure=>have:=HLT.out; have:=HT.out; simp [intOf]; omega
theorem number64_any (l:List Nat) (hb:∀ b ∈ l,b≤1) (hl:l.length≤8) (A:Option Addr) (c B:Nat) (w:World) (hr:Rd w B A (intsV l)):Calls Tryz.prog 46 #[.slice A l.length c] w fun e w'=>e=.returned (.int .i64 ((numL l:Nat):Int))∧w'=w:=by
 obtain ⟨n,hn⟩:=eX (l.length);have HN:=zY hn;have HR:=zY hr;have HBT:=zY hb;have hn8:(n:Int)≤8:=by omega
 rw [← hn];clear hr hn hb hl;go_enter Tryz.func46,Tryz.ntmps46;go_wp2_with fail
 go_loop [3,4] (fun x i=>∃ k:Nat,k≤n∧i=.int .i64 (k:Int)∧x=.int .i64 ((numL (l.take k):Nat):Int)) (fun _ i=>n - (intOf i).toNat)
 case atStart=>exact ⟨0,Nat.zero_le _,rfl,by simp [numL]⟩
 case round =>
  obtain ⟨k,hk,rfl,rfl⟩:=hrel
  by_cases hlt:k<n
  ·have hks:k<l.length:=by rw [← HN.out]; exact hlt
   have hlt':(k:Int)<(n:Int):=by omega
   obtain ⟨ad,hA,-,hcell⟩:=HR.out.at_ (k:=k) (by rw [qco]; exact hks);subst hA;obtain ⟨x,hx⟩:=eX (l[k]);rw [show (intsV l)[k]'(by rw [qco]; exact hks)=.int .i64 ((x:Nat):Int) by simp [intsV,hx]] at hcell;have hx1:(x:Int)≤1:=by have:=HBT.out l[k] (List.getElem_mem hks); omega
   have hlt2:=numL_lt (l.take k) (fun b h=>HBT.out b (List.mem_of_mem_take h))
   have hp:2^(l.take k).length≤256:=by
    have:(2:Nat)^8=256:=rfl;rw [← this];exact Nat.pow_le_pow_right (by omega) (by rw [List.length_take]; omega)
   obtain ⟨y,hy⟩:=eX (numL (l.take k))
   have HST:=zY (show ((numL (l.take (k+1)):Nat):Int)=2*(y:Int)+(x:Int) by
    rw [List.take_succ_eq_append_getElem hks,qdk,hy,hx]
    omega)
   rw [← hy] at hlt2 ⊢;have hy1:(y:Int)≤256:=by omega
   have HLT:=zY hlt;clear hlt2 hp hy hx hlt;go_wp2_with fail
   go_round
   case rel=>exact ⟨k+1,HLT.out,by go_num,by rw [HST.out]⟩
   case measure=>have:=HLT.out; simp [intOf]; omega
  ·obtain rfl:k=n:=by omega
   have HE:=zY (show numL (l.take k)=numL l by rw [HN.out,List.take_length]);rw [HE.out];go_wp2_with fail;go_ret;exact ⟨rfl,rfl⟩
theorem set_bits (k:Nat) (T:List Nat) (x:Nat):((intsV (List.replicate (k+1) 0++T)).toArray).setIfInBounds k (.int .i64 ((x:Nat):Int))=(intsV (List.replicate k 0++(x :: T))).toArray:=by
 rw [List.setIfInBounds_toArray]
 congr 1
 rw [List.replicate_succ',List.append_assoc,qcp,List.set_append_right _ _ (by simp [intsV]),qcp];simp [intsV]
theorem bits64_any (m n:Nat) (hm:m=8∨m=6) (hn:n<256) (w:World):Calls Tryz.prog 44 #[.int .i64 (n:Int),.int .i64 (m:Int)] w fun e w'=>∃ g,e=.returned (.slice (some ⟨g,0,none⟩) m m)∧w.heap.size≤g∧Blk w' g 3 (intsV (bitL m n)).toArray∧Below w.heap.size w w':=by
 have hm8:(m:Int)≤8:=by omega
 have hmk:∀ u:World,(Instr.makeSlice 82 (.int .i64 (m:Int)) (.int .i64 (m:Int))).run Tryz.prog u=.ok (.slice (some ⟨u.heap.size,0,none⟩) m m) (u.alloc (.cells (intsV (List.replicate m 0)).toArray 3)):=by
  rcases hm with rfl | rfl
  ·intro u;show (Instr.makeSlice 82 (.int .i64 8) (.int .i64 8)).run Tryz.prog u=_
   kernel_rfl
  ·intro u;show (Instr.makeSlice 82 (.int .i64 6) (.int .i64 6)).run Tryz.prog u=_
   kernel_rfl
 have hn1:(n:Int)<256:=by omega
 have HNM:=zY hm;obtain ⟨W1,hW1⟩:=eX (w.alloc (.cells (intsV (List.replicate m 0)).toArray 3));have HB1:=zY (show Below w.heap.size w W1 by rw [hW1]; exact (Below.refl _ w).alloc (Nat.le_refl _) _);have HK1:=zY (show Blk W1 w.heap.size 3 (intsV (List.replicate m 0)).toArray by rw [hW1]; exact Blk.new _ _ _);have HW1:=zY hW1;clear hW1 hm;go_enter Tryz.func44,Tryz.ntmps44
 go_upto_region 2 with (fail)
 rw [← HW1.out];go_wp2_with fail
 go_loopw [6,0] (fun x y wr=>∃ (i q:Nat) (T:List Nat),x=.int .i64 ((i:Int) - 1)∧y=.int .i64 (q:Int)∧bitL m n=bitL i q++T∧T.length+i=m∧q<256∧Blk wr w.heap.size 3 (intsV (List.replicate i 0++T)).toArray∧Below w.heap.size w wr) (fun x _ _=>(intOf x+1).toNat)
 case atStart=>exact ⟨m,n,[],rfl,rfl,by simp,by simp,by omega,by rw [List.append_nil]; exact HK1.out,HB1.out⟩
 case round =>
  obtain ⟨i,q,T,rfl,rfl,hT,hTl,hq,hblk,hbel⟩:=hrel;have HBK:=zY hblk;have HBE:=zY hbel;have HTT:=zY hT;have HTL:=zY hTl;clear hblk hbel hT hTl
  cases i with
  | zero =>
   have h0:¬ (0:Int)≤((0:Nat):Int) - 1:=by omega
   have HE:=zY (show T=bitL m n by rw [HTT.out]; rfl);have hTm:T.length=m:=by have:=HTL.out; omega
   go_wp2_with fail;go_ret;refine ⟨_,rfl,Nat.le_refl _,?_,HBE.out⟩;have h:=HBK.out;rw [HE.out] at h
   simpa using h
  | succ k =>
   have h1:((k+1:Nat):Int) - 1=(k:Int):=by omega
   rw [h1];have hk8:(k:Int)<(m:Int):=by have:=HTL.out; omega
   have hq1:(q:Int)<256:=by omega
   have HQ:=zY hq;clear h1 hq;go_wp2_with (refine qag (x:=.tmp 19) (i:=k) HBK.out rfl rfl rfl rfl (by kernel_rfl) (by simp [intsV]; omega) rfl ?_; intro w5 hb5 hw5);have HST:=zY (show bitL m n=bitL k (q/2)++(q%2 :: T) by rw [HTT.out,bitL,List.append_assoc]; rfl)
   have hb6:Blk w5 w.heap.size 3 (intsV (List.replicate k 0++(q%2 :: T))).toArray:=by
    rw [← set_bits];exact hb5
   have hqd:q/2<256:=by have:=HQ.out; omega
   exact ⟨⟨k,q/2,q%2 :: T,rfl,by rw [show ((q/2:Nat):Int)=(q:Int)/2 by omega],HST.out,by have:=HTL.out; simp; omega,hqd,hb6,hw5.below HBE.out (Nat.le_refl _) HBE.out.size⟩,by simp only [intOf]; omega⟩
end Go.Proofs.YtlkikjeccamheaaGreatDoor.Js
namespace Go.Proofs.YtlkikjeccamheaaGreatDoor.Js
set_option linter.unusedSimpArgs false
set_option linter.unusedVariables false
set_option maxRecDepth 100000
set_option maxHeartbeats 4000000
theorem bitL_app:∀ (b a x y:Nat),y<2^b→bitL a x++bitL b y=bitL (a+b) (x*2^b+y)
 | 0,a,x,y,h=>by
  have:y=0:=by simp at h; omega
  simp [bitL,this]
 | b+1,a,x,y,h=>by
  rw [Nat.pow_succ] at h;have ih:=bitL_app b a x (y/2) (by omega)
  have e1:(x*2^(b+1)+y)/2=x*2^b+y/2:=by
   rw [Nat.pow_succ,← Nat.mul_assoc];omega
  have e2:(x*2^(b+1)+y)%2=y%2:=by
   rw [Nat.pow_succ,← Nat.mul_assoc];omega
  rw [show a+(b+1)=(a+b)+1 by omega,bitL,bitL,← List.append_assoc,ih,e1,e2]
theorem bitL_split (a b V:Nat):bitL (a+b) V=bitL a (V/2^b)++bitL b (V%2^b):=by
 rw [bitL_app b a _ _ (Nat.mod_lt _ (Nat.pow_pos (by omega)))]
 congr 1
 rw [Nat.mul_comm];exact (Nat.div_add_mod V (2^b)).symm
theorem numL_zeros:∀ (p:Nat) (l:List Nat),numL (l++List.replicate p 0)=numL l*2^p
 | 0,l=>by simp
 | p+1,l=>by
  rw [List.replicate_succ',← List.append_assoc,qdk,numL_zeros p l,Nat.pow_succ,Nat.add_zero,Nat.mul_comm (2^p) 2,← Nat.mul_assoc,← Nat.mul_assoc,Nat.mul_comm 2]
def grpL:Nat→List Nat→Bs
 | 0,_=>[]
 | f+1,l=>ltr (numL (l.take 6)) :: grpL f (l.drop 6)
theorem grpL_succ:∀ (f:Nat) (l:List Nat),grpL (f+1) l=grpL f l++[ltr (numL ((l.drop (6*f)).take 6))]
 | 0,l=>by simp [grpL]
 | f+1,l=>by
  rw [grpL,grpL_succ f (l.drop 6),grpL,List.drop_drop,show 6+6*f=6*(f+1) by omega];rfl
def bitsB (b:Bs):List Nat:=b.flatMap fun c=>bitL 8 c.toNat
theorem qdG:∀ b:Bs,(bitsB b).length=8*b.length
 | []=>rfl
 | c :: r=>by
  rw [bitsB,List.flatMap_cons,List.length_append,qby,List.length_cons];have:=qdG r;rw [bitsB] at this;omega
theorem grp_six {V f:Nat} {rest:List Nat} (h:V<64):grpL (f+1) (bitL 6 V++rest)=ltr V :: grpL f rest:=by
 rw [grpL,List.take_left' (qby 6 V),List.drop_left' (qby 6 V),qdl 6 V (by omega)]
theorem grp_enc:∀ (b:Bs) (m w f p:Nat),(m=0∨m=2∨m=4)→w<2^m→p<6→m+8*b.length+p=6*f→grpL f (bitL m w++(bitsB b++List.replicate p 0))=encS m w b
 | [],m,w,f,p,hm,hw,hp,hf=>by
  rw [encS];simp only [List.length_nil] at hf
  split
  ·rename_i h0
   have:f=0:=by omega
   subst this;rfl
  ·rename_i h0
   have e1:f=1:=by omega
   have e2:p=6 - m:=by omega
   subst e1 e2;have hn:=numL_zeros (6 - m) (bitL m w);rw [qdl m w hw] at hn;show grpL 1 (bitL m w++([]++List.replicate (6 - m) 0))=_;rw [List.nil_append,grpL,List.take_of_length_le (by rw [List.length_append,qby,List.length_replicate]; omega),hn];rfl
 | c :: r,m,w,f,p,hm,hw,hp,hf=>by
  have hc:=c.toNat_lt;rw [List.length_cons] at hf
  have e0:bitL m w++(bitsB (c :: r)++List.replicate p 0)=bitL (6+(m+2)) (w*256+c.toNat)++(bitsB r++List.replicate p 0):=by
   rw [bitsB,List.flatMap_cons,List.append_assoc,← List.append_assoc,bitL_app 8 m w c.toNat hc,show 6+(m+2)=m+8 by omega];rfl
  obtain ⟨g,rfl⟩:∃ g,f=g+1:=⟨f - 1,by omega⟩;rw [e0,bitL_split 6 (m+2),List.append_assoc,grp_six (by rcases hm with rfl | rfl | rfl <;> simp at hw ⊢ <;> omega),encS]
  split
  ·rename_i h2
   rw [grp_enc r (m+2) _ g p (by omega) (Nat.mod_lt _ (Nat.pow_pos (by omega))) hp (by omega)]
  ·rename_i h2
   have hm4:m=4:=by omega
   subst hm4;obtain ⟨j,rfl⟩:∃ j,g=j+1:=⟨g - 1,by omega⟩;have hV:(w*256+c.toNat)%2^(4+2)<64:=Nat.mod_lt _ (by decide);rw [show 4+2=6 from rfl] at hV ⊢;rw [grp_six hV];have ih:=grp_enc r 0 0 j p (.inl rfl) (by decide) hp (by omega);rw [show bitL 0 0=[] from rfl,List.nil_append] at ih;rw [ih];simp [Nat.mod_one]
theorem grp_all {b:Bs} {f p:Nat} (hp:p<6) (hf:8*b.length+p=6*f):grpL f (bitsB b++List.replicate p 0)=enc b:=by
 have h:=grp_enc b 0 0 f p (.inl rfl) (by decide) hp (by omega);rw [show bitL 0 0=[] from rfl,List.nil_append] at h;exact h
end Go.Proofs.YtlkikjeccamheaaGreatDoor.Js
namespace Go.Proofs.YtlkikjeccamheaaGreatDoor.Js
set_option linter.unusedSimpArgs false
set_option linter.unusedVariables false
set_option maxRecDepth 100000
set_option maxHeartbeats 4000000
open Go.RowKit
theorem sl_ints7:SlT Tryz.prog 82 3 1 8:=SlT.mk1 (z:=.int .i64 0) Tryz.underlying82 (by kernel_rfl) rfl (by decide)
theorem sl_u87:SlT Tryz.prog 40 5 1 1:=SlT.mk1 (z:=.int .u8 0) Tryz.underlying40 (by kernel_rfl) rfl (by decide)
theorem intsV_one (l:List Nat):∀ u ∈ intsV l,u.oneCell'=true:=fun u hu=>by
 obtain ⟨n,_,rfl⟩:=List.mem_map.1 hu;rfl
theorem bitsB_take {b:Bs} {k:Nat} (h:k<b.length):bitsB (b.take (k+1))=bitsB (b.take k)++bitL 8 b[k].toNat:=by
 rw [List.take_succ_eq_append_getElem h,bitsB,bitsB,List.flatMap_append];simp
theorem bitsB_le (b:Bs) (p:Nat):∀ x ∈ bitsB b++List.replicate p 0,x≤1:=fun x hx=>by
 rcases List.mem_append.1 hx with h | h
 ·obtain ⟨c,_,hc⟩:=List.mem_flatMap.1 h;exact bitL_le _ _ _ hc
 ·have:=(List.mem_replicate.1 h).2;omega
structure En (w0:World) (L:List Nat) (A:Option Addr) (c:Nat) (u:World):Prop where
 low:Below w0.heap.size w0 u
 row:OwnR u w0.heap.size 3 1 A c L.length (intsV L)
theorem En.new {w0 u u':World} {L:List Nat} {A:Option Addr} {c:Nat} (h:En w0 L A c u) (hb:Below u.heap.size u u'):En w0 L A c u':=⟨h.low.trans (hb.mono h.low.size),h.row.below hb⟩
theorem rd_part {w:World} {B:Nat} {ad:Addr} {xs:List Value} (h:Rd w B (some ad) xs) (i m:Nat):Rd w B (some (ad.add i)) ((xs.drop i).take m):=fun j u hu=>by
 rw [List.getElem?_take] at hu
 split at hu
 ·rw [List.getElem?_drop] at hu;obtain ⟨ad',e1,e2,e3⟩:=h (i+j) u hu
  injection e1 with e1
  subst e1;exact ⟨_,rfl,by rw [qaq]; exact e2,by rw [Deep.add_add]; exact e3⟩
 ·cases hu
theorem intsV_part (L:List Nat) (i m:Nat):((intsV L).drop i).take m=intsV ((L.drop i).take m):=by
 unfold intsV;rw [← List.map_drop,← List.map_take]
def padN (n:Nat):Nat:=(6 - n%6)%6
theorem padN_lt (n:Nat):padN n<6:=Nat.mod_lt _ (by decide)
theorem padN_ok (n:Nat):(n+padN n)%6=0:=by unfold padN; omega
theorem padN_no {n p:Nat} (h:p<padN n):(n+p)%6≠0:=by unfold padN at h; omega
def lenV:Value→Nat
 | .slice _ l _=>l
 | _=>0
theorem rencode_any (b:Bs) (hl:b.length≤100000) (A:Option Addr) (c:Nat) (w:World) (hr:Rd w w.heap.size A (bytesV b)) :
  Calls Tryz.prog 25 #[.slice A b.length c] w fun e w'=>e=.returned (.string (bs (enc b)))∧Below w.heap.size w w':=by
 obtain ⟨n,hn⟩:=eX (b.length);have HN:=zY hn;have HR:=zY hr;have hn1:(n:Int)≤100000:=by omega
 have HE0:=zY (show En w [] none 0 w from ⟨Below.refl _ _,OwnR.nil _ _ _ _⟩);have HBT:=zY (fun (x:Nat) (hx:x<256) (u:World)=>bits64_any 8 x (.inl rfl) hx u);rw [← hn];clear hn hr hl;go_enter Tryz.func25,Tryz.ntmps25;go_wp2_with fail
 go_loopw [3,4] (fun x y wr=>∃ (k:Nat) (L:List Nat) (A1:Option Addr) (c1:Nat),k≤n∧y=.int .i64 (k:Int)∧x=.slice A1 L.length c1∧L=bitsB (b.take k)∧En w L A1 c1 wr) (fun _ y _=>n - (intOf y).toNat)
 case atStart=>exact ⟨0,[],none,0,Nat.zero_le _,rfl,rfl,rfl,HE0.out⟩
 case round =>
  obtain ⟨k,L,A1,c1,hk,rfl,rfl,hL,hen⟩:=hrel;have HEN:=zY hen;have HL:=zY hL;have HLL:=zY (show L.length=8*k by rw [hL,qdG,List.length_take,← HN.out]; omega);have hll:(L.length:Int)≤800000:=by have:=HLL.out; omega
  clear hen hL
  by_cases hlt:k<n
  ·have hks:k<b.length:=by rw [← HN.out]; exact hlt
   have hlt':(k:Int)<(n:Int):=by omega
   obtain ⟨ad,hA,-,hcell⟩:=(HR.out.below HEN.out.low).at_ (k:=k) (by rw [qak]; exact hks);subst hA;obtain ⟨x,hx⟩:=eX ((b[k]'hks).toNat)
   have hbv:(bytesV b)[k]'(by rw [qak]; exact hks)=.int .u8 (x:Int):=by
    rw [hx]; simp [bytesV,byteV]
   rw [hbv] at hcell;have hc0:wr.cell? (ad.add k)=some (.int .u8 (x:Int)):=hcell;have hx8:x<256:=by rw [hx]; exact UInt8.toNat_lt _
   have hx1:(x:Int)<256:=by omega
   have HST:=zY (show bitsB (b.take (k+1))=L++bitL 8 x by rw [bitsB_take hks,HL.out,hx]);have CB:=zY (HBT.out x hx8 wr);have HLT:=zY hlt;clear hbv hcell hx hx8 hlt;go_wp2_with fail;refine qaa CB.out ?_;rintro e w2 ⟨g,rfl,hg,hbk,hb2⟩;have HE2:=zY (HEN.out.new hb2);have HBK:=zY hbk;clear hg hbk hb2 hc0;go_wp2_with (refine qa8 (news:=intsV (bitL 8 x)) (m:=8) sl_ints7 rfl rfl HE2.out.row rfl rfl (by rw [qco,qby]) (Rd.of_blk HBK.out HBK.out.lt) (intsV_one _) (by unfold maxLen; omega) (by omega) HE2.out.low.size ?_; intro A5 c5 w5 ho hg hn5);have HE5:=zY (show En w (L++bitL 8 x) A5 c5 w5 from ⟨HE2.out.low.grown hg (HE2.out.low.size) (fun k hk=>(HE2.out.row.lt k hk).1),by rw [List.length_append,qby,qcp]; exact ho⟩);clear ho hg hn5;exact ⟨⟨k+1,L++bitL 8 x,A5,c5,HLT.out,by go_num,by rw [List.length_append,qby],by rw [HST.out],HE5.out⟩,by have:=HLT.out; simp [intOf]; omega⟩
  ·obtain rfl:k=n:=by omega
   have HLB:=zY (show L=bitsB b by rw [HL.out,HN.out,List.take_length]);obtain ⟨P,hP⟩:=eX (padN (8*k));have hP6:P<6:=by rw [hP]; exact padN_lt _
   have HPO:=zY (show (8*k+P)%6=0 by rw [hP]; exact padN_ok _);have HPN:=zY (fun (p:Nat) (h:p<P)=>show (8*k+p)%6≠0 from padN_no (by rw [← hP]; exact h));have HE2:=zY (show En w (bitsB b++List.replicate 0 0) A1 c1 wr by rw [List.replicate_zero,List.append_nil,← HLB.out]; exact HEN.out);have HZL:=zY (fun (p:Nat)=>show (bitsB b++List.replicate p 0).length=8*k+p by rw [List.length_append,qdG,List.length_replicate,← HN.out]);have HL8:=zY (show L.length=8*k+0 from HLL.out);clear hP hll hk;go_wp2_with fail
   go_loopw [3] (fun x wr=>∃ (p:Nat) (A1:Option Addr) (c1:Nat),p≤P∧x=.slice A1 (8*k+p) c1∧En w (bitsB b++List.replicate p 0) A1 c1 wr) (fun x _=>8*k+P - lenV x)
   case atStart=>exact ⟨0,A1,c1,Nat.zero_le _,by rw [HL8.out],HE2.out⟩
   case round =>
    obtain ⟨p,A3,c3,hp,rfl,hen3⟩:=hrel;have HE3:=zY hen3;clear hen3;obtain ⟨z,hz⟩:=eX (8*k+p);have hz9:(z:Int)≤800005:=by omega
    have HZE:=zY hz;rw [← hz]
    by_cases hlt:p<P
    ·have hm6:((z:Int)%6 == 0)=false:=by
      have:=HPN.out p hlt;rw [← hz] at this;simp;omega
     have HLT:=zY hlt;have HSZ:=zY (show (bitsB b++List.replicate p 0).length=z by rw [HZL.out,hz]);have HRW:=zY (show OwnR wr w.heap.size 3 1 A3 c3 z (intsV (bitsB b++List.replicate p 0)) by have h:=HE3.out.row; rwa [HSZ.out] at h);clear hz hlt;go_wp2_with (refine qaU (ys:=[.int .i64 0]) sl_ints7 rfl rfl HRW.out rfl rfl rfl rfl (by simp [Value.oneCell']) (by unfold maxLen; omega) (by omega) HE3.out.low.size ?_; intro A5 c5 w5 ho hg hn5)
     have HE5:=zY (show En w (bitsB b++List.replicate (p+1) 0) A5 c5 w5 from ⟨HE3.out.low.grown hg HE3.out.low.size (fun k hk=>(HRW.out.lt k hk).1),by
      rw [HZL.out,List.replicate_succ',← List.append_assoc,qcp,show 8*k+(p+1)=z+1 by have:=HZE.out; omega]; exact ho⟩)
     clear ho hg hn5;exact ⟨⟨p+1,A5,c5,HLT.out,by rw [show 8*k+(p+1)=z+1 by have:=HZE.out; omega],HE5.out⟩,by have:=HLT.out; have:=HZE.out; simp only [lenV]; omega⟩
    ·obtain rfl:p=P:=by omega
     have hm6:((z:Int)%6 == 0)=true:=by
      have:=HPO.out;rw [← hz] at this;simp;omega
     obtain ⟨F,hF⟩:∃ F,z=6*F:=⟨z/6,by have:=HPO.out; rw [← hz] at this; omega⟩;obtain ⟨Lz,hLz⟩:=eX (bitsB b++List.replicate p 0);have HGA:=zY (show grpL F Lz=enc b by rw [hLz]; exact grp_all hP6 (by have:=HN.out; omega));have HZ1:=zY (show ∀ x ∈ Lz,x≤1 by rw [hLz]; exact bitsB_le b p);have HLZ:=zY (show Lz.length=z by rw [hLz,HZL.out,hz]);rw [← hLz] at HE3;have HFF:=zY hF;clear hz hF hLz hlt;go_wp2_with fail;clear hm6;generalize Value.bool ((z:Int)%6 != 0)=vb;generalize Value.int IntKind.i64 ((z:Int)%6)=vi
     go_loopw [5,6] (fun x y wq=>∃ (j I:Nat) (A2:Option Addr) (c2:Nat),j≤F∧I=6*j∧y=.int .i64 (I:Int)∧x=.slice A2 j c2∧OwnR wq w.heap.size 5 1 A2 c2 j (bytesV (grpL j Lz))∧En w Lz A3 c3 wq) (fun _ y _=>z - (intOf y).toNat)
     case atStart=>exact ⟨0,0,none,0,Nat.zero_le _,rfl,rfl,rfl,OwnR.nil _ _ _ _,HE3.out⟩
     case round =>
      obtain ⟨j,I,A2,c2,hj,hI,rfl,rfl,hob,hen4⟩:=hrel;have HOB:=zY hob;have HE4:=zY hen4;have HIJ:=zY hI;clear hob hen4 hI
      by_cases hlt:j<F
      ·have hIz:(I:Int)<(z:Int):=by have:=HFF.out; have:=HIJ.out; omega
       have hIz6:(I:Int)+6≤(z:Int):=by have:=HFF.out; have:=HIJ.out; omega
       have hzc:(z:Int)≤(c3:Int):=by have:=HE4.out.row.cap; have:=HLZ.out; omega
       have hIc:(I:Int)+6≤(c3:Int):=by omega
       have hrd:Rd wr wr.heap.size A3 (intsV Lz):=HE4.out.row.row.rd;obtain ⟨ad,hA,-,-⟩:=hrd.at_ (k:=I) (by rw [qco,HLZ.out]; omega);subst hA;have hlp:((Lz.drop I).take 6).length=6:=by rw [List.length_take,List.length_drop,HLZ.out]; omega
       have hle:∀ x ∈ (Lz.drop I).take 6,x≤1:=fun x hx=>HZ1.out x (List.mem_of_mem_drop (List.mem_of_mem_take hx));have CN:=zY (fun (cc:Nat)=>number64_any ((Lz.drop I).take 6) hle (by omega) (some (ad.add I)) cc wr.heap.size wr (by rw [← intsV_part]; exact rd_part hrd I 6));have hnl:=numL_lt _ hle;rw [hlp] at hnl CN;obtain ⟨N,hN⟩:=eX (numL ((Lz.drop I).take 6));have HGS:=zY (show grpL (j+1) Lz=grpL j Lz++[ltr N] by rw [grpL_succ,hN,HIJ.out]);rw [← hN] at CN hnl;obtain ⟨q,hq⟩:∃ q:Int,q=(((ltr N).toNat:Nat):Int):=⟨_,rfl⟩;have CL:=zY (show Calls Tryz.prog 45 #[.int .i64 (N:Int)] wr fun e w'=>e=.returned (.int .u8 q)∧w'=wr by rw [hq]; exact letter64_any N hnl wr);have HQV:=zY (show [Value.int .u8 q]=bytesV [ltr N] by rw [hq]; rfl);have HLT:=zY hlt;have hj9:(j:Int)≤200000:=by have:=HIJ.out; omega
       clear hrd hlp hle hnl hN hlt hq;go_wp2_with fail;refine qaa (CN.out _) ?_;rintro e w_2 ⟨rfl,rfl⟩;go_wp2_with fail;refine qaa CL.out ?_;rintro e w_3 ⟨rfl,rfl⟩;go_wp2_with (refine qaU (ys:=[.int .u8 q]) sl_u87 rfl rfl HOB.out rfl rfl rfl rfl (by simp [Value.oneCell']) (by unfold maxLen; omega) (by omega) HE4.out.low.size ?_; intro A5 c5 w5 ho hg hn5);have HO5:=zY (show OwnR w5 w.heap.size 5 1 A5 c5 (j+1) (bytesV (grpL (j+1) Lz)) by rw [HGS.out,qaE,← HQV.out]; exact ho);have HE5:=zY (show En w Lz (some ad) c3 w5 from ⟨HE4.out.low.grown hg HE4.out.low.size (fun k hk=>(HOB.out.lt k hk).1),HE4.out.row.keep (qbG HOB.out.x hg) (by decide)⟩);clear ho hg hn5;exact ⟨⟨j+1,6*(j+1),A5,c5,HLT.out,rfl,by rw [show ((6*(j+1):Nat):Int)=(I:Int)+6 by have:=HIJ.out; omega],rfl,HO5.out,HE5.out⟩,by have:=HLT.out; have:=HFF.out; have:=HIJ.out; simp [intOf]; omega⟩
      ·obtain rfl:j=F:=by omega
       have hIz:(I:Int)=(z:Int):=by have:=HFF.out; have:=HIJ.out; omega
       have hIz2:¬ (I:Int)<(z:Int):=by omega
       have hus:=Tryz.underlying9;have hub8:=Tryz.underlying40;have hu8:=Tryz.underlying5;have hrd:Rd wr wr.heap.size A2 (bytesV (enc b)):=by rw [← HGA.out]; exact HOB.out.row.rd
       have hjl:j=(enc b).length:=by
        have h:=HOB.out.1;rw [HGA.out,qak] at h;omega
       have HRD:=zY hrd;have HJL:=zY hjl;clear hrd hjl;rw [HJL.out];go_wp2_with (refine qbC (l:=enc b) HRD.out hub8 hu8 hus rfl rfl rfl ?_);go_ret;exact ⟨rfl,HE4.out.low⟩
theorem dg_val {r:Nat} (h:r≤9):(((dg r).toNat:Nat):Int)=48+(r:Int):=by
 have key:∀ q:Fin 10,(dg q.1).toNat=48+q.1:=by decide
 have:=key ⟨r,by omega⟩;have h2:(dg r).toNat=48+r:=this;omega
theorem digB_more {f m:Nat} (h:¬ m<10):digB (f+1) m=digB f (m/10)++[dg (m%10)]:=by rw [digB,if_neg h]
theorem digB_last {f m:Nat} (h:m<10):digB (f+1) m=[dg m]:=by rw [digB,if_pos h]
theorem qdd (N:Nat) (hN:(N:Int)≤1000000000000000) (w:World) :
  Calls Tryz.prog 26 #[.int .i64 (N:Int)] w fun x w'=>x=.returned (.string (bs (digB 16 N)))∧Below w.heap.size w w':=by
 have HN:=zY hN;have h0:¬ (N:Int)<0:=by omega
 go_enter Tryz.func26,Tryz.ntmps26;go_wp2_with fail
 go_loopw [0,3] (fun x s wr=>∃ (m f:Nat) (tl:Bs),x=.int .i64 (m:Int)∧s=.string (bs tl)∧digB (f+1) m++tl=digB 16 N∧m<10^(f+1)∧m≤N∧tl.length+f=15∧Below w.heap.size w wr) (fun x _ _=>(intOf x).toNat)
 case atStart=>exact ⟨N,15,[],rfl,rfl,by simp,by omega,Nat.le_refl _,rfl,Below.refl _ _⟩
 case round =>
  obtain ⟨m,f,tl,rfl,rfl,hd,hm,hmN,hl,hbel⟩:=hrel;have HD:=zY hd;have HM:=zY hm;have HB:=zY hbel;have HMN:=zY hmN;have HL:=zY hl;have hm9:(m:Int)≤1000000000000000:=by omega
  clear hd hm hbel hmN hl h0
  by_cases hlt:9<m
  ·have hlt':(9:Int)<(m:Int):=by omega
   have HLT:=zY hlt;obtain ⟨r,hr⟩:=eX (m%10);obtain ⟨q,hq⟩:=eX (m/10);have e1:(m:Int).tmod 10=(r:Int):=by rw [Int.tmod_eq_emod_of_nonneg (by omega),hr]; omega
   have e2:(m:Int).tdiv 10=(q:Int):=by rw [Int.tdiv_eq_ediv_of_nonneg (by omega),hq]; omega
   have hr9:(r:Int)≤9:=by omega
   have hq9:(q:Int)≤1000000000000000:=by omega
   have hrw:Rd (wr.alloc (.cells #[.int .u8 (48+(r:Int))] 5)) (wr.heap.size+1) (some ⟨wr.heap.size,0,none⟩) (bytesV [dg r]):=by
    rw [show bytesV [dg r]=[Value.int .u8 (48+(r:Int))] by simp [bytesV]; exact congrArg (Value.int IntKind.u8) (dg_val (r:=r) (by omega))];exact Rd.of_blk (l:=[.int .u8 (48+(r:Int))]) (Blk.new _ _ _) (by omega)
   have hconv:(convert 40 9 (.slice (some ⟨wr.heap.size,0,none⟩) 1 1)).run Tryz.prog (wr.alloc (.cells #[.int .u8 (48+(r:Int))] 5))=.ok (.string (bs [dg r])) (wr.alloc (.cells #[.int .u8 (48+(r:Int))] 5)):=qbY (P:=Tryz.prog) Tryz.underlying40 Tryz.underlying5 Tryz.underlying9 hrw 1;have HRQ:=zY (show r=m%10∧q=m/10 from ⟨hr,hq⟩);have hts:¬ 9223372036854775807<(bs [dg r]).size+(bs tl).size:=by rw [qaB,qaB]; have:=HL.out; simp; omega
   clear hr hq hrw hlt;go_wp2_with fail
   go_roundw
   case rel =>
    have h1:=HLT.out;have h2:=HM.out;have h3:=HL.out;have h4:=HRQ.out;have h5:=HMN.out
    cases f with
    | zero=>exact absurd h2 (by omega)
    | succ f =>
     have h6:10^(f+1+1)=10^(f+1)*10:=Nat.pow_succ 10 (f+1);refine ⟨q,f,dg r :: tl,rfl,congrArg Value.string (qbr [dg r] tl),?_,by omega,by omega,by simp; omega,HB.out.alloc HB.out.size _⟩;have h7:=HD.out;rw [digB_more (by omega)] at h7;rw [← h7,h4.1,h4.2];simp
   case measure=>have:=HLT.out; have:=HRQ.out; simp [intOf]; omega
  ·have hlt':¬ (9:Int)<(m:Int):=by omega
   have hmm:(m:Int)≤9:=by omega
   have hrw:Rd (wr.alloc (.cells #[.int .u8 (48+(m:Int))] 5)) (wr.heap.size+1) (some ⟨wr.heap.size,0,none⟩) (bytesV [dg m]):=by
    rw [show bytesV [dg m]=[Value.int .u8 (48+(m:Int))] by simp [bytesV]; exact congrArg (Value.int IntKind.u8) (dg_val (r:=m) (by omega))];exact Rd.of_blk (l:=[.int .u8 (48+(m:Int))]) (Blk.new _ _ _) (by omega)
   have hconv:(convert 40 9 (.slice (some ⟨wr.heap.size,0,none⟩) 1 1)).run Tryz.prog (wr.alloc (.cells #[.int .u8 (48+(m:Int))] 5))=.ok (.string (bs [dg m])) (wr.alloc (.cells #[.int .u8 (48+(m:Int))] 5)):=qbY (P:=Tryz.prog) Tryz.underlying40 Tryz.underlying5 Tryz.underlying9 hrw 1;have hts:¬ 9223372036854775807<(bs [dg m]).size+(bs tl).size:=by rw [qaB,qaB]; have:=HL.out; simp; omega
   have HLT:=zY (show m<10 by omega);clear hrw hlt;go_wp2_with fail;go_ret;refine ⟨?_,HB.out.alloc HB.out.size _⟩;have h7:=HD.out;rw [digB_last HLT.out] at h7;rw [← h7];exact congrArg (fun q=>Ending.returned (Value.string q)) (qbr [dg m] tl)
theorem rdigits_any (n:Int) (h1:-1000000000000000≤n) (h2:n≤1000000000000000) (w:World) :
  Calls Tryz.prog 26 #[.int .i64 n] w fun x w'=>x=.returned (.string (bs (intB n)))∧Below w.heap.size w w':=by
 by_cases hn:n<0
 ·obtain ⟨N,hN⟩:∃ N:Nat,N=n.natAbs:=⟨_,rfl⟩;have e1:-n=(N:Int):=by omega
  have HE:=zY (show bs [45]++bs (digB 16 N)=bs (intB n) by rw [qbr,intB,if_pos hn,hN]; rfl);have CD:=zY (qdd N (by omega) w)
  have hsz:¬ 9223372036854775807<1+(bs (digB 16 N)).size:=by
   have:∀ f n:Nat,(digB f n).length≤f:=by
    intro f
    induction f with
    | zero=>intro n; simp [digB]
    | succ f ih =>
     intro n;have:=ih (n/10);unfold digB
     split <;> simp; omega
   have:=this 16 N;rw [qaB];omega
  clear hN;go_enter Tryz.func26,Tryz.ntmps26;go_wp2_with fail;refine qaa CD.out ?_;rintro e w1 ⟨rfl,hb⟩;have HB:=zY hb;clear hb;go_wp2_with fail;go_ret;exact ⟨congrArg (fun q=>Ending.returned (Value.string q)) HE.out,HB.out⟩
 ·obtain ⟨N,rfl⟩:∃ N:Nat,n=(N:Int):=⟨n.toNat,by omega⟩;have e:intB (N:Int)=digB 16 N:=by rw [intB,if_neg hn]; rfl
  rw [e];exact qdd N h2 w
theorem keysT_app:∀ (l r:List (Bs × Bs)) (f:Bool),keysT (l++r) f=keysT l f++keysT r (f && l.isEmpty)
 | [],r,f=>by simp [keysT]
 | x :: l,r,f=>by
  have ih:=keysT_app l r false;simp only [List.cons_append,keysT,ih,List.append_assoc,Bool.false_and,List.isEmpty_cons,Bool.and_false]
theorem keysT_snoc (l:List (Bs × Bs)) (x:Bs × Bs):keysT (l++[x]) true=(keysT l true++(if l.isEmpty then [] else [44]))++keyT x:=by
 rw [keysT_app,Bool.true_and]
 cases l.isEmpty <;> simp [keysT]
set_option maxHeartbeats 8000000 in
theorem rwrite11_any (D:Bs) (num:Int) (ks:List (Bs × Bs)) (A:Option Addr) (c B:Nat) (w:World) (hr:Rd w B A (rowsV kCell ks)) (hB:B≤w.heap.size) (hp:PlainB ⟨D,num,ks⟩) (hx:∀ k ∈ ks,k.2.length=32) :
  Calls Tryz.prog 11 #[.agg (bC D num A ks.length c)] w fun e w'=>e=.returned (.string (bs (bundleT ⟨D,num,ks⟩)))∧Below w.heap.size w w':=by
 have hks8:ks.length≤8:=hp.kn;have hD16:D.length≤16:=hp.dlen;have hn0:0≤num:=hp.n0;have hn1:num≤1099511627776:=hp.n1;obtain ⟨R,hR⟩:∃ R,R=bs (bundleT ⟨D,num,ks⟩):=⟨_,rfl⟩;rw [← hR];have HR0:=zY hR;obtain ⟨n,hn⟩:=eX (ks.length);rw [← hn] at hks8 ⊢;have HN:=zY hn;obtain ⟨W0,hW0⟩:=eX (w.alloc (.cells (bC D num A n c) 24));have hb0:Below w.heap.size w W0:=by rw [hW0]; exact (Below.refl _ w).alloc (Nat.le_refl _) _
 have HB0:=zY hb0;have HK:=zY (show Blk W0 w.heap.size 24 (bC D num A n c) by rw [hW0]; exact Blk.new _ _ _);have HW0:=zY hW0;have HRD:=zY (hr.below (hb0.mono hB));have HBB:=zY (Nat.le_trans hB hb0.size);have HPK:=zY hp.kid;have HX:=zY hx;have HDG:=zY (rdigits_any num (by omega) (by omega))
 have HKL:=zY (fun (i:Nat)=>show (keysT (ks.take i) true).length≤1040 by
  have h:=qdu (ks.take i) true (fun k hk=>⟨(hp.kid k (List.mem_of_mem_take hk)).2,hp.x k (List.mem_of_mem_take hk)⟩);have h2:(ks.take i).length≤8:=by rw [List.length_take]; omega
  omega)
 have hDs:(bs D).size≤16:=by rw [qaB]; exact hD16
 have hIs:(bs (intB num)).size≤17:=by rw [qaB]; exact intB_len num
 have HUS:=zY (Below.refl W0.heap.size W0);clear hW0 hb0 hr hB hp hx hR hn hD16;go_enter Tryz.func11,Tryz.ntmps11
 go_upto_region 1 with (fail)
 rw [show w.alloc (.cells (bC D num A n c) 24)=W0 from HW0.out.symm];generalize Value.agg (bC D num A n c)=AV;go_wp2_with fail
 go_loopw [3,4] (fun x y wr=>∃ i:Nat,i≤n∧y=.int .i64 (i:Int)∧x=.string (bs (keysT (ks.take i) true))∧Below W0.heap.size W0 wr) (fun _ y _=>n - (intOf y).toNat)
 case atStart=>exact ⟨0,Nat.zero_le _,rfl,rfl,HUS.out⟩
 case round =>
  obtain ⟨i,hi,rfl,rfl,hbw⟩:=hrel;have HBW:=zY hbw;have HBX:=zY (HK.out.below hbw HK.out.lt);have a2:wr.cell? ⟨w.heap.size,2,none⟩=some (.slice A n c):=HBX.out.cell 2;obtain ⟨S,hS⟩:=eX (keysT (ks.take i) true);have hSl:(bs S).size≤1040:=by rw [qaB,hS]; exact HKL.out i
  rw [← hS];have HS:=zY hS;clear hbw hS
  by_cases hlt:i<n
  ·have hil:i<ks.length:=by rw [← HN.out]; exact hlt
   have hlt':(i:Int)<(n:Int):=by omega
   obtain ⟨ad,hA,hadb,hcell⟩:=qaX (f:=kCell) (m:=2) (fun _=>rfl) (by decide) (HRD.out.below (HBW.out.mono HBB.out)) hil;subst hA;obtain ⟨X,hX⟩:=eX (ks[i]);rw [← hX] at hcell;have c0:wr.cell? (ad.add (i*2))=some (.string (bs X.1)):=hcell 0 _ rfl;have c1':wr.cell? ⟨(ad.add (i*2)).block,(ad.add (i*2)).off+1,none⟩=some (.string (bs X.2)):=hcell 1 _ rfl;have C0:=zY c0;have C1':=zY c1';have HPB:=zY (show (ad.add (i*2)).block<wr.heap.size from World.block_lt_of_cell? _ _ c0);have hX1:(bs X.1).size≤8:=by rw [qaB,hX]; exact (HPK.out _ (List.getElem_mem hil)).2
   have HX2:=zY (show X.2.length=32 by rw [hX]; exact HX.out _ (List.getElem_mem hil))
   have hE:(bs (enc X.2)).size≤65:=by
    rw [qaB];have h:=qcT X.2 0 0 (by omega);have h2:=HX2.out;unfold enc;omega
   obtain ⟨S2,hS2⟩:=eX (S++(if (ks.take i).isEmpty then ([]:Bs) else [44]));have HST:=zY (show keysT (ks.take (i+1)) true=S2++keyT X by rw [List.take_succ_eq_append_getElem hil,keysT_snoc,hS2,HS.out,hX]);have HS2:=zY hS2
   have HEM:=zY (show (ks.take i).isEmpty=decide (i=0) by
    cases i with
    | zero=>rfl
    | succ k=>cases ks with
     | nil=>simp at hil
     | cons a r=>rfl)
   have hS2l:(bs S2).size≤1041:=by
    rw [qaB] at hSl ⊢;rw [hS2,List.length_append]
    split <;> simp <;> omega
   have HLT:=zY hlt;clear c0 c1' hX hcell hadb hil hlt hS2
   go_upto_if 13 with (fail)
   go_cut [3] (fun x wx=>x=.string (bs S2)∧wx=wr)
   case first =>
    cases i with
    | zero =>
     have HE:=zY (show S2=S by rw [HS2.out,HEM.out]; simp);have h0:¬ (0:Int)<((0:Nat):Int):=by omega
     go_wp2_with fail
     go_meet
     exact ⟨by rw [HE.out],rfl⟩
    | succ k =>
     have HE:=zY (show bs S2=bs S++bs [44] by rw [qbr,HS2.out,HEM.out]; simp);have h0:(0:Int)<((k+1:Nat):Int):=by omega
     have hz:¬ 9223372036854775807<(bs S).size+1:=by omega
     go_wp2_with fail
     go_meet
     exact ⟨by rw [HE.out]; rfl,rfl⟩
   case rest =>
   obtain ⟨rfl,rfl⟩:=hcut;have HZ1:=zY (show ¬ 9223372036854775807<(bs S2).size+24 by omega);have HZ2:=zY (show ¬ 9223372036854775807<(bs S2).size+24+(bs X.1).size by omega);have HZ3:=zY (show ¬ 9223372036854775807<(bs S2).size+24+(bs X.1).size+19 by omega);have HZ4:=zY (show ¬ 9223372036854775807<(bs S2).size+24+(bs X.1).size+19+(bs (enc X.2)).size by omega);have HZ5:=zY (show ¬ 9223372036854775807<(bs S2).size+24+(bs X.1).size+19+(bs (enc X.2)).size+2 by omega)
   have HSE:=zY (show bs S2++⟨#[123,34,99,114,118,34,58,34,69,100,50,53,53,49,57,34,44,34,107,105,100,34,58,34]⟩++bs X.1++⟨#[34,44,34,107,116,121,34,58,34,79,75,80,34,44,34,120,34,58,34]⟩++bs (enc X.2)++⟨#[34,125]⟩=bs (keysT (ks.take (i+1)) true) by
    rw [HST.out,keyT];rw [← qbr,← qbr,← qbr,← qbr,← qbr];simp only [ByteArray.append_assoc]
    rfl)
   have HEN:=zY (fun (u:World) (A:Option Addr) (c:Nat) (h:Rd u u.heap.size A (bytesV X.2))=>show Calls Tryz.prog 25 #[.slice A 32 c] u fun e w'=>e=.returned (.string (bs (enc X.2)))∧Below u.heap.size u w' by
    have h2:=rencode_any X.2 (by have:=HX2.out; omega) A c u h;rw [HX2.out] at h2;exact h2)
   have HS32:=zY (show (bs X.2).size=32 by rw [qaB,HX2.out]);have hus:=Tryz.underlying9;have hub8:=Tryz.underlying40;have hu8:=Tryz.underlying5;have HC0:Below wc.heap.size wc wc.drew:=(Below.refl _ _).drew;have hnn:(n:Int)≤8:=by omega
   clear hX1 hE hS2l hSl a2
   go_upto_region 7 with (fail)
   refine qap (fun u=>Below wc.heap.size wc u) (fun | false=>(fun _=>True) | true=>(fun _=>True)) (fun | false,_=>false | true,_=>false)
    [fun z _=>z 0=.string (bs S2),
     fun z _=>z 1=.string (bs S2++⟨#[123,34,99,114,118,34,58,34,69,100,50,53,53,49,57,34,44,34,107,105,100,34,58,34]⟩),
     fun z _=>z 2=.pointer (some ⟨w.heap.size,2,none⟩),
     fun z _=>z 3=.slice (some ad) n c,
     fun z _=>z 4=.int .i64 (i:Int),
     fun z _=>z 5=.pointer (some (ad.add (i*2))),
     fun z _=>z 6=.pointer (some (ad.add (i*2))),
     fun z _=>z 7=.string (bs X.1),
     fun z _=>z 8=.string (bs S2++⟨#[123,34,99,114,118,34,58,34,69,100,50,53,53,49,57,34,44,34,107,105,100,34,58,34]⟩++bs X.1),
     fun z _=>z 9=.string (bs S2++⟨#[123,34,99,114,118,34,58,34,69,100,50,53,53,49,57,34,44,34,107,105,100,34,58,34]⟩++bs X.1++⟨#[34,44,34,107,116,121,34,58,34,79,75,80,34,44,34,120,34,58,34]⟩),
     fun z _=>z 10=.pointer (some ⟨w.heap.size,2,none⟩),
     fun z _=>z 11=.slice (some ad) n c,
     fun z _=>z 12=.int .i64 (i:Int),
     fun z _=>z 13=.pointer (some (ad.add (i*2))),
     fun z _=>z 14=.pointer (some ⟨(ad.add (i*2)).block,(ad.add (i*2)).off+1,none⟩),
     fun z _=>z 15=.string (bs X.2),
     fun z u=>(fun v u=>BytFrom u 0 32 X.2 v) (z 16) u,
     fun z _=>z 17=.string (bs (enc X.2)),
     fun z _=>z 18=.string (bs S2++⟨#[123,34,99,114,118,34,58,34,69,100,50,53,53,49,57,34,44,34,107,105,100,34,58,34]⟩++bs X.1++⟨#[34,44,34,107,116,121,34,58,34,79,75,80,34,44,34,120,34,58,34]⟩++bs (enc X.2)),
     fun z _=>z 19=.string (bs S2++⟨#[123,34,99,114,118,34,58,34,69,100,50,53,53,49,57,34,44,34,107,105,100,34,58,34]⟩++bs X.1++⟨#[34,44,34,107,116,121,34,58,34,79,75,80,34,44,34,120,34,58,34]⟩++bs (enc X.2)++⟨#[34,125]⟩),
     fun z _=>z 20=.string (bs S2++⟨#[123,34,99,114,118,34,58,34,69,100,50,53,53,49,57,34,44,34,107,105,100,34,58,34]⟩++bs X.1++⟨#[34,44,34,107,116,121,34,58,34,79,75,80,34,44,34,120,34,58,34]⟩++bs (enc X.2)++⟨#[34,125]⟩)]
    [Eq,Eq,Eq,Eq,Eq,Eq,Eq,Eq,Eq,Eq,Eq,Eq,Eq,Eq,Eq,Eq,fun u u'=>Below u.heap.size u u',fun u u'=>Below u.heap.size u u',Eq,Eq,Eq]
    (fun _ _=>false) [(0,some 16),(1,some 17),(2,some 18),(3,some 19),(4,some 20),(5,some 21),(6,some 22),(7,some 23),(8,some 24),(9,some 25),(10,some 26),(11,some 27),(12,some 28),(13,some 29),(14,some 30),(15,some 31),(16,some 32),(17,some 33),(18,some 34),(19,some 35),(20,some 3)] (by kernel_rfl) (by kernel_rfl) rfl (fun _=>rfl) ?_ ?_ ?_ ?_ ?_ ?_
   ·exact HC0
   ·intro m; cases m; exact trivial; exact trivial
   ·intro m; cases m
    ·refine ⟨?_,?_,?_,?_,?_,?_,?_,?_,?_,?_,?_,?_,?_,?_,?_,?_,?_,?_,?_,?_,?_,trivial⟩ <;> first | exact .inr fun _ _ h h0=>h▸h0 | exact .inr fun _ _ _ h=>h
    ·refine ⟨?_,?_,?_,?_,?_,?_,?_,?_,?_,?_,?_,?_,?_,?_,?_,?_,?_,?_,?_,?_,?_,trivial⟩ <;> first | exact .inr fun _ _ h h0=>h▸h0 | exact .inr fun _ _ _ h=>h
   ·refine ⟨⟨.inl rfl,?_,?_,?_,?_,?_,?_,?_,?_,?_,?_,?_,?_,?_,?_,?_,?_,?_,?_,?_,?_,trivial⟩,⟨?_,.inl rfl,?_,?_,?_,?_,?_,?_,?_,?_,?_,?_,?_,?_,?_,?_,?_,?_,?_,?_,?_,trivial⟩,⟨?_,?_,.inl rfl,?_,?_,?_,?_,?_,?_,?_,?_,?_,?_,?_,?_,?_,?_,?_,?_,?_,?_,trivial⟩,⟨?_,?_,?_,.inl rfl,?_,?_,?_,?_,?_,?_,?_,?_,?_,?_,?_,?_,?_,?_,?_,?_,?_,trivial⟩,⟨?_,?_,?_,?_,.inl rfl,?_,?_,?_,?_,?_,?_,?_,?_,?_,?_,?_,?_,?_,?_,?_,?_,trivial⟩,⟨?_,?_,?_,?_,?_,.inl rfl,?_,?_,?_,?_,?_,?_,?_,?_,?_,?_,?_,?_,?_,?_,?_,trivial⟩,⟨?_,?_,?_,?_,?_,?_,.inl rfl,?_,?_,?_,?_,?_,?_,?_,?_,?_,?_,?_,?_,?_,?_,trivial⟩,⟨?_,?_,?_,?_,?_,?_,?_,.inl rfl,?_,?_,?_,?_,?_,?_,?_,?_,?_,?_,?_,?_,?_,trivial⟩,⟨?_,?_,?_,?_,?_,?_,?_,?_,.inl rfl,?_,?_,?_,?_,?_,?_,?_,?_,?_,?_,?_,?_,trivial⟩,⟨?_,?_,?_,?_,?_,?_,?_,?_,?_,.inl rfl,?_,?_,?_,?_,?_,?_,?_,?_,?_,?_,?_,trivial⟩,⟨?_,?_,?_,?_,?_,?_,?_,?_,?_,?_,.inl rfl,?_,?_,?_,?_,?_,?_,?_,?_,?_,?_,trivial⟩,⟨?_,?_,?_,?_,?_,?_,?_,?_,?_,?_,?_,.inl rfl,?_,?_,?_,?_,?_,?_,?_,?_,?_,trivial⟩,⟨?_,?_,?_,?_,?_,?_,?_,?_,?_,?_,?_,?_,.inl rfl,?_,?_,?_,?_,?_,?_,?_,?_,trivial⟩,⟨?_,?_,?_,?_,?_,?_,?_,?_,?_,?_,?_,?_,?_,.inl rfl,?_,?_,?_,?_,?_,?_,?_,trivial⟩,⟨?_,?_,?_,?_,?_,?_,?_,?_,?_,?_,?_,?_,?_,?_,.inl rfl,?_,?_,?_,?_,?_,?_,trivial⟩,⟨?_,?_,?_,?_,?_,?_,?_,?_,?_,?_,?_,?_,?_,?_,?_,.inl rfl,?_,?_,?_,?_,?_,trivial⟩,⟨?_,?_,?_,?_,?_,?_,?_,?_,?_,?_,?_,?_,?_,?_,?_,?_,.inl rfl,?_,?_,?_,?_,trivial⟩,⟨?_,?_,?_,?_,?_,?_,?_,?_,?_,?_,?_,?_,?_,?_,?_,?_,.inr (.inr (.inr (fun _ _ _ _ h h0=>h0.step h))),.inl rfl,?_,?_,?_,trivial⟩,⟨?_,?_,?_,?_,?_,?_,?_,?_,?_,?_,?_,?_,?_,?_,?_,?_,?_,?_,.inl rfl,?_,?_,trivial⟩,⟨?_,?_,?_,?_,?_,?_,?_,?_,?_,?_,?_,?_,?_,?_,?_,?_,?_,?_,?_,.inl rfl,?_,trivial⟩,⟨?_,?_,?_,?_,?_,?_,?_,?_,?_,?_,?_,?_,?_,?_,?_,?_,?_,?_,?_,?_,.inl rfl,trivial⟩,trivial⟩ <;> first | exact .inr (.inr (.inl rfl)) | exact .inr (.inr (.inr fun _ _ _ _ _ h=>h)) | exact .inr (.inr (.inr fun _ _ _ _ h h0=>by cases h; exact h0))
   ·refine ⟨?_,?_,?_,?_,?_,?_,?_,?_,?_,?_,?_,?_,?_,?_,?_,?_,?_,?_,?_,?_,?_,trivial⟩
    ·refine qab [] (fun _=>rfl) rfl ?_;intro w1 vals hC1 hi0 hf E hE;clear hi0;clear hf;simp only [sP] at hE ⊢;go_wp2;exact .mk (hE _ _ rfl hC1 rfl)
    ·refine qab [(0,some 16)] (fun _=>rfl) rfl ?_;intro w1 vals hC1 hi0 hf E hE;clear hi0;have f0:vals 0=_:=hf 0 rfl
     try dsimp only at f0
     clear hf;simp only [sP,f0] at hE ⊢;clear f0;have hz:=HZ1.out;go_wp2;exact .mk (hE _ _ rfl hC1 rfl)
    ·refine qab [] (fun _=>rfl) rfl ?_;intro w1 vals hC1 hi0 hf E hE;clear hi0;clear hf;simp only [sP] at hE ⊢;go_wp2;exact .mk (hE _ _ rfl hC1 rfl)
    ·refine qab [(2,some 18)] (fun _=>rfl) rfl ?_;intro w1 vals hC1 hi0 hf E hE;clear hi0;have f2:vals 2=_:=hf 2 rfl
     try dsimp only at f2
     clear hf;simp only [sP,f2] at hE ⊢;clear f2;have d0:=(HBX.out.below hC1 HBX.out.lt).cell 2;simp only [bC,List.getElem?_toArray,List.getElem?_cons_zero,List.getElem?_cons_succ] at d0;go_wp2;exact .mk (hE _ _ rfl hC1 rfl)
    ·refine qab [] (fun _=>rfl) rfl ?_;intro w1 vals hC1 hi0 hf E hE;clear hi0;clear hf;simp only [sP] at hE ⊢;go_wp2;exact .mk (hE _ _ rfl hC1 rfl)
    ·refine qab [(3,some 19),(4,some 20)] (fun _=>rfl) rfl ?_;intro w1 vals hC1 hi0 hf E hE;clear hi0;have f3:vals 3=_:=hf 3 rfl;have f4:vals 4=_:=hf 4 rfl
     try dsimp only at f3 f4
     clear hf;simp only [sP,f3,f4] at hE ⊢;clear f3 f4;go_wp2;exact .mk (hE _ _ rfl hC1 rfl)
    ·refine qab [(5,some 21)] (fun _=>rfl) rfl ?_;intro w1 vals hC1 hi0 hf E hE;clear hi0;have f5:vals 5=_:=hf 5 rfl
     try dsimp only at f5
     clear hf;simp only [sP,f5] at hE ⊢;clear f5;go_wp2;exact .mk (hE _ _ rfl hC1 rfl)
    ·refine qab [(6,some 22)] (fun _=>rfl) rfl ?_;intro w1 vals hC1 hi0 hf E hE;clear hi0;have f6:vals 6=_:=hf 6 rfl
     try dsimp only at f6
     clear hf;simp only [sP,f6] at hE ⊢;clear f6;have d0:=(hC1.cell (p:=ad.add (i*2)) HPB.out).trans C0.out;go_wp2;exact .mk (hE _ _ rfl hC1 rfl)
    ·refine qab [(1,some 17),(7,some 23)] (fun _=>rfl) rfl ?_;intro w1 vals hC1 hi0 hf E hE;clear hi0;have f1:vals 1=_:=hf 1 rfl;have f7:vals 7=_:=hf 7 rfl
     try dsimp only at f1 f7
     clear hf;simp only [sP,f1,f7] at hE ⊢;clear f1 f7;have hz:=HZ2.out;go_wp2;exact .mk (hE _ _ rfl hC1 rfl)
    ·refine qab [(8,some 24)] (fun _=>rfl) rfl ?_;intro w1 vals hC1 hi0 hf E hE;clear hi0;have f8:vals 8=_:=hf 8 rfl
     try dsimp only at f8
     clear hf;simp only [sP,f8] at hE ⊢;clear f8;have hz:=HZ3.out;go_wp2;exact .mk (hE _ _ rfl hC1 rfl)
    ·refine qab [] (fun _=>rfl) rfl ?_;intro w1 vals hC1 hi0 hf E hE;clear hi0;clear hf;simp only [sP] at hE ⊢;go_wp2;exact .mk (hE _ _ rfl hC1 rfl)
    ·refine qab [(10,some 26)] (fun _=>rfl) rfl ?_;intro w1 vals hC1 hi0 hf E hE;clear hi0;have f10:vals 10=_:=hf 10 rfl
     try dsimp only at f10
     clear hf;simp only [sP,f10] at hE ⊢;clear f10;have d0:=(HBX.out.below hC1 HBX.out.lt).cell 2;simp only [bC,List.getElem?_toArray,List.getElem?_cons_zero,List.getElem?_cons_succ] at d0;go_wp2;exact .mk (hE _ _ rfl hC1 rfl)
    ·refine qab [] (fun _=>rfl) rfl ?_;intro w1 vals hC1 hi0 hf E hE;clear hi0;clear hf;simp only [sP] at hE ⊢;go_wp2;exact .mk (hE _ _ rfl hC1 rfl)
    ·refine qab [(11,some 27),(12,some 28)] (fun _=>rfl) rfl ?_;intro w1 vals hC1 hi0 hf E hE;clear hi0;have f11:vals 11=_:=hf 11 rfl;have f12:vals 12=_:=hf 12 rfl
     try dsimp only at f11 f12
     clear hf;simp only [sP,f11,f12] at hE ⊢;clear f11 f12;go_wp2;exact .mk (hE _ _ rfl hC1 rfl)
    ·refine qab [(13,some 29)] (fun _=>rfl) rfl ?_;intro w1 vals hC1 hi0 hf E hE;clear hi0;have f13:vals 13=_:=hf 13 rfl
     try dsimp only at f13
     clear hf;simp only [sP,f13] at hE ⊢;clear f13;go_wp2;exact .mk (hE _ _ rfl hC1 rfl)
    ·refine qab [(14,some 30)] (fun _=>rfl) rfl ?_;intro w1 vals hC1 hi0 hf E hE;clear hi0;have f14:vals 14=_:=hf 14 rfl
     try dsimp only at f14
     clear hf;simp only [sP,f14] at hE ⊢;clear f14;have d0:=(hC1.cell (p:=⟨(ad.add (i*2)).block,(ad.add (i*2)).off+1,none⟩) HPB.out).trans C1'.out;go_wp2;exact .mk (hE _ _ rfl hC1 rfl)
    ·refine qab [(15,some 31)] (fun _=>rfl) rfl ?_;intro w1 vals hC1 hi0 hf E hE;clear hi0;have f15:vals 15=_:=hf 15 rfl
     try dsimp only at f15
     clear hf;simp only [sP,f15] at hE ⊢;clear f15;refine qaT (s:=bs X.2) hus hub8 hu8 rfl rfl rfl (by rw [HS32.out]; decide) ?_;intro c7 w7 hr7 hc7 hm7 hb7;rw [HS32.out] at hc7 ⊢;go_wp2_with fail;exact .mk (hE _ _ ⟨_,c7,rfl,hc7,hm7,Nat.zero_le _,hr7⟩ (hC1.trans (hb7.mono hC1.size)) hb7)
    ·refine qab [(16,some 32)] (fun _=>rfl) rfl ?_;intro w1 vals hC1 hi0 hf E hE;clear hi0;have f16:(fun v u=>BytFrom u 0 32 X.2 v) (vals 16) w1:=hf 16 rfl
     try dsimp only at f16
     clear hf;obtain ⟨g9,c9,hx9,hc9,hm9,hl9,hr9⟩:=f16;simp only [sP,hx9] at hE ⊢;clear hx9;go_wp2_with fail;refine qaa (HEN.out _ _ c9 hr9) ?_;rintro e w2 ⟨rfl,hb2⟩;go_wp2_with fail;exact .mk (hE _ _ rfl (hC1.trans (hb2.mono hC1.size)) hb2)
    ·refine qab [(9,some 25),(17,some 33)] (fun _=>rfl) rfl ?_;intro w1 vals hC1 hi0 hf E hE;clear hi0;have f9:vals 9=_:=hf 9 rfl;have f17:vals 17=_:=hf 17 rfl
     try dsimp only at f9 f17
     clear hf;simp only [sP,f9,f17] at hE ⊢;clear f9 f17;have hz:=HZ4.out;go_wp2;exact .mk (hE _ _ rfl hC1 rfl)
    ·refine qab [(18,some 34)] (fun _=>rfl) rfl ?_;intro w1 vals hC1 hi0 hf E hE;clear hi0;have f18:vals 18=_:=hf 18 rfl
     try dsimp only at f18
     clear hf;simp only [sP,f18] at hE ⊢;clear f18;have hz:=HZ5.out;go_wp2;exact .mk (hE _ _ rfl hC1 rfl)
    ·refine qab [(19,some 35),(17,some 33),(0,some 16),(1,some 17),(2,some 18),(3,some 19),(4,some 20),(5,some 21),(6,some 22),(7,some 23),(8,some 24),(9,some 25),(10,some 26),(11,some 27),(12,some 28),(13,some 29),(14,some 30),(15,some 31),(16,some 32),(17,some 33),(18,some 34),(19,some 35)] (fun _=>rfl) rfl ?_;intro w1 vals hC1 hi0 hf E hE;clear hi0;have f0:vals 0=_:=hf 0 rfl;have f1:vals 1=_:=hf 1 rfl;have f2:vals 2=_:=hf 2 rfl;have f3:vals 3=_:=hf 3 rfl;have f4:vals 4=_:=hf 4 rfl;have f5:vals 5=_:=hf 5 rfl;have f6:vals 6=_:=hf 6 rfl;have f7:vals 7=_:=hf 7 rfl;have f8:vals 8=_:=hf 8 rfl;have f9:vals 9=_:=hf 9 rfl;have f10:vals 10=_:=hf 10 rfl;have f11:vals 11=_:=hf 11 rfl;have f12:vals 12=_:=hf 12 rfl;have f13:vals 13=_:=hf 13 rfl;have f14:vals 14=_:=hf 14 rfl;have f15:vals 15=_:=hf 15 rfl;have f16:(fun v u=>BytFrom u 0 32 X.2 v) (vals 16) w1:=hf 16 rfl;have f17:vals 17=_:=hf 17 rfl;have f18:vals 18=_:=hf 18 rfl;have f19:vals 19=_:=hf 19 rfl
     try dsimp only at f0 f1 f2 f3 f4 f5 f6 f7 f8 f9 f10 f11 f12 f13 f14 f15 f16 f17 f18 f19
     clear hf;simp only [sP,f0,f1,f2,f3,f4,f5,f6,f7,f8,f9,f10,f11,f12,f13,f14,f15,f17,f18,f19] at hE ⊢;clear f0 f1 f2 f3 f4 f5 f6 f7 f8 f9 f10 f11 f12 f13 f14 f15 f17 f18 f19;go_wp2;exact .mk (hE _ _ rfl hC1 rfl)
   intro w1 vals hC1 hf;have f0:vals 0=_:=hf 0 (by decide) rfl;have f1:vals 1=_:=hf 1 (by decide) rfl;have f2:vals 2=_:=hf 2 (by decide) rfl;have f3:vals 3=_:=hf 3 (by decide) rfl;have f4:vals 4=_:=hf 4 (by decide) rfl;have f5:vals 5=_:=hf 5 (by decide) rfl;have f6:vals 6=_:=hf 6 (by decide) rfl;have f7:vals 7=_:=hf 7 (by decide) rfl;have f8:vals 8=_:=hf 8 (by decide) rfl;have f9:vals 9=_:=hf 9 (by decide) rfl;have f10:vals 10=_:=hf 10 (by decide) rfl;have f11:vals 11=_:=hf 11 (by decide) rfl;have f12:vals 12=_:=hf 12 (by decide) rfl;have f13:vals 13=_:=hf 13 (by decide) rfl;have f14:vals 14=_:=hf 14 (by decide) rfl;have f15:vals 15=_:=hf 15 (by decide) rfl;have f16:(fun v u=>BytFrom u 0 32 X.2 v) (vals 16) w1:=hf 16 (by decide) rfl;have f17:vals 17=_:=hf 17 (by decide) rfl;have f18:vals 18=_:=hf 18 (by decide) rfl;have f19:vals 19=_:=hf 19 (by decide) rfl;have f20:vals 20=_:=hf 20 (by decide) rfl
   try dsimp only at f0 f1 f2 f3 f4 f5 f6 f7 f8 f9 f10 f11 f12 f13 f14 f15 f16 f17 f18 f19 f20
   clear hf;simp only [sP,f0,f1,f2,f3,f4,f5,f6,f7,f8,f9,f10,f11,f12,f13,f14,f15,f17,f18,f19,f20];clear f0 f1 f2 f3 f4 f5 f6 f7 f8 f9 f10 f11 f12 f13 f14 f15 f17 f18 f19 f20;generalize vals 16=x16 at *;have HB7:=zY (HBW.out.trans (hC1.mono HBW.out.size));rw [HSE.out];clear hC1 HC0;go_wp2_with fail;exact ⟨⟨i+1,HLT.out,by go_num,rfl,HB7.out⟩,by have:=HLT.out; simp [intOf]; omega⟩
  ·obtain rfl:i=n:=by omega
   have HSA:=zY (show S=keysT ks true by rw [HS.out,List.take_of_length_le (by rw [← HN.out]; exact Nat.le_refl _)]);have HZ1:=zY (show ¬ 9223372036854775807<11+(bs D).size by omega);have HZ2:=zY (show ¬ 9223372036854775807<11+(bs D).size+10 by omega);have HZ3:=zY (show ¬ 9223372036854775807<11+(bs D).size+10+(bs S).size by omega);have HZ4:=zY (show ¬ 9223372036854775807<11+(bs D).size+10+(bs S).size+11 by omega);have HZ5:=zY (show ¬ 9223372036854775807<11+(bs D).size+10+(bs S).size+11+(bs (intB num)).size by omega);have HZ6:=zY (show ¬ 9223372036854775807<11+(bs D).size+10+(bs S).size+11+(bs (intB num)).size+1 by omega)
   have HSE:=zY (show (⟨#[123,34,100,111,109,97,105,110,34,58,34]⟩++bs D++⟨#[34,44,34,107,101,121,115,34,58,91]⟩++bs S++⟨#[93,44,34,110,117,109,98,101,114,34,58]⟩++bs (intB num)++⟨#[125]⟩:ByteArray)=R by
    rw [HR0.out,bundleT,← HSA.out];rw [← qbr,← qbr,← qbr,← qbr,← qbr,← qbr];simp only [← ByteArray.append_assoc]
    rfl)
   go_upto_region 8 with (fail)
   have HC0:Below wr.heap.size wr wr.drew:=(Below.refl _ _).drew;clear hSl hDs hIs a2
   refine qap (fun u=>Below wr.heap.size wr u) (fun | false=>(fun _=>True) | true=>(fun _=>True)) (fun | false,_=>false | true,_=>false)
    [fun z _=>z 0=.pointer (some ⟨w.heap.size,0,none⟩),
     fun z _=>z 1=.string (bs D),
     fun z _=>z 2=.string (⟨#[123,34,100,111,109,97,105,110,34,58,34]⟩++bs D),
     fun z _=>z 3=.string (⟨#[123,34,100,111,109,97,105,110,34,58,34]⟩++bs D++⟨#[34,44,34,107,101,121,115,34,58,91]⟩),
     fun z _=>z 4=.string (bs S),
     fun z _=>z 5=.string (⟨#[123,34,100,111,109,97,105,110,34,58,34]⟩++bs D++⟨#[34,44,34,107,101,121,115,34,58,91]⟩++bs S),
     fun z _=>z 6=.string (⟨#[123,34,100,111,109,97,105,110,34,58,34]⟩++bs D++⟨#[34,44,34,107,101,121,115,34,58,91]⟩++bs S++⟨#[93,44,34,110,117,109,98,101,114,34,58]⟩),
     fun z _=>z 7=.pointer (some ⟨w.heap.size,1,none⟩),
     fun z _=>z 8=.int .i64 num,
     fun z _=>z 9=.string (bs (intB num)),
     fun z _=>z 10=.string (⟨#[123,34,100,111,109,97,105,110,34,58,34]⟩++bs D++⟨#[34,44,34,107,101,121,115,34,58,91]⟩++bs S++⟨#[93,44,34,110,117,109,98,101,114,34,58]⟩++bs (intB num)),
     fun z _=>z 11=.string (⟨#[123,34,100,111,109,97,105,110,34,58,34]⟩++bs D++⟨#[34,44,34,107,101,121,115,34,58,91]⟩++bs S++⟨#[93,44,34,110,117,109,98,101,114,34,58]⟩++bs (intB num)++⟨#[125]⟩),
     fun z _=>z 12=.string (⟨#[123,34,100,111,109,97,105,110,34,58,34]⟩++bs D++⟨#[34,44,34,107,101,121,115,34,58,91]⟩++bs S++⟨#[93,44,34,110,117,109,98,101,114,34,58]⟩++bs (intB num)++⟨#[125]⟩)]
    [Eq,Eq,Eq,Eq,Eq,Eq,Eq,Eq,Eq,fun u u'=>Below u.heap.size u u',Eq,Eq,Eq]
    (fun _ _=>false) [(0,some 36),(1,some 37),(2,some 38),(3,some 39),(4,some 40),(5,some 41),(6,some 42),(7,some 43),(8,some 44),(9,some 45),(10,some 46),(11,some 47),(12,some 2)] (by kernel_rfl) (by kernel_rfl) rfl (fun _=>rfl) ?_ ?_ ?_ ?_ ?_ ?_
   ·exact HC0
   ·intro m; cases m; exact trivial; exact trivial
   ·intro m; cases m
    ·refine ⟨?_,?_,?_,?_,?_,?_,?_,?_,?_,.inr (fun _ _ _ h=>h),?_,?_,?_,trivial⟩ <;> exact .inr fun _ _ h h0=>h▸h0
    ·refine ⟨?_,?_,?_,?_,?_,?_,?_,?_,?_,.inr (fun _ _ _ h=>h),?_,?_,?_,trivial⟩ <;> exact .inr fun _ _ h h0=>h▸h0
   ·refine ⟨⟨.inl rfl,?_,?_,?_,?_,?_,?_,?_,?_,?_,?_,?_,?_,trivial⟩,⟨?_,.inl rfl,?_,?_,?_,?_,?_,?_,?_,?_,?_,?_,?_,trivial⟩,⟨?_,?_,.inl rfl,?_,?_,?_,?_,?_,?_,?_,?_,?_,?_,trivial⟩,⟨?_,?_,?_,.inl rfl,?_,?_,?_,?_,?_,?_,?_,?_,?_,trivial⟩,⟨?_,?_,?_,?_,.inl rfl,?_,?_,?_,?_,?_,?_,?_,?_,trivial⟩,⟨?_,?_,?_,?_,?_,.inl rfl,?_,?_,?_,?_,?_,?_,?_,trivial⟩,⟨?_,?_,?_,?_,?_,?_,.inl rfl,?_,?_,?_,?_,?_,?_,trivial⟩,⟨?_,?_,?_,?_,?_,?_,?_,.inl rfl,?_,?_,?_,?_,?_,trivial⟩,⟨?_,?_,?_,?_,?_,?_,?_,?_,.inl rfl,?_,?_,?_,?_,trivial⟩,⟨?_,?_,?_,?_,?_,?_,?_,?_,?_,.inl rfl,?_,?_,?_,trivial⟩,⟨?_,?_,?_,?_,?_,?_,?_,?_,?_,?_,.inl rfl,?_,?_,trivial⟩,⟨?_,?_,?_,?_,?_,?_,?_,?_,?_,?_,?_,.inl rfl,?_,trivial⟩,⟨?_,?_,?_,?_,?_,?_,?_,?_,?_,?_,?_,?_,.inl rfl,trivial⟩,trivial⟩ <;> first | exact .inr (.inr (.inl rfl)) | exact .inr (.inr (.inr fun _ _ _ _ _ h=>h))
   ·refine ⟨?_,?_,?_,?_,?_,?_,?_,?_,?_,?_,?_,?_,?_,trivial⟩
    ·refine qab [] (fun _=>rfl) rfl ?_;intro w1 vals hC1 hi0 hf E hE;clear hi0;clear hf;simp only [sP] at hE ⊢;go_wp2;exact .mk (hE _ _ rfl hC1 rfl)
    ·refine qab [(0,some 36)] (fun _=>rfl) rfl ?_;intro w1 vals hC1 hi0 hf E hE;clear hi0;have f0:vals 0=_:=hf 0 rfl
     try dsimp only at f0
     clear hf;simp only [sP,f0] at hE ⊢;clear f0;have d0:=(HBX.out.below hC1 HBX.out.lt).cell 0;simp only [bC,List.getElem?_toArray,List.getElem?_cons_zero] at d0;go_wp2;exact .mk (hE _ _ rfl hC1 rfl)
    ·refine qab [(1,some 37)] (fun _=>rfl) rfl ?_;intro w1 vals hC1 hi0 hf E hE;clear hi0;have f1:vals 1=_:=hf 1 rfl
     try dsimp only at f1
     clear hf;simp only [sP,f1] at hE ⊢;clear f1;have hz:=HZ1.out;go_wp2;exact .mk (hE _ _ rfl hC1 rfl)
    ·refine qab [(2,some 38)] (fun _=>rfl) rfl ?_;intro w1 vals hC1 hi0 hf E hE;clear hi0;have f2:vals 2=_:=hf 2 rfl
     try dsimp only at f2
     clear hf;simp only [sP,f2] at hE ⊢;clear f2;have hz:=HZ2.out;go_wp2;exact .mk (hE _ _ rfl hC1 rfl)
    ·refine qab [] (fun _=>rfl) rfl ?_;intro w1 vals hC1 hi0 hf E hE;clear hi0;clear hf;simp only [sP] at hE ⊢;go_wp2;exact .mk (hE _ _ rfl hC1 rfl)
    ·refine qab [(3,some 39),(4,some 40)] (fun _=>rfl) rfl ?_;intro w1 vals hC1 hi0 hf E hE;clear hi0;have f3:vals 3=_:=hf 3 rfl;have f4:vals 4=_:=hf 4 rfl
     try dsimp only at f3 f4
     clear hf;simp only [sP,f3,f4] at hE ⊢;clear f3 f4;have hz:=HZ3.out;go_wp2;exact .mk (hE _ _ rfl hC1 rfl)
    ·refine qab [(5,some 41)] (fun _=>rfl) rfl ?_;intro w1 vals hC1 hi0 hf E hE;clear hi0;have f5:vals 5=_:=hf 5 rfl
     try dsimp only at f5
     clear hf;simp only [sP,f5] at hE ⊢;clear f5;have hz:=HZ4.out;go_wp2;exact .mk (hE _ _ rfl hC1 rfl)
    ·refine qab [] (fun _=>rfl) rfl ?_;intro w1 vals hC1 hi0 hf E hE;clear hi0;clear hf;simp only [sP] at hE ⊢;go_wp2;exact .mk (hE _ _ rfl hC1 rfl)
    ·refine qab [(7,some 43)] (fun _=>rfl) rfl ?_;intro w1 vals hC1 hi0 hf E hE;clear hi0;have f7:vals 7=_:=hf 7 rfl
     try dsimp only at f7
     clear hf;simp only [sP,f7] at hE ⊢;clear f7;have d0:=(HBX.out.below hC1 HBX.out.lt).cell 1;simp only [bC,List.getElem?_toArray,List.getElem?_cons_zero,List.getElem?_cons_succ] at d0;go_wp2;exact .mk (hE _ _ rfl hC1 rfl)
    ·refine qab [(8,some 44)] (fun _=>rfl) rfl ?_;intro w1 vals hC1 hi0 hf E hE;clear hi0;have f8:vals 8=_:=hf 8 rfl
     try dsimp only at f8
     clear hf;simp only [sP,f8] at hE ⊢;clear f8;go_wp2_with fail;refine qaa (HDG.out _) ?_;rintro e w2 ⟨rfl,hb2⟩;go_wp2_with fail;exact .mk (hE _ _ rfl (hC1.trans (hb2.mono hC1.size)) hb2)
    ·refine qab [(6,some 42),(9,some 45)] (fun _=>rfl) rfl ?_;intro w1 vals hC1 hi0 hf E hE;clear hi0;have f6:vals 6=_:=hf 6 rfl;have f9:vals 9=_:=hf 9 rfl
     try dsimp only at f6 f9
     clear hf;simp only [sP,f6,f9] at hE ⊢;clear f6 f9;have hz:=HZ5.out;go_wp2;exact .mk (hE _ _ rfl hC1 rfl)
    ·refine qab [(10,some 46)] (fun _=>rfl) rfl ?_;intro w1 vals hC1 hi0 hf E hE;clear hi0;have f10:vals 10=_:=hf 10 rfl
     try dsimp only at f10
     clear hf;simp only [sP,f10] at hE ⊢;clear f10;have hz:=HZ6.out;go_wp2;exact .mk (hE _ _ rfl hC1 rfl)
    ·refine qab [(11,some 47),(9,some 45),(0,some 36),(1,some 37),(2,some 38),(3,some 39),(4,some 40),(5,some 41),(6,some 42),(7,some 43),(8,some 44),(9,some 45),(10,some 46),(11,some 47)] (fun _=>rfl) rfl ?_;intro w1 vals hC1 hi0 hf E hE;clear hi0;have f0:vals 0=_:=hf 0 rfl;have f1:vals 1=_:=hf 1 rfl;have f2:vals 2=_:=hf 2 rfl;have f3:vals 3=_:=hf 3 rfl;have f4:vals 4=_:=hf 4 rfl;have f5:vals 5=_:=hf 5 rfl;have f6:vals 6=_:=hf 6 rfl;have f7:vals 7=_:=hf 7 rfl;have f8:vals 8=_:=hf 8 rfl;have f9:vals 9=_:=hf 9 rfl;have f10:vals 10=_:=hf 10 rfl;have f11:vals 11=_:=hf 11 rfl
     try dsimp only at f0 f1 f2 f3 f4 f5 f6 f7 f8 f9 f10 f11
     clear hf;simp only [sP,f0,f1,f2,f3,f4,f5,f6,f7,f8,f9,f10,f11] at hE ⊢;clear f0 f1 f2 f3 f4 f5 f6 f7 f8 f9 f10 f11;go_wp2;exact .mk (hE _ _ rfl hC1 rfl)
   intro w1 vals hC1 hf;have f0:vals 0=_:=hf 0 (by decide) rfl;have f1:vals 1=_:=hf 1 (by decide) rfl;have f2:vals 2=_:=hf 2 (by decide) rfl;have f3:vals 3=_:=hf 3 (by decide) rfl;have f4:vals 4=_:=hf 4 (by decide) rfl;have f5:vals 5=_:=hf 5 (by decide) rfl;have f6:vals 6=_:=hf 6 (by decide) rfl;have f7:vals 7=_:=hf 7 (by decide) rfl;have f8:vals 8=_:=hf 8 (by decide) rfl;have f9:vals 9=_:=hf 9 (by decide) rfl;have f10:vals 10=_:=hf 10 (by decide) rfl;have f11:vals 11=_:=hf 11 (by decide) rfl;have f12:vals 12=_:=hf 12 (by decide) rfl
   try dsimp only at f0 f1 f2 f3 f4 f5 f6 f7 f8 f9 f10 f11 f12
   clear hf;simp only [sP,f0,f1,f2,f3,f4,f5,f6,f7,f8,f9,f10,f11,f12];clear f0 f1 f2 f3 f4 f5 f6 f7 f8 f9 f10 f11 f12;have HB9:=zY (HBW.out.trans (hC1.mono HBW.out.size));rw [HSE.out];clear hC1 HC0;go_wp2_with fail;go_ret;exact ⟨rfl,HB0.out.trans (HB9.out.mono HB0.out.size)⟩
theorem neq_jwk (x y:Bs × Bs) (w:World):(binOp .neq 38 (.agg (kCell x)) (.agg (kCell y))).run Tryz.prog w=.ok (.bool (!decide (x=y))) w:=by
 have p0:∀ (z:Bs × Bs) (u:World),(part 9 (kCell z) 0).run Tryz.prog u=.ok (.string (bs z.1)) u:=fun z u=>by kernel_rfl
 have p1:∀ (z:Bs × Bs) (u:World),(part 9 (kCell z) 1).run Tryz.prog u=.ok (.string (bs z.2)) u:=fun z u=>by kernel_rfl
 have hs:=Tryz.underlying9;have hf:Tryz.prog.fieldsOf 38=#[{ name := "Kid",type:=9,offset:=0,embedded:=false,tag := "",pkgPath := "",byteOffset:=0 },{ name := "X",type:=9,offset:=1,embedded:=false,tag := "",pkgPath := "",byteOffset:=16 }]:=by kernel_rfl
 rw [run_neq_struct,run_equalIn_struct w 9999 _ _ _ (by kernel_rfl) (by kernel_rfl),hf]
 have s1:∀ (d:Nat) (s t:Bs),(Op.equalIn (d+1) 9 (.string (bs s)) (.string (bs t))).run Tryz.prog w=.ok (decide (s=t)) w:=fun d s t=>by
  have e:((bs s).toList == (bs t).toList)=decide (s=t):=by rw [qas,qas]; by_cases h:s=t <;> simp [h]
  rw [run_equalIn_string w d _ _ _ hs,e]
 have e1:=fun s t=>s1 9998 s t;simp only [Nat.reduceAdd] at e1;obtain ⟨x1,x2⟩:=x;obtain ⟨y1,y2⟩:=y
 by_cases h1:x1=y1 <;> by_cases h2:x2=y2 <;> simp [Op.eqFields,Sem.run_bind,p0,p1,Result.andThen,e1,h1,h2]
theorem wpList_binop {P:Program} {w:World} {ops:Array Oper} {rest:List Oper} {o:Oper} {a:Act} {Q:Exit→Act→World→Prop} {op:BinOp} {t y':TypeId} {x y:Operand} {u v r:Value}
  (hgd:o.guard=none) (ho:o.op=.binOp op t x y y') (hx:a.eval x=u) (hy:a.eval y=v) (hg:(eqGuard op t x y u v).run P w=.ok () w) (hr:(binOp op t u v).run P w=.ok r w) (h:wpList P ops Q rest (a.put o.dst r) w):wpList P ops Q (o :: rest) a w:=by
 refine wpList_plain hgd fun K hK=>?_;unfold Oper.wp execOp;simp only [ho,hx,hy,Sem.run_bind,Sem.run_pure,Result.andThen_ok,hg,hr];exact hK _ _ h
def sameB (D1:Bs) (n1:Int) (k1:List (Bs × Bs)) (D2:Bs) (n2:Int) (k2:List (Bs × Bs)):Bool:=decide (D1=D2) && decide (n1=n2) && decide (k1=k2)
theorem take_same {k1 k2:List (Bs × Bs)} {i:Nat} (h:k1.take i=k2.take i) (h1:i<k1.length) (h2:i<k2.length) (he:k1[i]=k2[i]):k1.take (i+1)=k2.take (i+1):=by
 rw [List.take_succ_eq_append_getElem h1,List.take_succ_eq_append_getElem h2,h,he]
theorem same11_any (D1 D2:Bs) (n1 n2:Int) (k1 k2:List (Bs × Bs)) (A1 A2:Option Addr) (c1 c2 Bo1 Bo2:Nat) (w:World) (hr1:Rd w Bo1 A1 (rowsV kCell k1)) (hr2:Rd w Bo2 A2 (rowsV kCell k2)) (hB1:Bo1≤w.heap.size) (hB2:Bo2≤w.heap.size)
  (hl1:(k1.length:Int)≤9223372036854775807) (hl2:(k2.length:Int)≤9223372036854775807) :
  Calls Tryz.prog 10 #[.agg (bC D1 n1 A1 k1.length c1),.agg (bC D2 n2 A2 k2.length c2)] w fun e w'=>e=.returned (.bool (sameB D1 n1 k1 D2 n2 k2))∧Below w.heap.size w w':=by
 obtain ⟨r,hrr⟩:=eX (sameB D1 n1 k1 D2 n2 k2);rw [← hrr];have HRR:=zY hrr;obtain ⟨m1,hm1⟩:=eX (k1.length);obtain ⟨m2,hm2⟩:=eX (k2.length);rw [← hm1] at hl1 ⊢;rw [← hm2] at hl2 ⊢;have HM1:=zY hm1;have HM2:=zY hm2;obtain ⟨W0,hW0⟩:=eX ((w.alloc (.cells (bC D1 n1 A1 m1 c1) 24)).alloc (.cells (bC D2 n2 A2 m2 c2) 24));have hb0:Below w.heap.size w W0:=by rw [hW0]; exact ((Below.refl _ w).alloc (Nat.le_refl _) _).alloc (by simp) _
 have HB0:=zY hb0;have HK1:=zY (show Blk W0 w.heap.size 24 (bC D1 n1 A1 m1 c1) by rw [hW0]; exact (Blk.new _ _ _).alloc _);have HK2:=zY (show Blk W0 (w.heap.size+1) 24 (bC D2 n2 A2 m2 c2) by rw [hW0]; have:=Blk.new (w.alloc (.cells (bC D1 n1 A1 m1 c1) 24)) 24 (bC D2 n2 A2 m2 c2); simpa using this);have HR1:=zY (hr1.below (hb0.mono hB1));have HR2:=zY (hr2.below (hb0.mono hB2));have HW0:=zY hW0;have a0:W0.cell? ⟨w.heap.size,0,none⟩=some (.string (bs D1)):=HK1.out.cell 0;have a1:W0.cell? ⟨w.heap.size,1,none⟩=some (.int .i64 n1):=HK1.out.cell 1;have a2:W0.cell? ⟨w.heap.size,2,none⟩=some (.slice A1 m1 c1):=HK1.out.cell 2;have b0:W0.cell? ⟨w.heap.size+1,0,none⟩=some (.string (bs D2)):=HK2.out.cell 0;have b1:W0.cell? ⟨w.heap.size+1,1,none⟩=some (.int .i64 n2):=HK2.out.cell 1;have b2:W0.cell? ⟨w.heap.size+1,2,none⟩=some (.slice A2 m2 c2):=HK2.out.cell 2;clear hW0 hb0 hr1 hr2 hrr hm1 hm2 hB1 hB2;go_enter Tryz.func10,Tryz.ntmps10
 go_upto_region 1 with (fail)
 rw [show (w.alloc (.cells (bC D1 n1 A1 m1 c1) 24)).alloc (.cells (bC D2 n2 A2 m2 c2) 24)=W0 from HW0.out.symm];generalize Value.agg (bC D1 n1 A1 m1 c1)=AV1;generalize Value.agg (bC D2 n2 A2 m2 c2)=AV2
 by_cases hD:D1=D2
 ·have hq:((bs D1).toList == (bs D2).toList)=true:=by rw [qas,qas]; simpa using hD
  by_cases hn:n1=n2
  ·have hn':(n1 == n2)=true:=by simpa using hn
   by_cases hm:m1=m2
   ·have HRE:=zY (show r=decide (k1=k2) by rw [HRR.out,sameB,decide_eq_true hD,decide_eq_true hn]; rfl);have HL2:=zY (show m1=k2.length by rw [hm]; exact HM2.out);subst hm hn;clear hD hn' hl2;go_wp2_with fail
    go_loopw [5] (fun x wr=>∃ i:Nat,i≤m1∧x=.int .i64 (i:Int)∧k1.take i=k2.take i∧Below W0.heap.size W0 wr) (fun x _=>m1 - (intOf x).toNat)
    case atStart=>exact ⟨0,Nat.zero_le _,rfl,by simp,(Below.refl _ _)⟩
    case round =>
     obtain ⟨i,hi,rfl,htk,hbw⟩:=hrel;have HTK:=zY htk;have HBW:=zY hbw;have HX1:=zY (HK1.out.below hbw HK1.out.lt);have HX2:=zY (HK2.out.below hbw HK2.out.lt);have a2:wr.cell? ⟨w.heap.size,2,none⟩=some (.slice A1 m1 c1):=HX1.out.cell 2;clear htk hbw
     by_cases hlt:i<m1
     ·have huj:=Tryz.underlying38;have hil1:i<k1.length:=by rw [← HM1.out]; exact hlt
      have hil2:i<k2.length:=by rw [← HL2.out]; exact hlt
      have hlt':(i:Int)<(m1:Int):=by omega
      obtain ⟨ad1,hA1,-,hcell1⟩:=qaX (f:=kCell) (m:=2) (fun _=>rfl) (by decide) (HR1.out) hil1;obtain ⟨ad2,hA2,-,hcell2⟩:=qaX (f:=kCell) (m:=2) (fun _=>rfl) (by decide) (HR2.out) hil2;subst hA1 hA2;obtain ⟨X,hX⟩:=eX (k1[i]);obtain ⟨Y,hY⟩:=eX (k2[i]);rw [← hX] at hcell1;rw [← hY] at hcell2
      have HC1:=zY (show ∀ u,Below W0.heap.size W0 u→∀ j v,(kCell X).toList[j]?=some v→u.cell? ((ad1.add (i*2)).add j)=some v from fun u hu j v hv=>by
       have h:=hcell1 j v (by simpa using hv);exact (hu.cell (World.block_lt_of_cell? W0 _ h)).trans h)
      have HC2:=zY (show ∀ u,Below W0.heap.size W0 u→∀ j v,(kCell Y).toList[j]?=some v→u.cell? ((ad2.add (i*2)).add j)=some v from fun u hu j v hv=>by
       have h:=hcell2 j v (by simpa using hv);exact (hu.cell (World.block_lt_of_cell? W0 _ h)).trans h)
      have HNQ:=zY (neq_jwk X Y);obtain ⟨q,hqq⟩:=eX (decide (X=Y));rw [← hqq] at HNQ;have HLT:=zY hlt;have HXI:=zY (show ∃ (h1:i<k1.length) (h2:i<k2.length),X=k1[i]∧Y=k2[i] from ⟨hil1,hil2,hX,hY⟩);have HQQ:=zY hqq;clear hX hY hcell1 hcell2 hil1 hil2 hlt hqq;go_wp2_with fail;have HC0:Below wr.heap.size wr wr.drew:=(Below.refl _ _).drew
      refine qap (fun u=>Below wr.heap.size wr u) (fun | false=>(fun _=>True) | true=>(fun _=>True)) (fun | false,_=>false | true,_=>false)
       [fun z _=>z 0=.pointer (some ⟨w.heap.size,2,none⟩),
        fun z _=>z 1=.slice (some ad1) m1 c1,
        fun z _=>z 2=.int .i64 (i:Int),
        fun z _=>z 3=.pointer (some (ad1.add (i*2))),
        fun z _=>z 4=.agg (kCell X),
        fun z _=>z 5=.pointer (some ⟨w.heap.size+1,2,none⟩),
        fun z _=>z 6=.slice (some ad2) m1 c2,
        fun z _=>z 7=.int .i64 (i:Int),
        fun z _=>z 8=.pointer (some (ad2.add (i*2))),
        fun z _=>z 9=.agg (kCell Y),
        fun z _=>z 10=.bool (!q)]
       [Eq,Eq,Eq,Eq,Eq,Eq,Eq,Eq,Eq,Eq,Eq]
       (fun _ _=>false) [(0,some 34),(1,some 35),(2,some 36),(3,some 37),(4,some 38),(5,some 39),(6,some 40),(7,some 41),(8,some 42),(9,some 43),(10,some 44)] (by kernel_rfl) (by kernel_rfl) rfl (fun _=>rfl) ?_ ?_ ?_ ?_ ?_ ?_
      ·exact HC0
      ·intro m; cases m; exact trivial; exact trivial
      ·intro m; cases m
       ·refine ⟨?_,?_,?_,?_,?_,?_,?_,?_,?_,?_,?_,trivial⟩ <;> exact .inr fun _ _ h h0=>h▸h0
       ·refine ⟨?_,?_,?_,?_,?_,?_,?_,?_,?_,?_,?_,trivial⟩ <;> exact .inr fun _ _ h h0=>h▸h0
      ·refine ⟨⟨.inl rfl,?_,?_,?_,?_,?_,?_,?_,?_,?_,?_,trivial⟩,⟨?_,.inl rfl,?_,?_,?_,?_,?_,?_,?_,?_,?_,trivial⟩,⟨?_,?_,.inl rfl,?_,?_,?_,?_,?_,?_,?_,?_,trivial⟩,⟨?_,?_,?_,.inl rfl,?_,?_,?_,?_,?_,?_,?_,trivial⟩,⟨?_,?_,?_,?_,.inl rfl,?_,?_,?_,?_,?_,?_,trivial⟩,⟨?_,?_,?_,?_,?_,.inl rfl,?_,?_,?_,?_,?_,trivial⟩,⟨?_,?_,?_,?_,?_,?_,.inl rfl,?_,?_,?_,?_,trivial⟩,⟨?_,?_,?_,?_,?_,?_,?_,.inl rfl,?_,?_,?_,trivial⟩,⟨?_,?_,?_,?_,?_,?_,?_,?_,.inl rfl,?_,?_,trivial⟩,⟨?_,?_,?_,?_,?_,?_,?_,?_,?_,.inl rfl,?_,trivial⟩,⟨?_,?_,?_,?_,?_,?_,?_,?_,?_,?_,.inl rfl,trivial⟩,trivial⟩ <;> first | exact .inr (.inr (.inl rfl)) | exact .inr (.inr (.inr fun _ _ _ _ _ h=>h))
      ·refine ⟨?_,?_,?_,?_,?_,?_,?_,?_,?_,?_,?_,trivial⟩
       ·refine qab [] (fun _=>rfl) rfl ?_;intro w1 vals hC1 hi0 hf E hE;clear hi0;clear hf;simp only [sP] at hE ⊢;go_wp2;exact .mk (hE _ _ rfl hC1 rfl)
       ·refine qab [(0,some 34)] (fun _=>rfl) rfl ?_;intro w1 vals hC1 hi0 hf E hE;clear hi0;have f0:vals 0=_:=hf 0 rfl
        try dsimp only at f0
        clear hf;simp only [sP,f0] at hE ⊢;clear f0;have d0:=(HX1.out.below hC1 HX1.out.lt).cell 2;simp only [bC,List.getElem?_toArray,List.getElem?_cons_zero,List.getElem?_cons_succ] at d0;go_wp2;exact .mk (hE _ _ rfl hC1 rfl)
       ·refine qab [] (fun _=>rfl) rfl ?_;intro w1 vals hC1 hi0 hf E hE;clear hi0;clear hf;simp only [sP] at hE ⊢;go_wp2;exact .mk (hE _ _ rfl hC1 rfl)
       ·refine qab [(1,some 35),(2,some 36)] (fun _=>rfl) rfl ?_;intro w1 vals hC1 hi0 hf E hE;clear hi0;have f1:vals 1=_:=hf 1 rfl;have f2:vals 2=_:=hf 2 rfl
        try dsimp only at f1 f2
        clear hf;simp only [sP,f1,f2] at hE ⊢;clear f1 f2;go_wp2;exact .mk (hE _ _ rfl hC1 rfl)
       ·refine qab [(3,some 37)] (fun _=>rfl) rfl ?_;intro w1 vals hC1 hi0 hf E hE;clear hi0;have f3:vals 3=_:=hf 3 rfl
        try dsimp only at f3
        clear hf;simp only [sP,f3] at hE ⊢;clear f3;refine qaD (r:=(kCell X).toList) (HC1.out _ (HBW.out.trans (hC1.mono HBW.out.size))) rfl rfl rfl huj rfl qbq ?_;go_wp2_with fail;exact .mk (hE _ _ rfl hC1 rfl)
       ·refine qab [] (fun _=>rfl) rfl ?_;intro w1 vals hC1 hi0 hf E hE;clear hi0;clear hf;simp only [sP] at hE ⊢;go_wp2;exact .mk (hE _ _ rfl hC1 rfl)
       ·refine qab [(5,some 39)] (fun _=>rfl) rfl ?_;intro w1 vals hC1 hi0 hf E hE;clear hi0;have f5:vals 5=_:=hf 5 rfl
        try dsimp only at f5
        clear hf;simp only [sP,f5] at hE ⊢;clear f5;have d0:=(HX2.out.below hC1 HX2.out.lt).cell 2;simp only [bC,List.getElem?_toArray,List.getElem?_cons_zero,List.getElem?_cons_succ] at d0;go_wp2;exact .mk (hE _ _ rfl hC1 rfl)
       ·refine qab [] (fun _=>rfl) rfl ?_;intro w1 vals hC1 hi0 hf E hE;clear hi0;clear hf;simp only [sP] at hE ⊢;go_wp2;exact .mk (hE _ _ rfl hC1 rfl)
       ·refine qab [(6,some 40),(7,some 41)] (fun _=>rfl) rfl ?_;intro w1 vals hC1 hi0 hf E hE;clear hi0;have f6:vals 6=_:=hf 6 rfl;have f7:vals 7=_:=hf 7 rfl
        try dsimp only at f6 f7
        clear hf;simp only [sP,f6,f7] at hE ⊢;clear f6 f7;go_wp2;exact .mk (hE _ _ rfl hC1 rfl)
       ·refine qab [(8,some 42)] (fun _=>rfl) rfl ?_;intro w1 vals hC1 hi0 hf E hE;clear hi0;have f8:vals 8=_:=hf 8 rfl
        try dsimp only at f8
        clear hf;simp only [sP,f8] at hE ⊢;clear f8;refine qaD (r:=(kCell Y).toList) (HC2.out _ (HBW.out.trans (hC1.mono HBW.out.size))) rfl rfl rfl huj rfl qbq ?_;go_wp2_with fail;exact .mk (hE _ _ rfl hC1 rfl)
       ·refine qab [(4,some 38),(9,some 43)] (fun _=>rfl) rfl ?_;intro w1 vals hC1 hi0 hf E hE;clear hi0;have f4:vals 4=_:=hf 4 rfl;have f9:vals 9=_:=hf 9 rfl
        try dsimp only at f4 f9
        clear hf;simp only [sP,f4,f9] at hE ⊢;clear f4 f9;refine wpList_binop rfl rfl rfl rfl (run_eqGuard_agg w1 _ _ _ _ _ _ (by kernel_rfl)) (HNQ.out w1) ?_;go_wp2_with fail;exact .mk (hE _ _ rfl hC1 rfl)
      intro w1 vals hC1 hf;have f0:vals 0=_:=hf 0 (by decide) rfl;have f1:vals 1=_:=hf 1 (by decide) rfl;have f2:vals 2=_:=hf 2 (by decide) rfl;have f3:vals 3=_:=hf 3 (by decide) rfl;have f4:vals 4=_:=hf 4 (by decide) rfl;have f5:vals 5=_:=hf 5 (by decide) rfl;have f6:vals 6=_:=hf 6 (by decide) rfl;have f7:vals 7=_:=hf 7 (by decide) rfl;have f8:vals 8=_:=hf 8 (by decide) rfl;have f9:vals 9=_:=hf 9 (by decide) rfl;have f10:vals 10=_:=hf 10 (by decide) rfl
      try dsimp only at f0 f1 f2 f3 f4 f5 f6 f7 f8 f9 f10
      clear hf;simp only [sP,f0,f1,f2,f3,f4,f5,f6,f7,f8,f9,f10];clear f0 f1 f2 f3 f4 f5 f6 f7 f8 f9 f10;have HB6:=zY (HBW.out.trans (hC1.mono HBW.out.size));clear hC1 HC0
      cases q with
      | true =>
       have HT2:=zY (show k1.take (i+1)=k2.take (i+1) by
        obtain ⟨h1,h2,hx,hy⟩:=HXI.out;exact take_same HTK.out h1 h2 (by rw [← hx,← hy]; exact of_decide_eq_true HQQ.out.symm))
       go_wp2_with fail
       go_roundw
       case rel=>exact ⟨i+1,HLT.out,by go_num,HT2.out,HB6.out⟩
       case measure=>have:=HLT.out; simp [intOf]; omega
      | false =>
       have HRF:=zY (show r=false by
        obtain ⟨h1,h2,hx,hy⟩:=HXI.out;rw [HRE.out,decide_eq_false];intro h;subst h;exact of_decide_eq_false HQQ.out.symm (hx.trans hy.symm))
       go_wp2_with fail;go_ret;exact ⟨by rw [HRF.out]; rfl,HB0.out.trans (HB6.out.mono HB0.out.size)⟩
     ·obtain rfl:i=m1:=by omega
      have HRT:=zY (show r=true by
       rw [HRE.out,decide_eq_true];have h:=HTK.out
       rwa [List.take_of_length_le (by rw [← HM1.out]; exact Nat.le_refl _),List.take_of_length_le (by rw [← HL2.out]; exact Nat.le_refl _)] at h)
      go_wp2_with fail;go_ret;exact ⟨by rw [HRT.out]; rfl,HB0.out.trans (HBW.out.mono HB0.out.size)⟩
   ·have hm':((m1:Int) == (m2:Int))=false:=by simp; omega
    have HRF:=zY (show r=false by rw [HRR.out,sameB,decide_eq_false (show ¬ k1=k2 from fun h=>hm (by rw [HM1.out,HM2.out,h]))]; simp);go_wp2_with fail;go_ret;exact ⟨by rw [HRF.out]; rfl,HB0.out⟩
  ·have hn':(n1 == n2)=false:=by simpa using hn
   have HRF:=zY (show r=false by rw [HRR.out,sameB,decide_eq_false hn]; simp);go_wp2_with fail;go_ret;exact ⟨by rw [HRF.out]; rfl,HB0.out⟩
 ·have hq:((bs D1).toList == (bs D2).toList)=false:=by rw [qas,qas]; simpa using hD
  have HRF:=zY (show r=false by rw [HRR.out,sameB,decide_eq_false hD]; rfl);go_wp2_with fail;go_ret;exact ⟨by rw [HRF.out]; rfl,HB0.out⟩
theorem cutK_len (ks:List (Bs × Bs)):∀ k ∈ (ks.take 10).map cutK,(k.2.length:Int)≤9223372036854775807:=fun k hk=>by
 obtain ⟨x,_,rfl⟩:=List.mem_map.1 hk;simp [cutK];omega
theorem keyOf_keyJ (k:Bs × Bs):keyOfJ (keyJ k)=k:=by
 have e1:getJ (keyJ k) [107,105,100]=jtext k.1:=by simp [getJ,keyJ,atJ]
 have e2:getJ (keyJ k) [120]=jtext (enc k.2):=by simp [getJ,keyJ,atJ]
 unfold keyOfJ;rw [e1,e2];show (k.1,decB (enc k.2))=k;unfold decB;rw [dec_enc];rfl
theorem bdOf_bundle (b:BD):bdOf (bundleJ b)=b:=by
 have e1:getJ (bundleJ b) [100,111,109,97,105,110]=jtext b.dom:=by simp [getJ,bundleJ,atJ]
 have e2:getJ (bundleJ b) [110,117,109,98,101,114]=jint b.num:=by simp [getJ,bundleJ,atJ]
 have e3:getJ (bundleJ b) [107,101,121,115]=.mk 4 0 [] [] (b.keys.map keyJ):=by simp [getJ,bundleJ,atJ]
 unfold bdOf;rw [e1,e2,e3];show (⟨b.dom,b.num,(b.keys.map keyJ).map keyOfJ⟩:BD)=b;rw [List.map_map,show keyOfJ ∘ keyJ=id from funext keyOf_keyJ,List.map_id]
theorem readK_write {b:BD} (h:mayB b.dom b.num b.keys=true):readK (writeV (bundleJ b))=(b,0):=by
 obtain ⟨p,_⟩:=qcz h;unfold readK;rw [readP_write _ (qct p) (qb4 p)];show (if sureB (bdOf (bundleJ b)) (writeV (bundleJ b))=true then _ else _)=_;rw [bdOf_bundle]
 have:sureB b (writeV (bundleJ b))=true:=by
  unfold sureB;rw [h];simp
 rw [if_pos this]
theorem sameB_refl (D:Bs) (n:Int) (k:List (Bs × Bs)):sameB D n k D n k=true:=by simp [sameB]
theorem jwkWrites_any (D1:Bs) (n1:Int) (k1:List (Bs × Bs)) (A1:Option Addr) (c1:Nat) (w:World) (hr1:Rd w w.heap.size A1 (rowsV kCell k1)) (hD1:(D1.length:Int)≤9223372036854775807)
  (hl1:(k1.length:Int)≤9223372036854775807) (hk1:∀ k ∈ k1,(k.1.length:Int)≤9223372036854775807∧(k.2.length:Int)≤9223372036854775807) (hG:Sh.TabG w) :
  Calls Tryz.prog 3 #[.agg (bC D1 n1 A1 k1.length c1)] w fun e w'=>e=.returned (.bool true)∧Below w.heap.size w w':=by
 have hub:=Tryz.underlying24;obtain ⟨m1,hm1⟩:=eX (k1.length);obtain ⟨W0,hW0⟩:=eX (w.alloc (.cells (bC D1 n1 A1 k1.length c1) 24));have hb0:Below w.heap.size w W0:=by rw [hW0]; exact (Below.refl _ w).alloc (Nat.le_refl _) _
 have HB0:=zY hb0;have HK1:=zY (show Blk W0 w.heap.size 24 (bC D1 n1 A1 k1.length c1) by rw [hW0]; exact Blk.new _ _ _);have HS0:=zY (show W0.heap.size=w.heap.size+1 by rw [hW0]; simp);have HW0:=zY hW0;have HC1:=zY (fun (u:World) (h:Below w.heap.size w u)=>show Calls Tryz.prog 5 #[.agg (bC D1 n1 A1 k1.length c1)] u (CutPost D1 n1 k1 u) from jcut_any D1 n1 k1 A1 c1 w.heap.size u (hr1.below h) h.size hD1 hl1 hk1);have HG:=zY hG;have HLV:=zY jlives_any;rw [← hm1] at HK1 HC1 HW0 ⊢;clear hW0 hb0 hr1 hD1 hl1 hk1 hG hm1;go_enter Tryz.func3,Tryz.ntmps3
 go_upto_region 1 with (fail)
 rw [show w.alloc (.cells (bC D1 n1 A1 m1 c1) 24)=W0 from HW0.out.symm];generalize hAV1:Value.agg (bC D1 n1 A1 m1 c1)=AV1;rw [hAV1] at HC1;go_wp2_with (refine qad (x:=.tmp 1) (cs:=bC D1 n1 A1 m1 c1) HK1.out rfl rfl rfl hub rfl qaC ?_);refine qaa (HC1.out _ HB0.out) ?_;intro e u1 hp;unfold CutPost at hp;obtain ⟨A3,c3,rfl,hb1,hr3⟩:=hp;have HMX1:=zY (cutK_len k1);generalize hKa:(k1.take 10).map cutK=Ka at hr3 hb1 HMX1 ⊢;generalize hDa:D1.take 30=Da;have hKL1:Ka.length≤10:=by rw [← hKa]; simp; omega
 have hDL1:Da.length≤30:=by rw [← hDa]; simp; omega
 obtain ⟨na,hna⟩:=eX (Ka.length);rw [← hna];have HNA:=zY hna;have HDL1:=zY hDL1;have HKL1:=zY hKL1;have HR3:=zY hr3;have HB1:=zY hb1;have HK11:=zY (HK1.out.below hb1 HK1.out.lt);clear hKa hDa hna hKL1 hDL1 hr3 hb1 hAV1 HC1
 go_upto_region 2 with (refine qae (x:=.tmp 1) (cells:=bC Da n1 A3 na c3) HK11.out rfl rfl rfl rfl qaC rfl (by simp [bC,Value.oneCell']) ?_; intro w2 hb2 hw2)
 have HK12:=zY hb2;have HB2:=zY (hw2.below (HB0.out.trans (HB1.out.mono HB0.out.size)) (Nat.le_refl _) (HB0.out.trans (HB1.out.mono HB0.out.size)).size);have HR4:=zY (show Rd w2 w2.heap.size A3 (rowsV kCell Ka) from (HR3.out.heap fun b hb hs=>hw2.grown.block b hb (by intro h; injection h with h; have:=HS0.out; omega)).rd fun b hb _=>hb);clear hb2 hw2;have HGG:=zY (fun (u:World) (h:Below w2.heap.size w2 u)=>show Sh.TabG u from HG.out.below (HB2.out.trans (h.mono HB2.out.size)) HG.out.size);have HWA:=zY (fun (u:World) (h:Below w2.heap.size w2 u)=>qcJ Da n1 Ka A3 c3 w2.heap.size u (HR4.out.below h) h.size (by rw [qaB]; have:=HDL1.out; omega) (by have:=HKL1.out; omega) HMX1.out (HGG.out u h));have HMA:=zY (fun (u:World) (h:Below w2.heap.size w2 u)=>rmay_any Da n1 Ka A3 c3 w2.heap.size u (HR4.out.below h) h.size (by have:=HDL1.out; omega) (by have:=HKL1.out; omega) HMX1.out);have HRA:=zY (show wrB Da n1 Ka=if mayB Da n1 Ka then (writeV (bundleJ ⟨Da,n1,Ka⟩),0) else ([],1) from rfl);have HPA:=zY (fun (h:mayB Da n1 Ka=true)=>qcz (b:=⟨Da,n1,Ka⟩) h);have HRK:=zY (fun (h:mayB Da n1 Ka=true)=>readK_write (b:=⟨Da,n1,Ka⟩) h);obtain ⟨ma,hma⟩:=eX (mayB Da n1 Ka);obtain ⟨ra,hra⟩:=eX (wrB Da n1 Ka);rw [← hma] at HRA HPA HRK HMA;rw [← hra] at HWA HRA;rw [← HNA.out] at HWA HMA;have HU0:=zY (Below.refl w2.heap.size w2);clear hma hra;go_wp2_with (refine qad (x:=.tmp 1) (cs:=bC Da n1 A3 na c3) HK12.out rfl rfl rfl hub rfl qaC ?_);refine qaa (HWA.out _ HU0.out) ?_;rintro e u5 ⟨rfl,hb5⟩;have HU5:=zY hb5;have HK15:=zY (HK12.out.below hb5 HK12.out.lt);clear hb5;go_wp2_with (refine qad (x:=.tmp 1) (cs:=bC Da n1 A3 na c3) HK15.out rfl rfl rfl hub rfl qaC ?_);refine qaa (HMA.out _ HU5.out) ?_;rintro e u6 ⟨rfl,hb6⟩;have HU6:=zY (HU5.out.trans (hb6.mono HU5.out.size));have HK16:=zY (HK15.out.below hb6 HK15.out.lt);have HF:=zY (HB2.out.trans (HU6.out.mono HB2.out.size));clear hb6
 cases ma with
 | false =>
  obtain rfl:ra=([],1):=HRA.out;rw [show bs ([],(1:Int)).1=⟨#[]⟩ from rfl];go_wp2_with (go_at_call 8; refine qaa (HLV.out _) ?_; rintro e W' ⟨rfl,hb'⟩; have HB':=zY (HF.out.trans (hb'.mono HF.out.size)); clear hb');go_ret;exact ⟨rfl,HB'.out⟩
 | true =>
  obtain ⟨hpb,hkx⟩:=HPA.out rfl;have HPB:=zY hpb;have HKX:=zY hkx;have hrk:=HRK.out rfl;obtain ⟨T,hT⟩:∃ T,T=writeV (bundleJ ⟨Da,n1,Ka⟩):=⟨_,rfl⟩;have HTT:=zY (show bundleT ⟨Da,n1,Ka⟩=T by rw [hT,qdE hpb]);have HTL:=zY (show (T.length:Int)≤9223372036854775807 by rw [hT]; have:=qb4 hpb; omega);rw [← hT] at hrk;have HRT:=zY hrk;obtain rfl:ra=(T,0):=by rw [hT]; exact HRA.out
  have HJR:=zY (fun (u:World) (h:Below w2.heap.size w2 u)=>jwkread_any T u HTL.out (HGG.out u h));have HSM:=zY (fun (u:World) (A:Option Addr) (c:Nat) (h:Below w2.heap.size w2 u) (hr:Rd u u.heap.size A (rowsV kCell Ka))=>same11_any Da Da n1 n1 Ka Ka A3 A c3 c w2.heap.size u.heap.size u (HR4.out.below h) hr h.size (Nat.le_refl _) (by have:=HKL1.out; omega) (by have:=HKL1.out; omega));have HRW:=zY (fun (u:World) (h:Below w2.heap.size w2 u)=>rwrite11_any Da n1 Ka A3 c3 w2.heap.size u (HR4.out.below h) h.size HPB.out (fun k hk=>(HKX.out k hk).1));rw [HTT.out] at HRW;rw [sameB_refl] at HSM;rw [← HNA.out] at HSM HRW;clear hT hrk hpb hkx
  go_upto_region 6 with (fail)
  go_wp2_with fail;refine qaa (HJR.out _ HU6.out) ?_;intro e u7 hp;unfold RdkPost at hp;rw [HRT.out] at hp;dsimp only at hp;rw [← HNA.out] at hp;obtain ⟨A5,c5,rfl,hr7,hb7⟩:=hp;have HU7:=zY (HU6.out.trans (hb7.mono HU6.out.size));have HK17:=zY (HK16.out.below hb7 HK16.out.lt);have HR7:=zY hr7;clear hr7 hb7
  go_upto_region 7 with (refine qae (cells:=bC Da n1 A5 na c5) (Blk.new _ _ _) rfl rfl rfl rfl qaC rfl (by simp [bC,Value.oneCell']) ?_; intro w8 hb8 hw8)
  obtain ⟨H6,hH6⟩:=eX (u7.heap.size);have hbw8:Below u7.heap.size u7 w8:=qaN hw8;rw [← hH6] at hb8 ⊢;have HC8:=zY hb8;have HU8:=zY (HU7.out.trans (hbw8.mono HU7.out.size));have HK18:=zY (HK17.out.below hbw8 HK17.out.lt);have HR8:=zY (show Rd w8 w8.heap.size A5 (rowsV kCell Ka) from (HR7.out.heap fun b hb _=>hbw8.block b hb).rd fun b hb _=>hb);have HF8:=zY (HB2.out.trans (HU8.out.mono HB2.out.size));clear hbw8 hb8 hw8 hH6;have he:((bs T).toList == (bs T).toList)=true:=by simp
  go_wp2_with (first
   | (refine qad (x:=.tmp 1) (cs:=bC Da n1 A3 na c3) HK18.out rfl rfl rfl hub rfl qaC ?_)
   | (refine qad (x:=.tmp 6) (cs:=bC Da n1 A5 na c5) HC8.out rfl rfl rfl hub rfl qaC ?_)
   | (go_at_call 10; refine qaa (HSM.out _ A5 c5 HU8.out HR8.out) ?_; rintro e W9 ⟨rfl,hb9⟩; have HU9:=zY (HU8.out.trans (hb9.mono HU8.out.size)); have HK19:=zY (HK18.out.below hb9 HK18.out.lt); have HB9:=zY (HF8.out.trans (hb9.mono HF8.out.size)); clear hb9)
   | (refine qad (x:=.tmp 1) (cs:=bC Da n1 A3 na c3) HK19.out rfl rfl rfl hub rfl qaC ?_)
   | (go_at_call 11; refine qaa (HRW.out _ HU9.out) ?_; rintro e WA ⟨rfl,hba⟩; have HBA:=zY (HB9.out.trans (hba.mono HB9.out.size)); clear hba)
   | (go_at_call 8; refine qaa (HLV.out _) ?_; rintro e W' ⟨rfl,hb'⟩; have HB':=zY (HBA.out.trans (hb'.mono HBA.out.size)); clear hb'))
  go_ret;exact ⟨rfl,HB'.out⟩
end Go.Proofs.YtlkikjeccamheaaGreatDoor.Js
namespace Go.Proofs.YtlkikjeccamheaaGreatDoor.Js
set_option linter.unusedSimpArgs false
set_option linter.unusedVariables false
set_option maxRecDepth 100000
set_option maxHeartbeats 4000000
open Go.ChangeShapes Go.WideShapes Go.ChangeAt Go.RowKit Go.Joins
def FitK (ks:List (Bs × Bs)):Prop:=ks.length≤maxLen∧∀ k ∈ ks,k.1.length≤maxLen∧k.2.length≤maxLen
section
variable {H:Type} {enc:TypeId × Value→H} {w:World} {base:Nat} {spare:Nat→Bool} {held:Bool}
theorem open_jwk {fuel:Nat} {cs:List Value} {x:DataW H × List MemPlace} (h:DataW.trod enc Tryz.prog w base spare held fuel 38 cs=some x) (hl:cs.length=2) :
  ∃ k:Bs × Bs,cs=(kCell k).toList∧k.1.length≤maxLen∧k.2.length≤maxLen:=by
 obtain ⟨xs,n,_,hx,_,hlen,hf⟩:=DataW.trod_struct Tryz.underlying38 h
 match xs,hlen,cs,hl with
 | [y0,y1],_,[v0,v1],_ =>
  have c0:Tryz.prog.cellsOf 9=1:=by kernel_rfl
  have g0:=hf 0 _ rfl;have g1:=hf 1 _ rfl;simp [c0] at g0 g1;obtain ⟨s0,e0,-,w0⟩:=DataW.trod_string Tryz.underlying9 g0;obtain ⟨s1,e1,-,w1⟩:=DataW.trod_string Tryz.underlying9 g1
  injection e0 with e0
  injection e1 with e1
  subst e0 e1;exact ⟨(s0.data.toList,s1.data.toList),by simp [kCell,bs_self],by simpa using w0,by simpa using w1⟩
theorem open_jwks {fuel:Nat} {cs:List Value} {x:DataW H × List MemPlace} (h:DataW.trod enc Tryz.prog w base spare held fuel 22 cs=some x) :
  ∃ (A:Option Addr) (c:Nat) (l:List (Bs × Bs)),cs=[.slice A l.length c]∧Rd w w.heap.size A (rowsV kCell l)∧FitK l:=by
 have c4:Tryz.prog.cellsOf 38=2:=by kernel_rfl
 rcases Deep.open_slice Tryz.underlying22 h with ⟨rfl,_⟩ | ⟨a,len,cap,m,n,D,Pl,rfl,hb,hl,hm,hmm,rfl,hx⟩
 ·exact ⟨none,0,[],rfl,Rd.nil _ _ _,Nat.zero_le _,fun k hk=>by cases hk⟩
 ·have hlm:len≤m:=by rw [hmm]; split <;> omega
  rw [c4] at hx
  obtain ⟨f,hf⟩:=Deep.choose_lt (α:=Bs × Bs) (n:=m) (p:=fun i q=>w.cells? base (a.add (i*2)) 2=some (kCell q).toList∧q.1.length≤maxLen∧q.2.length≤maxLen) (fun i hi=>by
   obtain ⟨cs',h1,h2⟩:=hx i hi;obtain ⟨_,hlen,_⟩:=World.cells?_some h1;obtain ⟨k,rfl,hk,hk2⟩:=open_jwk h2 hlen;exact ⟨k,h1,hk,hk2⟩)
  refine ⟨some a,cap,(List.range len).map f,by simp,fun i u hu=>?_,by simp; omega,fun k hk=>?_⟩
  ·have hl5:(rowsV kCell ((List.range len).map f)).length=len*2:=by rw [rowsV_len (m:=2) (fun _=>rfl)]; simp
   have hi:i<len*2:=by
    have:=(List.getElem?_eq_some_iff.1 hu).1
    rwa [hl5] at this
   have hq:i/2<len:=by omega
   obtain ⟨_,hlen,hcell⟩:=World.cells?_some (hf (i/2) (by omega)).1;have hc:=hcell (i%2) (by omega);obtain ⟨v,hv⟩:∃ v,(kCell (f (i/2)))[i%2]?=some v:=⟨_,Array.getElem?_eq_getElem (by rw [show (kCell (f (i/2))).size=2 from rfl]; omega)⟩;have hkv:=qcO (f:=kCell) (m:=2) (fun _=>rfl) ((List.range len).map f) (i/2) (by simpa using hq) (i%2) v (by rw [List.getElem_map,List.getElem_range]; exact hv);rw [show i/2*2+i%2=i by omega] at hkv;rw [hkv] at hu
   injection hu with hu
   subst hu;rw [Deep.add_add,show i/2*2+i%2=i by omega] at hc
   have hc':w.cell? (a.add i)=some v:=by
    rw [hc,Array.getElem?_toList];exact hv
   refine ⟨a,rfl,?_,hc'⟩;have:=World.block_lt_of_cell? w _ hc'
   rwa [qaq] at this
  ·obtain ⟨i,hi,rfl⟩:=List.mem_map.1 hk;exact (hf i (by have:=List.mem_range.1 hi; omega)).2
theorem qdi {r:Reach} {b0:Nat} {v:Value} {d:DataW H} {p:List MemPlace} (hv:Value.okWide Tryz.prog w r b0 24 v) (h:DataW.Trod enc Tryz.prog w base spare held 24 v d p) :
  ∃ (D:Bs) (num:Int) (ks:List (Bs × Bs)) (A:Option Addr) (c:Nat),v=.agg #[.string (bs D),.int .i64 num,.slice A ks.length c]∧Rd w w.heap.size A (rowsV kCell ks)∧FitK ks∧D.length≤maxLen:=by
 have c5:Tryz.prog.cellsOf 24=3:=by kernel_rfl
 obtain ⟨cs,rfl,hsz⟩:=okWide_struct Tryz.underlying24 hv;obtain ⟨fuel,hf⟩:=h;have hl:cs.toList.length=3:=by rw [← c5]; exact hsz
 obtain ⟨xs,n,_,hx,_,hlen,hf⟩:=DataW.trod_struct Tryz.underlying24 (show DataW.trod enc Tryz.prog w base spare held fuel 24 cs.toList=some (d,p) from hf);generalize hcs:cs.toList=l at hl hf
 match xs,hlen,l,hl with
 | [y0,y1,y2],_,[v0,v1,v2],_ =>
  have c0:Tryz.prog.cellsOf 9=1:=by kernel_rfl
  have c1:Tryz.prog.cellsOf 3=1:=by kernel_rfl
  have c2:Tryz.prog.cellsOf 22=1:=by kernel_rfl
  have g0:=hf 0 _ rfl;have g1:=hf 1 _ rfl;have g2:=hf 2 _ rfl;simp [c0,c1,c2] at g0 g1 g2;obtain ⟨s0,e0,-,w0⟩:=DataW.trod_string Tryz.underlying9 g0;obtain ⟨n1,e1,-,w1⟩:=DataW.trod_int Tryz.underlying3 g1;obtain ⟨A,c,l,e2,hr,hfit⟩:=open_jwks g2
  injection e0 with e0
  injection e1 with e1
  injection e2 with e2
  subst e0 e1 e2;have e':cs=#[.string s0,.int .i64 n1,.slice A l.length c]:=Array.ext' hcs;subst e';exact ⟨s0.data.toList,n1,l,A,c,by rw [bs_self],hr,hfit,by simpa using w0⟩
end
end Go.Proofs.YtlkikjeccamheaaGreatDoor.Js
namespace Go.Proofs.YtlkikjeccamheaaGreatDoor.jwkWrites
set_option linter.unusedSimpArgs false
set_option linter.unusedVariables false
open Go.ChangeShapes Go.WideShapes Go.ChangeAt Go.RowKit Go.Joins Sh Js
set_option maxRecDepth 100000 in
theorem lifted (os:Os) (started:os.Started) (H:Type) (enc:TypeId × Value→H) :
  ReturnsInHanded {} Tryz.checked os 3 .any (fun w args=>(Rows.jwkWritesSpec.pre enc Tryz.prog Tryz.f3 [] false w args∧laidMetH Tryz.prog laidL3 w)∧sizedMet enc Tryz.prog Tryz.f3 (OpenSpec.ofChange Rows.jwkWritesSpec) false w args)
   (Rows.jwkWritesSpec.post enc Tryz.prog Tryz.f3 false true false false):=by
 refine returnsInHanded_of_change_and (C:=Tryz.checked) (X:=fun w _=>laidMetH Tryz.prog laidL3 w) (fun _ _ _ hh h=>h.of_heap hh) own started (by kernel_rfl) Tryz.func3
  (ChangeSpec.witness_shaped (enc:=enc) (C:=Tryz.checked) (os:=os) (X:=fun w _=>laidMetH Tryz.prog laidL3 w) false (World.laidAll Tryz.prog os laidL3) #[.agg #[.string ⟨#[]⟩,.int .i64 0,.slice none 0 0]] 8 (World.laidAll_os _ _ _) (World.shaped_of_ZipB (by kernel_rfl) (by kernel_rfl)) (by kernel_rfl) (by kernel_rfl) (by kernel_rfl) (door_met3 os _)) ?_
 intro W base args ds gs before hval0 hW _ _ hL _;have hval:∀ (j:Nat) t v,Tryz.f3.params[j]?=some t→args[j]?=some v→Value.okWide Tryz.prog W .any base t v:=hval0;have hW':=hW;obtain ⟨p,q,hA0,hV,rfl,hfz,hnd⟩:=hW;have hA:DataW.TrodAll enc Tryz.prog W 0 (fun _=>true) true Tryz.f3.params.toList args.toList ds p:=hA0;rw [Tryz.params3] at hA hval;have hG:=tab_of_laid3 hL;obtain ⟨v0,d0,rfl,rfl,h0⟩:=trodAll_one hA;obtain ⟨rfl,rfl⟩:=trodVars_none hV;have h0k:=h0;obtain ⟨D,num,ks,A,c,rfl,hr,hfit,hD⟩:=qdi (hval 0 24 v0 rfl rfl) h0;clear hA0 hval0;simp only [List.append_nil] at hW';have hc:=jwkWrites_any D num ks A c W hr (by unfold maxLen at hD; omega) (by have:=hfit.1; unfold maxLen at this; omega) (fun k hk=>by have:=hfit.2 k hk; unfold maxLen at this; omega) hG;refine (show Calls _ _ #[.agg #[.string (bs D),.int .i64 num,.slice A ks.length c]] W _ from hc).mono fun e W' ⟨he,hb⟩=>?_;subst he;have hlt:∀ x ∈ p,x.block<W.heap.size:=fun x hx=>hW'.lt x (by simpa using hx)
 exact ⟨_,rfl,post_of_below (pa:=p) (pv:=[]) hW' (fun _ _ _=>trodAll_mk1 (shut_bool Tryz.underlying4 _))
  (fun sp hsp=>trodAll_mk1 (stays laidOut (by kernel_rfl) (of_decide_eq_true (by kernel_rfl)) h0k hb hlt hsp))
  (fun _ _=>rfl) (by simp) hb (ok_one (by kernel_rfl) rfl (okWide_bool_mk Tryz.underlying4 _))⟩
theorem row_holds:Rows.JwkWritesSaid :=
 OpenClaim.holds_of_wide 3 Tryz.f3 rfl rfl rfl rfl rfl rfl rfl ⟨rfl,rfl,rfl,rfl,rfl⟩ rfl rfl rfl rfl rfl (by kernel_rfl) Tryz.func3 (by kernel_rfl)
  (of_decide_eq_true (by kernel_rfl)) (by unfold Func.isWrapper; first | (rw [if_pos (by decide +kernel)]; kernel_rfl) | (rw [if_neg (by decide +kernel)]; exact ⟨rfl,rfl⟩))
  (fun os started H enc _=>lifted os started H enc)
theorem holds:Rows.JwkWritesCardSaid :=
 Claim7.holds_tied_plain_at .later [] [.data,.data,.pinned] true (true, "babb35e591ff3c4d261a651cc7c18cc5d12451f712e2205b77aee1d6ceea5473") false
  row_holds (fun _ h=>by cases h) (by kernel_rfl) (fun _ h=>by cases h) jwkWrites_row_tie rfl ⟨rfl,rfl⟩ (by kernel_rfl) rfl
  (fun f fn hf hfn=>by
   obtain rfl:f=3:=Option.some.inj ((show Tryz.prog.funcNamed "brevet/brevetlaw11.JwkWrites" = some 3 by kernel_rfl).symm.trans hf) |>.symm;obtain rfl:fn=Tryz.f3:=(Option.some.inj (Tryz.func3.symm.trans hfn)).symm
   exact ⟨by kernel_rfl,fun j t ht=>by
    rw [Tryz.params3] at ht;have hm:t ∈ [24]:=by simpa using Array.mem_of_getElem? ht
    have hall:([24].all fun u=>!Tryz.prog.wantsStandIn u)=true:=by kernel_rfl
    exact (show Tryz.prog.wantsStandIn t=false by simpa using List.all_eq_true.1 hall t hm)⟩)
  (by kernel_rfl)
#print axioms holds
end Go.Proofs.YtlkikjeccamheaaGreatDoor.jwkWrites
