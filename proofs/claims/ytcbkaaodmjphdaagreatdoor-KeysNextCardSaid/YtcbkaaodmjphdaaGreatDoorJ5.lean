/-
  Joined texts: Blk64 HSum64 HSumZ Of64 TopZ Sec Rr Ro Fc Rqp Rfa Ft Rmu Rrd Rpu Kin Key Mak Ofk Fst Nxt Clc Clk.
-/
import Derived.RangeFuncNested
import Derived.RangeFuncBound
import Derived.RangeFuncCalls
import Derived.RangeFuncLeaves
import Derived.Shelf.Abstract
import Derived.Shelf.RegionOpen
import Derived.OwnWalkIn
import Derived.TacticsInMore
import Derived.LoopNIn
import Derived.LoopIn
import Derived.Test.YtcbkaaodmjphdaaGreatDoorProg
import Derived.RangeFuncBox
import Derived.Deep.QuietTactic
import Derived.Deep.DeepCutAuto
import Derived.Test.YtcbkaaodmjphdaaGreatDoorJ2
import Derived.Test.YtcbkaaodmjphdaaGreatDoorJ1
import Derived.Test.YtcbkaaodmjphdaaGreatDoorJ3
import Derived.Test.YtcbkaaodmjphdaaGreatDoorJ4
namespace Go.Proofs.YtcbkaaodmjphdaaGreatDoor.Sh
set_option linter.unusedSimpArgs false
set_option linter.unusedVariables false
set_option maxRecDepth 100000
set_option maxHeartbeats 4000000
open Go.RowKit
theorem block64_any (p:HP) (S:S8) (blk:List UInt8) (bA sA:Option Addr) (bc sc B:Nat) (w:World) (hok:HOk F64 p w B) (hB:B≤w.heap.size) (hrb:Rd w B bA (bytesV blk)) (hrs:Rd w B sA (wordsV .u64 (s8L S)))
  (hbl:blk.length=128) (hbc:blk.length≤bc) (hsc:8≤sc) (hS:S.Lt (2^64)) :
  Calls Tryz.prog 79 #[.agg (hv F64 p),.slice sA 8 sc,.slice bA blk.length bc] w (BlockPost F64 S blk w):=by
 obtain ⟨W0,hW0⟩:=eX (w.alloc (.cells (hv F64 p) 108))
 have hst:BkSt w w.heap.size F64 p bA blk sA S W0:=by
  have hb:=below_new w (.cells (hv F64 p) 108);rw [hW0]; exact ⟨hb,Blk.new _ _ _,(hok.mono hB).below hb,(hrb.mono hB).below hb,(hrs.mono hB).below hb⟩
 obtain ⟨sad,rfl,hz1,hz2⟩:=hrs.at_ (k:=0) (by simp [wordsV,s8L]);obtain ⟨bad,rfl,hz3,hz4⟩:=hrb.at_ (k:=0) (by rw [qap,hbl]; decide);clear hz1 hz2 hz3 hz4;have hst0:=hst;rw [hW0] at hst0;have HST:=zY hst0;have HBL:=zY hbl;have HS:=zY hS;have hbc2:128≤bc:=by omega
 rw [hbl];obtain ⟨hh,hhh⟩:=eX (hv F64 p);obtain ⟨gf,hgf⟩:=eX (w.heap.size);have c0:=hst.h.cell 0;have c1:=hst.h.cell 1;rw [hW0,← hgf] at c0 c1;simp only [hv,hC,List.getElem?_toArray,List.getElem?_cons_zero,List.getElem?_cons_succ] at c0 c1;rw [← hgf] at hst0;clear HST;have HST:=zY hst0;have HH:=zY hhh;have HGF:=zY hgf;clear hst hst0 hbl hS hok hB hrb hrs hbc hW0 hhh hgf W0 c0 c1;go_enter Tryz.func79,Tryz.ntmps79;go_wp2;rw [show w.heap.size=gf from HGF.out.symm];have hst0:=HST.out;have hown0:OwnX (w.alloc (.cells (hv F64 p) 108)) (gf+1) 76 1 (.slice none 0 0) 0 (wordsV .u64 (rowW F64 blk 0)):=OwnX.nil _ _ _ _;clear HST
 go_loopw [7,8] (fun v i wr=>∃ (t:Nat) (A:Option Addr) (c:Nat),t≤16∧i=.int .i64 t∧v=.slice A t c∧BkSt w gf F64 p (some bad) blk (some sad) S wr∧OwnX wr (gf+1) 76 1 (.slice A t c) t (wordsV .u64 (rowW F64 blk t))) (fun _ i _=>16 - (intOf i).toNat)
 case atStart=>exact ⟨0,none,0,by omega,rfl,rfl,hst0,hown0⟩
 case round =>
  obtain ⟨t,A,c,ht,rfl,rfl,hst,hown⟩:=hrel;clear hst0 hown0;have c0:=hst.h.cell 0;simp only [hv,hC,List.getElem?_toArray,List.getElem?_cons_zero,F64] at c0
  by_cases hlt:t<16
  ·have hlt':(t:Int)<16:=by omega
   obtain ⟨tE,htE⟩:∃ tE:Nat,tE=t*8:=⟨_,rfl⟩;have hq:(t:Int)*64/8=(tE:Int):=by omega
   obtain ⟨pc,hpc⟩:=eX ((blk.drop tE).take 8);have hpl:pc.length=8:=by rw [hpc]; simp; rw [HBL.out]; omega
   have hrp:∀ u,BkSt w gf F64 p (some bad) blk (some sad) S u→∀ j z,pc[j]?=some z→u.cell? (bad.add (tE+j))=some (.int .u8 (z.toNat:Int)):=fun u hu j z hz=>by
    refine hu.rb.val ?_;rw [hpc,List.getElem?_take] at hz
    split at hz
    ·rw [List.getElem?_drop] at hz;rw [bytesV,List.getElem?_map,hz]; rfl
    ·cases hz
   have HST:=zY hst;have HOWN:=zY hown;have HPC:=zY hpc;have HPL:=zY hpl;have HRP:=zY hrp;have HTE:=zY htE;have htE2:tE≤128 - 8:=by omega
   clear hst hown hpc hpl hrp htE;go_wp2_with fail;obtain ⟨wo,rfl⟩:∃ wo:World,wo=wr:=⟨_,rfl⟩
   go_loop [9,10] (fun v i=>∃ j:Nat,j≤8∧i=.int .i64 j∧v=.int .u64 (beN (pc.take j):Nat)) (fun _ i=>8 - (intOf i).toNat)
   case atStart=>exact ⟨0,by omega,rfl,rfl⟩
   case round =>
    obtain ⟨j,hj,rfl,rfl⟩:=hrel;obtain ⟨x,hx⟩:=eX (beN (pc.take j));rw [← hx]
    by_cases hjl:j<8
    ·have hjl':(j:Int)<8:=by omega
     have hpj:j<pc.length:=by rw [HPL.out]; exact hjl
     obtain ⟨z,hz⟩:=eX (pc[j]);have hcl:=HRP.out _ HST.out j z (by rw [hz]; exact List.getElem?_eq_getElem hpj);have hzl:=z.toNat_lt
     have hxl:x<256^(8 - 1):=by
      rw [hx];have h1:=beN_lt (pc.take j);have h2:(pc.take j).length≤j:=List.length_take_le _ _;exact Nat.lt_of_lt_of_le h1 (Nat.pow_le_pow_right (by omega) (by omega))
     have hs2:beN (pc.take (j+1))=x*256+z.toNat:=by
      rw [List.take_succ_eq_append_getElem hpj,qdV,hx,hz]
     have hb1:(x:Int)*256+(z.toNat:Int)<18446744073709551616:=by omega
     have hb2:(x:Int)*256<18446744073709551616:=by omega
     obtain ⟨ix,hix⟩:=eX (tE+j);have hlx:tE+j<128:=by omega
     have HS2:=zY hs2;clear hx hz hs2 hpj hxl hix;go_wp2_with fail;exact ⟨⟨j+1,by omega,by go_num,by rw [HS2.out]; go_num⟩,by simp [intOf]; omega⟩
    ·have hge:¬ (j:Int)<8:=by omega
     obtain rfl:j=8:=by omega
     have hpc2:pieceN (F64.bits/8) blk t=x:=by rw [hx,List.take_of_length_le (by rw [HPL.out]; omega),HPC.out,HTE.out]; rfl
     have HX:=zY hpc2;clear hx hpc2;go_wp2_with (refine qao qb7 rfl rfl HOWN.out rfl rfl rfl rfl (by unfold maxLen; omega) (by omega) (by have:=HST.out.h.lt; omega) ?_; intro A2 c2 w2 hown2 hg2 hn2; have HOWN2:=zY hown2; have HG2:=zY hg2; clear hown2 hg2 hn2);refine ⟨⟨t+1,A2,c2,by omega,by go_num,rfl,HST.out.grow HOWN.out HG2.out,?_⟩,by simp [intOf]; omega⟩;rw [rowW,if_pos hlt,HX.out,qby];exact HOWN2.out
  ·obtain rfl:t=16:=by omega
   have hsw:BkW w gf F64 p (some bad) blk (some sad) S (.slice A 16 c) (rowW F64 blk 16) wr:=⟨hst,by rw [qaC]; exact hown⟩;clear hst hown;go_wp2_with fail;rw [show ((16:Nat):Int)=16 from rfl];obtain ⟨wo,rfl⟩:∃ wo:World,wo=wr:=⟨_,rfl⟩
   go_loopw [7,11] (fun v i wr=>∃ (t:Nat) (A:Option Addr) (c:Nat),16≤t∧t≤80∧i=.int .i64 t∧v=.slice A t c∧BkW w gf F64 p (some bad) blk (some sad) S (.slice A t c) (rowW F64 blk t) wr) (fun _ i _=>80 - (intOf i).toNat)
   case atStart=>exact ⟨16,A,c,by omega,by omega,rfl,rfl,hsw⟩
   case round =>
    clear hsw;clear c0;obtain ⟨t,A,c,ht16,htM,rfl,rfl,hsw⟩:=hrel;have c1:=hsw.st.h.cell 1;simp only [hv,hC,List.getElem?_toArray,List.getElem?_cons_zero,List.getElem?_cons_succ,F64] at c1
    by_cases hlt:t<80
    ·have hlt':(t:Int)<80:=by omega
     obtain ⟨g,rfl,hgb,hgl⟩:=(show OwnX wr (gf+1) 76 1 (.slice A t c) t (wordsV .u64 (rowW F64 blk t)) by have:=hsw.own; rwa [qaC] at this).ptr (by omega)
     have hct:t≤c:=by
      have ho:OwnX wr (gf+1) 76 1 (.slice (some ⟨g,0,none⟩) t c) t (wordsV .u64 (rowW F64 blk t)):=by have:=hsw.own; rwa [qaC] at this
      exact ho.le_cap
     obtain ⟨l,hl⟩:=eX (rowW F64 blk t);have hlen:l.length=t:=by rw [hl]; exact qaC _ _ _
     have hlw:∀ i,l.getD i 0<2^64:=by rw [hl]; exact qbZ (qci F64 (by decide) blk t) (by decide)
     rw [← hl] at hsw;obtain ⟨a16,h16⟩:=eX (l.getD (t - 16) 0);obtain ⟨a15,h15⟩:=eX (l.getD (t - 15) 0);obtain ⟨a7,h7⟩:=eX (l.getD (t - 7) 0);obtain ⟨a2,h2⟩:=eX (l.getD (t - 2) 0);obtain ⟨m1,hm1⟩:=eX (allF F64 a15 F64.t0 true);obtain ⟨m2,hm2⟩:=eX (allF F64 a2 F64.t1 true);obtain ⟨s1,hs1⟩:=eX ((a16+m1)%2^64);obtain ⟨s2,hs2⟩:=eX ((s1+a7)%2^64);obtain ⟨s3,hs3⟩:=eX ((s2+m2)%2^64);have W15:Hid (a15<2^64):=zY (by rw [h15]; exact hlw _);have W2:Hid (a2<2^64):=zY (by rw [h2]; exact hlw _);have hnw:nextW F64 l t=s3%2^64:=by rw [hs3,hs2,hs1,hm1,hm2,h16,h15,h7,h2]; exact next_64 _ _ _ _
     have hs3l:s3<18446744073709551616:=by rw [hs3]; exact Nat.mod_lt _ (by decide)
     have HL:=zY hl;have HLEN:=zY hlen;have H16:=zY h16;have H15:=zY h15;have H7:=zY h7;have H2:=zY h2;have HM1:=zY hm1;have HM2:=zY hm2;have HS1:=zY hs1;have HS2:=zY hs2;have HS3:=zY hs3;have HNW:=zY hnw;have HS3L:=zY hs3l;clear hl hlen hlw h16 h15 h7 h2 hm1 hm2 hs1 hs2 hs3 hnw hs3l;have hu:=Tryz.underlying108;have HC0:=hsw.drew;have HSW:=zY hsw;clear hsw;go_wp2_with fail;refine qal (fun u=>BkW w gf F64 p (some bad) blk (some sad) S (.slice (some ⟨g,0,none⟩) t c) l u) (fun u=>BkW w gf F64 p (some bad) blk (some sad) S (.slice (some ⟨g,0,none⟩) t c) l u) [(0,some 57),(1,some 58),(2,some 59),(3,some 60),(4,some 61),(5,some 62),(6,some 63),(7,some 64),(8,some 65),(9,some 66),(10,some 67),(11,some 68),(12,some 69),(13,some 70),(14,some 71),(15,some 72),(16,some 73),(17,some 74),(18,some 75),(19,some 76),(20,some 77),(21,some 78),(22,some 79),(23,some 80),(24,some 81),(25,some 82),(26,some 83),(27,some 84),(28,some 85),(29,some 86),(30,some 87),(31,some 12)] (by kernel_rfl) (by kernel_rfl) (by decide) (by kernel_rfl) (fun _=>rfl) HC0 ?_;apply yN_
     ·apply dP [];exact fun _=>rfl;rfl;rintro vals - w1 hC1 E hE;simp only [puts,qae,qaa,sIB,sCZ,sCS] at hE ⊢;go_wp2;exact .mk (hE _ hC1)
     apply yN_
     ·apply dP [];exact fun _=>rfl;rfl;rintro vals ⟨-,-⟩ w1 hC1 E hE;simp only [puts,qae,qaa,sIB,sCZ,sCS] at hE ⊢;go_wp2;exact .mk (hE _ hC1)
     apply yN_
     ·apply dP [(1,some 58)];exact fun _=>rfl;rfl;rintro vals ⟨⟨-,-⟩,f1⟩ w1 hC1 E hE;simp only [puts,qae,qaa,sIB,sCZ,sCS,f1] at hE ⊢;clear f1;go_wp2;exact .mk (hE _ hC1)
     apply yN_
     ·apply dP [(0,some 57),(2,some 59)];exact fun _=>rfl;rfl;rintro vals ⟨⟨⟨-,f0⟩,-⟩,f2⟩ w1 hC1 E hE;simp only [puts,qae,qaa,sIB,sCZ,sCS,f0,f2] at hE ⊢;clear f0 f2;go_wp2;exact .mk (hE _ hC1)
     apply yN_
     ·apply dP [(3,some 60)];exact fun _=>rfl;rfl;intro vals vq w1 hC1 E hE;have f3:=vq.2;clear vq;have d0:=hC1.at_ (i:=t - 16) HLEN.out (by omega);rw [← H16.out] at d0;simp only [puts,qae,qaa,sIB,sCZ,sCS,f3] at hE ⊢;clear f3;go_wp2;exact .mk (hE _ hC1)
     apply yN_
     ·apply dP [];exact fun _=>rfl;rfl;intro vals vq w1 hC1 E hE;clear vq;simp only [puts,qae,qaa,sIB,sCZ,sCS] at hE ⊢;refine qac hC1.st.h rfl rfl rfl hu rfl qaJ ?_;go_wp2_with fail;exact .mk (hE _ hC1)
     apply yN_
     ·apply dP [];exact fun _=>rfl;rfl;intro vals vq w1 hC1 E hE;clear vq;simp only [puts,qae,qaa,sIB,sCZ,sCS] at hE ⊢;go_wp2;exact .mk (hE _ hC1)
     apply yN_
     ·apply dP [];exact fun _=>rfl;rfl;intro vals vq w1 hC1 E hE;clear vq;simp only [puts,qae,qaa,sIB,sCZ,sCS] at hE ⊢;go_wp2;exact .mk (hE _ hC1)
     apply yN_
     ·apply dP [(7,some 64)];exact fun _=>rfl;rfl;intro vals vq w1 hC1 E hE;have f7:=vq.2;clear vq;simp only [puts,qae,qaa,sIB,sCZ,sCS,f7] at hE ⊢;clear f7;go_wp2;exact .mk (hE _ hC1)
     apply yN_
     ·apply dP [(6,some 63),(8,some 65)];exact fun _=>rfl;rfl;intro vals vq w1 hC1 E hE;have f6:=vq.1.1.2;have f8:=vq.2;clear vq;simp only [puts,qae,qaa,sIB,sCZ,sCS,f6,f8] at hE ⊢;clear f6 f8;go_wp2;exact .mk (hE _ hC1)
     apply yN_
     ·apply dP [(9,some 66)];exact fun _=>rfl;rfl;intro vals vq w1 hC1 E hE;have f9:=vq.2;clear vq;have d0:=hC1.at_ (i:=t - 15) HLEN.out (by omega);rw [← H15.out] at d0;simp only [puts,qae,qaa,sIB,sCZ,sCS,f9] at hE ⊢;clear f9;go_wp2;exact .mk (hE _ hC1)
     apply yN_
     ·apply dP [];exact fun _=>rfl;rfl;intro vals vq w1 hC1 E hE;clear vq;simp only [puts,qae,qaa,sIB,sCZ,sCS] at hE ⊢;go_wp2;exact .mk (hE _ hC1)
     apply yN_
     ·apply dP [(11,some 68)];exact fun _=>rfl;rfl;intro vals vq w1 hC1 E hE;have f11:=vq.2;clear vq;have d0:=hC1.st.h.cell 4;simp [hv,hC] at d0;simp only [puts,qae,qaa,sIB,sCZ,sCS,f11] at hE ⊢;clear f11;go_wp2;exact .mk (hE _ hC1)
     apply yN_
     ·apply dP [(5,some 62),(10,some 67),(12,some 69)];exact fun _=>rfl;rfl;intro vals vq w1 hC1 E hE;have f5:=vq.1.1.1.1.1.1.1.2;have f10:=vq.1.1.2;have f12:=vq.2;clear vq;simp only [puts,qae,qaa,sIB,sCZ,sCS,f5,f10,f12] at hE ⊢;clear f5 f10 f12;go_wp2_with fail;refine qab (qbS 64 80 _ _ _ _ _ _ _ (.inr rfl) a15 _ _ _ true W15.out (by decide) (by decide) (by decide) _ _ gf hC1.st.ok.c (by have:=hC1.st.h.lt; omega) hC1.st.ok.cc) ?_;rintro e w2 ⟨rfl,hb2⟩;rw [show allN 64 a15 _ _ _ true=m1 from HM1.out.symm];go_wp2_with fail;exact .mk (hE _ (hC1.next hb2))
     apply yN_
     ·apply dP [(4,some 61),(13,some 70)];exact fun _=>rfl;rfl;intro vals vq w1 hC1 E hE;have f4:=vq.1.1.1.1.1.1.1.1.1.2;have f13:=vq.2;clear vq;simp only [puts,qae,qaa,sIB,sCZ,sCS,f4,f13] at hE ⊢;clear f4 f13;go_wp2;rw [qaQ a16 m1,← HS1.out];exact .mk (hE _ hC1)
     apply yN_
     ·apply dP [];exact fun _=>rfl;rfl;intro vals vq w1 hC1 E hE;clear vq;simp only [puts,qae,qaa,sIB,sCZ,sCS] at hE ⊢;go_wp2;exact .mk (hE _ hC1)
     apply yN_
     ·apply dP [];exact fun _=>rfl;rfl;intro vals vq w1 hC1 E hE;clear vq;simp only [puts,qae,qaa,sIB,sCZ,sCS] at hE ⊢;go_wp2;exact .mk (hE _ hC1)
     apply yN_
     ·apply dP [(16,some 73)];exact fun _=>rfl;rfl;intro vals vq w1 hC1 E hE;have f16:=vq.2;clear vq;simp only [puts,qae,qaa,sIB,sCZ,sCS,f16] at hE ⊢;clear f16;go_wp2;exact .mk (hE _ hC1)
     apply yN_
     ·apply dP [(15,some 72),(17,some 74)];exact fun _=>rfl;rfl;intro vals vq w1 hC1 E hE;have f15:=vq.1.1.2;have f17:=vq.2;clear vq;simp only [puts,qae,qaa,sIB,sCZ,sCS,f15,f17] at hE ⊢;clear f15 f17;go_wp2;exact .mk (hE _ hC1)
     apply yN_
     ·apply dP [(18,some 75)];exact fun _=>rfl;rfl;intro vals vq w1 hC1 E hE;have f18:=vq.2;clear vq;have d0:=hC1.at_ (i:=t - 7) HLEN.out (by omega);rw [← H7.out] at d0;simp only [puts,qae,qaa,sIB,sCZ,sCS,f18] at hE ⊢;clear f18;go_wp2;exact .mk (hE _ hC1)
     apply yN_
     ·apply dP [(14,some 71),(19,some 76)];exact fun _=>rfl;rfl;intro vals vq w1 hC1 E hE;have f14:=vq.1.1.1.1.1.2;have f19:=vq.2;clear vq;simp only [puts,qae,qaa,sIB,sCZ,sCS,f14,f19] at hE ⊢;clear f14 f19;go_wp2;rw [qaQ s1 a7,← HS2.out];exact .mk (hE _ hC1)
     apply yN_
     ·apply dP [];exact fun _=>rfl;rfl;intro vals vq w1 hC1 E hE;clear vq;simp only [puts,qae,qaa,sIB,sCZ,sCS] at hE ⊢;refine qac hC1.st.h rfl rfl rfl hu rfl qaJ ?_;go_wp2_with fail;exact .mk (hE _ hC1)
     apply yN_
     ·apply dP [];exact fun _=>rfl;rfl;intro vals vq w1 hC1 E hE;clear vq;simp only [puts,qae,qaa,sIB,sCZ,sCS] at hE ⊢;go_wp2;exact .mk (hE _ hC1)
     apply yN_
     ·apply dP [];exact fun _=>rfl;rfl;intro vals vq w1 hC1 E hE;clear vq;simp only [puts,qae,qaa,sIB,sCZ,sCS] at hE ⊢;go_wp2;exact .mk (hE _ hC1)
     apply yN_
     ·apply dP [(23,some 80)];exact fun _=>rfl;rfl;intro vals vq w1 hC1 E hE;have f23:=vq.2;clear vq;simp only [puts,qae,qaa,sIB,sCZ,sCS,f23] at hE ⊢;clear f23;go_wp2;exact .mk (hE _ hC1)
     apply yN_
     ·apply dP [(22,some 79),(24,some 81)];exact fun _=>rfl;rfl;intro vals vq w1 hC1 E hE;have f22:=vq.1.1.2;have f24:=vq.2;clear vq;simp only [puts,qae,qaa,sIB,sCZ,sCS,f22,f24] at hE ⊢;clear f22 f24;go_wp2;exact .mk (hE _ hC1)
     apply yN_
     ·apply dP [(25,some 82)];exact fun _=>rfl;rfl;intro vals vq w1 hC1 E hE;have f25:=vq.2;clear vq;have d0:=hC1.at_ (i:=t - 2) HLEN.out (by omega);rw [← H2.out] at d0;simp only [puts,qae,qaa,sIB,sCZ,sCS,f25] at hE ⊢;clear f25;go_wp2;exact .mk (hE _ hC1)
     apply yN_
     ·apply dP [];exact fun _=>rfl;rfl;intro vals vq w1 hC1 E hE;clear vq;simp only [puts,qae,qaa,sIB,sCZ,sCS] at hE ⊢;go_wp2;exact .mk (hE _ hC1)
     apply yN_
     ·apply dP [(27,some 84)];exact fun _=>rfl;rfl;intro vals vq w1 hC1 E hE;have f27:=vq.2;clear vq;have d0:=hC1.st.h.cell 5;simp [hv,hC] at d0;simp only [puts,qae,qaa,sIB,sCZ,sCS,f27] at hE ⊢;clear f27;go_wp2;exact .mk (hE _ hC1)
     apply yN_
     ·apply dP [(21,some 78),(26,some 83),(28,some 85),(13,some 70)];exact fun _=>rfl;rfl;intro vals vq w1 hC1 E hE;have f13:=vq.1.1.1.1.1.1.1.1.1.1.1.1.1.1.1.2;have f21:=vq.1.1.1.1.1.1.1.2;have f26:=vq.1.1.2;have f28:=vq.2;clear vq;simp only [puts,qae,qaa,sIB,sCZ,sCS,f13,f21,f26,f28] at hE ⊢;clear f13 f21 f26 f28;go_wp2_with fail;refine qab (qbS 64 80 _ _ _ _ _ _ _ (.inr rfl) a2 _ _ _ true W2.out (by decide) (by decide) (by decide) _ _ gf hC1.st.ok.d (by have:=hC1.st.h.lt; omega) hC1.st.ok.cd) ?_;rintro e w2 ⟨rfl,hb2⟩;rw [show allN 64 a2 _ _ _ true=m2 from HM2.out.symm];go_wp2_with fail;exact .mk (hE _ (hC1.next hb2))
     apply yN_
     ·apply dP [(20,some 77),(29,some 86)];exact fun _=>rfl;rfl;intro vals vq w1 hC1 E hE;have f20:=vq.1.1.1.1.1.1.1.1.1.2;have f29:=vq.2;clear vq;simp only [puts,qae,qaa,sIB,sCZ,sCS,f20,f29] at hE ⊢;clear f20 f29;go_wp2;rw [qaQ s2 m2,← HS3.out];exact .mk (hE _ hC1)
     apply yL_
     ·apply dP [(30,some 87),(29,some 86),(0,some 57),(1,some 58),(2,some 59),(3,some 60),(4,some 61),(5,some 62),(6,some 63),(7,some 64),(8,some 65),(9,some 66),(10,some 67),(11,some 68),(12,some 69),(13,some 70),(14,some 71),(15,some 72),(16,some 73),(17,some 74),(18,some 75),(19,some 76),(20,some 77),(21,some 78),(22,some 79),(23,some 80),(24,some 81),(25,some 82),(26,some 83),(27,some 84),(28,some 85),(29,some 86),(30,some 87)];exact fun _=>rfl;rfl;rintro vals ⟨⟨⟨⟨⟨⟨⟨⟨⟨⟨⟨⟨⟨⟨⟨⟨⟨⟨⟨⟨⟨⟨⟨⟨⟨⟨⟨⟨⟨⟨⟨-,f0⟩,f1⟩,f2⟩,f3⟩,f4⟩,f5⟩,f6⟩,f7⟩,f8⟩,f9⟩,f10⟩,f11⟩,f12⟩,f13⟩,f14⟩,f15⟩,f16⟩,f17⟩,f18⟩,f19⟩,f20⟩,f21⟩,f22⟩,f23⟩,f24⟩,f25⟩,f26⟩,f27⟩,f28⟩,f29⟩,f30⟩ w1 hC1 E hE;simp only [puts,qae,qaa,sIB,sCZ,sCS,f0,f1,f2,f3,f4,f5,f6,f7,f8,f9,f10,f11,f12,f13,f14,f15,f16,f17,f18,f19,f20,f21,f22,f23,f24,f25,f26,f27,f28,f29,f30] at hE ⊢;clear f0 f1 f2 f3 f4 f5 f6 f7 f8 f9 f10 f11 f12 f13 f14 f15 f16 f17 f18 f19 f20 f21 f22 f23 f24 f25 f26 f27 f28 f29 f30;go_wp2;exact .mk (hE _ hC1)
     rintro vals ⟨⟨⟨⟨⟨⟨⟨⟨⟨⟨⟨⟨⟨⟨⟨⟨⟨⟨⟨⟨⟨⟨⟨⟨⟨⟨⟨⟨⟨⟨⟨⟨-,f0⟩,f1⟩,f2⟩,f3⟩,f4⟩,f5⟩,f6⟩,f7⟩,f8⟩,f9⟩,f10⟩,f11⟩,f12⟩,f13⟩,f14⟩,f15⟩,f16⟩,f17⟩,f18⟩,f19⟩,f20⟩,f21⟩,f22⟩,f23⟩,f24⟩,f25⟩,f26⟩,f27⟩,f28⟩,f29⟩,f30⟩,f31⟩ w1 hC1;simp only [puts,qae,qaa,sIB,sCZ,sCS,f0,f1,f2,f3,f4,f5,f6,f7,f8,f9,f10,f11,f12,f13,f14,f15,f16,f17,f18,f19,f20,f21,f22,f23,f24,f25,f26,f27,f28,f29,f30,f31];clear f0 f1 f2 f3 f4 f5 f6 f7 f8 f9 f10 f11 f12 f13 f14 f15 f16 f17 f18 f19 f20 f21 f22 f23 f24 f25 f26 f27 f28 f29 f30 f31;clear HC0;have HC1:=zY hC1;clear hC1 HSW;go_wp2_with (refine qac (x:=.tmp 3) HC1.out.st.h rfl rfl rfl hu rfl qaJ ?_);obtain ⟨nv,hnv⟩:=eX (s3%2^64);refine qab (qbJ 64 80 _ _ _ _ _ _ _ (.inr rfl) s3 HS3L.out) ?_;rintro e w2 ⟨rfl,hb2⟩;rw [← hnv];have hw2:=HC1.out.next hb2;have HO2:Hid (OwnX w2 (gf+1) 76 1 (.slice (some ⟨g,0,none⟩) t c) t (wordsV .u64 l)):=zY (by have:=hw2.own; rwa [HLEN.out] at this);have HW2:=zY hw2;have HNV:=zY hnv;clear hw2 hb2 hnv HC1;go_wp2_with (refine qao qb7 rfl rfl HO2.out rfl rfl rfl rfl (by unfold maxLen; omega) (by omega) (by have:=HW2.out.st.h.lt; omega) ?_; intro A3 c3 w3 hown3 hg3 hn3; have HOWN3:=zY hown3; have HG3:=zY hg3; clear hown3 hg3 hn3);refine ⟨⟨t+1,A3,c3,by omega,by omega,by go_num,rfl,?_⟩,by simp [intOf]; omega⟩;have h:=HW2.out.app (v':=.slice A3 (t+1) c3) (x:=nv) (by rw [HLEN.out]; exact HOWN3.out) HG3.out;rw [rowW,if_neg (show ¬ t<16 by omega),← HL.out,HNW.out,← HNV.out];exact h
    ·obtain rfl:t=80:=by omega
     obtain ⟨g,rfl,hgb,hgl⟩:=(show OwnX wr (gf+1) 76 1 (.slice A 80 c) 80 (wordsV .u64 (rowW F64 blk 80)) by have:=hsw.own; rwa [qaC] at this).ptr (by omega)
     have hct:80≤c:=by
      have ho:OwnX wr (gf+1) 76 1 (.slice (some ⟨g,0,none⟩) 80 c) 80 (wordsV .u64 (rowW F64 blk 80)):=by have:=hsw.own; rwa [qaC] at this
      exact ho.le_cap
     obtain ⟨RW,hRW⟩:=eX (rowW F64 blk 80);have hlen:RW.length=80:=by rw [hRW]; exact qaC _ _ _
     have hlw:∀ i,RW.getD i 0<2^64:=by rw [hRW]; exact qbZ (qci F64 (by decide) blk 80) (by decide)
     rw [← hRW] at hsw;have hwx:(wordsV .u64 (s8L S)).length=8:=rfl;have HSW:=zY hsw;have HLEN:=zY hlen;have HRW:=zY hRW;have HLW:=zY hlw;clear hsw hlen hRW hlw;go_wp2_with (refine qaz (base:=gf+1) (n:=0) (v:=.slice none 0 0) (xs:=[]) (news:=wordsV .u64 (s8L S)) qb7 rfl rfl (OwnX.nil _ _ _ _) rfl rfl rfl HSW.out.st.rs (by intro u hu; simp [wordsV] at hu; obtain ⟨_,_,rfl⟩:=hu; rfl) (by unfold maxLen; omega) (by omega) (by have:=HSW.out.st.h.lt; omega) ?_; intro A4 c4 w4 hown4 hg4 hn4; have HOWN4:=zY hown4; have HG4:=zY hg4; clear hown4 hg4 hn4);obtain ⟨g2,rfl,hgb2,hgl2⟩:=(show OwnX w4 (gf+1) 76 1 (.slice A4 8 c4) 8 (wordsV .u64 (s8L S)) by simpa using HOWN4.out).ptr (by omega)
     have hsr:BkR w gf F64 p (some bad) blk (some sad) S (.slice (some ⟨g,0,none⟩) 80 c) RW g2 c4 (mixTo F64 RW S 0) w4:=by
      have hnx:=HSW.out.own;have hg5:=HG4.out;refine ⟨⟨HSW.out.st.keep (qbc hg5 (by have:=HSW.out.st.h.lt; omega) (by intro k hk; simp [Value.ownBlock] at hk)),hnx.kept hg5 (.inr (by simp [Value.ownBlock]))⟩,?_⟩;show OwnX w4 (gf+1) 76 1 (.slice (some ⟨g2,0,none⟩) 8 c4) 8 (wordsV .u64 (s8L S))
      simpa using HOWN4.out
     have HSR:=zY hsr;clear hsr HOWN4 HG4 HSW c1 hgb hgl hgb2 hgl2;obtain ⟨wo2,rfl⟩:∃ wo2:World,wo2=w4:=⟨_,rfl⟩;go_wp2_with fail
     go_loopw [13,14] (fun v i wr=>∃ t g2 c2:Nat,t≤80∧i=.int .i64 t∧v=.slice (some ⟨g2,0,none⟩) 8 c2∧BkR w gf F64 p (some bad) blk (some sad) S (.slice (some ⟨g,0,none⟩) 80 c) RW g2 c2 (mixTo F64 RW S t) wr) (fun _ i _=>80 - (intOf i).toNat)
     case atStart=>exact ⟨0,g2,c4,by omega,rfl,rfl,HSR.out⟩
     case round =>
      obtain ⟨t,g2,c2,ht,rfl,rfl,hsr⟩:=hrel;have c1:=hsr.w.st.h.cell 1;simp only [hv,hC,List.getElem?_toArray,List.getElem?_cons_zero,List.getElem?_cons_succ,F64] at c1;have hc8:=hsr.le
      by_cases hlt:t<80
      ·have hlt':(t:Int)<80:=by omega
       obtain ⟨vv,hvv⟩:=eX (mixTo F64 RW S t);have hvl:vv.Lt (2^64):=by rw [hvv]; exact qc9 HS.out t
       rw [← hvv] at hsr;have HVV:=zY hvv;obtain ⟨va,vb,vc,vd,ve,vf,vg,vh⟩:=vv;have HL8:=zY hvl;obtain ⟨wk,hwk⟩:=eX (RW.getD t 0);obtain ⟨kk,hkk⟩:=eX (kN F64 t);obtain ⟨big,hbig⟩:∃ x:Nat,x=18446744073709551615:=⟨_,rfl⟩;obtain ⟨on,hon⟩:=eX (big%2^64);obtain ⟨XA,hXA⟩:=eX (allF F64 ve F64.s1 false);obtain ⟨p1,hp1⟩:=eX ((vh+XA)%2^64);obtain ⟨af,haf⟩:=eX (ve &&& vf);obtain ⟨ne,hne⟩:=eX (on ^^^ ve);obtain ⟨ng,hng⟩:=eX (ne &&& vg);obtain ⟨ch,hch⟩:=eX (af ^^^ ng);obtain ⟨p2,hp2⟩:=eX ((p1+ch)%2^64);obtain ⟨p3,hp3⟩:=eX ((p2+kk)%2^64);obtain ⟨p4,hp4⟩:=eX ((p3+wk)%2^64);obtain ⟨xx,hxx⟩:=eX (p4%2^64);obtain ⟨YA,hYA⟩:=eX (allF F64 va F64.s0 false);obtain ⟨ab,hab⟩:=eX (va &&& vb);obtain ⟨ac,hac⟩:=eX (va &&& vc);obtain ⟨bc2,hbc2'⟩:∃ x,x=vb &&& vc:=⟨_,rfl⟩;obtain ⟨x1,hx1⟩:=eX (ab ^^^ ac);obtain ⟨mj,hmj⟩:=eX (x1 ^^^ bc2);obtain ⟨q1,hq1⟩:=eX ((YA+mj)%2^64);obtain ⟨yy,hyy⟩:=eX (q1%2^64);obtain ⟨z1,hz1⟩:=eX ((xx+yy)%2^64);obtain ⟨za,hza⟩:=eX (z1%2^64);obtain ⟨z2,hz2⟩:=eX ((vd+xx)%2^64);obtain ⟨ze,hze⟩:=eX (z2%2^64);have lon:on<2^64:=by rw [hon,hbig]; decide
       have l64:∀ z,z<2^64→z<2^64:=fun z hz=>Nat.lt_of_lt_of_le hz (by decide);have laf:af<2^64:=by rw [haf]; exact qbF (l64 _ hvl.e)
       have lne:ne<2^64:=by rw [hne]; exact Nat.xor_lt_two_pow lon (l64 _ hvl.e)
       have lng:ng<2^64:=by rw [hng]; exact qbF lne
       have lab:ab<2^64:=by rw [hab]; exact qbF (l64 _ hvl.a)
       have lac:ac<2^64:=by rw [hac]; exact qbF (l64 _ hvl.a)
       have lbc:bc2<2^64:=by rw [hbc2']; exact qbF (l64 _ hvl.b)
       have lx1:x1<2^64:=by rw [hx1]; exact Nat.xor_lt_two_pow lab lac
       have hmx:mixX F64 ⟨va,vb,vc,vd,ve,vf,vg,vh⟩ kk wk=xx:=by
        rw [hxx,hp4,hp3,hp2,hp1,hch,hng,hne,hon,hbig,haf,hXA];rw [show 18446744073709551615%2^64=2^64 - 1 by decide,ones_xor 64 ve hvl.e];exact mixX_r64 _ _ _ _ _
       have hmy:mixY F64 ⟨va,vb,vc,vd,ve,vf,vg,vh⟩=yy:=by
        rw [hyy,hq1,hmj,hx1,hab,hac,hbc2',hYA];exact mod_r64 _ _
       have hstp:stepS F64 ⟨va,vb,vc,vd,ve,vf,vg,vh⟩ kk wk=⟨za,va,vb,vc,ze,ve,vf,vg⟩:=by
        have e1:(xx+yy)%2^64=za:=by rw [hza,hz1]; exact mod_r64 _ _
        have e2:(vd+xx)%2^64=ze:=by rw [hze,hz2]; exact mod_r64 _ _
        rw [stepS,hmx,hmy];show S8.mk ((xx+yy)%2^64) va vb vc ((vd+xx)%2^64) ve vf vg=_;rw [e1,e2]
       have hm1:mixTo F64 RW S (t+1)=⟨za,va,vb,vc,ze,ve,vf,vg⟩:=by rw [mixTo,← HVV.out,← hkk,← hwk]; exact hstp
       have HM1:=zY hm1;have LP4:Hid (p4<18446744073709551616):=zY (by rw [hp4]; exact Nat.mod_lt _ (by decide));have LQ1:Hid (q1<18446744073709551616):=zY (by rw [hq1]; exact Nat.mod_lt _ (by decide));have LZ1:Hid (z1<18446744073709551616):=zY (by rw [hz1]; exact Nat.mod_lt _ (by decide));have LZ2:Hid (z2<18446744073709551616):=zY (by rw [hz2]; exact Nat.mod_lt _ (by decide));have LON:=zY lon;have L64:=zY l64;have LAF:=zY laf;have LNE:=zY lne;have LNG:=zY lng;have LAB:=zY lab;have LAC:=zY lac;have LBC:=zY lbc;have LX1:=zY lx1;have HWK:=zY hwk;have HKK:=zY hkk;have HON:=zY hon;have HBIG:=zY hbig;have HXA:=zY hXA;have HP1:=zY hp1;have HAF:=zY haf;have HNE:=zY hne;have HNG:=zY hng;have HCH:=zY hch;have HP2:=zY hp2;have HP3:=zY hp3;have HP4:=zY hp4;have HXX:=zY hxx;have HYA:=zY hYA;have HAB:=zY hab;have HAC:=zY hac;have HBC:=zY hbc2';have HX1:=zY hx1;have HMJ:=zY hmj;have HQ1:=zY hq1;have HYY:=zY hyy;have HZ1:=zY hz1;have HZA:=zY hza;have HZ2:=zY hz2;have HZE:=zY hze;have hu:=Tryz.underlying108;have d4:=hsr.r.atN (i:=4) (v:=.int .u64 (ve:Int)) rfl;have d0:=hsr.r.atN (i:=0) (v:=.int .u64 (va:Int)) rfl;have HSR2:=zY hsr;clear hvv hvl hwk hkk hon hbig hXA hp1 haf hne hng hch hp2 hp3 hp4 hxx hYA hab hac hbc2' hx1 hmj hq1 hyy hz1 hza hz2 hze lon l64 laf lne lng lab lac lbc lx1 hmx hmy hstp hm1 hsr HSR;go_wp2_with (refine qac (x:=.tmp 3) HSR2.out.w.st.h rfl rfl rfl hu rfl qaJ ?_);have hlo:=qbJ 64 80 (.slice (some p.a) 3 p.ca) (.slice (some p.b) 3 p.cb) (.slice (some p.c) 3 p.cc) (.slice (some p.d) 3 p.cd) (.slice (some p.k) 80 p.ck) (.slice (some p.f) 8 p.cf) wr (.inr rfl) big (by rw [HBIG.out]; decide);rw [← HON.out,show (big:Int)=18446744073709551615 by rw [HBIG.out]; rfl] at hlo;refine qab hlo ?_;rintro e w2 ⟨rfl,hb2⟩;have hsr2:=HSR2.out.next hb2;clear hlo hb2 HSR2 d4 d0;go_wp2_with fail;have HC0:=hsr2.drew;clear hsr2;refine qal (fun u=>BkR w gf F64 p (some bad) blk (some sad) S (.slice (some ⟨g,0,none⟩) 80 c) RW g2 c2 ⟨va,vb,vc,vd,ve,vf,vg,vh⟩ u) (fun u=>BkR w gf F64 p (some bad) blk (some sad) S (.slice (some ⟨g,0,none⟩) 80 c) RW g2 c2 ⟨va,vb,vc,vd,ve,vf,vg,vh⟩ u) [(0,some 111),(1,some 112),(2,some 113),(3,some 114),(4,some 115),(5,some 116),(6,some 117),(7,some 118),(8,some 119),(9,some 120),(10,some 121),(11,some 122),(12,some 123),(13,some 124),(14,some 125),(15,some 126),(16,some 127),(17,some 128),(18,some 129),(19,some 130),(20,some 131),(21,some 132),(22,some 133),(23,some 134),(24,some 135),(25,some 136),(26,some 137),(27,some 138),(28,some 139),(29,some 140),(30,some 141),(31,some 142),(32,some 143),(33,some 144),(34,some 145),(35,some 146),(36,some 18)] (by kernel_rfl) (by kernel_rfl) (by decide) (by kernel_rfl) (fun _=>rfl) HC0 ?_;apply yN_
       ·apply dP [];exact fun _=>rfl;rfl;rintro vals - w1 hC1 E hE;simp only [puts,qae,qaa,sIB,sCZ,sCS] at hE ⊢;refine qac hC1.w.st.h rfl rfl rfl hu rfl qaJ ?_;go_wp2_with fail;exact .mk (hE _ hC1)
       apply yN_
       ·apply dP [];exact fun _=>rfl;rfl;rintro vals ⟨-,-⟩ w1 hC1 E hE;simp only [puts,qae,qaa,sIB,sCZ,sCS] at hE ⊢;go_wp2;exact .mk (hE _ hC1)
       apply yN_
       ·apply dP [(1,some 112)];exact fun _=>rfl;rfl;rintro vals ⟨⟨-,-⟩,f1⟩ w1 hC1 E hE;simp only [puts,qae,qaa,sIB,sCZ,sCS,f1] at hE ⊢;clear f1;go_wp2;exact .mk (hE _ hC1)
       apply yN_
       ·apply dP [(2,some 113)];exact fun _=>rfl;rfl;intro vals vq w1 hC1 E hE;have f2:=vq.2;clear vq;have d0:=hC1.r.atN (i:=7) (v:=.int .u64 (vh:Int)) rfl;simp only [puts,qae,qaa,sIB,sCZ,sCS,f2] at hE ⊢;clear f2;go_wp2;exact .mk (hE _ hC1)
       apply yN_
       ·apply dP [];exact fun _=>rfl;rfl;intro vals vq w1 hC1 E hE;clear vq;simp only [puts,qae,qaa,sIB,sCZ,sCS] at hE ⊢;refine qac hC1.w.st.h rfl rfl rfl hu rfl qaJ ?_;go_wp2_with fail;exact .mk (hE _ hC1)
       apply yN_
       ·apply dP [];exact fun _=>rfl;rfl;intro vals vq w1 hC1 E hE;clear vq;simp only [puts,qae,qaa,sIB,sCZ,sCS] at hE ⊢;go_wp2;exact .mk (hE _ hC1)
       apply yN_
       ·apply dP [];exact fun _=>rfl;rfl;intro vals vq w1 hC1 E hE;clear vq;simp only [puts,qae,qaa,sIB,sCZ,sCS] at hE ⊢;go_wp2;exact .mk (hE _ hC1)
       apply yN_
       ·apply dP [(6,some 117)];exact fun _=>rfl;rfl;intro vals vq w1 hC1 E hE;have f6:=vq.2;clear vq;have d0:=hC1.w.st.h.cell 3;simp [hv,hC] at d0;simp only [puts,qae,qaa,sIB,sCZ,sCS,f6] at hE ⊢;clear f6;go_wp2;exact .mk (hE _ hC1)
       apply yN_
       ·apply dP [(4,some 115),(5,some 116),(7,some 118)];exact fun _=>rfl;rfl;intro vals vq w1 hC1 E hE;have f4:=vq.1.1.1.2;have f5:=vq.1.1.2;have f7:=vq.2;clear vq;simp only [puts,qae,qaa,sIB,sCZ,sCS,f4,f5,f7] at hE ⊢;clear f4 f5 f7;go_wp2_with fail;refine qab (qbS 64 80 _ _ _ _ _ _ _ (.inr rfl) ve _ _ _ false HL8.out.e (by decide) (by decide) (by decide) _ _ gf hC1.w.st.ok.b (by have:=hC1.w.st.h.lt; omega) hC1.w.st.ok.cb) ?_;rintro e w2 ⟨rfl,hb2⟩;rw [show allN 64 ve _ _ _ false=XA from HXA.out.symm];go_wp2_with fail;exact .mk (hE _ (hC1.next hb2))
       apply yN_
       ·apply dP [(3,some 114),(8,some 119)];exact fun _=>rfl;rfl;intro vals vq w1 hC1 E hE;have f3:=vq.1.1.1.1.1.2;have f8:=vq.2;clear vq;simp only [puts,qae,qaa,sIB,sCZ,sCS,f3,f8] at hE ⊢;clear f3 f8;go_wp2;rw [qaQ vh XA,← HP1.out];exact .mk (hE _ hC1)
       apply yN_
       ·apply dP [];exact fun _=>rfl;rfl;intro vals vq w1 hC1 E hE;clear vq;simp only [puts,qae,qaa,sIB,sCZ,sCS] at hE ⊢;go_wp2;exact .mk (hE _ hC1)
       apply yN_
       ·apply dP [];exact fun _=>rfl;rfl;intro vals vq w1 hC1 E hE;clear vq;simp only [puts,qae,qaa,sIB,sCZ,sCS] at hE ⊢;go_wp2;exact .mk (hE _ hC1)
       apply yN_
       ·apply dP [(11,some 122)];exact fun _=>rfl;rfl;intro vals vq w1 hC1 E hE;have f11:=vq.2;clear vq;simp only [puts,qae,qaa,sIB,sCZ,sCS,f11] at hE ⊢;clear f11;go_wp2;exact .mk (hE _ hC1)
       apply yN_
       ·apply dP [(12,some 123)];exact fun _=>rfl;rfl;intro vals vq w1 hC1 E hE;have f12:=vq.2;clear vq;have d0:=hC1.r.atN (i:=5) (v:=.int .u64 (vf:Int)) rfl;simp only [puts,qae,qaa,sIB,sCZ,sCS,f12] at hE ⊢;clear f12;go_wp2;exact .mk (hE _ hC1)
       apply yN_
       ·apply dP [(10,some 121),(13,some 124)];exact fun _=>rfl;rfl;intro vals vq w1 hC1 E hE;have f10:=vq.1.1.1.2;have f13:=vq.2;clear vq;simp only [puts,qae,qaa,sIB,sCZ,sCS,f10,f13] at hE ⊢;clear f10 f13;go_wp2;rw [and64 ve vf (L64.out _ HL8.out.e) (L64.out _ HL8.out.f),← HAF.out];exact .mk (hE _ hC1)
       apply yN_
       ·apply dP [];exact fun _=>rfl;rfl;intro vals vq w1 hC1 E hE;clear vq;simp only [puts,qae,qaa,sIB,sCZ,sCS] at hE ⊢;go_wp2;exact .mk (hE _ hC1)
       apply yN_
       ·apply dP [];exact fun _=>rfl;rfl;intro vals vq w1 hC1 E hE;clear vq;simp only [puts,qae,qaa,sIB,sCZ,sCS] at hE ⊢;go_wp2;exact .mk (hE _ hC1)
       apply yN_
       ·apply dP [(15,some 126),(16,some 127)];exact fun _=>rfl;rfl;intro vals vq w1 hC1 E hE;have f15:=vq.1.2;have f16:=vq.2;clear vq;simp only [puts,qae,qaa,sIB,sCZ,sCS,f15,f16] at hE ⊢;clear f15 f16;go_wp2;rw [xor64 on ve LON.out (L64.out _ HL8.out.e),← HNE.out];exact .mk (hE _ hC1)
       apply yN_
       ·apply dP [];exact fun _=>rfl;rfl;intro vals vq w1 hC1 E hE;clear vq;simp only [puts,qae,qaa,sIB,sCZ,sCS] at hE ⊢;go_wp2;exact .mk (hE _ hC1)
       apply yN_
       ·apply dP [(18,some 129)];exact fun _=>rfl;rfl;intro vals vq w1 hC1 E hE;have f18:=vq.2;clear vq;simp only [puts,qae,qaa,sIB,sCZ,sCS,f18] at hE ⊢;clear f18;go_wp2;exact .mk (hE _ hC1)
       apply yN_
       ·apply dP [(19,some 130)];exact fun _=>rfl;rfl;intro vals vq w1 hC1 E hE;have f19:=vq.2;clear vq;have d0:=hC1.r.atN (i:=6) (v:=.int .u64 (vg:Int)) rfl;simp only [puts,qae,qaa,sIB,sCZ,sCS,f19] at hE ⊢;clear f19;go_wp2;exact .mk (hE _ hC1)
       apply yN_
       ·apply dP [(17,some 128),(20,some 131)];exact fun _=>rfl;rfl;intro vals vq w1 hC1 E hE;have f17:=vq.1.1.1.2;have f20:=vq.2;clear vq;simp only [puts,qae,qaa,sIB,sCZ,sCS,f17,f20] at hE ⊢;clear f17 f20;go_wp2;rw [and64 ne vg LNE.out (L64.out _ HL8.out.g),← HNG.out];exact .mk (hE _ hC1)
       apply yN_
       ·apply dP [(14,some 125),(21,some 132)];exact fun _=>rfl;rfl;intro vals vq w1 hC1 E hE;have f14:=vq.1.1.1.1.1.1.1.2;have f21:=vq.2;clear vq;simp only [puts,qae,qaa,sIB,sCZ,sCS,f14,f21] at hE ⊢;clear f14 f21;go_wp2;rw [xor64 af ng LAF.out LNG.out,← HCH.out];exact .mk (hE _ hC1)
       apply yN_
       ·apply dP [(9,some 120),(22,some 133)];exact fun _=>rfl;rfl;intro vals vq w1 hC1 E hE;have f9:=vq.1.1.1.1.1.1.1.1.1.1.1.1.1.2;have f22:=vq.2;clear vq;simp only [puts,qae,qaa,sIB,sCZ,sCS,f9,f22] at hE ⊢;clear f9 f22;go_wp2;rw [qaQ p1 ch,← HP2.out];exact .mk (hE _ hC1)
       apply yN_
       ·apply dP [];exact fun _=>rfl;rfl;intro vals vq w1 hC1 E hE;clear vq;simp only [puts,qae,qaa,sIB,sCZ,sCS] at hE ⊢;go_wp2;exact .mk (hE _ hC1)
       apply yN_
       ·apply dP [(24,some 135)];exact fun _=>rfl;rfl;intro vals vq w1 hC1 E hE;have f24:=vq.2;clear vq;have d0:=hC1.w.st.h.cell 6;simp [hv,hC] at d0;simp only [puts,qae,qaa,sIB,sCZ,sCS,f24] at hE ⊢;clear f24;go_wp2;exact .mk (hE _ hC1)
       apply yN_
       ·apply dP [];exact fun _=>rfl;rfl;intro vals vq w1 hC1 E hE;clear vq;simp only [puts,qae,qaa,sIB,sCZ,sCS] at hE ⊢;go_wp2;exact .mk (hE _ hC1)
       apply yN_
       ·apply dP [(25,some 136),(26,some 137)];exact fun _=>rfl;rfl;intro vals vq w1 hC1 E hE;have f25:=vq.1.2;have f26:=vq.2;clear vq;have hck:=hC1.w.st.ok.ck;dsimp only [F64] at hck;simp only [puts,qae,qaa,sIB,sCZ,sCS,f25,f26] at hE ⊢;clear f25 f26;go_wp2;exact .mk (hE _ hC1)
       apply yN_
       ·apply dP [(27,some 138)];exact fun _=>rfl;rfl;intro vals vq w1 hC1 E hE;have f27:=vq.2;clear vq;have d0:=hC1.w.st.ok.k.val (k:=t) (v:=.int .u64 (kk:Int)) (by rw [HKK.out,wordsV,List.getElem?_map,kL_get _ _ hlt]; rfl);simp only [puts,qae,qaa,sIB,sCZ,sCS,f27] at hE ⊢;clear f27;go_wp2;exact .mk (hE _ hC1)
       apply yN_
       ·apply dP [(23,some 134),(28,some 139)];exact fun _=>rfl;rfl;intro vals vq w1 hC1 E hE;have f23:=vq.1.1.1.1.1.2;have f28:=vq.2;clear vq;simp only [puts,qae,qaa,sIB,sCZ,sCS,f23,f28] at hE ⊢;clear f23 f28;go_wp2;rw [qaQ p2 kk,← HP3.out];exact .mk (hE _ hC1)
       apply yN_
       ·apply dP [];exact fun _=>rfl;rfl;intro vals vq w1 hC1 E hE;clear vq;simp only [puts,qae,qaa,sIB,sCZ,sCS] at hE ⊢;go_wp2;exact .mk (hE _ hC1)
       apply yN_
       ·apply dP [];exact fun _=>rfl;rfl;intro vals vq w1 hC1 E hE;clear vq;simp only [puts,qae,qaa,sIB,sCZ,sCS] at hE ⊢;go_wp2;exact .mk (hE _ hC1)
       apply yN_
       ·apply dP [(30,some 141),(31,some 142)];exact fun _=>rfl;rfl;intro vals vq w1 hC1 E hE;have f30:=vq.1.2;have f31:=vq.2;clear vq;simp only [puts,qae,qaa,sIB,sCZ,sCS,f30,f31] at hE ⊢;clear f30 f31;go_wp2;exact .mk (hE _ hC1)
       apply yN_
       ·apply dP [(32,some 143)];exact fun _=>rfl;rfl;intro vals vq w1 hC1 E hE;have f32:=vq.2;clear vq;have d0:=hC1.w.at_ (i:=t) HLEN.out hlt;rw [← HWK.out] at d0;simp only [puts,qae,qaa,sIB,sCZ,sCS,f32] at hE ⊢;clear f32;go_wp2;exact .mk (hE _ hC1)
       apply yN_
       ·apply dP [(29,some 140),(33,some 144)];exact fun _=>rfl;rfl;intro vals vq w1 hC1 E hE;have f29:=vq.1.1.1.1.2;have f33:=vq.2;clear vq;simp only [puts,qae,qaa,sIB,sCZ,sCS,f29,f33] at hE ⊢;clear f29 f33;go_wp2;rw [qaQ p3 wk,← HP4.out];exact .mk (hE _ hC1)
       apply yN_
       ·apply dP [(0,some 111),(34,some 145),(8,some 119)];exact fun _=>rfl;rfl;intro vals vq w1 hC1 E hE;have f0:=vq.1.1.1.1.1.1.1.1.1.1.1.1.1.1.1.1.1.1.1.1.1.1.1.1.1.1.1.1.1.1.1.1.1.1.2;have f8:=vq.1.1.1.1.1.1.1.1.1.1.1.1.1.1.1.1.1.1.1.1.1.1.1.1.1.1.2;have f34:=vq.2;clear vq;simp only [puts,qae,qaa,sIB,sCZ,sCS,f0,f8,f34] at hE ⊢;clear f0 f8 f34;go_wp2_with fail;refine qab (qbJ 64 80 _ _ _ _ _ _ _ (.inr rfl) p4 LP4.out) ?_;rintro e w2 ⟨rfl,hb2⟩;rw [← HXX.out];go_wp2_with fail;exact .mk (hE _ (hC1.next hb2))
       apply yL_
       ·apply dP [(35,some 146),(35,some 146),(0,some 111),(1,some 112),(2,some 113),(3,some 114),(4,some 115),(5,some 116),(6,some 117),(7,some 118),(8,some 119),(9,some 120),(10,some 121),(11,some 122),(12,some 123),(13,some 124),(14,some 125),(15,some 126),(16,some 127),(17,some 128),(18,some 129),(19,some 130),(20,some 131),(21,some 132),(22,some 133),(23,some 134),(24,some 135),(25,some 136),(26,some 137),(27,some 138),(28,some 139),(29,some 140),(30,some 141),(31,some 142),(32,some 143),(33,some 144),(34,some 145),(35,some 146)];exact fun _=>rfl;rfl;rintro vals ⟨⟨⟨⟨⟨⟨⟨⟨⟨⟨⟨⟨⟨⟨⟨⟨⟨⟨⟨⟨⟨⟨⟨⟨⟨⟨⟨⟨⟨⟨⟨⟨⟨⟨⟨⟨-,f0⟩,f1⟩,f2⟩,f3⟩,f4⟩,f5⟩,f6⟩,f7⟩,f8⟩,f9⟩,f10⟩,f11⟩,f12⟩,f13⟩,f14⟩,f15⟩,f16⟩,f17⟩,f18⟩,f19⟩,f20⟩,f21⟩,f22⟩,f23⟩,f24⟩,f25⟩,f26⟩,f27⟩,f28⟩,f29⟩,f30⟩,f31⟩,f32⟩,f33⟩,f34⟩,f35⟩ w1 hC1 E hE;simp only [puts,qae,qaa,sIB,sCZ,sCS,f0,f1,f2,f3,f4,f5,f6,f7,f8,f9,f10,f11,f12,f13,f14,f15,f16,f17,f18,f19,f20,f21,f22,f23,f24,f25,f26,f27,f28,f29,f30,f31,f32,f33,f34,f35] at hE ⊢;clear f0 f1 f2 f3 f4 f5 f6 f7 f8 f9 f10 f11 f12 f13 f14 f15 f16 f17 f18 f19 f20 f21 f22 f23 f24 f25 f26 f27 f28 f29 f30 f31 f32 f33 f34 f35;go_wp2;exact .mk (hE _ hC1)
       rintro vals ⟨⟨⟨⟨⟨⟨⟨⟨⟨⟨⟨⟨⟨⟨⟨⟨⟨⟨⟨⟨⟨⟨⟨⟨⟨⟨⟨⟨⟨⟨⟨⟨⟨⟨⟨⟨⟨-,f0⟩,f1⟩,f2⟩,f3⟩,f4⟩,f5⟩,f6⟩,f7⟩,f8⟩,f9⟩,f10⟩,f11⟩,f12⟩,f13⟩,f14⟩,f15⟩,f16⟩,f17⟩,f18⟩,f19⟩,f20⟩,f21⟩,f22⟩,f23⟩,f24⟩,f25⟩,f26⟩,f27⟩,f28⟩,f29⟩,f30⟩,f31⟩,f32⟩,f33⟩,f34⟩,f35⟩,f36⟩ w1 hC1;simp only [puts,qae,qaa,sIB,sCZ,sCS,f0,f1,f2,f3,f4,f5,f6,f7,f8,f9,f10,f11,f12,f13,f14,f15,f16,f17,f18,f19,f20,f21,f22,f23,f24,f25,f26,f27,f28,f29,f30,f31,f32,f33,f34,f35,f36];clear f0 f1 f2 f3 f4 f5 f6 f7 f8 f9 f10 f11 f12 f13 f14 f15 f16 f17 f18 f19 f20 f21 f22 f23 f24 f25 f26 f27 f28 f29 f30 f31 f32 f33 f34 f35 f36;clear HC0;go_wp2_with fail;have HC0:=hC1.drew;clear hC1;refine qal (fun u=>BkR w gf F64 p (some bad) blk (some sad) S (.slice (some ⟨g,0,none⟩) 80 c) RW g2 c2 ⟨va,vb,vc,vd,ve,vf,vg,vh⟩ u) (fun u=>BkR w gf F64 p (some bad) blk (some sad) S (.slice (some ⟨g,0,none⟩) 80 c) RW g2 c2 ⟨va,vb,vc,vd,ve,vf,vg,vh⟩ u) [(0,some 147),(1,some 148),(2,some 149),(3,some 150),(4,some 151),(5,some 152),(6,some 153),(7,some 154),(8,some 155),(9,some 156),(10,some 157),(11,some 158),(12,some 159),(13,some 160),(14,some 161),(15,some 162),(16,some 163),(17,some 164),(18,some 165),(19,some 166),(20,some 167),(21,some 168),(22,some 169),(23,some 170),(24,some 171),(25,some 172),(26,some 173),(27,some 19)] (by kernel_rfl) (by kernel_rfl) (by decide) (by kernel_rfl) (fun _=>rfl) HC0 ?_;apply yN_
       ·apply dP [];exact fun _=>rfl;rfl;rintro vals - w1 hC1 E hE;simp only [puts,qae,qaa,sIB,sCZ,sCS] at hE ⊢;refine qac hC1.w.st.h rfl rfl rfl hu rfl qaJ ?_;go_wp2_with fail;exact .mk (hE _ hC1)
       apply yN_
       ·apply dP [];exact fun _=>rfl;rfl;rintro vals ⟨-,-⟩ w1 hC1 E hE;simp only [puts,qae,qaa,sIB,sCZ,sCS] at hE ⊢;refine qac hC1.w.st.h rfl rfl rfl hu rfl qaJ ?_;go_wp2_with fail;exact .mk (hE _ hC1)
       apply yN_
       ·apply dP [];exact fun _=>rfl;rfl;intro vals vq w1 hC1 E hE;clear vq;simp only [puts,qae,qaa,sIB,sCZ,sCS] at hE ⊢;go_wp2;exact .mk (hE _ hC1)
       apply yN_
       ·apply dP [];exact fun _=>rfl;rfl;intro vals vq w1 hC1 E hE;clear vq;simp only [puts,qae,qaa,sIB,sCZ,sCS] at hE ⊢;go_wp2;exact .mk (hE _ hC1)
       apply yN_
       ·apply dP [(3,some 150)];exact fun _=>rfl;rfl;intro vals vq w1 hC1 E hE;have f3:=vq.2;clear vq;have d0:=hC1.w.st.h.cell 2;simp [hv,hC] at d0;simp only [puts,qae,qaa,sIB,sCZ,sCS,f3] at hE ⊢;clear f3;go_wp2;exact .mk (hE _ hC1)
       apply yN_
       ·apply dP [(1,some 148),(2,some 149),(4,some 151)];exact fun _=>rfl;rfl;rintro vals ⟨⟨⟨⟨⟨-,-⟩,f1⟩,f2⟩,-⟩,f4⟩ w1 hC1 E hE;simp only [puts,qae,qaa,sIB,sCZ,sCS,f1,f2,f4] at hE ⊢;clear f1 f2 f4;go_wp2_with fail;refine qab (qbS 64 80 _ _ _ _ _ _ _ (.inr rfl) va _ _ _ false HL8.out.a (by decide) (by decide) (by decide) _ _ gf hC1.w.st.ok.a (by have:=hC1.w.st.h.lt; omega) hC1.w.st.ok.ca) ?_;rintro e w2 ⟨rfl,hb2⟩;rw [show allN 64 va _ _ _ false=YA from HYA.out.symm];go_wp2_with fail;exact .mk (hE _ (hC1.next hb2))
       apply yN_
       ·apply dP [];exact fun _=>rfl;rfl;intro vals vq w1 hC1 E hE;clear vq;simp only [puts,qae,qaa,sIB,sCZ,sCS] at hE ⊢;go_wp2;exact .mk (hE _ hC1)
       apply yN_
       ·apply dP [];exact fun _=>rfl;rfl;intro vals vq w1 hC1 E hE;clear vq;simp only [puts,qae,qaa,sIB,sCZ,sCS] at hE ⊢;go_wp2;exact .mk (hE _ hC1)
       apply yN_
       ·apply dP [(7,some 154)];exact fun _=>rfl;rfl;intro vals vq w1 hC1 E hE;have f7:=vq.2;clear vq;simp only [puts,qae,qaa,sIB,sCZ,sCS,f7] at hE ⊢;clear f7;go_wp2;exact .mk (hE _ hC1)
       apply yN_
       ·apply dP [(8,some 155)];exact fun _=>rfl;rfl;intro vals vq w1 hC1 E hE;have f8:=vq.2;clear vq;have d0:=hC1.r.atN (i:=1) (v:=.int .u64 (vb:Int)) rfl;simp only [puts,qae,qaa,sIB,sCZ,sCS,f8] at hE ⊢;clear f8;go_wp2;exact .mk (hE _ hC1)
       apply yN_
       ·apply dP [(6,some 153),(9,some 156)];exact fun _=>rfl;rfl;intro vals vq w1 hC1 E hE;have f6:=vq.1.1.1.2;have f9:=vq.2;clear vq;simp only [puts,qae,qaa,sIB,sCZ,sCS,f6,f9] at hE ⊢;clear f6 f9;go_wp2;rw [and64 va vb (L64.out _ HL8.out.a) (L64.out _ HL8.out.b),← HAB.out];exact .mk (hE _ hC1)
       apply yN_
       ·apply dP [];exact fun _=>rfl;rfl;intro vals vq w1 hC1 E hE;clear vq;simp only [puts,qae,qaa,sIB,sCZ,sCS] at hE ⊢;go_wp2;exact .mk (hE _ hC1)
       apply yN_
       ·apply dP [];exact fun _=>rfl;rfl;intro vals vq w1 hC1 E hE;clear vq;simp only [puts,qae,qaa,sIB,sCZ,sCS] at hE ⊢;go_wp2;exact .mk (hE _ hC1)
       apply yN_
       ·apply dP [(12,some 159)];exact fun _=>rfl;rfl;intro vals vq w1 hC1 E hE;have f12:=vq.2;clear vq;simp only [puts,qae,qaa,sIB,sCZ,sCS,f12] at hE ⊢;clear f12;go_wp2;exact .mk (hE _ hC1)
       apply yN_
       ·apply dP [(13,some 160)];exact fun _=>rfl;rfl;intro vals vq w1 hC1 E hE;have f13:=vq.2;clear vq;have d0:=hC1.r.atN (i:=2) (v:=.int .u64 (vc:Int)) rfl;simp only [puts,qae,qaa,sIB,sCZ,sCS,f13] at hE ⊢;clear f13;go_wp2;exact .mk (hE _ hC1)
       apply yN_
       ·apply dP [(11,some 158),(14,some 161)];exact fun _=>rfl;rfl;intro vals vq w1 hC1 E hE;have f11:=vq.1.1.1.2;have f14:=vq.2;clear vq;simp only [puts,qae,qaa,sIB,sCZ,sCS,f11,f14] at hE ⊢;clear f11 f14;go_wp2;rw [and64 va vc (L64.out _ HL8.out.a) (L64.out _ HL8.out.c),← HAC.out];exact .mk (hE _ hC1)
       apply yN_
       ·apply dP [(10,some 157),(15,some 162)];exact fun _=>rfl;rfl;intro vals vq w1 hC1 E hE;have f10:=vq.1.1.1.1.1.2;have f15:=vq.2;clear vq;simp only [puts,qae,qaa,sIB,sCZ,sCS,f10,f15] at hE ⊢;clear f10 f15;go_wp2;rw [xor64 ab ac LAB.out LAC.out,← HX1.out];exact .mk (hE _ hC1)
       apply yN_
       ·apply dP [];exact fun _=>rfl;rfl;intro vals vq w1 hC1 E hE;clear vq;simp only [puts,qae,qaa,sIB,sCZ,sCS] at hE ⊢;go_wp2;exact .mk (hE _ hC1)
       apply yN_
       ·apply dP [(17,some 164)];exact fun _=>rfl;rfl;intro vals vq w1 hC1 E hE;have f17:=vq.2;clear vq;simp only [puts,qae,qaa,sIB,sCZ,sCS,f17] at hE ⊢;clear f17;go_wp2;exact .mk (hE _ hC1)
       apply yN_
       ·apply dP [(18,some 165)];exact fun _=>rfl;rfl;intro vals vq w1 hC1 E hE;have f18:=vq.2;clear vq;have d0:=hC1.r.atN (i:=1) (v:=.int .u64 (vb:Int)) rfl;simp only [puts,qae,qaa,sIB,sCZ,sCS,f18] at hE ⊢;clear f18;go_wp2;exact .mk (hE _ hC1)
       apply yN_
       ·apply dP [];exact fun _=>rfl;rfl;intro vals vq w1 hC1 E hE;clear vq;simp only [puts,qae,qaa,sIB,sCZ,sCS] at hE ⊢;go_wp2;exact .mk (hE _ hC1)
       apply yN_
       ·apply dP [(20,some 167)];exact fun _=>rfl;rfl;intro vals vq w1 hC1 E hE;have f20:=vq.2;clear vq;simp only [puts,qae,qaa,sIB,sCZ,sCS,f20] at hE ⊢;clear f20;go_wp2;exact .mk (hE _ hC1)
       apply yN_
       ·apply dP [(21,some 168)];exact fun _=>rfl;rfl;intro vals vq w1 hC1 E hE;have f21:=vq.2;clear vq;have d0:=hC1.r.atN (i:=2) (v:=.int .u64 (vc:Int)) rfl;simp only [puts,qae,qaa,sIB,sCZ,sCS,f21] at hE ⊢;clear f21;go_wp2;exact .mk (hE _ hC1)
       apply yN_
       ·apply dP [(19,some 166),(22,some 169)];exact fun _=>rfl;rfl;intro vals vq w1 hC1 E hE;have f19:=vq.1.1.1.2;have f22:=vq.2;clear vq;simp only [puts,qae,qaa,sIB,sCZ,sCS,f19,f22] at hE ⊢;clear f19 f22;go_wp2;rw [and64 vb vc (L64.out _ HL8.out.b) (L64.out _ HL8.out.c),← HBC.out];exact .mk (hE _ hC1)
       apply yN_
       ·apply dP [(16,some 163),(23,some 170)];exact fun _=>rfl;rfl;intro vals vq w1 hC1 E hE;have f16:=vq.1.1.1.1.1.1.1.2;have f23:=vq.2;clear vq;simp only [puts,qae,qaa,sIB,sCZ,sCS,f16,f23] at hE ⊢;clear f16 f23;go_wp2;rw [xor64 x1 bc2 LX1.out LBC.out,← HMJ.out];exact .mk (hE _ hC1)
       apply yN_
       ·apply dP [(5,some 152),(24,some 171)];exact fun _=>rfl;rfl;intro vals vq w1 hC1 E hE;have f5:=vq.1.1.1.1.1.1.1.1.1.1.1.1.1.1.1.1.1.1.1.2;have f24:=vq.2;clear vq;simp only [puts,qae,qaa,sIB,sCZ,sCS,f5,f24] at hE ⊢;clear f5 f24;go_wp2;rw [qaQ YA mj,← HQ1.out];exact .mk (hE _ hC1)
       apply yN_
       ·apply dP [(0,some 147),(25,some 172),(5,some 152)];exact fun _=>rfl;rfl;intro vals vq w1 hC1 E hE;have f0:=vq.1.1.1.1.1.1.1.1.1.1.1.1.1.1.1.1.1.1.1.1.1.1.1.1.1.2;have f5:=vq.1.1.1.1.1.1.1.1.1.1.1.1.1.1.1.1.1.1.1.1.2;have f25:=vq.2;clear vq;simp only [puts,qae,qaa,sIB,sCZ,sCS,f0,f5,f25] at hE ⊢;clear f0 f5 f25;go_wp2_with fail;refine qab (qbJ 64 80 _ _ _ _ _ _ _ (.inr rfl) q1 LQ1.out) ?_;rintro e w2 ⟨rfl,hb2⟩;rw [← HYY.out];go_wp2_with fail;exact .mk (hE _ (hC1.next hb2))
       apply yL_
       ·apply dP [(26,some 173),(26,some 173),(0,some 147),(1,some 148),(2,some 149),(3,some 150),(4,some 151),(5,some 152),(6,some 153),(7,some 154),(8,some 155),(9,some 156),(10,some 157),(11,some 158),(12,some 159),(13,some 160),(14,some 161),(15,some 162),(16,some 163),(17,some 164),(18,some 165),(19,some 166),(20,some 167),(21,some 168),(22,some 169),(23,some 170),(24,some 171),(25,some 172),(26,some 173)];exact fun _=>rfl;rfl;rintro vals ⟨⟨⟨⟨⟨⟨⟨⟨⟨⟨⟨⟨⟨⟨⟨⟨⟨⟨⟨⟨⟨⟨⟨⟨⟨⟨⟨-,f0⟩,f1⟩,f2⟩,f3⟩,f4⟩,f5⟩,f6⟩,f7⟩,f8⟩,f9⟩,f10⟩,f11⟩,f12⟩,f13⟩,f14⟩,f15⟩,f16⟩,f17⟩,f18⟩,f19⟩,f20⟩,f21⟩,f22⟩,f23⟩,f24⟩,f25⟩,f26⟩ w1 hC1 E hE;simp only [puts,qae,qaa,sIB,sCZ,sCS,f0,f1,f2,f3,f4,f5,f6,f7,f8,f9,f10,f11,f12,f13,f14,f15,f16,f17,f18,f19,f20,f21,f22,f23,f24,f25,f26] at hE ⊢;clear f0 f1 f2 f3 f4 f5 f6 f7 f8 f9 f10 f11 f12 f13 f14 f15 f16 f17 f18 f19 f20 f21 f22 f23 f24 f25 f26;go_wp2;exact .mk (hE _ hC1)
       rintro vals ⟨⟨⟨⟨⟨⟨⟨⟨⟨⟨⟨⟨⟨⟨⟨⟨⟨⟨⟨⟨⟨⟨⟨⟨⟨⟨⟨⟨-,f0⟩,f1⟩,f2⟩,f3⟩,f4⟩,f5⟩,f6⟩,f7⟩,f8⟩,f9⟩,f10⟩,f11⟩,f12⟩,f13⟩,f14⟩,f15⟩,f16⟩,f17⟩,f18⟩,f19⟩,f20⟩,f21⟩,f22⟩,f23⟩,f24⟩,f25⟩,f26⟩,f27⟩ w1 hC1;simp only [puts,qae,qaa,sIB,sCZ,sCS,f0,f1,f2,f3,f4,f5,f6,f7,f8,f9,f10,f11,f12,f13,f14,f15,f16,f17,f18,f19,f20,f21,f22,f23,f24,f25,f26,f27];clear f0 f1 f2 f3 f4 f5 f6 f7 f8 f9 f10 f11 f12 f13 f14 f15 f16 f17 f18 f19 f20 f21 f22 f23 f24 f25 f26 f27;clear HC0;go_wp2_with fail;have HC0:=hC1.drew;clear hC1;refine qbe (fun u=>BkR w gf F64 p (some bad) blk (some sad) S (.slice (some ⟨g,0,none⟩) 80 c) RW g2 c2 ⟨va,vb,vc,vd,ve,vf,vg,vh⟩ u) (fun _=>false) 26 [(0,some 174),(1,some 175),(2,some 176),(3,some 177),(4,some 178),(5,some 179),(6,some 180),(7,some 181),(8,some 182),(9,some 183),(10,some 184),(11,some 185),(12,some 186),(13,some 187),(14,some 188),(15,some 189),(16,some 190),(17,some 191),(18,some 192),(19,some 193),(20,some 194),(21,some 195),(22,some 196),(23,some 197),(24,some 198),(25,some 199),(26,some 200),(27,some 13)] (by kernel_rfl) (by kernel_rfl) (by decide) (by kernel_rfl) (fun _=>rfl) HC0 ?_;apply DetQ.next
       ·apply dQ;apply dP [];exact fun _=>rfl;rfl;rintro vals - w1 hC1 E hE;simp only [puts,qae,qaa,sIB,sCZ,sCS] at hE ⊢;refine qac hC1.w.st.h rfl rfl rfl hu rfl qaJ ?_;go_wp2_with fail;exact .mk (hE _ hC1)
       apply DetQ.next
       ·apply dQ;apply dP [];exact fun _=>rfl;rfl;rintro vals ⟨-,-⟩ w1 hC1 E hE;simp only [puts,qae,qaa,sIB,sCZ,sCS] at hE ⊢;go_wp2;exact .mk (hE _ hC1)
       apply DetQ.next
       ·apply dQ;apply dP [];exact fun _=>rfl;rfl;intro vals vq w1 hC1 E hE;clear vq;simp only [puts,qae,qaa,sIB,sCZ,sCS] at hE ⊢;go_wp2;exact .mk (hE _ hC1)
       apply DetQ.next
       ·apply dQ;apply dP [(1,some 175),(2,some 176)];exact fun _=>rfl;rfl;rintro vals ⟨⟨⟨-,-⟩,f1⟩,f2⟩ w1 hC1 E hE;simp only [puts,qae,qaa,sIB,sCZ,sCS,f1,f2] at hE ⊢;clear f1 f2;go_wp2;rw [qaQ xx yy,← HZ1.out];exact .mk (hE _ hC1)
       apply DetQ.next
       ·apply dQ;apply dP [(0,some 174),(3,some 177)];exact fun _=>rfl;rfl;rintro vals ⟨⟨⟨⟨-,f0⟩,-⟩,-⟩,f3⟩ w1 hC1 E hE;simp only [puts,qae,qaa,sIB,sCZ,sCS,f0,f3] at hE ⊢;clear f0 f3;go_wp2_with fail;refine qab (qbJ 64 80 _ _ _ _ _ _ _ (.inr rfl) z1 LZ1.out) ?_;rintro e w2 ⟨rfl,hb2⟩;rw [← HZA.out];go_wp2_with fail;exact .mk (hE _ (hC1.next hb2))
       apply DetQ.next
       ·apply dQ;apply dP [];exact fun _=>rfl;rfl;intro vals vq w1 hC1 E hE;clear vq;simp only [puts,qae,qaa,sIB,sCZ,sCS] at hE ⊢;go_wp2;exact .mk (hE _ hC1)
       apply DetQ.next
       ·apply dQ;apply dP [];exact fun _=>rfl;rfl;intro vals vq w1 hC1 E hE;clear vq;simp only [puts,qae,qaa,sIB,sCZ,sCS] at hE ⊢;go_wp2;exact .mk (hE _ hC1)
       apply DetQ.next
       ·apply dQ;apply dP [(6,some 180)];exact fun _=>rfl;rfl;intro vals vq w1 hC1 E hE;have f6:=vq.2;clear vq;simp only [puts,qae,qaa,sIB,sCZ,sCS,f6] at hE ⊢;clear f6;go_wp2;exact .mk (hE _ hC1)
       apply DetQ.next
       ·apply dQ;apply dP [(7,some 181)];exact fun _=>rfl;rfl;intro vals vq w1 hC1 E hE;have f7:=vq.2;clear vq;have d0:=hC1.r.atN (i:=1) (v:=.int .u64 (vb:Int)) rfl;simp only [puts,qae,qaa,sIB,sCZ,sCS,f7] at hE ⊢;clear f7;go_wp2;exact .mk (hE _ hC1)
       apply DetQ.next
       ·apply dQ;apply dP [];exact fun _=>rfl;rfl;intro vals vq w1 hC1 E hE;clear vq;simp only [puts,qae,qaa,sIB,sCZ,sCS] at hE ⊢;go_wp2;exact .mk (hE _ hC1)
       apply DetQ.next
       ·apply dQ;apply dP [(9,some 183)];exact fun _=>rfl;rfl;intro vals vq w1 hC1 E hE;have f9:=vq.2;clear vq;simp only [puts,qae,qaa,sIB,sCZ,sCS,f9] at hE ⊢;clear f9;go_wp2;exact .mk (hE _ hC1)
       apply DetQ.next
       ·apply dQ;apply dP [(10,some 184)];exact fun _=>rfl;rfl;intro vals vq w1 hC1 E hE;have f10:=vq.2;clear vq;have d0:=hC1.r.atN (i:=2) (v:=.int .u64 (vc:Int)) rfl;simp only [puts,qae,qaa,sIB,sCZ,sCS,f10] at hE ⊢;clear f10;go_wp2;exact .mk (hE _ hC1)
       apply DetQ.next
       ·apply dQ;apply dP [];exact fun _=>rfl;rfl;intro vals vq w1 hC1 E hE;clear vq;simp only [puts,qae,qaa,sIB,sCZ,sCS] at hE ⊢;refine qac hC1.w.st.h rfl rfl rfl hu rfl qaJ ?_;go_wp2_with fail;exact .mk (hE _ hC1)
       apply DetQ.next
       ·apply dQ;apply dP [];exact fun _=>rfl;rfl;intro vals vq w1 hC1 E hE;clear vq;simp only [puts,qae,qaa,sIB,sCZ,sCS] at hE ⊢;go_wp2;exact .mk (hE _ hC1)
       apply DetQ.next
       ·apply dQ;apply dP [(13,some 187)];exact fun _=>rfl;rfl;intro vals vq w1 hC1 E hE;have f13:=vq.2;clear vq;simp only [puts,qae,qaa,sIB,sCZ,sCS,f13] at hE ⊢;clear f13;go_wp2;exact .mk (hE _ hC1)
       apply DetQ.next
       ·apply dQ;apply dP [(14,some 188)];exact fun _=>rfl;rfl;intro vals vq w1 hC1 E hE;have f14:=vq.2;clear vq;have d0:=hC1.r.atN (i:=3) (v:=.int .u64 (vd:Int)) rfl;simp only [puts,qae,qaa,sIB,sCZ,sCS,f14] at hE ⊢;clear f14;go_wp2;exact .mk (hE _ hC1)
       apply DetQ.next
       ·apply dQ;apply dP [];exact fun _=>rfl;rfl;intro vals vq w1 hC1 E hE;clear vq;simp only [puts,qae,qaa,sIB,sCZ,sCS] at hE ⊢;go_wp2;exact .mk (hE _ hC1)
       apply DetQ.next
       ·apply dQ;apply dP [(15,some 189),(16,some 190)];exact fun _=>rfl;rfl;intro vals vq w1 hC1 E hE;have f15:=vq.1.2;have f16:=vq.2;clear vq;simp only [puts,qae,qaa,sIB,sCZ,sCS,f15,f16] at hE ⊢;clear f15 f16;go_wp2;rw [qaQ vd xx,← HZ2.out];exact .mk (hE _ hC1)
       apply DetQ.next
       ·apply dQ;apply dP [(12,some 186),(17,some 191),(4,some 178)];exact fun _=>rfl;rfl;intro vals vq w1 hC1 E hE;have f4:=vq.1.1.1.1.1.1.1.1.1.1.1.1.1.2;have f12:=vq.1.1.1.1.1.2;have f17:=vq.2;clear vq;simp only [puts,qae,qaa,sIB,sCZ,sCS,f4,f12,f17] at hE ⊢;clear f4 f12 f17;go_wp2_with fail;refine qab (qbJ 64 80 _ _ _ _ _ _ _ (.inr rfl) z2 LZ2.out) ?_;rintro e w2 ⟨rfl,hb2⟩;rw [← HZE.out];go_wp2_with fail;exact .mk (hE _ (hC1.next hb2))
       apply DetQ.next
       ·apply dQ;apply dP [];exact fun _=>rfl;rfl;intro vals vq w1 hC1 E hE;clear vq;simp only [puts,qae,qaa,sIB,sCZ,sCS] at hE ⊢;go_wp2;exact .mk (hE _ hC1)
       apply DetQ.next
       ·apply dQ;apply dP [];exact fun _=>rfl;rfl;intro vals vq w1 hC1 E hE;clear vq;simp only [puts,qae,qaa,sIB,sCZ,sCS] at hE ⊢;go_wp2;exact .mk (hE _ hC1)
       apply DetQ.next
       ·apply dQ;apply dP [(20,some 194)];exact fun _=>rfl;rfl;intro vals vq w1 hC1 E hE;have f20:=vq.2;clear vq;simp only [puts,qae,qaa,sIB,sCZ,sCS,f20] at hE ⊢;clear f20;go_wp2;exact .mk (hE _ hC1)
       apply DetQ.next
       ·apply dQ;apply dP [(21,some 195)];exact fun _=>rfl;rfl;intro vals vq w1 hC1 E hE;have f21:=vq.2;clear vq;have d0:=hC1.r.atN (i:=5) (v:=.int .u64 (vf:Int)) rfl;simp only [puts,qae,qaa,sIB,sCZ,sCS,f21] at hE ⊢;clear f21;go_wp2;exact .mk (hE _ hC1)
       apply DetQ.next
       ·apply dQ;apply dP [];exact fun _=>rfl;rfl;intro vals vq w1 hC1 E hE;clear vq;simp only [puts,qae,qaa,sIB,sCZ,sCS] at hE ⊢;go_wp2;exact .mk (hE _ hC1)
       apply DetQ.next
       ·apply dQ;apply dP [(23,some 197)];exact fun _=>rfl;rfl;intro vals vq w1 hC1 E hE;have f23:=vq.2;clear vq;simp only [puts,qae,qaa,sIB,sCZ,sCS,f23] at hE ⊢;clear f23;go_wp2;exact .mk (hE _ hC1)
       apply DetQ.next
       ·apply dQ;apply dP [(24,some 198)];exact fun _=>rfl;rfl;intro vals vq w1 hC1 E hE;have f24:=vq.2;clear vq;have d0:=hC1.r.atN (i:=6) (v:=.int .u64 (vg:Int)) rfl;simp only [puts,qae,qaa,sIB,sCZ,sCS,f24] at hE ⊢;clear f24;go_wp2;exact .mk (hE _ hC1)
       apply DetQ.done;rintro vals ⟨⟨⟨⟨⟨⟨⟨⟨⟨⟨⟨⟨⟨⟨⟨⟨⟨⟨⟨⟨⟨⟨⟨⟨⟨⟨-,f0⟩,f1⟩,f2⟩,f3⟩,f4⟩,f5⟩,f6⟩,f7⟩,f8⟩,f9⟩,f10⟩,f11⟩,f12⟩,f13⟩,f14⟩,f15⟩,f16⟩,f17⟩,f18⟩,f19⟩,f20⟩,f21⟩,f22⟩,f23⟩,f24⟩,f25⟩ w1 hC1;refine qa9 [(4,some 178),(5,some 179),(8,some 182),(11,some 185),(18,some 192),(19,some 193),(22,some 196),(25,some 199)] (fun _=>rfl) rfl ?_;intro E hE;simp only [puts,qae,qaa,sIB,sCZ,sCS,f4,f5,f8,f11,f18,f19,f22,f25] at hE ⊢;go_wp2;refine .mk (hE _ _ ?_);clear hE E;generalize hval:upd _ 26 _=vals26;replace f0:=uP hval (by decide) f0;replace f1:=uP hval (by decide) f1;replace f2:=uP hval (by decide) f2;replace f3:=uP hval (by decide) f3;replace f4:=uP hval (by decide) f4;replace f5:=uP hval (by decide) f5;replace f6:=uP hval (by decide) f6;replace f7:=uP hval (by decide) f7;replace f8:=uP hval (by decide) f8;replace f9:=uP hval (by decide) f9;replace f10:=uP hval (by decide) f10;replace f11:=uP hval (by decide) f11;replace f12:=uP hval (by decide) f12;replace f13:=uP hval (by decide) f13;replace f14:=uP hval (by decide) f14;replace f15:=uP hval (by decide) f15;replace f16:=uP hval (by decide) f16;replace f17:=uP hval (by decide) f17;replace f18:=uP hval (by decide) f18;replace f19:=uP hval (by decide) f19;replace f20:=uP hval (by decide) f20;replace f21:=uP hval (by decide) f21;replace f22:=uP hval (by decide) f22;replace f23:=uP hval (by decide) f23;replace f24:=uP hval (by decide) f24;replace f25:=uP hval (by decide) f25;have f26:=(congrFun hval 26).symm.trans (qay _ _ _);clear hval;refine qa9 [(26,some 200),(18,some 192),(0,some 174),(1,some 175),(2,some 176),(3,some 177),(4,some 178),(5,some 179),(6,some 180),(7,some 181),(8,some 182),(9,some 183),(10,some 184),(11,some 185),(12,some 186),(13,some 187),(14,some 188),(15,some 189),(16,some 190),(17,some 191),(18,some 192),(19,some 193),(20,some 194),(21,some 195),(22,some 196),(23,some 197),(24,some 198),(25,some 199),(26,some 200)] (fun _=>rfl) rfl ?_;intro E hE;simp only [puts,qae,qaa,sIB,sCZ,sCS,f0,f1,f2,f3,f4,f5,f6,f7,f8,f9,f10,f11,f12,f13,f14,f15,f16,f17,f18,f19,f20,f21,f22,f23,f24,f25,f26] at hE ⊢;go_wp2;refine .mk (hE _ _ ?_);clear hE E;generalize hval:upd _ 27 _=vals27;replace f0:=uP hval (by decide) f0;replace f1:=uP hval (by decide) f1;replace f2:=uP hval (by decide) f2;replace f3:=uP hval (by decide) f3;replace f4:=uP hval (by decide) f4;replace f5:=uP hval (by decide) f5;replace f6:=uP hval (by decide) f6;replace f7:=uP hval (by decide) f7;replace f8:=uP hval (by decide) f8;replace f9:=uP hval (by decide) f9;replace f10:=uP hval (by decide) f10;replace f11:=uP hval (by decide) f11;replace f12:=uP hval (by decide) f12;replace f13:=uP hval (by decide) f13;replace f14:=uP hval (by decide) f14;replace f15:=uP hval (by decide) f15;replace f16:=uP hval (by decide) f16;replace f17:=uP hval (by decide) f17;replace f18:=uP hval (by decide) f18;replace f19:=uP hval (by decide) f19;replace f20:=uP hval (by decide) f20;replace f21:=uP hval (by decide) f21;replace f22:=uP hval (by decide) f22;replace f23:=uP hval (by decide) f23;replace f24:=uP hval (by decide) f24;replace f25:=uP hval (by decide) f25;replace f26:=uP hval (by decide) f26;have f27:=(congrFun hval 27).symm.trans (qay _ _ _);clear hval;refine qcJ ?_;simp only [puts,qae,qaa,sIB,sCZ,sCS,f0,f1,f2,f3,f4,f5,f6,f7,f8,f9,f10,f11,f12,f13,f14,f15,f16,f17,f18,f19,f20,f21,f22,f23,f24,f25,f26,f27];clear f0 f1 f2 f3 f4 f5 f6 f7 f8 f9 f10 f11 f12 f13 f14 f15 f16 f17 f18 f19 f20 f21 f22 f23 f24 f25 f26 f27;clear HC0;have hfin:BkR w gf F64 p (some bad) blk (some sad) S (.slice (some ⟨g,0,none⟩) 80 c) RW w1.heap.size 8 (mixTo F64 RW S (t+1)) _:=hC1.turn (V':=mixTo F64 RW S (t+1)) (fz:=(0,0));rw [HM1.out] at hfin;have HFIN:=zY hfin;clear hfin hC1;go_wp2_with fail;refine ⟨⟨t+1,w1.heap.size,8,by omega,by go_num,rfl,?_⟩,by simp [intOf]; omega⟩;rw [HM1.out]; exact HFIN.out
      ·obtain rfl:t=80:=by omega
       obtain ⟨R,hR⟩:=eX (mixTo F64 RW S 80);rw [← hR] at hsr;have ho:BkO w gf F64 p (some bad) blk (some sad) S (.slice (some ⟨g,0,none⟩) 80 c) RW g2 c2 R (.slice none 0 0) ((s8L (addS F64 S R)).take 0) wr:=⟨hsr,OwnX.nil _ _ _ _,.inl rfl⟩;have HR:=zY hR;have HO:=zY ho;clear hR ho hsr HSR;go_wp2_with fail;obtain ⟨wo3,rfl⟩:∃ wo3:World,wo3=wr:=⟨_,rfl⟩
       go_loopw [20,21] (fun v i wr=>∃ (k:Nat) (A5:Option Addr) (c5:Nat),k≤8∧i=.int .i64 k∧v=.slice A5 k c5∧BkO w gf F64 p (some bad) blk (some sad) S (.slice (some ⟨g,0,none⟩) 80 c) RW g2 c2 R (.slice A5 k c5) ((s8L (addS F64 S R)).take k) wr) (fun _ i _=>8 - (intOf i).toNat)
       case atStart=>exact ⟨0,none,0,by omega,rfl,rfl,HO.out⟩
       case round =>
        obtain ⟨k,A5,c5,hk,rfl,rfl,hbo⟩:=hrel
        by_cases hk8:k<8
        ·have hk8':(k:Int)<8:=by omega
         obtain ⟨rj,hrj⟩:=eX ((s8L R).getD k 0);obtain ⟨sj,hsj⟩:=eX ((s8L S).getD k 0);obtain ⟨s1,hs1⟩:=eX ((rj+sj)%2^64);obtain ⟨aj,haj⟩:=eX (s1%2^64);obtain ⟨XS,hXS⟩:=eX ((s8L (addS F64 S R)).take k);have hxl:XS.length=k:=by rw [hXS]; exact qch _ _ hk
         have hnx:(s8L (addS F64 S R)).take (k+1)=XS++[aj]:=by
          rw [s8_take _ _ hk8,addS_get _ _ _ _ hk8,hXS,haj,hs1,hrj,hsj];exact congrArg (fun z=>(s8L (addS F64 S R)).take k++[z]) (mod_r64 _ _)
         have ER:Hid ((wordsV .u64 (s8L R))[k]?=some (.int .u64 (rj:Int))):=zY (by rw [hrj]; exact qbM _ _ _ (by show k<8; exact hk8));have ES:Hid ((wordsV .u64 (s8L S))[k]?=some (.int .u64 (sj:Int))):=zY (by rw [hsj]; exact qbM _ _ _ (by show k<8; exact hk8));have LS1:Hid (s1<18446744073709551616):=zY (by rw [hs1]; exact Nat.mod_lt _ (by decide));rw [← hXS] at hbo;have HS1:=zY hs1;have HAJ:=zY haj;have HXL:=zY hxl;have HNX:=zY hnx;have hu:=Tryz.underlying108;have HC0:=hbo.drew;clear hrj hsj hs1 haj hXS hxl hnx hbo HO;go_wp2_with fail;refine qbe (fun u=>BkO w gf F64 p (some bad) blk (some sad) S (.slice (some ⟨g,0,none⟩) 80 c) RW g2 c2 R (.slice A5 k c5) XS u) (fun i=>i == 0) 12 [(0,some 205),(1,some 206),(2,some 207),(3,some 208),(4,some 209),(5,some 210),(6,some 211),(7,some 212),(8,some 213),(9,some 214),(10,some 215),(11,some 216),(12,some 217),(13,some 218),(14,some 20)] (by kernel_rfl) (by kernel_rfl) (by decide) (by kernel_rfl) (fun _=>rfl) HC0 ?_;apply DetQ.next
         ·apply qdi [];exact fun _=>rfl;rfl;rintro vals - w1 E hE;simp only [puts,qae,qaa,sIB,sCZ,sCS] at hE ⊢;go_wp2;exact .mk hE
         apply DetQ.next
         ·apply dQ;apply dP [];exact fun _=>rfl;rfl;rintro vals ⟨-,-⟩ w1 hC1 E hE;simp only [puts,qae,qaa,sIB,sCZ,sCS] at hE ⊢;refine qac hC1.r.w.st.h rfl rfl rfl hu rfl qaJ ?_;go_wp2_with fail;exact .mk (hE _ hC1)
         apply DetQ.next
         ·apply dQ;apply dP [];exact fun _=>rfl;rfl;intro vals vq w1 hC1 E hE;clear vq;simp only [puts,qae,qaa,sIB,sCZ,sCS] at hE ⊢;go_wp2;exact .mk (hE _ hC1)
         apply DetQ.next
         ·apply dQ;apply dP [];exact fun _=>rfl;rfl;intro vals vq w1 hC1 E hE;clear vq;simp only [puts,qae,qaa,sIB,sCZ,sCS] at hE ⊢;go_wp2;exact .mk (hE _ hC1)
         apply DetQ.next
         ·apply dQ;apply dP [(2,some 207),(3,some 208)];exact fun _=>rfl;rfl;rintro vals ⟨⟨⟨⟨-,-⟩,-⟩,f2⟩,f3⟩ w1 hC1 E hE;have hc8:=hC1.r.le;simp only [puts,qae,qaa,sIB,sCZ,sCS,f2,f3] at hE ⊢;clear f2 f3;go_wp2;exact .mk (hE _ hC1)
         apply DetQ.next
         ·apply dQ;apply dP [(4,some 209)];exact fun _=>rfl;rfl;intro vals vq w1 hC1 E hE;have f4:=vq.2;clear vq;have d0:=hC1.r.r.atN ER.out;simp only [puts,qae,qaa,sIB,sCZ,sCS,f4] at hE ⊢;clear f4;go_wp2;exact .mk (hE _ hC1)
         apply DetQ.next
         ·apply dQ;apply dP [];exact fun _=>rfl;rfl;intro vals vq w1 hC1 E hE;clear vq;simp only [puts,qae,qaa,sIB,sCZ,sCS] at hE ⊢;go_wp2;exact .mk (hE _ hC1)
         apply DetQ.next
         ·apply dQ;apply dP [];exact fun _=>rfl;rfl;intro vals vq w1 hC1 E hE;clear vq;simp only [puts,qae,qaa,sIB,sCZ,sCS] at hE ⊢;go_wp2;exact .mk (hE _ hC1)
         apply DetQ.next
         ·apply dQ;apply dP [(6,some 211),(7,some 212)];exact fun _=>rfl;rfl;intro vals vq w1 hC1 E hE;have f6:=vq.1.2;have f7:=vq.2;clear vq;simp only [puts,qae,qaa,sIB,sCZ,sCS,f6,f7] at hE ⊢;clear f6 f7;go_wp2;exact .mk (hE _ hC1)
         apply DetQ.next
         ·apply dQ;apply dP [(8,some 213)];exact fun _=>rfl;rfl;intro vals vq w1 hC1 E hE;have f8:=vq.2;clear vq;have d0:=hC1.r.w.st.rs.val ES.out;simp only [puts,qae,qaa,sIB,sCZ,sCS,f8] at hE ⊢;clear f8;go_wp2;exact .mk (hE _ hC1)
         apply DetQ.next
         ·apply dQ;apply dP [(5,some 210),(9,some 214)];exact fun _=>rfl;rfl;intro vals vq w1 hC1 E hE;have f5:=vq.1.1.1.1.2;have f9:=vq.2;clear vq;simp only [puts,qae,qaa,sIB,sCZ,sCS,f5,f9] at hE ⊢;clear f5 f9;go_wp2;rw [qaQ rj sj,← HS1.out];exact .mk (hE _ hC1)
         apply DetQ.next
         ·apply dQ;apply dP [(1,some 206),(10,some 215)];exact fun _=>rfl;rfl;intro vals vq w1 hC1 E hE;have f1:=vq.1.1.1.1.1.1.1.1.1.2;have f10:=vq.2;clear vq;simp only [puts,qae,qaa,sIB,sCZ,sCS,f1,f10] at hE ⊢;clear f1 f10;go_wp2_with fail;refine qab (qbJ 64 80 _ _ _ _ _ _ _ (.inr rfl) s1 LS1.out) ?_;rintro e w2 ⟨rfl,hb2⟩;rw [← HAJ.out];go_wp2_with fail;exact .mk (hE _ (hC1.next hb2))
         apply DetQ.done;rintro vals ⟨⟨⟨⟨⟨⟨⟨⟨⟨⟨⟨⟨-,f0⟩,f1⟩,f2⟩,f3⟩,f4⟩,f5⟩,f6⟩,f7⟩,f8⟩,f9⟩,f10⟩,f11⟩ w1 hC1;refine qa9 [(11,some 216)] (fun _=>rfl) rfl ?_;intro E hE;simp only [puts,qae,qaa,sIB,sCZ,sCS,f11] at hE ⊢;go_wp2;refine .mk (hE _ _ ?_);clear hE E;generalize hval:upd _ 12 _=vals12;replace f0:=uP hval (by decide) f0;replace f1:=uP hval (by decide) f1;replace f2:=uP hval (by decide) f2;replace f3:=uP hval (by decide) f3;replace f4:=uP hval (by decide) f4;replace f5:=uP hval (by decide) f5;replace f6:=uP hval (by decide) f6;replace f7:=uP hval (by decide) f7;replace f8:=uP hval (by decide) f8;replace f9:=uP hval (by decide) f9;replace f10:=uP hval (by decide) f10;replace f11:=uP hval (by decide) f11;have f12:=(congrFun hval 12).symm.trans (qay _ _ _);clear hval;refine qa9 [(0,some 205),(12,some 217),(11,some 216)] (fun _=>rfl) rfl ?_;intro E hE;simp only [puts,qae,qaa,sIB,sCZ,sCS,f0,f11,f12] at hE ⊢;refine qao qb7 rfl rfl (show OwnX w1 (gf+1) 76 1 (.slice A5 k c5) k (wordsV .u64 XS) by have:=hC1.o; rwa [HXL.out] at this) rfl rfl rfl rfl (by unfold maxLen; omega) (by omega) (by have:=hC1.r.w.st.h.lt; omega) ?_;intro A6 c6 w6 hown6 hg6 hn6;have HOWN6:=zY hown6;have HG6:=zY hg6;have HN6:=zY hn6;clear hown6 hg6 hn6;go_wp2_with fail;refine .mk (hE _ _ ?_);clear hE E;generalize hval:upd _ 13 _=vals13;replace f0:=uP hval (by decide) f0;replace f1:=uP hval (by decide) f1;replace f2:=uP hval (by decide) f2;replace f3:=uP hval (by decide) f3;replace f4:=uP hval (by decide) f4;replace f5:=uP hval (by decide) f5;replace f6:=uP hval (by decide) f6;replace f7:=uP hval (by decide) f7;replace f8:=uP hval (by decide) f8;replace f9:=uP hval (by decide) f9;replace f10:=uP hval (by decide) f10;replace f11:=uP hval (by decide) f11;replace f12:=uP hval (by decide) f12;have f13:=(congrFun hval 13).symm.trans (qay _ _ _);clear hval;refine qa9 [(13,some 218),(13,some 218),(0,some 205),(1,some 206),(2,some 207),(3,some 208),(4,some 209),(5,some 210),(6,some 211),(7,some 212),(8,some 213),(9,some 214),(10,some 215),(11,some 216),(12,some 217),(13,some 218)] (fun _=>rfl) rfl ?_;intro E hE;simp only [puts,qae,qaa,sIB,sCZ,sCS,f0,f1,f2,f3,f4,f5,f6,f7,f8,f9,f10,f11,f12,f13] at hE ⊢;go_wp2;refine .mk (hE _ _ ?_);clear hE E;generalize hval:upd _ 14 _=vals14;replace f0:=uP hval (by decide) f0;replace f1:=uP hval (by decide) f1;replace f2:=uP hval (by decide) f2;replace f3:=uP hval (by decide) f3;replace f4:=uP hval (by decide) f4;replace f5:=uP hval (by decide) f5;replace f6:=uP hval (by decide) f6;replace f7:=uP hval (by decide) f7;replace f8:=uP hval (by decide) f8;replace f9:=uP hval (by decide) f9;replace f10:=uP hval (by decide) f10;replace f11:=uP hval (by decide) f11;replace f12:=uP hval (by decide) f12;replace f13:=uP hval (by decide) f13;have f14:=(congrFun hval 14).symm.trans (qay _ _ _);clear hval;refine qcJ ?_;simp only [puts,qae,qaa,sIB,sCZ,sCS,f0,f1,f2,f3,f4,f5,f6,f7,f8,f9,f10,f11,f12,f13,f14];clear f0 f1 f2 f3 f4 f5 f6 f7 f8 f9 f10 f11 f12 f13 f14;clear HC0;have hbo2:=hC1.app (o':=.slice A6 (k+1) c6) (y:=aj) (by rw [HXL.out]; exact HOWN6.out) HG6.out HN6.out;rw [← HNX.out] at hbo2;have HBO2:=zY hbo2;clear hbo2 hC1;go_wp2_with fail;exact ⟨⟨k+1,A6,c6,by omega,by go_num,rfl,HBO2.out⟩,by simp [intOf]; omega⟩
        ·obtain rfl:k=8:=by omega
         have HBO:=zY hbo;clear hbo HO;go_wp2_with fail;go_ret;refine ⟨A5,c5,rfl,?_,by rw [← HGF.out]; exact HBO.out.r.w.st.bel⟩;have h:=HBO.out.o;rw [qch _ _ (by omega)] at h;have hd:addS F64 S R=mixS F64 S blk:=by rw [mixS,HR.out,HRW.out]; rfl
         rw [← hd,← HGF.out];exact h.mono (by omega)
theorem zeroR64_ne (n k:Nat) (h:k<zeroR F64 n):((((n+1+k:Nat):Int)+16)%128 != 0)=true:=by
 simp only [zeroR,F64] at h;rw [bne_iff_ne];omega
theorem zeroR64_eq (n:Nat):((((n+1+zeroR F64 n:Nat):Int)+16)%128 != 0)=false:=by
 have h:zeroR F64 n=(2*64 - (n+1+64/4)%(2*64))%(2*64):=rfl;rw [bne_eq_false_iff_eq];omega
theorem ownZ_below {w w':World} {base e s n:Nat} {v:Value} {xs:List Value} (h:OwnZ w base e s v n xs) (hb:Below w.heap.size w w'):OwnZ w' base e s v n xs:=by
 refine ⟨h.1,?_⟩
 rcases h.2 with h0 | ⟨g,cap,cur,h1,h2,h3,h4⟩
 ·exact .inl h0
 ·exact .inr ⟨g,cap,cur,h1,h2,(hb.block g (Array.getElem?_eq_some_iff.1 h3).1).trans h3,h4⟩
theorem ownZ_mono {w:World} {base base' e size n:Nat} {v:Value} {xs:List Value} (h:OwnZ w base e size v n xs) (hb:base'≤base):OwnZ w base' e size v n xs :=
 ⟨h.1,h.2.elim .inl fun ⟨g,cap,cur,hv,hg,r⟩=>.inr ⟨g,cap,cur,hv,Nat.le_trans hb hg,r⟩⟩
structure HsZ (w0:World) (gf:Nat) (F:ShaF) (p:HP) (dA:Option Addr) (data:List UInt8) (v:Value) (xs:List UInt8) (A:Option Addr) (c:Nat) (V:S8) (u:World):Prop where
 b:HsB w0 gf F p dA data v xs A c V u
 z:OwnZ u (gf+1) 5 1 v xs.length (bytesV xs)
section
variable {w0 u u':World} {gf:Nat} {F:ShaF} {p:HP} {dA A:Option Addr} {data xs ys:List UInt8} {v v':Value} {c:Nat} {V:S8}
theorem HsZ.next (h:HsZ w0 gf F p dA data v xs A c V u) (hb:Below u.heap.size u u'):HsZ w0 gf F p dA data v xs A c V u':=⟨h.b.next hb,ownZ_below h.z hb⟩
theorem HsZ.drew (h:HsZ w0 gf F p dA data v xs A c V u):HsZ w0 gf F p dA data v xs A c V u.drew:=h.next (Below.refl _ _).drew
theorem HsZ.app (h:HsZ w0 gf F p dA data v xs A c V u) (hg:u.grownBy u' v.ownBlock) (ho:OwnZ u' (gf+1) 5 1 v' ys.length (bytesV ys)) (hx:HsB w0 gf F p dA data v' ys A c V u'):HsZ w0 gf F p dA data v' ys A c V u':=⟨hx,ho⟩
end
def HSumPostZ (F:ShaF) (m:Nat) (data:List UInt8) (w:World) (e:Ending) (w':World):Prop :=
 ∃ A c,e=.returned (.slice A m c)∧OwnZ w' w.heap.size 5 1 (.slice A m c) m (bytesV (digS F data))∧Below w.heap.size w w'
theorem hsum64z_any (p:HP) (data:List UInt8) (A:Option Addr) (c B:Nat) (w:World) (hok:HOk F64 p w B) (hr:Rd w B A (bytesV data)) (hB:B≤w.heap.size) (hl:data.length≤1000) (hc:data.length≤c) :
  Calls Tryz.prog 53 #[.agg (hv F64 p),.slice A data.length c] w (HSumPostZ F64 64 data w):=by
 have hu:=Tryz.underlying108;obtain ⟨gf,hgf⟩:=eX (w.heap.size)
 have hst0:HsA w gf F64 p A data (.slice none 0 0) [] (w.alloc (.cells (hv F64 p) 108)):=by
  have hb:=below_new w (.cells (hv F64 p) 108);rw [hgf];exact ⟨⟨hb,Blk.new _ _ _,(hok.mono hB).below hb,(hr.mono hB).below hb⟩,OwnX.nil _ _ _ _⟩
 have d0:=hst0.st.h.cell 0;simp [hv,hC,F64] at d0;have HST0:=zY hst0;have HGF:=zY hgf;have hl':(data.length:Int)≤1000:=by omega
 clear hst0 hok hr hB hgf;go_enter Tryz.func53,Tryz.ntmps53;have HOWN0:Hid (OwnX (w.alloc (.cells (hv F64 p) 108)) (gf+1) 5 1 (.slice none 0 0) 0 []):=zY HST0.out.own
 go_wp2_with (first
  | (refine qaz (o:=⟨some 17,_,_,_,_,_⟩) sl_bytes rfl rfl HOWN0.out rfl rfl (by simp [bytesV]) HST0.out.st.rd (by intro u hu; simp [bytesV,byteV] at hu; obtain ⟨_,_,rfl⟩:=hu; rfl) (by unfold maxLen; omega) (by omega) (by have:=HST0.out.st.h.lt; omega) ?_; intro A1 c1 w1 hown1 hg1 hn1; have HOWN1:Hid (OwnX w1 (gf+1) 5 1 (.slice A1 data.length c1) data.length (bytesV data)):=zY (by simpa using hown1); have H1281:Hid (gf+1≤w1.heap.size):=zY (by have:=hg1.size; have:=HGF.out; simp at *; omega); have HG1:=zY hg1; clear hown1 hg1 hn1)
  | (refine qao (o:=⟨some 20,_,_,_,_,_⟩) sl_bytes rfl rfl HOWN1.out rfl rfl rfl rfl (by unfold maxLen; omega) (by omega) H1281.out ?_; intro A2 c2 w2 hown2 hg2 hn2; have hs2:HsA w gf F64 p A data (.slice A2 (data.length+1) c2) (oneZ data 0) w2:=(HST0.out.app (ys:=data) HG1.out HOWN1.out).app hg2 (by rw [qax,qc7,qaS]; exact hown2); have d2:=hs2.st.h.cell 0; simp [hv,hC,F64] at d2; rw [HGF.out] at d2; have HST2:=zY hs2; clear hs2 hown2 hg2 hn2))
 rw [show w.heap.size=gf from HGF.out.symm] at d2 ⊢;have hzl:zeroR F64 data.length<128:=Nat.mod_lt _ (by decide);clear HST0 HOWN0 HG1 HOWN1 H1281 d0 d2
 go_loopw [5] (fun v wr=>∃ (k n:Nat) (A3:Option Addr) (c3:Nat),k≤zeroR F64 data.length∧n=data.length+1+k∧v=.slice A3 n c3∧HsA w gf F64 p A data (.slice A3 n c3) (oneZ data k) wr) (fun v _=>data.length+1+zeroR F64 data.length - lenOf v)
 case atStart=>exact ⟨0,data.length+1,A2,c2,Nat.zero_le _,rfl,rfl,HST2.out⟩
 case round =>
  clear HST2;obtain ⟨k,n,A3,c3,hk,hn,rfl,hst⟩:=hrel;have hn2:n≤2000:=by omega
  have d0:=hst.st.h.cell 0;simp [hv,hC,F64] at d0
  by_cases hlt:k<zeroR F64 data.length
  ·have hne:((((n:Nat):Int)+16)%128 != 0)=true:=by rw [hn]; exact zeroR64_ne _ _ hlt
   have HO:Hid (OwnX wr (gf+1) 5 1 (.slice A3 n c3) n (bytesV (oneZ data k))):=zY (by have:=hst.own; rwa [qax,← hn] at this);have HN:=zY hn;have HST:=zY hst;clear hn hst;go_wp2_with (refine qao (o:=⟨some 35,_,_,_,_,_⟩) sl_bytes rfl rfl HO.out rfl rfl rfl rfl (by unfold maxLen; omega) (by omega) (by have:=HST.out.st.h.lt; omega) ?_; intro A4 c4 w4 hown4 hg4 hn4; have HOWN4:=zY hown4; have HG4:=zY hg4; clear hown4 hg4 hn4);exact ⟨⟨k+1,n+1,A4,c4,hlt,by rw [HN.out]; omega,rfl,HST.out.app HG4.out (by rw [qax,qc8,qaS,← Nat.add_assoc,← HN.out]; exact HOWN4.out)⟩,by simp only [lenOf]; have:=HN.out; omega⟩
  ·obtain rfl:k=zeroR F64 data.length:=by omega
   have hne:((((n:Nat):Int)+16)%128 != 0)=false:=by rw [hn]; exact zeroR64_eq _
   have HN:=zY hn;have HST:=zY hst;clear hn hst;go_wp2_with fail;clear hne;obtain ⟨W1,rfl⟩:∃ x:World,x=wr:=⟨_,rfl⟩;obtain ⟨gl0,hgl0⟩:=eX (W1.heap.size);have HGL:=zY hgl0;clear hgl0
   go_loopw [8,9] (fun v i wr=>∃ (k:Nat) (A4:Option Addr) (c4:Nat),k≤16∧i=.int .i64 k∧v=.slice A4 k c4∧Below gl0 W1 wr∧wr.ownsRow gl0 5 1 (.slice A4 k c4) k (bytesV (List.replicate k 0))∧gl0≤wr.heap.size) (fun _ i _=>16 - (intOf i).toNat)
   case atStart=>exact ⟨0,none,0,by omega,rfl,rfl,Below.refl _ _,World.ownsRow_nil _ _ _ _,by rw [HGL.out]; exact Nat.le_refl _⟩
   case round =>
    obtain ⟨k,A4,c4,hk,rfl,rfl,hb4,ho4,hl4⟩:=hrel
    by_cases hk8:k<16
    ·have hk8':(k:Int)<16:=by omega
     have HB4:=zY hb4;have HO4:=zY ho4;clear hb4 ho4;go_wp2_with (refine qbl sl_bytes rfl rfl HO4.out rfl rfl rfl rfl (by unfold maxLen; omega) (by omega) hl4 ?_; intro A5 c5 w5 hown5 hg5; have HOWN5:=zY hown5; have HG5:=zY hg5; clear hown5 hg5);refine ⟨⟨k+1,A5,c5,hk8,by go_num,rfl,HB4.out.grown HG5.out hl4 (fun k hk=>(own_lt HO4.out k hk).1),?_,by have:=HG5.out.size; omega⟩,by simp [intOf]; omega⟩;rw [List.replicate_succ',qaS];exact HOWN5.out
    ·obtain rfl:k=16:=by omega
     obtain ⟨gl,R,rfl,hgl,hcl,hbk⟩:=own_blk ho4 (by decide);obtain ⟨ws,hws⟩:=eX (lenB F64 data.length);have hwl:ws.length=16:=by rw [hws,lenB,List.length_append,List.length_replicate,qa8]; rfl
     have hbk0:Blk wr gl 5 (backC 16 ws 0++R):=by
      rw [qcQ _ _ hwl];have e:bytesV (List.replicate 16 (0:UInt8))=List.replicate 16 (.int .u8 0):=by simp [bytesV,byteV]
      rw [e] at hbk;exact hbk
     have hget:∀ i j,i+j+1=16→(bytesV ws)[i]?=some (.int .u8 ((data.length*8/256^j%256:Nat):Int)):=fun i j h=>by rw [hws]; exact lenB64_get _ _ _ hl h
     have HWS:=zY hws;have HWL:=zY hwl;have HB4:=zY hb4;have HBK0:=zY hbk0;have HGET:=zY hget;clear hws hwl hb4 hbk hbk0 hget ho4;go_wp2_with fail;obtain ⟨wo2,rfl⟩:∃ x:World,x=wr:=⟨_,rfl⟩
     go_loopw [7,10] (fun v i wr=>∃ (j y:Nat),j≤16∧y=data.length*8/256^j∧v=.int .i64 y∧i=.int .i64 ((16:Int) - 1 - (j:Int))∧Below gl0 W1 wr∧Blk wr gl 5 (backC 16 ws j++R)) (fun _ i _=>(intOf i+1).toNat)
     case atStart=>exact ⟨0,data.length*8,by omega,by simp,by exact congrArg (Value.int .i64) (by omega),rfl,HB4.out,HBK0.out⟩
     case round =>
      clear HBK0;obtain ⟨j,y,hj,hy,rfl,rfl,hb5,hk5⟩:=hrel;have hyx:y≤data.length*8:=by rw [hy]; exact Nat.div_le_self _ _
      have hy64:(y:Int)≤8000:=by omega
      by_cases hlt2:j<16
      ·obtain ⟨ix,hix⟩:∃ ix:Nat,(16:Int) - 1 - (j:Int)=(ix:Int):=⟨16 - 1 - j,by omega⟩;have hix2:ix+j+1=16:=by omega
       have hval:=HGET.out ix j hix2;rw [← hy] at hval;have hset:=qdj 16 ws j ix _ R HWL.out hix2 hval;obtain ⟨ov,hov⟩:=qdl 16 ws j ix R HWL.out hix2;have hnx:data.length*8/256^(j+1)=y/256:=by rw [hy,Nat.pow_succ,← Nat.div_div_eq_div_mul]
       rw [hix];have dcell:=hk5.cell ix;rw [hov] at dcell;have dfree:=hk5.free ix;have hixl:(ix:Int)<16:=by omega
       have HSET:=zY hset;have HNX:=zY hnx;have HB5:=zY hb5;have HK5:=zY hk5;have HIX:=zY hix;clear hset hnx hb5 hk5 hix hix2 hval hy hov;go_wp2_with fail;refine ⟨⟨j+1,y/256,by omega,by rw [HNX.out],by go_num,by have:=HIX.out; exact congrArg (Value.int .i64) (by omega),(qai _ _ _ _).below HB5.out hgl (by have:=HB5.out.size; rw [HGL.out]; omega),?_⟩,by simp [intOf]⟩;have h:=qak (i:=ix) HK5.out (.int .u8 ((y%256:Nat):Int));rw [HSET.out] at h;exact h
      ·obtain rfl:j=16:=by omega
       rw [qdk] at hk5;have hall:HsA w gf F64 p A data (.slice A3 n c3) (oneZ data (zeroR F64 data.length)) wr:=HST.out.next (by rw [← HGL.out]; exact hb5);have HO5:Hid (OwnX wr (gf+1) 5 1 (.slice A3 n c3) n (bytesV (oneZ data (zeroR F64 data.length)))):=zY (by have:=hall.own; rwa [qax,← HN.out] at this);have hrl:Rd wr wr.heap.size (some ⟨gl,0,none⟩) (bytesV ws):=Rd.of_blk_app hk5 hk5.lt;have HRL:=zY hrl;have HALL0:=zY hall;clear hrl hall hk5 hb5 hy HST
       go_wp2_with (first
        | (refine qaz (o:=⟨some 63,_,_,_,_,_⟩) (m:=16) sl_bytes rfl rfl HO5.out rfl rfl (by rw [qap,HWL.out]) HRL.out (by intro u hu; simp [bytesV,byteV] at hu; obtain ⟨_,_,rfl⟩:=hu; rfl) (by unfold maxLen; omega) (by omega) (by have:=HALL0.out.st.h.lt; omega) ?_; intro A5 c5 w5 hown5 hg5 hn5; have hall5:HsA w gf F64 p A data (.slice A5 (n+16) c5) (oneZ data (zeroR F64 data.length)++ws) w5:=HALL0.out.app hg5 (by rw [List.length_append,qax,HWL.out,← HN.out,qaT]; exact hown5); have d7:=hall5.st.h.cell 7; simp [hv,hC,F64] at d7; have HALL5:=zY hall5; clear hall5 hown5 hg5 hn5)
        | (refine qaz (o:=⟨some 67,_,_,_,_,_⟩) (base:=gf+1) (n:=0) (m:=8) (v:=.slice none 0 0) (xs:=[]) qb7 rfl rfl (OwnX.nil _ _ _ _) rfl rfl rfl HALL5.out.st.ok.f (by intro u hu; simp [wordsV] at hu; obtain ⟨_,_,rfl⟩:=hu; rfl) (by unfold maxLen; omega) (by omega) (by have:=HALL5.out.st.h.lt; omega) ?_; intro A6 c6 w6 hown6 hg6 hn6; have HOWN6:=zY hown6; have HG6:=zY hg6; clear hown6 hg6 hn6))
       obtain ⟨ALL,hALL⟩:=eX (padS F64 data);obtain ⟨m,hm⟩:=eX (n+16);rw [← hm];have hall:ALL=oneZ data (zeroR F64 data.length)++ws:=by rw [hALL,HWS.out]; exact (padR64 data hl).symm
       have hal:ALL.length=m:=by rw [hall,List.length_append,qax,HWL.out,← HN.out,hm]
       have hm4:m≤4000:=by omega
       have hsb:HsB w gf F64 p A data (.slice A5 m c5) ALL A6 c6 (runS F64 ALL 0) w6:=by
        have h5:=HALL5.out;rw [← hm,← hall] at h5;have hg6:=HG6.out;refine ⟨⟨h5.st.keep (qbc hg6 (by have:=h5.st.h.lt; omega) (by intro k hk; simp [Value.ownBlock] at hk)),h5.own.kept hg6 ?_⟩,?_⟩
        ·cases h9:(Value.slice A5 m c5).ownBlock with
         | none=>exact .inl rfl
         | some k=>exact .inr (by simp [Value.ownBlock])
        ·show OwnX w6 (gf+1) 76 1 (.slice A6 8 c6) 8 (wordsV .u64 (s8L (startS F64)))
         simpa using HOWN6.out
       obtain ⟨nb,hnb⟩:∃ nb,m=nb*128:=⟨m/128,by have:=qdz data; rw [← hALL,hal] at this; omega⟩;have hcap:m≤c5∧c5≤9223372036854775807:=qcj (show OwnX w6 (gf+1) 5 1 (.slice A5 m c5) m (bytesV ALL) by have:=hsb.a.own; rwa [hal] at this);obtain ⟨hcap1,hcap2⟩:=hcap;have HALL:=zY hALL;have HAL:=zY hal;have HSB:=zY hsb;have HNB:=zY hnb;clear hALL hm hall hal hsb hnb HALL5 HOWN6 HG6 HALL0 HO5 HRL d7 d0
       go_loopw [11,12] (fun v i wr=>∃ (j a:Nat) (A7:Option Addr) (c7:Nat),j≤nb∧a=j*128∧i=.int .i64 (a:Int)∧v=.slice A7 8 c7∧HsB w gf F64 p A data (.slice A5 m c5) ALL A7 c7 (runS F64 ALL j) wr) (fun _ i _=>m - (intOf i).toNat)
       case atStart=>exact ⟨0,0,A6,c6,by omega,rfl,rfl,rfl,HSB.out⟩
       case round =>
        clear HSB;obtain ⟨j,a,A7,c7,hj,ha,rfl,rfl,hsj⟩:=hrel
        by_cases hjn:j<nb
        ·have ham:a+128≤m:=by rw [HNB.out,ha]; omega
         have hlt3:a<m:=by omega
         have hle1:a+128≤c5:=by omega
         have hla:OwnX wr (gf+1) 5 1 (.slice A5 m c5) m (bytesV ALL):=by have:=hsj.a.own; rwa [HAL.out] at this
         obtain ⟨g5,hg5,_,_⟩:=hla.ptr (by omega);subst hg5;obtain ⟨bk,hbk⟩:=eX ((ALL.drop a).take 128);have hbl:bk.length=128:=by rw [hbk]; simp; rw [HAL.out]; omega
         obtain ⟨sj,hsj2⟩:=eX (runS F64 ALL j);have hsl:sj.Lt (2^64):=by rw [hsj2]; exact qct F64 ALL j
         have hs1:runS F64 ALL (j+1)=mixS F64 sj bk:=by rw [hsj2,hbk,ha]; rfl
         rw [← hsj2] at hsj
         have HRB:Hid (∀ u,HsB w gf F64 p A data (.slice (some ⟨g5,0,none⟩) m c5) ALL A7 c7 sj u→Rd u u.heap.size (some ⟨g5,a,none⟩) (bytesV bk)):=zY fun u hu=>by
          have h1:OwnX u (gf+1) 5 1 (.slice (some ⟨g5,0,none⟩) m c5) m (bytesV ALL):=by have:=hu.a.own; rwa [HAL.out] at this
          have h2:=qcu (qcv (Rd.of_own h1 (Nat.le_refl _)) a) 128;rw [Addr.add_lit,Nat.zero_add] at h2;rw [hbk,bytesV,List.map_take,List.map_drop];exact h2
         have HBL:=zY hbl;have HSL:=zY hsl;have HS1:=zY hs1;have HA:=zY ha;have d0:=hsj.a.st.h.cell 0;simp [hv,hC,F64] at d0;have HC0:=hsj.drew;have D0:=zY d0;have HSJ:=zY hsj;clear hbl hsl hs1 hbk hsj2 ha hla hsj d0;go_wp2_with fail;clear HSJ;refine qbe (fun u=>HsB w gf F64 p A data (.slice (some ⟨g5,0,none⟩) m c5) ALL A7 c7 sj u) (fun _=>false) 10 [(0,some 77),(1,some 78),(2,some 79),(3,some 80),(4,some 81),(5,some 82),(6,some 83),(7,some 84),(8,some 85),(9,some 86),(10,some 87),(11,some 11)] (by kernel_rfl) (by kernel_rfl) (by decide) (by kernel_rfl) (fun _=>rfl) HC0 ?_;apply DetQ.next
         ·apply dQ;apply dP [];exact fun _=>rfl;rfl;rintro vals - w1 hC1 E hE;simp only [sP] at hE ⊢;refine qac hC1.a.st.h rfl rfl rfl hu rfl qaJ ?_;go_wp2_with fail;exact .mk (hE _ hC1)
         apply DetQ.next
         ·apply dQ;apply dP [];exact fun _=>rfl;rfl;rintro vals ⟨-,-⟩ w1 hC1 E hE;simp only [sP] at hE ⊢;go_wp2;exact .mk (hE _ hC1)
         apply DetQ.next
         ·apply dQ;apply dP [];exact fun _=>rfl;rfl;intro vals vq w1 hC1 E hE;clear vq;simp only [sP] at hE ⊢;go_wp2;exact .mk (hE _ hC1)
         apply DetQ.next
         ·apply dQ;apply dP [];exact fun _=>rfl;rfl;intro vals vq w1 hC1 E hE;clear vq;simp only [sP] at hE ⊢;go_wp2;exact .mk (hE _ hC1)
         apply DetQ.next
         ·apply dQ;apply dP [];exact fun _=>rfl;rfl;intro vals vq w1 hC1 E hE;clear vq;simp only [sP] at hE ⊢;go_wp2;exact .mk (hE _ hC1)
         apply DetQ.next
         ·apply dQ;apply dP [];exact fun _=>rfl;rfl;intro vals vq w1 hC1 E hE;clear vq;simp only [sP] at hE ⊢;go_wp2;exact .mk (hE _ hC1)
         apply DetQ.next
         ·apply dQ;apply dP [(5,some 82)];exact fun _=>rfl;rfl;intro vals vq w1 hC1 E hE;have d0:=hC1.a.st.h.cell 0;simp [hv,hC,F64] at d0;simp only [sP,vq] at hE ⊢;clear vq;go_wp2;exact .mk (hE _ hC1)
         apply DetQ.next
         ·apply dQ;apply dP [(6,some 83)];exact fun _=>rfl;rfl;intro vals vq w1 hC1 E hE;simp only [sP,vq] at hE ⊢;clear vq;go_wp2;exact .mk (hE _ hC1)
         apply DetQ.next
         ·apply dQ;apply dP [(4,some 81),(7,some 84)];exact fun _=>rfl;rfl;intro vals vq w1 hC1 E hE;simp only [sP,vq] at hE ⊢;clear vq;go_wp2;exact .mk (hE _ hC1)
         apply DetQ.next
         ·apply dQ;apply dP [(2,some 79),(3,some 80),(8,some 85)];exact fun _=>rfl;rfl;intro vals vq w1 hC1 E hE;simp only [sP,vq] at hE ⊢;clear vq;go_wp2;rw [show a+128 - a=128 by omega];exact .mk (hE _ hC1)
         apply DetQ.done;rintro vals ⟨⟨⟨⟨⟨⟨⟨⟨⟨⟨-,f0⟩,f1⟩,f2⟩,f3⟩,f4⟩,f5⟩,f6⟩,f7⟩,f8⟩,f9⟩ w1 hC1;refine qa9 [(0,some 77),(1,some 78),(9,some 86)] (fun _=>rfl) rfl ?_;intro E hE;simp only [sP,f0,f1,f9] at hE ⊢;go_wp2_with fail;have hmx:=block64_any p sj bk (some ⟨g5,a,none⟩) A7 (c5 - a) c7 w1.heap.size w1 (hC1.a.st.ok.mono (by have:=hC1.a.st.h.lt; omega)) (Nat.le_refl _) (HRB.out _ hC1) (Rd.of_own hC1.s (Nat.le_refl _)) HBL.out (by rw [HBL.out]; omega) hC1.s.le_cap HSL.out;rw [HBL.out] at hmx;refine qab hmx ?_;rintro e w2 ⟨A8,c8,rfl,hown8,hb8⟩;go_wp2_with fail;refine .mk (hE _ _ ?_);clear hE E;generalize hval:upd _ 10 _=vals10;replace f0:=uP hval (by decide) f0;replace f1:=uP hval (by decide) f1;replace f2:=uP hval (by decide) f2;replace f3:=uP hval (by decide) f3;replace f4:=uP hval (by decide) f4;replace f5:=uP hval (by decide) f5;replace f6:=uP hval (by decide) f6;replace f7:=uP hval (by decide) f7;replace f8:=uP hval (by decide) f8;replace f9:=uP hval (by decide) f9;have f10:=(congrFun hval 10).symm.trans (qay _ _ _);clear hval;refine qa9 [(10,some 87),(10,some 87),(0,some 77),(1,some 78),(2,some 79),(3,some 80),(4,some 81),(5,some 82),(6,some 83),(7,some 84),(8,some 85),(9,some 86),(10,some 87)] (fun _=>rfl) rfl ?_;intro E hE;simp only [sP,f0,f1,f2,f3,f4,f5,f6,f7,f8,f9,f10] at hE ⊢;go_wp2;refine .mk (hE _ _ ?_);clear hE E;generalize hval:upd _ 11 _=vals11;replace f0:=uP hval (by decide) f0;replace f1:=uP hval (by decide) f1;replace f2:=uP hval (by decide) f2;replace f3:=uP hval (by decide) f3;replace f4:=uP hval (by decide) f4;replace f5:=uP hval (by decide) f5;replace f6:=uP hval (by decide) f6;replace f7:=uP hval (by decide) f7;replace f8:=uP hval (by decide) f8;replace f9:=uP hval (by decide) f9;replace f10:=uP hval (by decide) f10;have f11:=(congrFun hval 11).symm.trans (qay _ _ _);clear hval;refine qcJ ?_;simp only [sP,f0,f1,f2,f3,f4,f5,f6,f7,f8,f9,f10,f11];clear f0 f1 f2 f3 f4 f5 f6 f7 f8 f9 f10 f11
         have hfin:HsB w gf F64 p A data (.slice (some ⟨g5,0,none⟩) m c5) ALL A8 c8 (runS F64 ALL (j+1)) w2:=by
          rw [HS1.out];exact ⟨hC1.a.next hb8,hown8.mono (by have:=hC1.a.st.h.lt; omega)⟩
         have d0:=hfin.a.st.h.cell 0;simp [hv,hC,F64] at d0;have HFIN:=zY hfin;clear hfin hC1 HC0 hown8 hb8;go_wp2_with fail;exact ⟨⟨j+1,a+128,A8,c8,hjn,by rw [HA.out]; omega,by go_num,rfl,HFIN.out⟩,by simp [intOf]; omega⟩
        ·obtain rfl:j=nb:=by omega
         have hge:¬ a<m:=by rw [HNB.out,ha]; omega
         obtain ⟨sv,hsv⟩:=eX (runS F64 ALL j);have hsl:sv.Lt (2^64):=by rw [hsv]; exact qct F64 ALL j
         rw [← hsv] at hsj;obtain ⟨g7,rfl,_,_⟩:=hsj.s.ptr (by decide);have hc7:=hsj.s.le_cap;have hso:HsZ w gf F64 p A data (.slice none 0 0) (outW 64 8 sv 0) (some ⟨g7,0,none⟩) c7 sv wr:=⟨⟨⟨hsj.a.st,OwnX.nil _ _ _ _⟩,hsj.s⟩,OwnZ.nil _ _ _ _⟩;have HSV:=zY hsv;have HSL:=zY hsl;have HSO:=zY hso;have HA:=zY ha;clear hsv hsl hso hsj ha;go_wp2_with fail;obtain ⟨wo5,rfl⟩:∃ x:World,x=wr:=⟨_,rfl⟩
         go_loopw [13,14] (fun v i wr=>∃ (k q:Nat) (A8:Option Addr) (c8:Nat),k≤8∧q=k*8∧i=.int .i64 k∧v=.slice A8 q c8∧HsZ w gf F64 p A data (.slice A8 q c8) (outW 64 8 sv k) (some ⟨g7,0,none⟩) c7 sv wr) (fun _ i _=>8 - (intOf i).toNat)
         case atStart=>exact ⟨0,0,none,0,by omega,by omega,rfl,rfl,HSO.out⟩
         case round =>
          clear HSO;obtain ⟨k,q,A8,c8,hk,hq,rfl,rfl,hso⟩:=hrel
          by_cases hk8:k<8
          ·have hk8':(k:Int)<8:=by omega
           obtain ⟨x,hx⟩:=eX ((s8L sv).getD k 0);have hxl:x<2^64:=by rw [hx]; exact s8L_lt HSL.out (by decide) k
           have ex:(wordsV .u64 (s8L sv))[k]?=some (.int .u64 (x:Int)):=by rw [hx]; exact qbM _ _ _ (show k<8 from hk8)
           have hol:(outW 64 8 sv k).length=q:=by rw [outW_length _ _ _ _ hk,hq]
           have hnx:outW 64 8 sv (k+1)=outW 64 8 sv k++wordB 64 x 8:=by rw [qc6 _ _ _ _ hk8,hx]
           obtain ⟨XS,hXS⟩:=eX (outW 64 8 sv k);rw [← hXS] at hol hnx hso;have HXL:=zY hxl;have EX:=zY ex;have HOL:=zY hol;have HNX:=zY hnx;have HQ:=zY hq;have hq9:q≤64:=by omega
           have HC0:=hso.drew;clear hx hxl ex hol hnx hXS hq hso;go_wp2_with fail;refine qbf (fun u=>HsZ w gf F64 p A data (.slice A8 q c8) XS (some ⟨g7,0,none⟩) c7 sv u) (fun i=>i == 0) 6 7 [(0,some 92),(1,some 93),(2,some 94),(3,some 95),(4,some 96),(5,some 97),(6,some 98),(7,some 99),(8,some 13)] (by kernel_rfl) (by kernel_rfl) (by decide) (by kernel_rfl) (fun _=>rfl) HC0 (fun _ _ hb h=>h.next hb) (by decide) ?_;apply DetR.next
           ·apply qaY [];exact fun _=>rfl;rfl;rintro vals - w1 hC1 E hE;simp only [sP] at hE ⊢;go_wp2;exact .mk hE
           apply DetR.next
           ·apply qaq;apply dP [];exact fun _=>rfl;rfl;rintro vals ⟨-,-⟩ w1 hC1 E hE;simp only [sP] at hE ⊢;refine qac hC1.b.a.st.h rfl rfl rfl hu rfl qaJ ?_;go_wp2_with fail;exact .mk (hE _ hC1)
           apply DetR.next
           ·apply qaq;apply dP [];exact fun _=>rfl;rfl;intro vals vq w1 hC1 E hE;clear vq;simp only [sP] at hE ⊢;go_wp2;exact .mk (hE _ hC1)
           apply DetR.next
           ·apply qaq;apply dP [];exact fun _=>rfl;rfl;intro vals vq w1 hC1 E hE;clear vq;simp only [sP] at hE ⊢;go_wp2;exact .mk (hE _ hC1)
           apply DetR.next
           ·apply qaq;apply dP [(2,some 94),(3,some 95)];exact fun _=>rfl;rfl;intro vals vq w1 hC1 E hE;simp only [sP,vq] at hE ⊢;clear vq;go_wp2;exact .mk (hE _ hC1)
           apply DetR.next
           ·apply qaq;apply dP [(4,some 96)];exact fun _=>rfl;rfl;intro vals vq w1 hC1 E hE;have d0:=hC1.b.s.atN EX.out;simp only [sP,vq] at hE ⊢;clear vq;go_wp2;exact .mk (hE _ hC1)
           apply DetR.done;rintro vals ⟨⟨⟨⟨⟨⟨-,f0⟩,f1⟩,f2⟩,f3⟩,f4⟩,f5⟩ w1 hC1;refine qaB [(1,some 93),(5,some 97)] (fun _=>rfl) rfl ?_;intro E hE;simp only [sP,f1,f5] at hE ⊢;go_wp2_with fail;have hct:=bytes_any 64 80 (.slice (some p.a) 3 p.ca) (.slice (some p.b) 3 p.cb) (.slice (some p.c) 3 p.cc) (.slice (some p.d) 3 p.cd) (.slice (some p.k) 80 p.ck) (.slice (some p.f) 8 p.cf) w1 (.inr rfl) x HXL.out;refine qab hct ?_;rintro e w2 ⟨g9,he9,hg9,hb9,hbel9⟩;have he9':e=.returned (.slice (some ⟨g9,0,none⟩) 8 8):=he9;clear he9;subst he9';have hb9':Blk w2 g9 5 (bytesV (wordB 64 x 8)).toArray:=hb9;clear hb9;go_wp2_with fail;refine .mk (hE _ _ (fun _=>hbel9) ?_);clear hE E;generalize hval:upd _ 6 _=vals6;replace f0:=uP hval (by decide) f0;replace f1:=uP hval (by decide) f1;replace f2:=uP hval (by decide) f2;replace f3:=uP hval (by decide) f3;replace f4:=uP hval (by decide) f4;replace f5:=uP hval (by decide) f5;have f6:=(congrFun hval 6).symm.trans (qay _ _ _);clear hval;refine qaB [(0,some 92),(6,some 98),(6,some 98)] (fun _=>rfl) rfl ?_;intro E hE;simp only [sP,f0,f6] at hE ⊢;refine qdo (m:=8) sl_bytes rfl rfl (show OwnZ w2 (gf+1) 5 1 (.slice A8 q c8) q (bytesV XS) by have:=(hC1.next hbel9).z; rwa [HOL.out] at this) rfl rfl (by rw [qap,wordB_length]) (by decide) (Rd.of_blk hb9' hb9'.lt) (by intro u hu; simp [bytesV,byteV] at hu; obtain ⟨_,_,rfl⟩:=hu; rfl) (by unfold maxLen; omega) (by omega) (by have:=(hC1.next hbel9).b.a.st.h.lt; omega) ?_;intro A9 c9 w9 hown9 hg9';have hz9:OwnZ w9 (gf+1) 5 1 (.slice A9 (q+8) c9) (XS++wordB 64 x 8).length (bytesV (XS++wordB 64 x 8)):=by rw [List.length_append,HOL.out,wordB_length,qaT]; exact hown9
           have hap:=(hC1.next hbel9).app (ys:=XS++wordB 64 x 8) hg9' hz9 ((hC1.next hbel9).b.app hg9' hz9.x);have HAP:=zY hap;clear hap hown9 hg9' hz9 hb9';go_wp2_with fail;refine .mk (hE _ _ (fun h=>absurd h (by decide)) ?_);clear hE E;generalize hval:upd _ 7 _=vals7;replace f0:=uP hval (by decide) f0;replace f1:=uP hval (by decide) f1;replace f2:=uP hval (by decide) f2;replace f3:=uP hval (by decide) f3;replace f4:=uP hval (by decide) f4;replace f5:=uP hval (by decide) f5;replace f6:=uP hval (by decide) f6;have f7:=(congrFun hval 7).symm.trans (qay _ _ _);clear hval;refine qaB [(7,some 99),(7,some 99),(0,some 92),(1,some 93),(2,some 94),(3,some 95),(4,some 96),(5,some 97),(6,some 98),(7,some 99)] (fun _=>rfl) rfl ?_;intro E hE;simp only [sP,f0,f1,f2,f3,f4,f5,f6,f7] at hE ⊢;go_wp2;refine .mk (hE _ _ (fun h=>absurd h (by decide)) ?_);clear hE E;generalize hval:upd _ 8 _=vals8;replace f0:=uP hval (by decide) f0;replace f1:=uP hval (by decide) f1;replace f2:=uP hval (by decide) f2;replace f3:=uP hval (by decide) f3;replace f4:=uP hval (by decide) f4;replace f5:=uP hval (by decide) f5;replace f6:=uP hval (by decide) f6;replace f7:=uP hval (by decide) f7;have f8:=(congrFun hval 8).symm.trans (qay _ _ _);clear hval;refine qce ?_;simp only [sP,f0,f1,f2,f3,f4,f5,f6,f7,f8];clear f0 f1 f2 f3 f4 f5 f6 f7 f8;clear HC0 hC1 hbel9;go_wp2_with fail;refine ⟨⟨k+1,q+8,A9,c9,by omega,by rw [HQ.out]; omega,by go_num,rfl,?_⟩,by simp [intOf]; omega⟩;rw [HNX.out];exact HAP.out
          ·obtain rfl:k=8:=by omega
           obtain rfl:q=8*8:=hq;have HSO:=zY hso;clear hso;go_wp2_with fail;go_ret;refine ⟨A8,c8,rfl,?_,by rw [← HGF.out]; exact HSO.out.b.a.st.bel⟩;have h:=HSO.out.z;rw [outW_length _ _ _ _ (by omega)] at h
           have hd:outW 64 8 sv 8=digS F64 data:=by
            rw [HSV.out,digS,← HALL.out,HAL.out,HNB.out];show _=(s8L (runS F64 ALL (j*128/128))).flatMap _;rw [Nat.mul_div_cancel _ (by decide)];rfl
           rw [← hd,← HGF.out];exact ownZ_mono h (by omega)
theorem of64_any (w:World):Calls Tryz.prog 52 #[.int .i64 64] w (OfPost F64 w):=by
 have hu:=Tryz.underlying108;obtain ⟨g0,hg0⟩:=eX (w.heap.size);go_enter Tryz.func52,Tryz.ntmps52;go_wp2_with fail;obtain ⟨gh,hgh⟩:=eX (w.heap.size+1+1+1+1+1);obtain ⟨ga,hga⟩:=eX (w.heap.size+1);obtain ⟨gb,hgb⟩:=eX (w.heap.size+1+1);obtain ⟨gc,hgc⟩:=eX (w.heap.size+1+1+1);obtain ⟨gd,hgd⟩:=eX (w.heap.size+1+1+1+1);have hd:ga≠gh∧gb≠gh∧gc≠gh∧gd≠gh:=by omega
 have hlt:g0<gh∧g0<ga∧g0<gb∧g0<gc∧g0<gd:=by omega
 refine qab (primes_any _) ?_;rintro e wp ⟨P,pc,rfl,hown,hbel⟩;have B0:=(((((((Blk.newAt (n:=w.heap.size) (t:=108) (cs:=zH) (by simp)).alloc _).alloc _).alloc _).alloc _).alloc _)).below hbel (by simp <;> omega);have Bh:=((Blk.newAt (n:=w.heap.size+1+1+1+1+1) (t:=108) (cs:=#[.int .i64 64,.int .i64 80,.slice (some ⟨w.heap.size+1,0,none⟩) 3 3,.slice (some ⟨w.heap.size+1+1,0,none⟩) 3 3,.slice (some ⟨w.heap.size+1+1+1,0,none⟩) 3 3,.slice (some ⟨w.heap.size+1+1+1+1,0,none⟩) 3 3,.slice none 0 0,.slice none 0 0]) (by simp))).below hbel (by simp <;> omega);have Ba:=((((((Blk.newAt (n:=w.heap.size+1) (t:=3) (cs:=(tri F64.s0).toArray) (by simp)).alloc _).alloc _).alloc _).alloc _)).below hbel (by simp <;> omega);have Bb:=(((((Blk.newAt (n:=w.heap.size+1+1) (t:=3) (cs:=(tri F64.s1).toArray) (by simp)).alloc _).alloc _).alloc _)).below hbel (by simp <;> omega);have Bc:=((((Blk.newAt (n:=w.heap.size+1+1+1) (t:=3) (cs:=(tri F64.t0).toArray) (by simp)).alloc _).alloc _)).below hbel (by simp <;> omega);have Bd:=(((Blk.newAt (n:=w.heap.size+1+1+1+1) (t:=3) (cs:=(tri F64.t1).toArray) (by simp)).alloc _)).below hbel (by simp <;> omega);have hbl:=(((((((below_new w _).alloc (by simp; try omega) _).alloc (by simp; try omega) _).alloc (by simp; try omega) _).alloc (by simp; try omega) _).alloc (by simp; try omega) _):Below w.heap.size w _).trans (hbel.mono (by simp <;> omega));have hown':=hown.mono (show w.heap.size≤_ by simp <;> omega);rw [← hgh,← hgd,← hgc,← hgb,← hga] at Bh ⊢;rw [← hg0] at B0 hbl hown' ⊢;rw [← hga] at Ba;rw [← hgb] at Bb;rw [← hgc] at Bc;rw [← hgd] at Bd;obtain ⟨gp,rfl,hgp1,hgp2⟩:=hown'.ptr (by decide);have hpc:=hown'.le_cap
 have hst0:OfSt w ⟨g0,gh,ga,gb,gc,gd⟩ F64 zH (.slice (some ⟨gp,0,none⟩) 80 pc) (csV 64 80 ga gb gc gd (.slice none 0 0) (.slice none 0 0)) (.slice none 0 0) ((kL F64).take 0) (.slice none 0 0) [] wp :=
  ⟨hbl,B0,Bh,Ba,Bb,Bc,Bd,hown',OwnX.nil _ _ _ _,OwnX.nil _ _ _ _,.inl rfl,hlt.1⟩
 have HD:=zY hd;have HLT:=zY hlt;have HG0:=zY hg0;have HST0:=zY hst0;clear B0 Bh Ba Bb Bc Bd hbl hown' hown hbel hd hlt hgp1 hgp2 hgh hga hgb hgc hgd hg0 hst0;go_wp2_with fail
 go_loopw [5] (fun i wr=>∃ (n:Nat) (A:Option Addr) (c:Nat),n≤80∧i=.int .i64 n∧OfSt w ⟨g0,gh,ga,gb,gc,gd⟩ F64 zH (.slice (some ⟨gp,0,none⟩) 80 pc) (csV 64 80 ga gb gc gd (.slice A n c) (.slice none 0 0)) (.slice A n c) ((kL F64).take n) (.slice none 0 0) [] wr) (fun i _=>80 - (intOf i).toNat)
 case atStart=>exact ⟨0,none,0,by omega,rfl,HST0.out⟩
 case round =>
  clear HST0;obtain ⟨n,A,c,hn,rfl,hst⟩:=hrel;have d1:=hst.h.cell 1;simp [csV,hC] at d1
  by_cases hnl:n<80
  ·have hnl':(n:Int)<80:=by omega
   obtain ⟨L,hL⟩:=eX ((kL F64).take n);have hLl:L.length=n:=by rw [hL,List.length_take,qbn,show F64.many=80 from rfl]; omega
   obtain ⟨pn,hpn⟩:=eX (primes80.getD n 0);have hpl:pn<65536:=by rw [hpn]; exact qdN n (by omega)
   have hrt:rootN pn 3=stepsN.getD n 0:=by rw [hpn]; exact rootN3 n (by omega)
   obtain ⟨rt,hrt2⟩:=eX (rootN pn 3);have hrl:rt<18446744073709551616:=by rw [hrt2,rootN]; exact Nat.mod_lt _ (by decide)
   obtain ⟨kn,hkn⟩:=eX (rt/2^(64 - 64)%2^64)
   have hnx:(kL F64).take (n+1)=L++[kn]:=by
    rw [hkn,hrt2,hrt,hL];exact kL_take F64 n hnl
   have ep:(wordsV .i64 primes80)[n]?=some (.int .i64 (pn:Int)):=by rw [hpn]; exact qaF (show n<80 by omega)
   rw [← hL] at hst;have HL:=zY hLl;have HPL:=zY hpl;have HRT:=zY hrt2;have HRL:=zY hrl;have HKN:=zY hkn;have HNX:=zY hnx;have EP:=zY ep;have hn80:n<80:=by omega
   have HC0:=hst.drew;have HST1:=zY hst;clear hL hLl hpn hpl hrt hrt2 hrl hkn hnx ep hst;go_wp2_with fail;clear HST1 d1;refine qbf (fun u=>OfSt w ⟨g0,gh,ga,gb,gc,gd⟩ F64 zH (.slice (some ⟨gp,0,none⟩) 80 pc) (csV 64 80 ga gb gc gd (.slice A n c) (.slice none 0 0)) (.slice A n c) L (.slice none 0 0) [] u) (fun i=>i == 0 || i == 1) 9 10 [(0,some 26),(1,some 27),(2,some 28),(3,some 29),(4,some 30),(5,some 31),(6,some 32),(7,some 33),(8,some 34),(9,some 35),(10,some 36),(11,some 37),(12,none)] (by kernel_rfl) (by kernel_rfl) (by decide) (by kernel_rfl) (fun _=>rfl) HC0 (fun _ _ hb h=>h.next hb) (by decide) ?_;apply DetR.next
   ·apply qaY [];exact fun _=>rfl;rfl;rintro vals - w1 hC1 E hE;simp only [sP] at hE ⊢;go_wp2;exact .mk hE
   apply DetR.next
   ·apply qaY [(0,some 26)];exact fun _=>rfl;rfl;intro vals vq w1 hC1 E hE;have d0:=hC1.h.cell 6;simp [csV,hC] at d0;simp only [sP,vq] at hE ⊢;clear vq;go_wp2;exact .mk hE
   apply DetR.next
   ·apply qaq;apply dP [];exact fun _=>rfl;rfl;intro vals vq w1 hC1 E hE;clear vq;simp only [sP] at hE ⊢;refine qac hC1.h rfl rfl rfl hu rfl qaJ ?_;go_wp2_with fail;exact .mk (hE _ hC1)
   apply DetR.next
   ·apply qaq;apply dP [];exact fun _=>rfl;rfl;intro vals vq w1 hC1 E hE;clear vq;simp only [sP] at hE ⊢;go_wp2;exact .mk (hE _ hC1)
   apply DetR.next
   ·apply qaq;apply dP [];exact fun _=>rfl;rfl;intro vals vq w1 hC1 E hE;clear vq;simp only [sP] at hE ⊢;go_wp2;exact .mk (hE _ hC1)
   apply DetR.next
   ·apply qaq;apply dP [(3,some 29),(4,some 30)];exact fun _=>rfl;rfl;intro vals vq w1 hC1 E hE;simp only [sP,vq] at hE ⊢;clear vq;go_wp2;exact .mk (hE _ hC1)
   apply DetR.next
   ·apply qaq;apply dP [(5,some 31)];exact fun _=>rfl;rfl;intro vals vq w1 hC1 E hE;have d0:=hC1.p.atN EP.out;simp only [sP,vq] at hE ⊢;clear vq;go_wp2;exact .mk (hE _ hC1)
   apply DetR.next
   ·apply qaq;apply dP [(6,some 32)];exact fun _=>rfl;rfl;intro vals vq w1 hC1 E hE;simp only [sP,vq] at hE ⊢;clear vq;go_wp2_with fail;refine qab (root3_any pn _ HPL.out) ?_;rintro e w2 ⟨rfl,hb2⟩;rw [← HRT.out];go_wp2_with fail;exact .mk (hE _ (hC1.next hb2))
   apply DetR.next
   ·apply qaq;apply dP [(2,some 28),(7,some 33),(7,some 33)];exact fun _=>rfl;rfl;intro vals vq w1 hC1 E hE;simp only [sP,vq] at hE ⊢;clear vq;go_wp2_with fail;refine qab (top_any 64 80 _ _ _ _ _ _ _ (.inr rfl) rt HRL.out) ?_;rintro e w2 ⟨rfl,hb2⟩;rw [← HKN.out];go_wp2_with fail;exact .mk (hE _ (hC1.next hb2))
   apply DetR.done;rintro vals ⟨⟨⟨⟨⟨⟨⟨⟨⟨-,f0⟩,f1⟩,f2⟩,f3⟩,f4⟩,f5⟩,f6⟩,f7⟩,f8⟩ w1 hC1;refine qaB [(8,some 34)] (fun _=>rfl) rfl ?_;intro E hE;simp only [sP,f8] at hE ⊢;go_wp2;refine .mk (hE _ _ (fun _=>below_new _ _) ?_);clear hE E;generalize hval:upd _ 9 _=vals9;replace f0:=uP hval (by decide) f0;replace f1:=uP hval (by decide) f1;replace f2:=uP hval (by decide) f2;replace f3:=uP hval (by decide) f3;replace f4:=uP hval (by decide) f4;replace f5:=uP hval (by decide) f5;replace f6:=uP hval (by decide) f6;replace f7:=uP hval (by decide) f7;replace f8:=uP hval (by decide) f8;have f9:=(congrFun hval 9).symm.trans (qay _ _ _);clear hval;refine qaB [(1,some 27),(9,some 35),(8,some 34)] (fun _=>rfl) rfl ?_;intro E hE;simp only [sP,f1,f8,f9] at hE ⊢;refine qao qb7 rfl rfl (show OwnX w1 g0 76 1 (.slice A n c) n (wordsV .u64 L) by have:=hC1.k; rwa [HL.out] at this) rfl rfl rfl rfl (by unfold maxLen; omega) (by omega) (by have:=hC1.res.lt; dsimp only at this; omega) ?_;intro A6 c6 w6 hown6 hg6 hn6;have hap:=hC1.appK (v':=.slice A6 (n+1) c6) (x:=kn) (by rw [HL.out]; exact hown6) hg6 (rfl);have HAP:=zY hap;clear hap hown6 hg6 hn6;go_wp2_with fail;refine .mk (hE _ _ (fun h=>absurd h (by decide)) ?_);clear hE E;generalize hval:upd _ 10 _=vals10;replace f0:=uP hval (by decide) f0;replace f1:=uP hval (by decide) f1;replace f2:=uP hval (by decide) f2;replace f3:=uP hval (by decide) f3;replace f4:=uP hval (by decide) f4;replace f5:=uP hval (by decide) f5;replace f6:=uP hval (by decide) f6;replace f7:=uP hval (by decide) f7;replace f8:=uP hval (by decide) f8;replace f9:=uP hval (by decide) f9;have f10:=(congrFun hval 10).symm.trans (qay _ _ _);clear hval;refine qaB [(0,some 26),(1,some 27),(2,some 28),(3,some 29),(4,some 30),(5,some 31),(6,some 32),(7,some 33),(8,some 34),(9,some 35),(10,some 36)] (fun _=>rfl) rfl ?_;intro E hE;simp only [sP,f0,f1,f2,f3,f4,f5,f6,f7,f8,f9,f10] at hE ⊢;go_wp2;refine .mk (hE _ _ (fun h=>absurd h (by decide)) ?_);clear hE E;generalize hval:upd _ 11 _=vals11;replace f0:=uP hval (by decide) f0;replace f1:=uP hval (by decide) f1;replace f2:=uP hval (by decide) f2;replace f3:=uP hval (by decide) f3;replace f4:=uP hval (by decide) f4;replace f5:=uP hval (by decide) f5;replace f6:=uP hval (by decide) f6;replace f7:=uP hval (by decide) f7;replace f8:=uP hval (by decide) f8;replace f9:=uP hval (by decide) f9;replace f10:=uP hval (by decide) f10;have f11:=(congrFun hval 11).symm.trans (qay _ _ _);clear hval;refine qaB [(11,some 37),(10,some 36),(10,some 36),(0,some 26),(1,some 27),(2,some 28),(3,some 29),(4,some 30),(5,some 31),(6,some 32),(7,some 33),(8,some 34),(9,some 35),(10,some 36)] (fun _=>rfl) rfl ?_;intro E hE;simp only [sP,f0,f1,f2,f3,f4,f5,f6,f7,f8,f9,f10,f11] at hE ⊢;refine qam (i:=6) (v:=.slice A6 (n+1) c6) HAP.out.h rfl rfl rfl rfl qdJ (show 6<8 by decide) rfl ?_;intro w7 hb7 hw7;have HFIN:=zY (HAP.out.put hw7 hb7 HD.out);clear hb7 hw7;go_wp2_with fail;refine .mk (hE undef _ (fun h=>absurd h (by decide)) ?_);clear hE E;generalize hval:upd _ 12 _=vals12;replace f0:=uP hval (by decide) f0;replace f1:=uP hval (by decide) f1;replace f2:=uP hval (by decide) f2;replace f3:=uP hval (by decide) f3;replace f4:=uP hval (by decide) f4;replace f5:=uP hval (by decide) f5;replace f6:=uP hval (by decide) f6;replace f7:=uP hval (by decide) f7;replace f8:=uP hval (by decide) f8;replace f9:=uP hval (by decide) f9;replace f10:=uP hval (by decide) f10;replace f11:=uP hval (by decide) f11;have f12:=(congrFun hval 12).symm.trans (qay _ _ _);clear hval;refine qce ?_;simp only [sP,f0,f1,f2,f3,f4,f5,f6,f7,f8,f9,f10,f11,f12];clear f0 f1 f2 f3 f4 f5 f6 f7 f8 f9 f10 f11 f12;clear HC0 HAP hC1;go_wp2_with fail;refine ⟨⟨n+1,A6,c6,by omega,by go_num,?_⟩,by simp [intOf]; omega⟩;rw [HNX.out];exact HFIN.out
  ·obtain rfl:n=80:=by omega
   rw [List.take_of_length_le (by rw [qbn]; exact Nat.le_refl _)] at hst;obtain ⟨gk,rfl,hk1,hk2⟩:=(show OwnX wr g0 76 1 (.slice A 80 c) 80 (wordsV .u64 (kL F64)) by have:=hst.k; rwa [qbn] at this).ptr (by decide)
   have hck:80≤c:=by
    have ho:OwnX wr g0 76 1 (.slice (some ⟨gk,0,none⟩) 80 c) 80 (wordsV .u64 (kL F64)):=by have:=hst.k; rwa [qbn] at this
    exact ho.le_cap
   have hst1:OfSt w ⟨g0,gh,ga,gb,gc,gd⟩ F64 zH (.slice (some ⟨gp,0,none⟩) 80 pc) (csV 64 80 ga gb gc gd (.slice (some ⟨gk,0,none⟩) 80 c) (.slice none 0 0)) (.slice (some ⟨gk,0,none⟩) 80 c) (kL F64) (.slice none 0 0) ((s8L (startS F64)).take 0) wr:=hst;have HST0:=zY hst1;have HK1:=zY hk1;clear hst hst1 hk1 hk2;obtain ⟨ck,rfl⟩:=eX c;go_wp2_with fail;clear d1;obtain ⟨wo,rfl⟩:∃ wo:World,wo=wr:=⟨_,rfl⟩
   go_loopw [6] (fun i wr=>∃ (n:Nat) (A:Option Addr) (c:Nat),n≤8∧i=.int .i64 n∧OfSt w ⟨g0,gh,ga,gb,gc,gd⟩ F64 zH (.slice (some ⟨gp,0,none⟩) 80 pc) (csV 64 80 ga gb gc gd (.slice (some ⟨gk,0,none⟩) 80 ck) (.slice A n c)) (.slice (some ⟨gk,0,none⟩) 80 ck) (kL F64) (.slice A n c) ((s8L (startS F64)).take n) wr) (fun i _=>8 - (intOf i).toNat)
   case atStart=>exact ⟨0,none,0,by omega,rfl,HST0.out⟩
   case round =>
    clear HST0;obtain ⟨n,A,c,hn,rfl,hst⟩:=hrel
    by_cases hnl:n<8
    ·have hnl':(n:Int)<8:=by omega
     obtain ⟨L,hL⟩:=eX ((s8L (startS F64)).take n);have hLl:L.length=n:=by rw [hL,List.length_take,show (s8L (startS F64)).length=8 from rfl]; omega
     obtain ⟨pn,hpn⟩:=eX (primes80.getD n 0);have hpl:pn<65536:=by rw [hpn]; exact qdN n (by omega)
     have hrt:rootN pn 2=firstN.getD n 0:=by rw [hpn]; exact rootN2 n hnl
     obtain ⟨rt,hrt2⟩:=eX (rootN pn 2);have hrl:rt<18446744073709551616:=by rw [hrt2,rootN]; exact Nat.mod_lt _ (by decide)
     obtain ⟨kn,hkn⟩:=eX (rt/2^(64 - 64)%2^64)
     have hnx:(s8L (startS F64)).take (n+1)=L++[kn]:=by
      rw [hkn,hrt2,hrt,hL];exact start_take F64 n hnl
     have ep:(wordsV .i64 primes80)[n]?=some (.int .i64 (pn:Int)):=by rw [hpn]; exact qaF (show n<80 by omega)
     rw [← hL] at hst;have HL:=zY hLl;have HPL:=zY hpl;have HRT:=zY hrt2;have HRL:=zY hrl;have HKN:=zY hkn;have HNX:=zY hnx;have EP:=zY ep;have hn80:n<80:=by omega
     have HC0:=hst.drew;have HST1:=zY hst;clear hL hLl hpn hpl hrt hrt2 hrl hkn hnx ep hst;go_wp2_with fail;clear HST1;refine qbf (fun u=>OfSt w ⟨g0,gh,ga,gb,gc,gd⟩ F64 zH (.slice (some ⟨gp,0,none⟩) 80 pc) (csV 64 80 ga gb gc gd (.slice (some ⟨gk,0,none⟩) 80 ck) (.slice A n c)) (.slice (some ⟨gk,0,none⟩) 80 ck) (kL F64) (.slice A n c) L u) (fun i=>i == 0 || i == 1) 9 10 [(0,some 42),(1,some 43),(2,some 44),(3,some 45),(4,some 46),(5,some 47),(6,some 48),(7,some 49),(8,some 50),(9,some 51),(10,some 52),(11,some 53),(12,none)] (by kernel_rfl) (by kernel_rfl) (by decide) (by kernel_rfl) (fun _=>rfl) HC0 (fun _ _ hb h=>h.next hb) (by decide) ?_;apply DetR.next
     ·apply qaY [];exact fun _=>rfl;rfl;rintro vals - w1 hC1 E hE;simp only [sP] at hE ⊢;go_wp2;exact .mk hE
     apply DetR.next
     ·apply qaY [(0,some 42)];exact fun _=>rfl;rfl;intro vals vq w1 hC1 E hE;have d0:=hC1.h.cell 7;simp [csV,hC] at d0;simp only [sP,vq] at hE ⊢;clear vq;go_wp2;exact .mk hE
     apply DetR.next
     ·apply qaq;apply dP [];exact fun _=>rfl;rfl;intro vals vq w1 hC1 E hE;clear vq;simp only [sP] at hE ⊢;refine qac hC1.h rfl rfl rfl hu rfl qaJ ?_;go_wp2_with fail;exact .mk (hE _ hC1)
     apply DetR.next
     ·apply qaq;apply dP [];exact fun _=>rfl;rfl;intro vals vq w1 hC1 E hE;clear vq;simp only [sP] at hE ⊢;go_wp2;exact .mk (hE _ hC1)
     apply DetR.next
     ·apply qaq;apply dP [];exact fun _=>rfl;rfl;intro vals vq w1 hC1 E hE;clear vq;simp only [sP] at hE ⊢;go_wp2;exact .mk (hE _ hC1)
     apply DetR.next
     ·apply qaq;apply dP [(3,some 45),(4,some 46)];exact fun _=>rfl;rfl;intro vals vq w1 hC1 E hE;simp only [sP,vq] at hE ⊢;clear vq;go_wp2;exact .mk (hE _ hC1)
     apply DetR.next
     ·apply qaq;apply dP [(5,some 47)];exact fun _=>rfl;rfl;intro vals vq w1 hC1 E hE;have d0:=hC1.p.atN EP.out;simp only [sP,vq] at hE ⊢;clear vq;go_wp2;exact .mk (hE _ hC1)
     apply DetR.next
     ·apply qaq;apply dP [(6,some 48)];exact fun _=>rfl;rfl;intro vals vq w1 hC1 E hE;simp only [sP,vq] at hE ⊢;clear vq;go_wp2_with fail;refine qab (root2_any pn _ HPL.out) ?_;rintro e w2 ⟨rfl,hb2⟩;rw [← HRT.out];go_wp2_with fail;exact .mk (hE _ (hC1.next hb2))
     apply DetR.next
     ·apply qaq;apply dP [(2,some 44),(7,some 49),(7,some 49)];exact fun _=>rfl;rfl;intro vals vq w1 hC1 E hE;simp only [sP,vq] at hE ⊢;clear vq;go_wp2_with fail;refine qab (top_any 64 80 _ _ _ _ _ _ _ (.inr rfl) rt HRL.out) ?_;rintro e w2 ⟨rfl,hb2⟩;rw [← HKN.out];go_wp2_with fail;exact .mk (hE _ (hC1.next hb2))
     apply DetR.done;rintro vals ⟨⟨⟨⟨⟨⟨⟨⟨⟨-,f0⟩,f1⟩,f2⟩,f3⟩,f4⟩,f5⟩,f6⟩,f7⟩,f8⟩ w1 hC1;refine qaB [(8,some 50)] (fun _=>rfl) rfl ?_;intro E hE;simp only [sP,f8] at hE ⊢;go_wp2;refine .mk (hE _ _ (fun _=>below_new _ _) ?_);clear hE E;generalize hval:upd _ 9 _=vals9;replace f0:=uP hval (by decide) f0;replace f1:=uP hval (by decide) f1;replace f2:=uP hval (by decide) f2;replace f3:=uP hval (by decide) f3;replace f4:=uP hval (by decide) f4;replace f5:=uP hval (by decide) f5;replace f6:=uP hval (by decide) f6;replace f7:=uP hval (by decide) f7;replace f8:=uP hval (by decide) f8;have f9:=(congrFun hval 9).symm.trans (qay _ _ _);clear hval;refine qaB [(1,some 43),(9,some 51),(8,some 50)] (fun _=>rfl) rfl ?_;intro E hE;simp only [sP,f1,f8,f9] at hE ⊢;refine qao qb7 rfl rfl (show OwnX w1 g0 76 1 (.slice A n c) n (wordsV .u64 L) by have:=hC1.f; rwa [HL.out] at this) rfl rfl rfl rfl (by unfold maxLen; omega) (by omega) (by have:=hC1.res.lt; dsimp only at this; omega) ?_;intro A6 c6 w6 hown6 hg6 hn6;have hap:=hC1.appF (v':=.slice A6 (n+1) c6) (x:=kn) (by rw [HL.out]; exact hown6) hg6 (hn6);have HAP:=zY hap;clear hap hown6 hg6 hn6;go_wp2_with fail;refine .mk (hE _ _ (fun h=>absurd h (by decide)) ?_);clear hE E;generalize hval:upd _ 10 _=vals10;replace f0:=uP hval (by decide) f0;replace f1:=uP hval (by decide) f1;replace f2:=uP hval (by decide) f2;replace f3:=uP hval (by decide) f3;replace f4:=uP hval (by decide) f4;replace f5:=uP hval (by decide) f5;replace f6:=uP hval (by decide) f6;replace f7:=uP hval (by decide) f7;replace f8:=uP hval (by decide) f8;replace f9:=uP hval (by decide) f9;have f10:=(congrFun hval 10).symm.trans (qay _ _ _);clear hval;refine qaB [(0,some 42),(1,some 43),(2,some 44),(3,some 45),(4,some 46),(5,some 47),(6,some 48),(7,some 49),(8,some 50),(9,some 51),(10,some 52)] (fun _=>rfl) rfl ?_;intro E hE;simp only [sP,f0,f1,f2,f3,f4,f5,f6,f7,f8,f9,f10] at hE ⊢;go_wp2;refine .mk (hE _ _ (fun h=>absurd h (by decide)) ?_);clear hE E;generalize hval:upd _ 11 _=vals11;replace f0:=uP hval (by decide) f0;replace f1:=uP hval (by decide) f1;replace f2:=uP hval (by decide) f2;replace f3:=uP hval (by decide) f3;replace f4:=uP hval (by decide) f4;replace f5:=uP hval (by decide) f5;replace f6:=uP hval (by decide) f6;replace f7:=uP hval (by decide) f7;replace f8:=uP hval (by decide) f8;replace f9:=uP hval (by decide) f9;replace f10:=uP hval (by decide) f10;have f11:=(congrFun hval 11).symm.trans (qay _ _ _);clear hval;refine qaB [(11,some 53),(10,some 52),(10,some 52),(0,some 42),(1,some 43),(2,some 44),(3,some 45),(4,some 46),(5,some 47),(6,some 48),(7,some 49),(8,some 50),(9,some 51),(10,some 52)] (fun _=>rfl) rfl ?_;intro E hE;simp only [sP,f0,f1,f2,f3,f4,f5,f6,f7,f8,f9,f10,f11] at hE ⊢;refine qam (i:=7) (v:=.slice A6 (n+1) c6) HAP.out.h rfl rfl rfl rfl qdJ (show 7<8 by decide) rfl ?_;intro w7 hb7 hw7;have HFIN:=zY (HAP.out.put hw7 hb7 HD.out);clear hb7 hw7;go_wp2_with fail;refine .mk (hE undef _ (fun h=>absurd h (by decide)) ?_);clear hE E;generalize hval:upd _ 12 _=vals12;replace f0:=uP hval (by decide) f0;replace f1:=uP hval (by decide) f1;replace f2:=uP hval (by decide) f2;replace f3:=uP hval (by decide) f3;replace f4:=uP hval (by decide) f4;replace f5:=uP hval (by decide) f5;replace f6:=uP hval (by decide) f6;replace f7:=uP hval (by decide) f7;replace f8:=uP hval (by decide) f8;replace f9:=uP hval (by decide) f9;replace f10:=uP hval (by decide) f10;replace f11:=uP hval (by decide) f11;have f12:=(congrFun hval 12).symm.trans (qay _ _ _);clear hval;refine qce ?_;simp only [sP,f0,f1,f2,f3,f4,f5,f6,f7,f8,f9,f10,f11,f12];clear f0 f1 f2 f3 f4 f5 f6 f7 f8 f9 f10 f11 f12;clear HC0 HAP hC1;go_wp2_with fail;refine ⟨⟨n+1,A6,c6,by omega,by go_num,?_⟩,by simp [intOf]; omega⟩;rw [HNX.out];exact HFIN.out
    ·obtain rfl:n=8:=by omega
     rw [show (s8L (startS F64)).take 8=s8L (startS F64) from rfl] at hst;obtain ⟨gz,rfl,hz1,hz2⟩:=(show OwnX wr g0 76 1 (.slice A 8 c) 8 (wordsV .u64 (s8L (startS F64))) from hst.f).ptr (by decide);have hcz:8≤c:=(show OwnX wr g0 76 1 (.slice (some ⟨gz,0,none⟩) 8 c) 8 (wordsV .u64 (s8L (startS F64))) from hst.f).le_cap;have HST2:=zY hst;clear hz1 hz2 hst
     go_wp2_with (first
      | (refine qac (x:=.tmp 3) HST2.out.h rfl rfl rfl hu rfl qaJ ?_)
      | (refine qad (x:=.tmp 2) (cells:=csV 64 80 ga gb gc gd (.slice (some ⟨gk,0,none⟩) 80 ck) (.slice (some ⟨gz,0,none⟩) 8 c)) HST2.out.res rfl rfl rfl rfl qaJ rfl (by simp [csV,hC,Value.oneCell']) ?_; intro w5 hb5 hw5))
     refine bodyPost_ret (qau (P:=Tryz.prog) rfl rfl hb5 hu rfl qaJ) rfl ?_;have h2:=HST2.out;have hdl:=HLT.out;refine ⟨⟨⟨ga,0,none⟩,⟨gb,0,none⟩,⟨gc,0,none⟩,⟨gd,0,none⟩,⟨gk,0,none⟩,⟨gz,0,none⟩,3,3,3,3,ck,c⟩,rfl,?_,?_⟩
     ·have k1:=hw5.blk h2.a (by dsimp only; omega);have k2:=hw5.blk h2.b (by dsimp only; omega);have k3:=hw5.blk h2.c (by dsimp only; omega);have k4:=hw5.blk h2.d (by dsimp only; omega);have k5:=hw5.own h2.k (qaI h2.k h2.res (by decide));have k6:=hw5.own h2.f (qaI h2.f h2.res (by decide));exact ⟨Rd.of_blk k1 k1.lt,Rd.of_blk k2 k2.lt,Rd.of_blk k3 k3.lt,Rd.of_blk k4 k4.lt,Rd.of_own (n:=80) (by rw [qbn] at k5; exact k5) (Nat.le_refl _),Rd.of_own (n:=8) k6 (Nat.le_refl _),Nat.le_refl _,Nat.le_refl _,Nat.le_refl _,Nat.le_refl _,hck,hcz⟩
     ·rw [← HG0.out];exact hw5.below h2.bel (Nat.le_refl _) (by have:=h2.res.lt; dsimp only at this; omega)
theorem r512z_any (data:List UInt8) (A:Option Addr) (c B:Nat) (w:World) (hr:Rd w B A (bytesV data)) (hB:B≤w.heap.size) (hl:data.length≤1000) (hc:data.length≤c) :
  Calls Tryz.prog 54 #[.slice A data.length c] w (HSumPostZ F64 64 data w):=by
 have HR:=zY hr;have hu:=Tryz.underlying108;clear hr;go_enter Tryz.func54,Tryz.ntmps54;go_wp2_with fail;refine qab (of64_any w) ?_;rintro e w1 ⟨p,rfl,hok,hb1⟩;have HOK:=zY hok;have HB1:=zY hb1;clear hok hb1
 go_wp2_with (first
  | (refine qad (x:=.tmp 3) (cells:=hv F64 p) (Blk.new w1 108 zH) rfl rfl rfl rfl qaJ rfl (by simp [hv,hC,Value.oneCell']) ?_; intro w2 hb2 hw2; have HB2:=zY hb2; have HW2:=zY hw2; clear hb2 hw2)
  | (refine qac (x:=.tmp 3) HB2.out rfl rfl rfl hu rfl qaJ ?_))
 have hbel:Below w1.heap.size w1 w2:=HW2.out.below (below_new _ _) (Nat.le_refl _) (by simp);have hsz:w1.heap.size+1=w2.heap.size:=by rw [HW2.out.size]; simp
 refine qab (hsum64z_any p data A c w1.heap.size w2 (HOK.out.below hbel) (((HR.out.mono hB).below HB1.out).mono HB1.out.size |>.below hbel) (by omega) hl hc) ?_;rintro e w3 ⟨A3,c3,rfl,ho3,hb3⟩;have HO3:=zY ho3;have HB3:=zY hb3;have HBEL:=zY hbel;have HSZ:=zY hsz;clear ho3 hb3 hbel hsz;go_wp2_with fail;go_ret;exact ⟨A3,c3,rfl,ownZ_mono HO3.out (by have:=HB1.out.size; have:=HSZ.out; omega),HB1.out.trans ((HBEL.out.mono HB1.out.size).trans (HB3.out.mono (by have:=HB1.out.size; have:=HSZ.out; omega)))⟩
end Go.Proofs.YtcbkaaodmjphdaaGreatDoor.Sh
namespace Go.Proofs.YtcbkaaodmjphdaaGreatDoor
set_option linter.unusedSimpArgs false
set_option linter.unusedVariables false
set_option maxRecDepth 100000
set_option maxHeartbeats 4000000
open Go.RowKit
theorem rsecret_any (data:List UInt8) (A:Option Addr) (c:Nat) (w:World) (hr:Rd w w.heap.size A (bytesV data)) (hl:data.length≤1000) (hc:data.length≤c) :
  Calls Tryz.prog 36 #[.slice A data.length c] w (SecPost (secL data) w):=by
 have hs:=Sh.r512z_any data A c w.heap.size w hr (Nat.le_refl _) hl hc;obtain ⟨n,hn⟩:=eX (data.length);rw [← hn] at hs ⊢;have HS:=zY hs;have hn63:(n:Int)≤1000:=by omega
 clear hr hs hl hc hn;go_enter Tryz.func36,Tryz.ntmps36;go_wp2_with fail;refine qab HS.out ?_;rintro e w1 ⟨A1,c1,rfl,ho,hb⟩;have hcap:=qcj ho.x;obtain ⟨g,ys,rfl,hg,_,hblk⟩:=ho.blk (by decide)
 have hlen:(secD data).length=64:=by
  have h:=ho.1;rw [qap] at h;rw [secD,digs,List.length_map,h]
 rw [← bnV_digs'] at hblk;obtain ⟨L,hL⟩:=eX (secD data);have hdg:Dg L:=by rw [hL]; exact digs_dg _
 rw [← hL] at hlen;have hst:SecW w g ys L w1:=⟨hb,by rw [hL]; exact hblk,hg⟩;have hkl:secL data=clampL L:=by rw [hL]; rfl
 obtain ⟨x,hx⟩:=eX (L.getD 0 0);obtain ⟨y,hy⟩:=eX (L.getD 31 0);have hxl:x<256:=by rw [hx]; exact qa3 hdg 0
 have hyl:y<256:=by rw [hy]; exact qa3 hdg 31
 obtain ⟨r,hrr⟩:=eX (x%8);obtain ⟨s,hss⟩:=eX (x - x%8);obtain ⟨t,ht⟩:=eX (y%64);obtain ⟨z,hz⟩:=eX (y%64+64);have hri:(x:Int)%8=(r:Int):=by omega
 have hsi:(x:Int) - (r:Int)=(s:Int):=by omega
 have hti:(y:Int)%64=(t:Int):=by omega
 have hzi:(t:Int)+64=(z:Int):=by omega
 have hxl':(x:Int)<256:=by omega
 have hsl':(s:Int)<256:=by omega
 have hyl':(y:Int)<256:=by omega
 have hzl':(z:Int)<256:=by omega
 have hkl2:secL data=(L.set 0 s).set 31 z:=by rw [hkl,clampL,← hx,← hy,← hss,← hz]
 have d0:∀ u,SecW w g ys L u→u.cell? ⟨g,0,none⟩=some (.int .u8 (x:Int)):=fun u h=>by rw [h.x.cell,qc2 (by omega),hx]
 have d1:∀ u,SecW w g ys (L.set 0 s) u→u.cell? ⟨g,31,none⟩=some (.int .u8 (y:Int)):=fun u h=>by
  rw [h.x.cell,qc2 (by rw [List.length_set]; omega),List.getD_eq_getElem?_getD,List.getElem?_set_ne (by decide),← List.getD_eq_getElem?_getD,hy]
 have D0:=zY d0;have D1:=zY d1;have HLEN:=zY hlen;have HKL:=zY hkl2;have hc64:64≤c1:=hcap.1;have hc63:c1≤9223372036854775807:=hcap.2;have HST:=zY hst;clear d0 d1 hst hkl hkl2 hx hy hrr hss ht hz hL hdg hlen ho hb hg hblk hxl hyl hcap;go_wp2_with fail;have HC0:=HST.out.drew;clear HST;refine qal (fun u=>SecW w g ys L u) (fun u=>SecW w g ys (L.set 0 s) u) [(0,some 7),(1,some 8),(2,some 9),(3,some 10),(4,some 11),(5,some 12),(6,some 13),(7,some 14),(8,some 15),(9,some 16),(10,none)] (by kernel_rfl) (by kernel_rfl) (by decide) (by kernel_rfl) (fun _=>rfl) HC0 ?_;apply yN_
 ·apply dP [];exact fun _=>rfl;rfl;rintro vals - w1 hC1 E hE;simp only [sP] at hE ⊢;go_wp2;exact .mk (hE _ hC1)
 apply yN_
 ·apply dP [];exact fun _=>rfl;rfl;rintro vals ⟨-,-⟩ w1 hC1 E hE;simp only [sP] at hE ⊢;go_wp2;exact .mk (hE _ hC1)
 apply yN_
 ·apply dP [(1,some 8)];exact fun _=>rfl;rfl;intro vals vq w1 hC1 E hE;simp only [sP,vq] at hE ⊢;clear vq;go_wp2;exact .mk (hE _ hC1)
 apply yN_
 ·apply dP [(2,some 9)];exact fun _=>rfl;rfl;intro vals vq w1 hC1 E hE;have d0:=D0.out _ hC1;simp only [sP,vq] at hE ⊢;clear vq;go_wp2;exact .mk (hE _ hC1)
 apply yN_
 ·apply dP [];exact fun _=>rfl;rfl;intro vals vq w1 hC1 E hE;clear vq;simp only [sP] at hE ⊢;go_wp2;exact .mk (hE _ hC1)
 apply yN_
 ·apply dP [(4,some 11)];exact fun _=>rfl;rfl;intro vals vq w1 hC1 E hE;simp only [sP,vq] at hE ⊢;clear vq;go_wp2;exact .mk (hE _ hC1)
 apply yN_
 ·apply dP [(5,some 12)];exact fun _=>rfl;rfl;intro vals vq w1 hC1 E hE;have d0:=D0.out _ hC1;simp only [sP,vq] at hE ⊢;clear vq;go_wp2;exact .mk (hE _ hC1)
 apply yN_
 ·apply dP [(6,some 13)];exact fun _=>rfl;rfl;intro vals vq w1 hC1 E hE;simp only [sP,vq] at hE ⊢;clear vq;go_wp2;exact .mk (hE _ hC1)
 apply yN_
 ·apply dP [(3,some 10),(7,some 14)];exact fun _=>rfl;rfl;intro vals vq w1 hC1 E hE;simp only [sP,vq] at hE ⊢;clear vq;go_wp2;exact .mk (hE _ hC1)
 apply yN_
 ·apply dP [(0,some 7),(0,some 7),(1,some 8),(2,some 9),(3,some 10),(4,some 11),(5,some 12),(6,some 13),(7,some 14),(8,some 15)];exact fun _=>rfl;rfl;intro vals vq w1 hC1 E hE;simp only [sP,vq] at hE ⊢;clear vq;go_wp2;exact .mk (hE _ hC1)
 apply yL_ (v:=undef)
 ·apply dP [(9,some 16),(8,some 15),(0,some 7),(1,some 8),(2,some 9),(3,some 10),(4,some 11),(5,some 12),(6,some 13),(7,some 14),(8,some 15)];exact fun _=>rfl;rfl;intro vals vq w1 hC1 E hE;have d0:=D0.out _ hC1;have q0:=hC1.x.free 0;simp only [sP,vq] at hE ⊢;clear vq;go_wp2;refine .mk (hE _ (hC1.put (qai _ _ _ _) ?_));have h:=qak (i:=0) hC1.x (.int .u8 (s:Int));rw [qd2 (by rw [HLEN.out]; decide)] at h;exact h
 intro vals vq w1 hC1;simp only [sP,vq];clear vq;have d0:=D1.out _ hC1;have q0:=hC1.x.free 31;have HST:=zY hC1;clear HC0 hC1;go_wp2_with fail;have h9:=qak (i:=31) HST.out.x (.int .u8 (z:Int));rw [qd2 (by rw [List.length_set,HLEN.out]; decide),← HKL.out] at h9;have HC0:=(HST.out.put (qai _ _ _ _) h9).drew;clear h9 d0 q0 HST;refine qal (fun u=>SecW w g ys (secL data) u) (fun u=>SecW w g ys (secL data) u) [(0,some 24),(1,some 25),(2,some 26),(3,some 27),(4,some 2),(5,some 3)] (by kernel_rfl) (by kernel_rfl) (by decide) (by kernel_rfl) (fun _=>rfl) HC0 ?_;apply yN_
 ·apply dP [];exact fun _=>rfl;rfl;rintro vals - w1 hC1 E hE;simp only [sP] at hE ⊢;go_wp2;exact .mk (hE _ hC1)
 apply yN_
 ·apply dP [(0,some 24)];exact fun _=>rfl;rfl;intro vals vq w1 hC1 E hE;simp only [sP,vq] at hE ⊢;clear vq;go_wp2;exact .mk (hE _ hC1)
 apply yN_
 ·apply dP [];exact fun _=>rfl;rfl;intro vals vq w1 hC1 E hE;clear vq;simp only [sP] at hE ⊢;go_wp2;exact .mk (hE _ hC1)
 apply yN_
 ·apply dP [(2,some 26)];exact fun _=>rfl;rfl;intro vals vq w1 hC1 E hE;simp only [sP,vq] at hE ⊢;clear vq;go_wp2;exact .mk (hE _ hC1)
 apply yN_
 ·apply dP [(1,some 25),(0,some 24),(1,some 25)];exact fun _=>rfl;rfl;intro vals vq w1 hC1 E hE;simp only [sP,vq] at hE ⊢;clear vq;go_wp2;exact .mk (hE _ hC1)
 apply yL_
 ·apply dP [(3,some 27),(4,some 2),(0,some 24),(1,some 25),(2,some 26),(3,some 27),(4,some 2)];exact fun _=>rfl;rfl;intro vals vq w1 hC1 E hE;simp only [sP,vq] at hE ⊢;clear vq;go_wp2;exact .mk (hE _ hC1)
 intro vals vq w1 hC1;simp only [sP,vq];clear vq;obtain ⟨h1,h2⟩:=sec_rd hC1.x;have HF:=zY (And.intro h1 (And.intro h2 hC1.bel));clear HC0 hC1 h1 h2;go_wp2_with fail;go_ret2;exact ⟨_,_,_,_,rfl,by omega,by omega,HF.out⟩
def e1L:List Nat:=254 :: (List.replicate 30 255++[15])
def e2L:List Nat:=251 :: (List.replicate 30 255++[31])
theorem e1L_end:((fillL 32).set 0 254).set 31 15=e1L:=by decide
theorem e2L_end:((fillL 32).set 0 251).set 31 31=e2L:=by decide
theorem e1L_dg:Dg e1L:=by unfold Dg; decide
theorem e2L_dg:Dg e2L:=by unfold Dg; decide
theorem e1L_len:e1L.length=32:=by decide
theorem e2L_len:e2L.length=32:=by decide
def rtV (a x q:Nat):Nat:=if decide (x*x%PN=a) then x else x*q%PN
def rtB (a x q:Nat):Bool:=if decide (x*x%PN=a) then true else decide (x*q%PN*(x*q%PN)%PN=a)
def RootPost (v:Nat) (b:Bool) (w:World) (e:Ending) (w':World):Prop:=∃ A c,e=.returned (.tuple #[.slice A 32 c,.bool b])∧32≤c∧Rd w' w'.heap.size A (DN v)∧Below w.heap.size w w'
theorem nroot_any {a x q:Nat} (ha:a<PN) (hx:x=a^leV e1L%PN) (hq:q=2^leV e2L%PN) {A:Option Addr} {c:Nat} (hc:32≤c) {w:World} (h:Rd w w.heap.size A (DN a)) :
  Calls Tryz.prog 88 #[.slice A 32 c] w (RootPost (rtV a x q) (rtB a x q) w):=by
 have hmk:∀ u:World,(Instr.makeSlice 86 (.int .i64 32) (.int .i64 32)).run Tryz.prog u=.ok (.slice (some ⟨u.heap.size,0,none⟩) 32 32) (u.alloc (.cells (dV (fillL 0)).toArray 3)):=fun _=>by kernel_rfl
 obtain ⟨x2,hx2⟩:=eX (x*x%PN);obtain ⟨y,hy⟩:=eX (x*q%PN);obtain ⟨y2,hy2⟩:=eX (y*y%PN);have lx:x<PN:=by rw [hx]; exact Nat.mod_lt _ qea
 have lq:q<PN:=by rw [hq]; exact Nat.mod_lt _ qea
 have lx2:x2<PN:=by rw [hx2]; exact Nat.mod_lt _ qea
 have ly:y<PN:=by rw [hy]; exact Nat.mod_lt _ qea
 have ly2:y2<PN:=by rw [hy2]; exact Nat.mod_lt _ qea
 obtain ⟨s1,hs1⟩:=eX (decide (x2=a));obtain ⟨s2,hs2⟩:=eX (decide (y2=a));have hv:rtV a x q=if s1 then x else y:=by rw [hs1,hx2,hy]; rfl
 have hb:rtB a x q=if s1 then true else s2:=by rw [hs1,hs2,hy2,hx2,hy]; rfl
 generalize rtV a x q=V at *;generalize rtB a x q=b at *;have HV:=zY hv;have HB:=zY hb;have C1:=zY (show ∀ u B d,Rd u u.heap.size A (DN a)→Rd u u.heap.size B (dV e1L)→Calls Tryz.prog 84 #[.slice A 32 c,.slice B 32 d] u (NumPost x u) from fun u B d h k=>by rw [hx]; exact npow ha e1L_dg e1L_len h k);have C2:=zY (show ∀ u B d,Rd u u.heap.size B (DN x)→Calls Tryz.prog 60 #[.slice B 32 d,.slice B 32 d] u (NumPost x2 u) from fun u B d k=>by rw [hx2]; exact nmul lx lx k k);have C3:=zY (show ∀ u B d,Rd u u.heap.size B (DN x2)→Rd u u.heap.size A (DN a)→32≤d→Calls Tryz.prog 89 #[.slice B 32 d,.slice A 32 c] u (BoolPost s1 u) from fun u B d h k hd=>by rw [hs1]; exact nsame lx2 ha h k hd hc);have C4:=zY (show ∀ u,Calls Tryz.prog 57 #[.int .i64 2] u (NumPost 2 u) from fun u=>nint 2 (by decide) u);have C5:=zY (show ∀ u B d D e,Rd u u.heap.size B (DN 2)→Rd u u.heap.size D (dV e2L)→Calls Tryz.prog 84 #[.slice B 32 d,.slice D 32 e] u (NumPost q u) from fun u B d D e h k=>by rw [hq]; exact npow (by decide) e2L_dg e2L_len h k);have C6:=zY (show ∀ u B d D e,Rd u u.heap.size B (DN x)→Rd u u.heap.size D (DN q)→Calls Tryz.prog 60 #[.slice B 32 d,.slice D 32 e] u (NumPost y u) from fun u B d D e h k=>by rw [hy]; exact nmul lx lq h k);have C7:=zY (show ∀ u B d,Rd u u.heap.size B (DN y)→Calls Tryz.prog 60 #[.slice B 32 d,.slice B 32 d] u (NumPost y2 u) from fun u B d k=>by rw [hy2]; exact nmul ly ly k k);have C8:=zY (show ∀ u B d,Rd u u.heap.size B (DN y2)→Rd u u.heap.size A (DN a)→32≤d→Calls Tryz.prog 89 #[.slice B 32 d,.slice A 32 c] u (BoolPost s2 u) from fun u B d h k hd=>by rw [hs2]; exact nsame ly2 ha h k hd hc);have HA:=zY h;have hst0:=qdF (fillL 0) (Below.refl w.heap.size w);have HST0:=zY hst0;clear hst0 h hx hq hx2 hy hy2 lx lq lx2 ly ly2 hs1 hs2 hv hb hc ha;go_enter Tryz.func88,Tryz.ntmps88;go_wp2_with fail;generalize ho:w.heap.size=o at HST0 ⊢;have HMK:=zY hmk;have HO:=zY ho;clear ho hmk
 go_loopw [5] (fun i wr=>∃ k:Nat,k≤32∧i=.int .i64 k∧D1 w o (fillL k) wr) (fun i _=>32 - (intOf i).toNat)
 case atStart=>exact ⟨0,by omega,rfl,HST0.out⟩
 case round =>
  clear HST0;obtain ⟨k,hk,rfl,hst⟩:=hrel
  by_cases hlt:k<32
  ·have hlt':(k:Int)<32:=by omega
   have HST:=zY hst;clear hst;go_wp2_with (refine qam (x:=.tmp 18) (i:=k) (v:=.int .i64 255) HST.out.out rfl rfl rfl rfl qbr (by rw [qbP,qbx k (by omega)]; exact hlt) rfl ?_; intro w5 hb5 hw5; have hst5:=HST.out.put (l':=fillL (k+1)) hw5 (by rw [show (Value.int IntKind.i64 255)=.int .i64 ((255:Nat):Int) from rfl,qbt,qdU k hlt] at hb5; exact hb5); have HST5:=zY hst5; clear hst5 hb5 hw5);exact ⟨⟨k+1,by omega,by go_num,HST5.out⟩,by simp [intOf]; omega⟩
  ·obtain rfl:k=32:=by omega
   have HST:=zY hst;clear hst hk hlt
   go_wp2_with (first
    | (refine qam (x:=.tmp 20) (i:=0) (v:=.int .i64 254) HST.out.out rfl rfl rfl rfl qbr (by rw [qbP,qbx 32 (by omega)]; decide) rfl ?_; intro w5 hb5 hw5; have hst5:=HST.out.put (l':=(fillL 32).set 0 254) hw5 (by rw [show (Value.int IntKind.i64 254)=.int .i64 ((254:Nat):Int) from rfl,qbt] at hb5; exact hb5); have HST5:=zY hst5; clear hst5 hb5 hw5)
    | (refine qam (x:=.tmp 22) (i:=31) (v:=.int .i64 15) HST5.out.out rfl rfl rfl rfl qbr (by rw [qbP,List.length_set,qbx 32 (by omega)]; decide) rfl ?_; intro w6 hb6 hw6; have hst6:=HST5.out.put (l':=e1L) hw6 (by rw [show (Value.int IntKind.i64 15)=.int .i64 ((15:Nat):Int) from rfl,qbt,e1L_end] at hb6; exact hb6); have HST6:=zY hst6; clear hst6 hb6 hw6))
   have HA6:=zY (qag HA.out HST6.out.bel);have HB6:=zY HST6.out.bel;have HE6:=zY (Rd.of_blk HST6.out.out HST6.out.out.lt);clear HST HST5 HST6 HA;refine qab (C1.out _ _ _ HA6.out HE6.out) ?_;rintro e w7 ⟨A7,c7,rfl,hc7,hr7,hb7⟩;have HA7:=zY (qag HA6.out hb7);have HB7:=zY (HB6.out.trans (hb7.mono HB6.out.size));have HX7:=zY hr7;have HC7:=zY hc7;clear hc7 hr7 hb7 HA6 HB6 HE6;go_wp2_with fail;refine qab (C2.out _ _ _ HX7.out) ?_;rintro e w8 ⟨A8,c8,rfl,hc8,hr8,hb8⟩;have HA8:=zY (qag HA7.out hb8);have HB8:=zY (HB7.out.trans (hb8.mono HB7.out.size));have HX8:=zY (qag HX7.out hb8);have HS8:=zY (C3.out w8 A8 c8 hr8 HA8.out hc8);clear hc8 hr8 hb8 HA7 HB7 HX7;go_wp2_with fail;refine qab HS8.out ?_;rintro e w9 ⟨rfl,hb9⟩;have HA9:=zY (qag HA8.out hb9);have HB9:=zY (HB8.out.trans (hb9.mono HB8.out.size));have HX9:=zY (qag HX8.out hb9);clear hb9 HA8 HB8 HX8 HS8
   cases s1
   ·have hst0:=qdF (fillL 0) (Below.refl w9.heap.size w9);have HST0:=zY hst0;have hmk:=HMK.out;clear hst0 HMK;go_wp2_with fail;generalize ho9:w9.heap.size=o9 at HST0 ⊢;have HO9:=zY ho9;clear ho9 hmk
    go_loopw [9] (fun i wr=>∃ k:Nat,k≤32∧i=.int .i64 k∧D1 w9 o9 (fillL k) wr) (fun i _=>32 - (intOf i).toNat)
    case atStart=>exact ⟨0,by omega,rfl,HST0.out⟩
    case round =>
     clear HST0;obtain ⟨k,hk,rfl,hst⟩:=hrel
     by_cases hlt:k<32
     ·have hlt':(k:Int)<32:=by omega
      have HST:=zY hst;clear hst;go_wp2_with (refine qam (x:=.tmp 40) (i:=k) (v:=.int .i64 255) HST.out.out rfl rfl rfl rfl qbr (by rw [qbP,qbx k (by omega)]; exact hlt) rfl ?_; intro w5 hb5 hw5; have hst5:=HST.out.put (l':=fillL (k+1)) hw5 (by rw [show (Value.int IntKind.i64 255)=.int .i64 ((255:Nat):Int) from rfl,qbt,qdU k hlt] at hb5; exact hb5); have HST5:=zY hst5; clear hst5 hb5 hw5);exact ⟨⟨k+1,by omega,by go_num,HST5.out⟩,by simp [intOf]; omega⟩
     ·obtain rfl:k=32:=by omega
      have HST:=zY hst;clear hst hk hlt
      go_wp2_with (first
       | (refine qam (x:=.tmp 42) (i:=0) (v:=.int .i64 251) HST.out.out rfl rfl rfl rfl qbr (by rw [qbP,qbx 32 (by omega)]; decide) rfl ?_; intro w5 hb5 hw5; have hst5:=HST.out.put (l':=(fillL 32).set 0 251) hw5 (by rw [show (Value.int IntKind.i64 251)=.int .i64 ((251:Nat):Int) from rfl,qbt] at hb5; exact hb5); have HST5:=zY hst5; clear hst5 hb5 hw5)
       | (refine qam (x:=.tmp 44) (i:=31) (v:=.int .i64 31) HST5.out.out rfl rfl rfl rfl qbr (by rw [qbP,List.length_set,qbx 32 (by omega)]; decide) rfl ?_; intro w6 hb6 hw6; have hst6:=HST5.out.put (l':=e2L) hw6 (by rw [show (Value.int IntKind.i64 31)=.int .i64 ((31:Nat):Int) from rfl,qbt,e2L_end] at hb6; exact hb6); have HST6:=zY hst6; clear hst6 hb6 hw6))
      have HA6:=zY (qag HA9.out HST6.out.bel);have HX6:=zY (qag HX9.out HST6.out.bel);have HB6:=zY (HB9.out.trans (HST6.out.bel.mono HB9.out.size));have HE6:=zY (Rd.of_blk HST6.out.out HST6.out.out.lt);clear HST HST5 HST6 HA9 HB9 HX9;refine qab (C4.out _) ?_;rintro e w10 ⟨A10,c10,rfl,hc10,hr10,hb10⟩;have HA10:=zY (qag HA6.out hb10);have HX10:=zY (qag HX6.out hb10);have HB10:=zY (HB6.out.trans (hb10.mono HB6.out.size));have HE10:=zY (qag HE6.out hb10);have HT10:=zY hr10;clear hc10 hr10 hb10 HA6 HX6 HB6 HE6;go_wp2_with fail;refine qab (C5.out _ _ _ _ _ HT10.out HE10.out) ?_;rintro e w11 ⟨A11,c11,rfl,hc11,hr11,hb11⟩;have HA11:=zY (qag HA10.out hb11);have HX11:=zY (qag HX10.out hb11);have HB11:=zY (HB10.out.trans (hb11.mono HB10.out.size));have HQ11:=zY hr11;clear hc11 hr11 hb11 HA10 HX10 HB10 HE10 HT10;go_wp2_with fail;refine qab (C6.out _ _ _ _ _ HX11.out HQ11.out) ?_;rintro e w12 ⟨A12,c12,rfl,hc12,hr12,hb12⟩;have HA12:=zY (qag HA11.out hb12);have HB12:=zY (HB11.out.trans (hb12.mono HB11.out.size));have HY12:=zY hr12;have HC12:=zY hc12;clear hc12 hr12 hb12 HA11 HX11 HB11 HQ11;go_wp2_with fail;refine qab (C7.out _ _ _ HY12.out) ?_;rintro e w13 ⟨A13,c13,rfl,hc13,hr13,hb13⟩;have HA13:=zY (qag HA12.out hb13);have HB13:=zY (HB12.out.trans (hb13.mono HB12.out.size));have HY13:=zY (qag HY12.out hb13);have HS13:=zY (C8.out w13 A13 c13 hr13 HA13.out hc13);clear hc13 hr13 hb13 HA12 HB12 HY12;go_wp2_with fail;refine qab HS13.out ?_;rintro e w14 ⟨rfl,hb14⟩;have HB14:=zY (HB13.out.trans (hb14.mono HB13.out.size));have HY14:=zY (qag HY13.out hb14);clear hb14 HA13 HB13 HY13 HS13;go_wp2_with fail;refine bodyPost_ret (results_tmp2 rfl _ _ _) rfl ?_;have e1:V=y:=HV.out;have e2:b=s2:=HB.out;rw [e1,e2];exact ⟨A12,c12,rfl,HC12.out,HY14.out,HB14.out⟩
   ·go_wp2_with fail;refine bodyPost_ret (results_tmp2 rfl _ _ _) rfl ?_;have e1:V=x:=HV.out;have e2:b=true:=HB.out;rw [e1,e2];exact ⟨A7,c7,rfl,HC7.out,HX9.out,HB9.out⟩
theorem one_lt:1<PN:=by decide
theorem zero_lt:0<PN:=by decide
theorem dN_lt:dN<PN:=by decide
theorem qaK (a:Nat):a%PN<PN:=Nat.mod_lt _ qea
def pairV (A B:Value):Array Value:=#[A,B]
def nilS:Value:=.slice none 0 0
theorem qaO:(Tryz.prog.info? 89).map (·.size)=some 2:=by kernel_rfl
structure OfW (y y2 u t v i a x q:Nat):Prop where
 hy2:y2=y*y%PN
 hu:u=(y2+PN - 1)%PN
 ht:t=dN*y2%PN
 hv:v=(t+1)%PN
 hi:i=v^(PN - 2)%PN
 ha:a=u*i%PN
 hx:x=a^leV e1L%PN
 hq:q=2^leV e2L%PN
def ofR (r:Nat) (ok odd:Bool):Option Nat:=if ok then (if decide (r%2=1)=odd then some r else if r=0 then none else some ((0+PN - r)%PN)) else none
def OfNPost (o:Option Nat) (Y:Value) (w:World) (e:Ending) (w':World):Prop :=
 Below w.heap.size w w'∧match o with
  | none=>e=.returned (.tuple #[.agg (pairV nilS nilS),.bool false])
  | some x=>∃ B d,e=.returned (.tuple #[.agg (pairV (.slice B 32 d) Y),.bool true])∧32≤d∧Rd w' w'.heap.size B (DN x)
theorem digit0 {r:Nat} (h:r<PN) {A:Option Addr} {u:World} (k:Rd u u.heap.size A (DN r)):∃ ad,A=some ad∧u.cell? (ad.add 0)=some (.int .i64 ((r%256:Nat):Int)):=by
 obtain ⟨ad,h1,_,h3⟩:=k.at_ (k:=0) (by rw [DN,qbL,qaj]; decide);refine ⟨ad,h1,?_⟩;rw [h3,show (DN r)[0]'(by rw [DN,qbL,qaj]; decide)=_ from dV_at (l:=digN 32 r) (j:=0) (by rw [qaj]; decide)];rw [show (digN 32 r)[0]'(by rw [qaj]; decide)=r%256 by simp [digN]]
theorem Rd.wrote {w w':World} {B g:Nat} {A:Option Addr} {xs:List Value} {t:TypeId} {cs:Array Value} (h:Rd w B A xs) (hg:Blk w g t cs) (hw:Wrote g w w') (hne:∀ v ∈ xs,∀ j:Nat,cs[j]?≠some v):Rd w' B A xs:=fun i u hi=>by
 obtain ⟨ad,ha,hlt,hc⟩:=h i u hi;refine ⟨ad,ha,hlt,?_⟩
 by_cases hb:ad.block=g
 ·exfalso
  unfold World.cell? at hc;rw [qaW,hb,show w.heap[g]?=_ from hg] at hc
  by_cases hs:(ad.add i).spot.isSome=true
  ·simp [hs] at hc
  ·simp only [hs,if_false] at hc;exact hne u (List.mem_of_getElem? hi) _ hc
 ·have hl:ad.block<w.heap.size:=by
   unfold World.cell? at hc;rw [qaW] at hc
   by_cases hl:ad.block<w.heap.size
   ·exact hl
   ·rw [Array.getElem?_eq_none (by omega)] at hc;simp at hc
  have e:w'.heap[ad.block]?=w.heap[ad.block]?:=hw.grown.block ad.block hl (by simpa using hb);unfold World.cell? at hc ⊢;rw [qaW] at hc ⊢;rw [e]; exact hc
theorem dn_int {x:Nat} {v:Value} (h:v ∈ DN x):∃ n:Int,v=.int .i64 n:=by
 obtain ⟨n,_,e⟩:=List.mem_map.1 (show v ∈ (digN 32 x).map (fun n=>Value.int .i64 ((n:Nat):Int)) from h);exact ⟨_,e.symm⟩
theorem qds {x:Nat} {A C:Option Addr} {a b c d:Nat}:∀ v ∈ DN x,∀ j:Nat,(pairV (.slice A a b) (.slice C c d))[j]?≠some v:=fun v hv j=>by
 obtain ⟨n,rfl⟩:=dn_int hv
 match j with
 | 0=>simp [pairV]
 | 1=>simp [pairV]
 | j+2=>simp [pairV]
theorem Rd.pair {w w':World} {B g x:Nat} {X:Option Addr} {t:TypeId} {A C:Option Addr} {a b c d:Nat} (h:Rd w B X (DN x)) (hg:Blk w g t (pairV (.slice A a b) (.slice C c d))) (hw:Wrote g w w'):Rd w' B X (DN x):=h.wrote hg hw qds
theorem qaX {A:Option Addr} {xs:List Value} {u u':World} (h:Rd u' u.heap.size A xs) (e:u'.heap.size=u.heap.size):Rd u' u'.heap.size A xs:=by rw [e]; exact h
theorem nof_any {y y2 u t v i a x q:Nat} (W:OfW y y2 u t v i a x q) (ly:y<PN) (odd:Bool) {A:Option Addr} {c:Nat} (hc:32≤c) {w:World} (h:Rd w w.heap.size A (DN y)) :
  Calls Tryz.prog 61 #[.slice A 32 c,.bool odd] w (OfNPost (ofR (rtV a x q) (rtB a x q) odd) (.slice A 32 c) w):=by
 have hpt:=Tryz.underlying89;obtain ⟨hy2,hu,ht,hv,hi,ha,hx,hq⟩:=W;have ly2:y2<PN:=by rw [hy2]; exact qaK _
 have lu:u<PN:=by rw [hu]; exact qaK _
 have lt:t<PN:=by rw [ht]; exact qaK _
 have lv:v<PN:=by rw [hv]; exact qaK _
 have li:i<PN:=by rw [hi]; exact qaK _
 have la:a<PN:=by rw [ha]; exact qaK _
 obtain ⟨r,hr⟩:=eX (rtV a x q);obtain ⟨ok,hok⟩:=eX (rtB a x q)
 have lr:r<PN:=by
  rw [hr,rtV]
  split
  ·rw [hx]; exact qaK _
  ·exact qaK _
 have CR:=zY (show ∀ u A c,32≤c→Rd u u.heap.size A (DN a)→Calls Tryz.prog 88 #[.slice A 32 c] u (RootPost r ok u) from fun u A c hc h=>by rw [hr,hok]; exact nroot_any la hx hq hc h);rw [← hr,← hok];clear hr hok hx hq;obtain ⟨z,hz⟩:=eX ((0+PN - r)%PN);obtain ⟨s,hs⟩:=eX (decide (r=0));obtain ⟨R,hR⟩:=eX (ofR r ok odd)
 have hR':R=if ok then (if decide (r%2=1)=odd then some r else if s then none else some z) else none:=by
  rw [hR,ofR,hs,hz]
  by_cases h0:r=0
  ·simp [h0]
  ·simp [h0]
 rw [← hR];have HR:=zY hR';clear hR hR';have C1:=zY (show ∀ u,Calls Tryz.prog 57 #[.int .i64 1] u (NumPost 1 u) from fun u=>nint 1 (by decide) u);have C2:=zY (show ∀ ww XA xc XB xd,Rd ww ww.heap.size XA (DN y)→Rd ww ww.heap.size XB (DN y)→Calls Tryz.prog 60 #[.slice XA 32 xc,.slice XB 32 xd] ww (NumPost y2 ww) from fun ww XA xc XB xd xh xk=>by rw [hy2]; exact nmul ly ly xh xk);have C3:=zY (show ∀ ww XA xc XB xd,Rd ww ww.heap.size XA (DN y2)→Rd ww ww.heap.size XB (DN 1)→Calls Tryz.prog 82 #[.slice XA 32 xc,.slice XB 32 xd] ww (NumPost u ww) from fun ww XA xc XB xd xh xk=>by rw [hu]; exact nsub ly2 one_lt xh xk);have C4:=zY (show ∀ u,Calls Tryz.prog 56 #[] u (NumPost dN u) from fun u=>nd_any u);have C5:=zY (show ∀ ww XA xc XB xd,Rd ww ww.heap.size XA (DN dN)→Rd ww ww.heap.size XB (DN y2)→Calls Tryz.prog 60 #[.slice XA 32 xc,.slice XB 32 xd] ww (NumPost t ww) from fun ww XA xc XB xd xh xk=>by rw [ht]; exact nmul dN_lt ly2 xh xk);have C6:=zY (show ∀ ww XA xc XB xd,Rd ww ww.heap.size XA (DN t)→Rd ww ww.heap.size XB (DN 1)→Calls Tryz.prog 83 #[.slice XA 32 xc,.slice XB 32 xd] ww (NumPost v ww) from fun ww XA xc XB xd xh xk=>by rw [hv]; exact nadd lt one_lt xh xk);have C7:=zY (show ∀ ww XA xc,Rd ww ww.heap.size XA (DN v)→Calls Tryz.prog 59 #[.slice XA 32 xc] ww (NumPost i ww) from fun ww XA xc xh=>by rw [hi]; exact ninv lv xh);have C8:=zY (show ∀ ww XA xc XB xd,Rd ww ww.heap.size XA (DN u)→Rd ww ww.heap.size XB (DN i)→Calls Tryz.prog 60 #[.slice XA 32 xc,.slice XB 32 xd] ww (NumPost a ww) from fun ww XA xc XB xd xh xk=>by rw [ha]; exact nmul lu li xh xk);have C9:=zY (show ∀ u,Calls Tryz.prog 57 #[.int .i64 0] u (NumPost 0 u) from fun u=>nint 0 (by decide) u);have C10:=zY (show ∀ ww XA xc XB xd,Rd ww ww.heap.size XA (DN r)→Rd ww ww.heap.size XB (DN 0)→32≤xc→32≤xd→Calls Tryz.prog 89 #[.slice XA 32 xc,.slice XB 32 xd] ww (BoolPost s ww) from fun ww XA xc XB xd xh xk hc hd=>by rw [hs]; exact nsame lr zero_lt xh xk hc hd);have C11:=zY (show ∀ ww XA xc XB xd,Rd ww ww.heap.size XA (DN 0)→Rd ww ww.heap.size XB (DN r)→Calls Tryz.prog 82 #[.slice XA 32 xc,.slice XB 32 xd] ww (NumPost z ww) from fun ww XA xc XB xd xh xk=>by rw [hz]; exact nsub zero_lt lr xh xk);generalize dN=D at *;have hr2:r%256%2=r%2:=Nat.mod_mod_of_dvd r (by decide);have LY:=zY hc;have RY:=zY h;have LR:=zY lr;have HB:=zY (below_new w (.cells (pairV nilS nilS) 89));have HP:=zY (Blk.new w 89 (pairV nilS nilS));have H2:=zY hr2;replace RY:=zY (qag RY.out HB.out);clear hy2 hu ht hv hi ha ly ly2 lu lt lv li la lr hz hs hc h hr2;go_enter Tryz.func61,Tryz.ntmps61;go_wp2_with fail;refine qab (C1.out _) ?_;rintro e u1 ⟨Aw1,cw1,rfl,hc,hr,hb⟩;replace HB:=zY (HB.out.trans (hb.mono HB.out.size));replace RY:=zY (qag RY.out hb);replace HP:=zY (HP.out.below hb HP.out.lt);have Rw1:=zY hr;have LEw1:=zY hc;clear hr hc hb;generalize hg:w.heap.size=g at HP ⊢;have HG:=zY hg;clear hg;go_wp2_with fail;refine qab (C2.out _ _ _ _ _ RY.out RY.out) ?_;rintro e u2 ⟨Ay2,cy2,rfl,hc,hr,hb⟩;replace HB:=zY (HB.out.trans (hb.mono HB.out.size));replace RY:=zY (qag RY.out hb);replace Rw1:=zY (qag Rw1.out hb);replace HP:=zY (HP.out.below hb HP.out.lt);have Ry2:=zY hr;have LEy2:=zY hc;clear hr hc hb;go_wp2_with fail;refine qab (C3.out _ _ _ _ _ Ry2.out Rw1.out) ?_;rintro e u3 ⟨Au,cu,rfl,hc,hr,hb⟩;replace HB:=zY (HB.out.trans (hb.mono HB.out.size));replace RY:=zY (qag RY.out hb);replace Rw1:=zY (qag Rw1.out hb);replace Ry2:=zY (qag Ry2.out hb);replace HP:=zY (HP.out.below hb HP.out.lt);have Ru:=zY hr;have LEu:=zY hc;clear hr hc hb;go_wp2_with fail;refine qab (C4.out _) ?_;rintro e u4 ⟨AD,cD,rfl,hc,hr,hb⟩;replace HB:=zY (HB.out.trans (hb.mono HB.out.size));replace RY:=zY (qag RY.out hb);replace Rw1:=zY (qag Rw1.out hb);replace Ry2:=zY (qag Ry2.out hb);replace Ru:=zY (qag Ru.out hb);replace HP:=zY (HP.out.below hb HP.out.lt);have RD:=zY hr;have LED:=zY hc;clear hr hc hb;go_wp2_with fail;refine qab (C5.out _ _ _ _ _ RD.out Ry2.out) ?_;rintro e u5 ⟨At,ct,rfl,hc,hr,hb⟩;clear RD;replace HB:=zY (HB.out.trans (hb.mono HB.out.size));replace RY:=zY (qag RY.out hb);replace Rw1:=zY (qag Rw1.out hb);replace Ry2:=zY (qag Ry2.out hb);replace Ru:=zY (qag Ru.out hb);replace HP:=zY (HP.out.below hb HP.out.lt);have Rt:=zY hr;have LEt:=zY hc;clear hr hc hb;go_wp2_with fail;refine qab (C6.out _ _ _ _ _ Rt.out Rw1.out) ?_;rintro e u6 ⟨Av,cv,rfl,hc,hr,hb⟩;clear Rt;clear Ry2;replace HB:=zY (HB.out.trans (hb.mono HB.out.size));replace RY:=zY (qag RY.out hb);replace Rw1:=zY (qag Rw1.out hb);replace Ru:=zY (qag Ru.out hb);replace HP:=zY (HP.out.below hb HP.out.lt);have Rv:=zY hr;have LEv:=zY hc;clear hr hc hb;go_wp2_with fail;refine qab (C7.out _ _ _ Rv.out) ?_;rintro e u7 ⟨Ai,ci,rfl,hc,hr,hb⟩;clear Rv;clear Rw1;replace HB:=zY (HB.out.trans (hb.mono HB.out.size));replace RY:=zY (qag RY.out hb);replace Ru:=zY (qag Ru.out hb);replace HP:=zY (HP.out.below hb HP.out.lt);have Ri:=zY hr;have LEi:=zY hc;clear hr hc hb;go_wp2_with fail;refine qab (C8.out _ _ _ _ _ Ru.out Ri.out) ?_;rintro e u8 ⟨Aa,ca,rfl,hc,hr,hb⟩;clear Ri;clear Ru;replace HB:=zY (HB.out.trans (hb.mono HB.out.size));replace RY:=zY (qag RY.out hb);replace HP:=zY (HP.out.below hb HP.out.lt);have Ra:=zY hr;have LEa:=zY hc;clear hr hc hb;go_wp2_with fail;refine qab (CR.out _ _ _ LEa.out Ra.out) ?_;rintro e u20 ⟨Ar,cr,rfl,hc,hr,hb⟩;clear Ra;replace HB:=zY (HB.out.trans (hb.mono HB.out.size));replace RY:=zY (qag RY.out hb);replace HP:=zY (HP.out.below hb HP.out.lt);have Rr:=zY hr;have LEr:=zY hc;clear hr hc hb;obtain ⟨ad,had,d0⟩:=digit0 LR.out Rr.out;subst had;rw [show ad.add 0=ad from rfl] at d0
 cases ok
 ·go_wp2_with (refine qad (x:=.tmp 4) (cells:=pairV nilS nilS) HP.out rfl rfl rfl rfl qaO rfl (by simp [pairV,nilS,Value.oneCell']) ?_; intro u30 hb30 hw30; have HP30:=zY hb30; have HW30:=zY hw30; clear hb30 hw30);refine bodyPost_ret (qar (P:=Tryz.prog) rfl rfl HP30.out hpt rfl qaO) rfl ⟨HW30.out.below HB.out (Nat.le_of_eq HG.out) HB.out.size,?_⟩;rw [HR.out];rfl
 ·obtain ⟨m,hm⟩:=eX (r%256);rw [← hm] at d0;have hm2:m%2=r%2:=by rw [hm]; exact H2.out
  have hm256:m<256:=by rw [hm]; exact Nat.mod_lt _ (by decide)
  by_cases ho:decide (r%2=1)=odd
  ·have hodd:decide ((m:Int)%2=1)=odd:=by rw [← ho]; exact decide_eq_decide.mpr (by omega)
   have HR2:R=some r:=by rw [HR.out,if_pos ho]; rfl
   clear ho hm hm2
   cases odd
   ·have hmi:(m:Int)%2=0:=by simp at hodd; omega
    have HR2:=zY HR2;clear hodd;go_wp2_with (refine qad (x:=.tmp 4) (cells:=pairV (.slice (some ad) 32 cr) (.slice A 32 c)) HP.out rfl rfl rfl rfl qaO rfl (by simp [pairV,nilS,Value.oneCell']) ?_; intro u30 hb30 hw30; have HP30:=zY hb30; have HW30:=zY hw30; clear hb30 hw30);refine bodyPost_ret (qar (P:=Tryz.prog) rfl rfl HP30.out hpt rfl qaO) rfl ⟨HW30.out.below HB.out (Nat.le_of_eq HG.out) HB.out.size,?_⟩;rw [HR2.out];exact ⟨_,_,rfl,LEr.out,qaX (Rr.out.pair HP.out HW30.out) HW30.out.size⟩
   ·have hmi:(m:Int)%2=1:=by simp at hodd; omega
    have HR2:=zY HR2;clear hodd;go_wp2_with (refine qad (x:=.tmp 4) (cells:=pairV (.slice (some ad) 32 cr) (.slice A 32 c)) HP.out rfl rfl rfl rfl qaO rfl (by simp [pairV,nilS,Value.oneCell']) ?_; intro u30 hb30 hw30; have HP30:=zY hb30; have HW30:=zY hw30; clear hb30 hw30);refine bodyPost_ret (qar (P:=Tryz.prog) rfl rfl HP30.out hpt rfl qaO) rfl ⟨HW30.out.below HB.out (Nat.le_of_eq HG.out) HB.out.size,?_⟩;rw [HR2.out];exact ⟨_,_,rfl,LEr.out,qaX (Rr.out.pair HP.out HW30.out) HW30.out.size⟩
  ·have HR2:R=if s then none else some z:=by rw [HR.out,if_neg ho]; rfl
   have HR3:=zY HR2;clear HR2
   have hmi:((m:Int)%2=1∧odd=false)∨((m:Int)%2=0∧odd=true):=by
    cases odd
    ·simp at ho; left; exact ⟨by omega,rfl⟩
    ·simp at ho; right; exact ⟨by omega,rfl⟩
   clear ho hm hm2
   rcases hmi with ⟨hmi,rfl⟩ | ⟨hmi,rfl⟩
   ·go_wp2_with fail;clear d0 hmi;refine qab (C9.out _) ?_;rintro e u9 ⟨Aw0,cw0,rfl,hc,hr,hb⟩;replace HB:=zY (HB.out.trans (hb.mono HB.out.size));replace RY:=zY (qag RY.out hb);replace Rr:=zY (qag Rr.out hb);replace HP:=zY (HP.out.below hb HP.out.lt);have Rw0:=zY hr;have LEw0:=zY hc;clear hr hc hb;go_wp2_with fail;refine qab (C10.out _ _ _ _ _ Rr.out Rw0.out LEr.out LEw0.out) ?_;rintro e u10 ⟨rfl,hb⟩;replace HB:=zY (HB.out.trans (hb.mono HB.out.size));replace RY:=zY (qag RY.out hb);replace Rr:=zY (qag Rr.out hb);replace Rw0:=zY (qag Rw0.out hb);replace HP:=zY (HP.out.below hb HP.out.lt);clear hb
    cases s
    ·go_wp2_with fail;clear Rw0 LEw0;refine qab (C9.out _) ?_;rintro e u11 ⟨Aw0,cw0,rfl,hc,hr,hb⟩;replace HB:=zY (HB.out.trans (hb.mono HB.out.size));replace RY:=zY (qag RY.out hb);replace Rr:=zY (qag Rr.out hb);replace HP:=zY (HP.out.below hb HP.out.lt);have Rw0:=zY hr;have LEw0:=zY hc;clear hr hc hb;go_wp2_with fail;refine qab (C11.out _ _ _ _ _ Rw0.out Rr.out) ?_;rintro e u12 ⟨Az,cz,rfl,hc,hr,hb⟩;replace HB:=zY (HB.out.trans (hb.mono HB.out.size));replace RY:=zY (qag RY.out hb);replace Rr:=zY (qag Rr.out hb);replace Rw0:=zY (qag Rw0.out hb);replace HP:=zY (HP.out.below hb HP.out.lt);have Rz:=zY hr;have LEz:=zY hc;clear hr hc hb;go_wp2_with (refine qad (x:=.tmp 4) (cells:=pairV (.slice Az 32 cz) (.slice A 32 c)) HP.out rfl rfl rfl rfl qaO rfl (by simp [pairV,nilS,Value.oneCell']) ?_; intro u30 hb30 hw30; have HP30:=zY hb30; have HW30:=zY hw30; clear hb30 hw30);refine bodyPost_ret (qar (P:=Tryz.prog) rfl rfl HP30.out hpt rfl qaO) rfl ⟨HW30.out.below HB.out (Nat.le_of_eq HG.out) HB.out.size,?_⟩;rw [HR3.out];exact ⟨_,_,rfl,LEz.out,qaX (Rz.out.pair HP.out HW30.out) HW30.out.size⟩
    ·go_wp2_with (refine qad (x:=.tmp 4) (cells:=pairV nilS nilS) HP.out rfl rfl rfl rfl qaO rfl (by simp [pairV,nilS,Value.oneCell']) ?_; intro u30 hb30 hw30; have HP30:=zY hb30; have HW30:=zY hw30; clear hb30 hw30);refine bodyPost_ret (qar (P:=Tryz.prog) rfl rfl HP30.out hpt rfl qaO) rfl ⟨HW30.out.below HB.out (Nat.le_of_eq HG.out) HB.out.size,?_⟩;rw [HR3.out];rfl
   ·go_wp2_with fail;clear d0 hmi;refine qab (C9.out _) ?_;rintro e u13 ⟨Aw0,cw0,rfl,hc,hr,hb⟩;replace HB:=zY (HB.out.trans (hb.mono HB.out.size));replace RY:=zY (qag RY.out hb);replace Rr:=zY (qag Rr.out hb);replace HP:=zY (HP.out.below hb HP.out.lt);have Rw0:=zY hr;have LEw0:=zY hc;clear hr hc hb;go_wp2_with fail;refine qab (C10.out _ _ _ _ _ Rr.out Rw0.out LEr.out LEw0.out) ?_;rintro e u14 ⟨rfl,hb⟩;replace HB:=zY (HB.out.trans (hb.mono HB.out.size));replace RY:=zY (qag RY.out hb);replace Rr:=zY (qag Rr.out hb);replace Rw0:=zY (qag Rw0.out hb);replace HP:=zY (HP.out.below hb HP.out.lt);clear hb
    cases s
    ·go_wp2_with fail;clear Rw0 LEw0;refine qab (C9.out _) ?_;rintro e u15 ⟨Aw0,cw0,rfl,hc,hr,hb⟩;replace HB:=zY (HB.out.trans (hb.mono HB.out.size));replace RY:=zY (qag RY.out hb);replace Rr:=zY (qag Rr.out hb);replace HP:=zY (HP.out.below hb HP.out.lt);have Rw0:=zY hr;have LEw0:=zY hc;clear hr hc hb;go_wp2_with fail;refine qab (C11.out _ _ _ _ _ Rw0.out Rr.out) ?_;rintro e u16 ⟨Az,cz,rfl,hc,hr,hb⟩;replace HB:=zY (HB.out.trans (hb.mono HB.out.size));replace RY:=zY (qag RY.out hb);replace Rr:=zY (qag Rr.out hb);replace Rw0:=zY (qag Rw0.out hb);replace HP:=zY (HP.out.below hb HP.out.lt);have Rz:=zY hr;have LEz:=zY hc;clear hr hc hb;go_wp2_with (refine qad (x:=.tmp 4) (cells:=pairV (.slice Az 32 cz) (.slice A 32 c)) HP.out rfl rfl rfl rfl qaO rfl (by simp [pairV,nilS,Value.oneCell']) ?_; intro u30 hb30 hw30; have HP30:=zY hb30; have HW30:=zY hw30; clear hb30 hw30);refine bodyPost_ret (qar (P:=Tryz.prog) rfl rfl HP30.out hpt rfl qaO) rfl ⟨HW30.out.below HB.out (Nat.le_of_eq HG.out) HB.out.size,?_⟩;rw [HR3.out];exact ⟨_,_,rfl,LEz.out,qaX (Rz.out.pair HP.out HW30.out) HW30.out.size⟩
    ·go_wp2_with (refine qad (x:=.tmp 4) (cells:=pairV nilS nilS) HP.out rfl rfl rfl rfl qaO rfl (by simp [pairV,nilS,Value.oneCell']) ?_; intro u30 hb30 hw30; have HP30:=zY hb30; have HW30:=zY hw30; clear hb30 hw30);refine bodyPost_ret (qar (P:=Tryz.prog) rfl rfl HP30.out hpt rfl qaO) rfl ⟨HW30.out.below HB.out (Nat.le_of_eq HG.out) HB.out.size,?_⟩;rw [HR3.out];rfl
section
variable {n:Nat} [NeZero n] {d:Fin n} {iv:Fin n→Fin n} (F:Ed.Fld n d iv)
include F
theorem g_frac {x1 y1 z1 x2 y2 z2 x y z zz xy yx yy xx k p m X1 Y1 X2 Y2:Fin n} (h1:Ed.On d x1 y1) (h2:Ed.On d x2 y2) (s:Ed.Sum d x1 y1 x2 y2 x y)
  (hz1:z1≠0) (hz2:z2≠0) (hX1:X1=x1*z1) (hY1:Y1=y1*z1) (hX2:X2=x2*z2) (hY2:Y2=y2*z2)
  (hz:z=z1*z2) (hzz:zz=z*z) (hxy:xy=X1*Y2) (hyx:yx=Y1*X2) (hyy:yy=Y1*Y2) (hxx:xx=X1*X2) (hk:k=d*(xx*yy)) (hp:p=zz+k) (hm:m=zz - k) :
  p*m≠0∧z*(m*(xy+yx))=x*(p*m)∧z*(p*(yy+xx))=y*(p*m):=by
 have dp:=Ed.den_p F h1 h2;have dm:=Ed.den_m F h1 h2;have hz0:=Ed.mul_ne F hz1 hz2;obtain ⟨sx,sy⟩:=s;subst hX1 hY1 hX2 hY2 hz hzz hxy hyx hyy hxx hk hp hm;have ep:z1*z2*(z1*z2)+d*(x1*z1*(x2*z2)*(y1*z1*(y2*z2)))=(z1*z2)*(z1*z2)*(1+d*x1*x2*y1*y2):=by clear sx sy dp dm hz0; grind -lia
 have em:z1*z2*(z1*z2) - d*(x1*z1*(x2*z2)*(y1*z1*(y2*z2)))=(z1*z2)*(z1*z2)*(1 - d*x1*x2*y1*y2):=by clear sx sy dp dm hz0; grind -lia
 have ex:x1*z1*(y2*z2)+y1*z1*(x2*z2)=(z1*z2)*(x*(1+d*x1*x2*y1*y2)):=by rw [sx]; clear sx sy dp dm hz0; grind -lia
 have ey:y1*z1*(y2*z2)+x1*z1*(x2*z2)=(z1*z2)*(y*(1 - d*x1*x2*y1*y2)):=by rw [sy]; clear sx sy dp dm hz0; grind -lia
 rw [ep,em,ex,ey];clear sx sy ep em ex ey h1 h2;generalize 1+d*x1*x2*y1*y2=u at *;generalize 1 - d*x1*x2*y1*y2=v at *;refine ⟨Ed.mul_ne F (Ed.mul_ne F (Ed.mul_ne F hz0 hz0) dp) (Ed.mul_ne F (Ed.mul_ne F hz0 hz0) dm),?_,?_⟩ <;> clear F dp dm hz0 hz1 hz2 <;> grind -lia
end
structure Fr (x y z:Nat) (P:PtF):Prop where
 hz:fn z≠0
 hx:fn x=P.x*fn z
 hy:fn y=P.y*fn z
structure FrW (x1 y1 z1 x2 y2 z2 z zz xy yx yy xx q k p m a b c e g h o:Nat):Prop where
 h_z:z=z1*z2%PN
 h_zz:zz=z*z%PN
 h_xy:xy=x1*y2%PN
 h_yx:yx=y1*x2%PN
 h_yy:yy=y1*y2%PN
 h_xx:xx=x1*x2%PN
 h_q:q=xx*yy%PN
 h_k:k=dN*q%PN
 h_p:p=(zz+k)%PN
 h_m:m=(zz+PN - k)%PN
 h_a:a=(xy+yx)%PN
 h_b:b=m*a%PN
 h_c:c=z*b%PN
 h_e:e=(yy+xx)%PN
 h_g:g=p*e%PN
 h_h:h=z*g%PN
 h_o:o=p*m%PN
theorem FrW.is {x1 y1 z1 x2 y2 z2 z zz xy yx yy xx q k p m a b c e g h o:Nat} (W:FrW x1 y1 z1 x2 y2 z2 z zz xy yx yy xx q k p m a b c e g h o) {P Q:PtF} (hP:Fr x1 y1 z1 P) (hQ:Fr x2 y2 z2 Q):Fr c h o (plus P Q):=by
 obtain ⟨h1,h2,h3,h4,h5,h6,h7,h8,h9,h10,h11,h12,h13,h14,h15,h16,h17⟩:=W;have lk:k≤PN:=by rw [h8]; exact Nat.le_of_lt (qaK _)
 obtain ⟨r1,r2,r3⟩:=g_frac FF P.on Q.on (Ed.add_sum FF P Q) hP.hz hQ.hz hP.hx hP.hy hQ.hx hQ.hy
  (z:=fn z) (zz:=fn zz) (xy:=fn xy) (yx:=fn yx) (yy:=fn yy) (xx:=fn xx) (k:=fn k) (p:=fn p) (m:=fn m)
  (by rw [h1,qbp]) (by rw [h2,qbp]) (by rw [h3,qbp]) (by rw [h4,qbp]) (by rw [h5,qbp]) (by rw [h6,qbp]) (by rw [h8,qbp,h7,qbp,← dF]) (by rw [h9,fn_addm]) (by rw [h10,fn_sub lk])
 refine ⟨by rw [h17,qbp]; exact r1,?_,?_⟩
 ·rw [h13,qbp,h12,qbp,h11,fn_addm,h17,qbp]; exact r2
 ·rw [h16,qbp,h15,qbp,h14,fn_addm,h17,qbp]; exact r3
theorem frW_ex (x1 y1 z1 x2 y2 z2:Nat):∃ z zz xy yx yy xx q k p m a b c e g h o,FrW x1 y1 z1 x2 y2 z2 z zz xy yx yy xx q k p m a b c e g h o :=
 ⟨_,_,_,_,_,_,_,_,_,_,_,_,_,_,_,_,_,⟨rfl,rfl,rfl,rfl,rfl,rfl,rfl,rfl,rfl,rfl,rfl,rfl,rfl,rfl,rfl,rfl,rfl⟩⟩
theorem fr_zero:Fr 0 1 1 zeroF:=⟨FF.one,by show fn 0=0*fn 1; rw [g_zm]; rfl,by show fn 1=1*fn 1; decide⟩
theorem fr_of (P:PtF):Fr P.x.val P.y.val 1 P:=by
 have h1:fn 1=1:=rfl;refine ⟨FF.one,?_,?_⟩
 ·rw [fn_val,h1,g_mul1]
 ·rw [fn_val,h1,g_mul1]
theorem Fr.pair {x y z i:Nat} {P:PtF} (h:Fr x y z P) (hz:z<PN) (hi:i=z^(PN - 2)%PN):x*i%PN=P.x.val∧y*i%PN=P.y.val:=by
 have fi:fn z*fn i=1:=by
  rw [hi,fn_inv hz];exact iv_one _ h.hz
 have ex:fn (x*i%PN)=P.x:=by rw [qbp,h.hx,Fin.mul_assoc,fi,g_mul1]
 have ey:fn (y*i%PN)=P.y:=by rw [qbp,h.hy,Fin.mul_assoc,fi,g_mul1]
 rw [← ex,← ey,qdc (qaK _),qdc (qaK _)];exact ⟨rfl,rfl⟩
def PairPost (x y:Nat) (w:World) (e:Ending) (w':World):Prop:=∃ A c B d,e=.returned (.agg (pairV (.slice A 32 c) (.slice B 32 d)))∧32≤c∧32≤d∧Rd w' w'.heap.size A (DN x)∧Rd w' w'.heap.size B (DN y)∧Below w.heap.size w w'
def triV (A B C:Value):Array Value:=#[A,B,C]
theorem qbH:(Tryz.prog.info? 114).map (·.size)=some 3:=by kernel_rfl
theorem qb6 {x:Nat} {A C E:Option Addr} {a b c d e f:Nat}:∀ v ∈ DN x,∀ j:Nat,(triV (.slice A a b) (.slice C c d) (.slice E e f))[j]?≠some v:=fun v hv j=>by
 obtain ⟨n,rfl⟩:=dn_int hv
 match j with
 | 0=>simp [triV]
 | 1=>simp [triV]
 | 2=>simp [triV]
 | j+3=>simp [triV]
def TriPost (x y z:Nat) (w:World) (e:Ending) (w':World):Prop:=∃ A a B b C c,e=.returned (.agg (triV (.slice A 32 a) (.slice B 32 b) (.slice C 32 c)))∧32≤a∧32≤b∧32≤c∧Rd w' w'.heap.size A (DN x)∧Rd w' w'.heap.size B (DN y)∧Rd w' w'.heap.size C (DN z)∧Below w.heap.size w w'
theorem fadd_any {x1 y1 z1 x2 y2 z2 fz fzz fxy fyx fyy fxx fq fk fp fm fa fb fc fe fg fh fo:Nat} (W:FrW x1 y1 z1 x2 y2 z2 fz fzz fxy fyx fyy fxx fq fk fp fm fa fb fc fe fg fh fo)
  (p1:x1<PN) (p2:y1<PN) (p3:z1<PN) (p4:x2<PN) (p5:y2<PN) (p6:z2<PN) {A1 B1 C1 A2 B2 C2 AD:Option Addr} {a1 b1 c1 a2 b2 c2 cD:Nat} {w:World}
  (r1:Rd w w.heap.size A1 (DN x1)) (r2:Rd w w.heap.size B1 (DN y1)) (r3:Rd w w.heap.size C1 (DN z1)) (r4:Rd w w.heap.size A2 (DN x2)) (r5:Rd w w.heap.size B2 (DN y2)) (r6:Rd w w.heap.size C2 (DN z2)) (r7:Rd w w.heap.size AD (DN dN)) :
  Calls Tryz.prog 58 #[.agg (triV (.slice A1 32 a1) (.slice B1 32 b1) (.slice C1 32 c1)),.agg (triV (.slice A2 32 a2) (.slice B2 32 b2) (.slice C2 32 c2)),.slice AD 32 cD] w (TriPost fc fh fo w):=by
 have hpt:=Tryz.underlying114;obtain ⟨h1,h2,h3,h4,h5,h6,h7,h8,h9,h10,h11,h12,h13,h14,h15,h16,h17⟩:=W;have l1:fz<PN:=by rw [h1]; exact qaK _
 have l2:fzz<PN:=by rw [h2]; exact qaK _
 have l3:fxy<PN:=by rw [h3]; exact qaK _
 have l4:fyx<PN:=by rw [h4]; exact qaK _
 have l5:fyy<PN:=by rw [h5]; exact qaK _
 have l6:fxx<PN:=by rw [h6]; exact qaK _
 have l7:fq<PN:=by rw [h7]; exact qaK _
 have l8:fk<PN:=by rw [h8]; exact qaK _
 have l9:fp<PN:=by rw [h9]; exact qaK _
 have l10:fm<PN:=by rw [h10]; exact qaK _
 have l11:fa<PN:=by rw [h11]; exact qaK _
 have l12:fb<PN:=by rw [h12]; exact qaK _
 have l13:fc<PN:=by rw [h13]; exact qaK _
 have l14:fe<PN:=by rw [h14]; exact qaK _
 have l15:fg<PN:=by rw [h15]; exact qaK _
 have l16:fh<PN:=by rw [h16]; exact qaK _
 have l17:fo<PN:=by rw [h17]; exact qaK _
 have Cfz:=zY (show ∀ ww XA xc XB xd,Rd ww ww.heap.size XA (DN z1)→Rd ww ww.heap.size XB (DN z2)→Calls Tryz.prog 60 #[.slice XA 32 xc,.slice XB 32 xd] ww (NumPost fz ww) from fun ww XA xc XB xd xh xk=>by rw [h1]; exact nmul p3 p6 xh xk);have Cfzz:=zY (show ∀ ww XA xc XB xd,Rd ww ww.heap.size XA (DN fz)→Rd ww ww.heap.size XB (DN fz)→Calls Tryz.prog 60 #[.slice XA 32 xc,.slice XB 32 xd] ww (NumPost fzz ww) from fun ww XA xc XB xd xh xk=>by rw [h2]; exact nmul l1 l1 xh xk);have Cfxy:=zY (show ∀ ww XA xc XB xd,Rd ww ww.heap.size XA (DN x1)→Rd ww ww.heap.size XB (DN y2)→Calls Tryz.prog 60 #[.slice XA 32 xc,.slice XB 32 xd] ww (NumPost fxy ww) from fun ww XA xc XB xd xh xk=>by rw [h3]; exact nmul p1 p5 xh xk);have Cfyx:=zY (show ∀ ww XA xc XB xd,Rd ww ww.heap.size XA (DN y1)→Rd ww ww.heap.size XB (DN x2)→Calls Tryz.prog 60 #[.slice XA 32 xc,.slice XB 32 xd] ww (NumPost fyx ww) from fun ww XA xc XB xd xh xk=>by rw [h4]; exact nmul p2 p4 xh xk);have Cfyy:=zY (show ∀ ww XA xc XB xd,Rd ww ww.heap.size XA (DN y1)→Rd ww ww.heap.size XB (DN y2)→Calls Tryz.prog 60 #[.slice XA 32 xc,.slice XB 32 xd] ww (NumPost fyy ww) from fun ww XA xc XB xd xh xk=>by rw [h5]; exact nmul p2 p5 xh xk);have Cfxx:=zY (show ∀ ww XA xc XB xd,Rd ww ww.heap.size XA (DN x1)→Rd ww ww.heap.size XB (DN x2)→Calls Tryz.prog 60 #[.slice XA 32 xc,.slice XB 32 xd] ww (NumPost fxx ww) from fun ww XA xc XB xd xh xk=>by rw [h6]; exact nmul p1 p4 xh xk);have Cfq:=zY (show ∀ ww XA xc XB xd,Rd ww ww.heap.size XA (DN fxx)→Rd ww ww.heap.size XB (DN fyy)→Calls Tryz.prog 60 #[.slice XA 32 xc,.slice XB 32 xd] ww (NumPost fq ww) from fun ww XA xc XB xd xh xk=>by rw [h7]; exact nmul l6 l5 xh xk);have Cfk:=zY (show ∀ ww XA xc XB xd,Rd ww ww.heap.size XA (DN dN)→Rd ww ww.heap.size XB (DN fq)→Calls Tryz.prog 60 #[.slice XA 32 xc,.slice XB 32 xd] ww (NumPost fk ww) from fun ww XA xc XB xd xh xk=>by rw [h8]; exact nmul dN_lt l7 xh xk);have Cfp:=zY (show ∀ ww XA xc XB xd,Rd ww ww.heap.size XA (DN fzz)→Rd ww ww.heap.size XB (DN fk)→Calls Tryz.prog 83 #[.slice XA 32 xc,.slice XB 32 xd] ww (NumPost fp ww) from fun ww XA xc XB xd xh xk=>by rw [h9]; exact nadd l2 l8 xh xk);have Cfm:=zY (show ∀ ww XA xc XB xd,Rd ww ww.heap.size XA (DN fzz)→Rd ww ww.heap.size XB (DN fk)→Calls Tryz.prog 82 #[.slice XA 32 xc,.slice XB 32 xd] ww (NumPost fm ww) from fun ww XA xc XB xd xh xk=>by rw [h10]; exact nsub l2 l8 xh xk);have Cfa:=zY (show ∀ ww XA xc XB xd,Rd ww ww.heap.size XA (DN fxy)→Rd ww ww.heap.size XB (DN fyx)→Calls Tryz.prog 83 #[.slice XA 32 xc,.slice XB 32 xd] ww (NumPost fa ww) from fun ww XA xc XB xd xh xk=>by rw [h11]; exact nadd l3 l4 xh xk);have Cfb:=zY (show ∀ ww XA xc XB xd,Rd ww ww.heap.size XA (DN fm)→Rd ww ww.heap.size XB (DN fa)→Calls Tryz.prog 60 #[.slice XA 32 xc,.slice XB 32 xd] ww (NumPost fb ww) from fun ww XA xc XB xd xh xk=>by rw [h12]; exact nmul l10 l11 xh xk);have Cfc:=zY (show ∀ ww XA xc XB xd,Rd ww ww.heap.size XA (DN fz)→Rd ww ww.heap.size XB (DN fb)→Calls Tryz.prog 60 #[.slice XA 32 xc,.slice XB 32 xd] ww (NumPost fc ww) from fun ww XA xc XB xd xh xk=>by rw [h13]; exact nmul l1 l12 xh xk);have Cfe:=zY (show ∀ ww XA xc XB xd,Rd ww ww.heap.size XA (DN fyy)→Rd ww ww.heap.size XB (DN fxx)→Calls Tryz.prog 83 #[.slice XA 32 xc,.slice XB 32 xd] ww (NumPost fe ww) from fun ww XA xc XB xd xh xk=>by rw [h14]; exact nadd l5 l6 xh xk);have Cfg:=zY (show ∀ ww XA xc XB xd,Rd ww ww.heap.size XA (DN fp)→Rd ww ww.heap.size XB (DN fe)→Calls Tryz.prog 60 #[.slice XA 32 xc,.slice XB 32 xd] ww (NumPost fg ww) from fun ww XA xc XB xd xh xk=>by rw [h15]; exact nmul l9 l14 xh xk);have Cfh:=zY (show ∀ ww XA xc XB xd,Rd ww ww.heap.size XA (DN fz)→Rd ww ww.heap.size XB (DN fg)→Calls Tryz.prog 60 #[.slice XA 32 xc,.slice XB 32 xd] ww (NumPost fh ww) from fun ww XA xc XB xd xh xk=>by rw [h16]; exact nmul l1 l15 xh xk);have Cfo:=zY (show ∀ ww XA xc XB xd,Rd ww ww.heap.size XA (DN fp)→Rd ww ww.heap.size XB (DN fm)→Calls Tryz.prog 60 #[.slice XA 32 xc,.slice XB 32 xd] ww (NumPost fo ww) from fun ww XA xc XB xd xh xk=>by rw [h17]; exact nmul l9 l10 xh xk);generalize dN=D at *;obtain ⟨w0,hw0⟩:=eX (((w.alloc (.cells (triV (.slice A1 32 a1) (.slice B1 32 b1) (.slice C1 32 c1)) 114)).alloc (.cells (triV (.slice A2 32 a2) (.slice B2 32 b2) (.slice C2 32 c2)) 114)).alloc (.cells #[.slice none 0 0,.slice none 0 0,.slice none 0 0] 114));have hb0:Below w.heap.size w w0:=by rw [hw0]; exact ((below_new _ _).alloc (by simp) _).alloc (by simp; try omega) _
 have hp1:Blk w0 w.heap.size 114 (triV (.slice A1 32 a1) (.slice B1 32 b1) (.slice C1 32 c1)):=by rw [hw0]; exact ((Blk.new _ _ _).alloc _).alloc _
 have hp2:Blk w0 (w.heap.size+1) 114 (triV (.slice A2 32 a2) (.slice B2 32 b2) (.slice C2 32 c2)):=by rw [hw0]; exact (Blk.newAt (by simp)).alloc _
 have hp3:Blk w0 (w.heap.size+1+1) 114 (triV nilS nilS nilS):=by rw [hw0]; exact Blk.newAt (by simp)
 have HLR:=zY (show w.heap.size≤w.heap.size+1+1 by omega);have HB:=zY hb0;have HP1:=zY hp1;have HP2:=zY hp2;have HP:=zY hp3;have R1:=zY (qag r1 hb0);have R2:=zY (qag r2 hb0);have R3:=zY (qag r3 hb0);have R4:=zY (qag r4 hb0);have R5:=zY (qag r5 hb0);have R6:=zY (qag r6 hb0);have R7:=zY (qag r7 hb0);have HW:=zY hw0;clear h1 h2 h3 h4 h5 h6 h7 h8 h9 h10 h11 h12 h13 h14 h15 h16 h17 l1 l2 l3 l4 l5 l6 l7 l8 l9 l10 l11 l12 l13 l14 l15 l16 l17 p1 p2 p3 p4 p5 p6 r1 r2 r3 r4 r5 r6 r7 hw0 hb0 hp1 hp2 hp3;go_enter Tryz.func58,Tryz.ntmps58;have e10:=(HP1.out.cell 0).trans (show (triV (.slice A1 32 a1) (.slice B1 32 b1) (.slice C1 32 c1))[0]?=some (.slice A1 32 a1) from rfl);have e11:=(HP1.out.cell 1).trans (show (triV (.slice A1 32 a1) (.slice B1 32 b1) (.slice C1 32 c1))[1]?=some (.slice B1 32 b1) from rfl);have e12:=(HP1.out.cell 2).trans (show (triV (.slice A1 32 a1) (.slice B1 32 b1) (.slice C1 32 c1))[2]?=some (.slice C1 32 c1) from rfl);have e20:=(HP2.out.cell 0).trans (show (triV (.slice A2 32 a2) (.slice B2 32 b2) (.slice C2 32 c2))[0]?=some (.slice A2 32 a2) from rfl);have e21:=(HP2.out.cell 1).trans (show (triV (.slice A2 32 a2) (.slice B2 32 b2) (.slice C2 32 c2))[1]?=some (.slice B2 32 b2) from rfl);have e22:=(HP2.out.cell 2).trans (show (triV (.slice A2 32 a2) (.slice B2 32 b2) (.slice C2 32 c2))[2]?=some (.slice C2 32 c2) from rfl);rw [HW.out] at e10 e11 e12 e20 e21 e22;go_wp2_with fail;clear e10 e11 e12 e20 e21 e22;show Calls _ _ _ (((w.alloc (.cells (triV (.slice A1 32 a1) (.slice B1 32 b1) (.slice C1 32 c1)) _)).alloc (.cells (triV (.slice A2 32 a2) (.slice B2 32 b2) (.slice C2 32 c2)) _)).alloc (.cells #[.slice none 0 0,.slice none 0 0,.slice none 0 0] _)) _;rw [← HW.out];generalize w.heap.size+1+1=g at *;generalize w.heap.size+1=g2 at *;generalize hg1:w.heap.size=g1 at HP1 ⊢;clear hg1 HW;refine qab (Cfz.out _ _ _ _ _ R3.out R6.out) ?_;rintro e u1 ⟨Afz,cfz,rfl,hc,hr,hb⟩;clear R3;clear R6;replace HB:=zY (HB.out.trans (hb.mono HB.out.size));replace R1:=zY (qag R1.out hb);replace R2:=zY (qag R2.out hb);replace R4:=zY (qag R4.out hb);replace R5:=zY (qag R5.out hb);replace R7:=zY (qag R7.out hb);replace HP1:=zY (HP1.out.below hb HP1.out.lt);replace HP2:=zY (HP2.out.below hb HP2.out.lt);replace HP:=zY (HP.out.below hb HP.out.lt);have Rfz:=zY hr;have LEfz:=zY hc;clear hr hc hb;go_wp2_with fail;refine qab (Cfzz.out _ _ _ _ _ Rfz.out Rfz.out) ?_;rintro e u2 ⟨Afzz,cfzz,rfl,hc,hr,hb⟩;replace HB:=zY (HB.out.trans (hb.mono HB.out.size));replace R1:=zY (qag R1.out hb);replace R2:=zY (qag R2.out hb);replace R4:=zY (qag R4.out hb);replace R5:=zY (qag R5.out hb);replace R7:=zY (qag R7.out hb);replace Rfz:=zY (qag Rfz.out hb);replace HP1:=zY (HP1.out.below hb HP1.out.lt);replace HP2:=zY (HP2.out.below hb HP2.out.lt);replace HP:=zY (HP.out.below hb HP.out.lt);have Rfzz:=zY hr;have LEfzz:=zY hc;clear hr hc hb;have e10:=(HP1.out.cell 0).trans (show (triV (.slice A1 32 a1) (.slice B1 32 b1) (.slice C1 32 c1))[0]?=some (.slice A1 32 a1) from rfl);have e11:=(HP1.out.cell 1).trans (show (triV (.slice A1 32 a1) (.slice B1 32 b1) (.slice C1 32 c1))[1]?=some (.slice B1 32 b1) from rfl);have e12:=(HP1.out.cell 2).trans (show (triV (.slice A1 32 a1) (.slice B1 32 b1) (.slice C1 32 c1))[2]?=some (.slice C1 32 c1) from rfl);have e20:=(HP2.out.cell 0).trans (show (triV (.slice A2 32 a2) (.slice B2 32 b2) (.slice C2 32 c2))[0]?=some (.slice A2 32 a2) from rfl);have e21:=(HP2.out.cell 1).trans (show (triV (.slice A2 32 a2) (.slice B2 32 b2) (.slice C2 32 c2))[1]?=some (.slice B2 32 b2) from rfl);have e22:=(HP2.out.cell 2).trans (show (triV (.slice A2 32 a2) (.slice B2 32 b2) (.slice C2 32 c2))[2]?=some (.slice C2 32 c2) from rfl);go_wp2_with fail;clear e10 e11 e12 e20 e21 e22;refine qab (Cfxy.out _ _ _ _ _ R1.out R5.out) ?_;rintro e u3 ⟨Afxy,cfxy,rfl,hc,hr,hb⟩;replace HB:=zY (HB.out.trans (hb.mono HB.out.size));replace R1:=zY (qag R1.out hb);replace R2:=zY (qag R2.out hb);replace R4:=zY (qag R4.out hb);replace R5:=zY (qag R5.out hb);replace R7:=zY (qag R7.out hb);replace Rfz:=zY (qag Rfz.out hb);replace Rfzz:=zY (qag Rfzz.out hb);replace HP1:=zY (HP1.out.below hb HP1.out.lt);replace HP2:=zY (HP2.out.below hb HP2.out.lt);replace HP:=zY (HP.out.below hb HP.out.lt);have Rfxy:=zY hr;have LEfxy:=zY hc;clear hr hc hb;have e10:=(HP1.out.cell 0).trans (show (triV (.slice A1 32 a1) (.slice B1 32 b1) (.slice C1 32 c1))[0]?=some (.slice A1 32 a1) from rfl);have e11:=(HP1.out.cell 1).trans (show (triV (.slice A1 32 a1) (.slice B1 32 b1) (.slice C1 32 c1))[1]?=some (.slice B1 32 b1) from rfl);have e12:=(HP1.out.cell 2).trans (show (triV (.slice A1 32 a1) (.slice B1 32 b1) (.slice C1 32 c1))[2]?=some (.slice C1 32 c1) from rfl);have e20:=(HP2.out.cell 0).trans (show (triV (.slice A2 32 a2) (.slice B2 32 b2) (.slice C2 32 c2))[0]?=some (.slice A2 32 a2) from rfl);have e21:=(HP2.out.cell 1).trans (show (triV (.slice A2 32 a2) (.slice B2 32 b2) (.slice C2 32 c2))[1]?=some (.slice B2 32 b2) from rfl);have e22:=(HP2.out.cell 2).trans (show (triV (.slice A2 32 a2) (.slice B2 32 b2) (.slice C2 32 c2))[2]?=some (.slice C2 32 c2) from rfl);go_wp2_with fail;clear e10 e11 e12 e20 e21 e22;refine qab (Cfyx.out _ _ _ _ _ R2.out R4.out) ?_;rintro e u4 ⟨Afyx,cfyx,rfl,hc,hr,hb⟩;replace HB:=zY (HB.out.trans (hb.mono HB.out.size));replace R1:=zY (qag R1.out hb);replace R2:=zY (qag R2.out hb);replace R4:=zY (qag R4.out hb);replace R5:=zY (qag R5.out hb);replace R7:=zY (qag R7.out hb);replace Rfz:=zY (qag Rfz.out hb);replace Rfzz:=zY (qag Rfzz.out hb);replace Rfxy:=zY (qag Rfxy.out hb);replace HP1:=zY (HP1.out.below hb HP1.out.lt);replace HP2:=zY (HP2.out.below hb HP2.out.lt);replace HP:=zY (HP.out.below hb HP.out.lt);have Rfyx:=zY hr;have LEfyx:=zY hc;clear hr hc hb;have e10:=(HP1.out.cell 0).trans (show (triV (.slice A1 32 a1) (.slice B1 32 b1) (.slice C1 32 c1))[0]?=some (.slice A1 32 a1) from rfl);have e11:=(HP1.out.cell 1).trans (show (triV (.slice A1 32 a1) (.slice B1 32 b1) (.slice C1 32 c1))[1]?=some (.slice B1 32 b1) from rfl);have e12:=(HP1.out.cell 2).trans (show (triV (.slice A1 32 a1) (.slice B1 32 b1) (.slice C1 32 c1))[2]?=some (.slice C1 32 c1) from rfl);have e20:=(HP2.out.cell 0).trans (show (triV (.slice A2 32 a2) (.slice B2 32 b2) (.slice C2 32 c2))[0]?=some (.slice A2 32 a2) from rfl);have e21:=(HP2.out.cell 1).trans (show (triV (.slice A2 32 a2) (.slice B2 32 b2) (.slice C2 32 c2))[1]?=some (.slice B2 32 b2) from rfl);have e22:=(HP2.out.cell 2).trans (show (triV (.slice A2 32 a2) (.slice B2 32 b2) (.slice C2 32 c2))[2]?=some (.slice C2 32 c2) from rfl);go_wp2_with fail;clear e10 e11 e12 e20 e21 e22;refine qab (Cfyy.out _ _ _ _ _ R2.out R5.out) ?_;rintro e u5 ⟨Afyy,cfyy,rfl,hc,hr,hb⟩;clear R2;clear R5;replace HB:=zY (HB.out.trans (hb.mono HB.out.size));replace R1:=zY (qag R1.out hb);replace R4:=zY (qag R4.out hb);replace R7:=zY (qag R7.out hb);replace Rfz:=zY (qag Rfz.out hb);replace Rfzz:=zY (qag Rfzz.out hb);replace Rfxy:=zY (qag Rfxy.out hb);replace Rfyx:=zY (qag Rfyx.out hb);replace HP1:=zY (HP1.out.below hb HP1.out.lt);replace HP2:=zY (HP2.out.below hb HP2.out.lt);replace HP:=zY (HP.out.below hb HP.out.lt);have Rfyy:=zY hr;have LEfyy:=zY hc;clear hr hc hb;have e10:=(HP1.out.cell 0).trans (show (triV (.slice A1 32 a1) (.slice B1 32 b1) (.slice C1 32 c1))[0]?=some (.slice A1 32 a1) from rfl);have e11:=(HP1.out.cell 1).trans (show (triV (.slice A1 32 a1) (.slice B1 32 b1) (.slice C1 32 c1))[1]?=some (.slice B1 32 b1) from rfl);have e12:=(HP1.out.cell 2).trans (show (triV (.slice A1 32 a1) (.slice B1 32 b1) (.slice C1 32 c1))[2]?=some (.slice C1 32 c1) from rfl);have e20:=(HP2.out.cell 0).trans (show (triV (.slice A2 32 a2) (.slice B2 32 b2) (.slice C2 32 c2))[0]?=some (.slice A2 32 a2) from rfl);have e21:=(HP2.out.cell 1).trans (show (triV (.slice A2 32 a2) (.slice B2 32 b2) (.slice C2 32 c2))[1]?=some (.slice B2 32 b2) from rfl);have e22:=(HP2.out.cell 2).trans (show (triV (.slice A2 32 a2) (.slice B2 32 b2) (.slice C2 32 c2))[2]?=some (.slice C2 32 c2) from rfl);go_wp2_with fail;clear e10 e11 e12 e20 e21 e22;refine qab (Cfxx.out _ _ _ _ _ R1.out R4.out) ?_;rintro e u6 ⟨Afxx,cfxx,rfl,hc,hr,hb⟩;clear R1;clear R4;clear HP1;clear HP2;replace HB:=zY (HB.out.trans (hb.mono HB.out.size));replace R7:=zY (qag R7.out hb);replace Rfz:=zY (qag Rfz.out hb);replace Rfzz:=zY (qag Rfzz.out hb);replace Rfxy:=zY (qag Rfxy.out hb);replace Rfyx:=zY (qag Rfyx.out hb);replace Rfyy:=zY (qag Rfyy.out hb);replace HP:=zY (HP.out.below hb HP.out.lt);have Rfxx:=zY hr;have LEfxx:=zY hc;clear hr hc hb;go_wp2_with fail;refine qab (Cfq.out _ _ _ _ _ Rfxx.out Rfyy.out) ?_;rintro e u7 ⟨Afq,cfq,rfl,hc,hr,hb⟩;replace HB:=zY (HB.out.trans (hb.mono HB.out.size));replace R7:=zY (qag R7.out hb);replace Rfz:=zY (qag Rfz.out hb);replace Rfzz:=zY (qag Rfzz.out hb);replace Rfxy:=zY (qag Rfxy.out hb);replace Rfyx:=zY (qag Rfyx.out hb);replace Rfyy:=zY (qag Rfyy.out hb);replace Rfxx:=zY (qag Rfxx.out hb);replace HP:=zY (HP.out.below hb HP.out.lt);have Rfq:=zY hr;have LEfq:=zY hc;clear hr hc hb;go_wp2_with fail;refine qab (Cfk.out _ _ _ _ _ R7.out Rfq.out) ?_;rintro e u8 ⟨Afk,cfk,rfl,hc,hr,hb⟩;clear R7;clear Rfq;replace HB:=zY (HB.out.trans (hb.mono HB.out.size));replace Rfz:=zY (qag Rfz.out hb);replace Rfzz:=zY (qag Rfzz.out hb);replace Rfxy:=zY (qag Rfxy.out hb);replace Rfyx:=zY (qag Rfyx.out hb);replace Rfyy:=zY (qag Rfyy.out hb);replace Rfxx:=zY (qag Rfxx.out hb);replace HP:=zY (HP.out.below hb HP.out.lt);have Rfk:=zY hr;have LEfk:=zY hc;clear hr hc hb;go_wp2_with fail;refine qab (Cfp.out _ _ _ _ _ Rfzz.out Rfk.out) ?_;rintro e u9 ⟨Afp,cfp,rfl,hc,hr,hb⟩;replace HB:=zY (HB.out.trans (hb.mono HB.out.size));replace Rfz:=zY (qag Rfz.out hb);replace Rfzz:=zY (qag Rfzz.out hb);replace Rfxy:=zY (qag Rfxy.out hb);replace Rfyx:=zY (qag Rfyx.out hb);replace Rfyy:=zY (qag Rfyy.out hb);replace Rfxx:=zY (qag Rfxx.out hb);replace Rfk:=zY (qag Rfk.out hb);replace HP:=zY (HP.out.below hb HP.out.lt);have Rfp:=zY hr;have LEfp:=zY hc;clear hr hc hb;go_wp2_with fail;refine qab (Cfm.out _ _ _ _ _ Rfzz.out Rfk.out) ?_;rintro e u10 ⟨Afm,cfm,rfl,hc,hr,hb⟩;clear Rfzz;clear Rfk;replace HB:=zY (HB.out.trans (hb.mono HB.out.size));replace Rfz:=zY (qag Rfz.out hb);replace Rfxy:=zY (qag Rfxy.out hb);replace Rfyx:=zY (qag Rfyx.out hb);replace Rfyy:=zY (qag Rfyy.out hb);replace Rfxx:=zY (qag Rfxx.out hb);replace Rfp:=zY (qag Rfp.out hb);replace HP:=zY (HP.out.below hb HP.out.lt);have Rfm:=zY hr;have LEfm:=zY hc;clear hr hc hb;go_wp2_with fail;refine qab (Cfa.out _ _ _ _ _ Rfxy.out Rfyx.out) ?_;rintro e u11 ⟨Afa,cfa,rfl,hc,hr,hb⟩;clear Rfxy;clear Rfyx;replace HB:=zY (HB.out.trans (hb.mono HB.out.size));replace Rfz:=zY (qag Rfz.out hb);replace Rfyy:=zY (qag Rfyy.out hb);replace Rfxx:=zY (qag Rfxx.out hb);replace Rfp:=zY (qag Rfp.out hb);replace Rfm:=zY (qag Rfm.out hb);replace HP:=zY (HP.out.below hb HP.out.lt);have Rfa:=zY hr;have LEfa:=zY hc;clear hr hc hb;go_wp2_with fail;refine qab (Cfb.out _ _ _ _ _ Rfm.out Rfa.out) ?_;rintro e u12 ⟨Afb,cfb,rfl,hc,hr,hb⟩;clear Rfa;replace HB:=zY (HB.out.trans (hb.mono HB.out.size));replace Rfz:=zY (qag Rfz.out hb);replace Rfyy:=zY (qag Rfyy.out hb);replace Rfxx:=zY (qag Rfxx.out hb);replace Rfp:=zY (qag Rfp.out hb);replace Rfm:=zY (qag Rfm.out hb);replace HP:=zY (HP.out.below hb HP.out.lt);have Rfb:=zY hr;have LEfb:=zY hc;clear hr hc hb;go_wp2_with fail;refine qab (Cfc.out _ _ _ _ _ Rfz.out Rfb.out) ?_;rintro e u13 ⟨Afc,cfc,rfl,hc,hr,hb⟩;clear Rfb;replace HB:=zY (HB.out.trans (hb.mono HB.out.size));replace Rfz:=zY (qag Rfz.out hb);replace Rfyy:=zY (qag Rfyy.out hb);replace Rfxx:=zY (qag Rfxx.out hb);replace Rfp:=zY (qag Rfp.out hb);replace Rfm:=zY (qag Rfm.out hb);replace HP:=zY (HP.out.below hb HP.out.lt);have Rfc:=zY hr;have LEfc:=zY hc;clear hr hc hb;go_wp2_with fail;refine qab (Cfe.out _ _ _ _ _ Rfyy.out Rfxx.out) ?_;rintro e u14 ⟨Afe,cfe,rfl,hc,hr,hb⟩;clear Rfyy;clear Rfxx;replace HB:=zY (HB.out.trans (hb.mono HB.out.size));replace Rfz:=zY (qag Rfz.out hb);replace Rfp:=zY (qag Rfp.out hb);replace Rfm:=zY (qag Rfm.out hb);replace Rfc:=zY (qag Rfc.out hb);replace HP:=zY (HP.out.below hb HP.out.lt);have Rfe:=zY hr;have LEfe:=zY hc;clear hr hc hb;go_wp2_with fail;refine qab (Cfg.out _ _ _ _ _ Rfp.out Rfe.out) ?_;rintro e u15 ⟨Afg,cfg,rfl,hc,hr,hb⟩;clear Rfe;replace HB:=zY (HB.out.trans (hb.mono HB.out.size));replace Rfz:=zY (qag Rfz.out hb);replace Rfp:=zY (qag Rfp.out hb);replace Rfm:=zY (qag Rfm.out hb);replace Rfc:=zY (qag Rfc.out hb);replace HP:=zY (HP.out.below hb HP.out.lt);have Rfg:=zY hr;have LEfg:=zY hc;clear hr hc hb;go_wp2_with fail;refine qab (Cfh.out _ _ _ _ _ Rfz.out Rfg.out) ?_;rintro e u16 ⟨Afh,cfh,rfl,hc,hr,hb⟩;clear Rfz;clear Rfg;replace HB:=zY (HB.out.trans (hb.mono HB.out.size));replace Rfp:=zY (qag Rfp.out hb);replace Rfm:=zY (qag Rfm.out hb);replace Rfc:=zY (qag Rfc.out hb);replace HP:=zY (HP.out.below hb HP.out.lt);have Rfh:=zY hr;have LEfh:=zY hc;clear hr hc hb;go_wp2_with fail;refine qab (Cfo.out _ _ _ _ _ Rfp.out Rfm.out) ?_;rintro e u17 ⟨Afo,cfo,rfl,hc,hr,hb⟩;clear Rfp;clear Rfm;replace HB:=zY (HB.out.trans (hb.mono HB.out.size));replace Rfc:=zY (qag Rfc.out hb);replace Rfh:=zY (qag Rfh.out hb);replace HP:=zY (HP.out.below hb HP.out.lt);have Rfo:=zY hr;have LEfo:=zY hc;clear hr hc hb;go_wp2_with (refine qad (x:=.tmp 6) (cells:=triV (.slice Afc 32 cfc) (.slice Afh 32 cfh) (.slice Afo 32 cfo)) HP.out rfl rfl rfl rfl qbH rfl (by simp [triV,Value.oneCell']) ?_; intro u30 hb30 hw30; have HP30:=zY hb30; have HW30:=zY hw30; clear hb30 hw30);refine bodyPost_ret (qau (P:=Tryz.prog) rfl rfl HP30.out hpt rfl qbH) rfl ?_;exact ⟨_,_,_,_,_,_,rfl,LEfc.out,LEfh.out,LEfo.out,qaX (Rfc.out.wrote HP.out HW30.out qb6) HW30.out.size,qaX (Rfh.out.wrote HP.out HW30.out qb6) HW30.out.size,qaX (Rfo.out.wrote HP.out HW30.out qb6) HW30.out.size,HW30.out.below HB.out HLR.out HB.out.size⟩
def lowK (l:List Nat) (i b:Nat):Nat:=leV (l.take i)+256^i*(l.getD i 0%2^b)
theorem qem (l:List Nat) (i:Nat):lowK l i 0=leV (l.take i):=by rw [lowK,Nat.pow_zero,Nat.mod_one,Nat.mul_zero,Nat.add_zero]
theorem lowK_end {l:List Nat} (h:Dg l) (i:Nat):lowK l i 8=leV (l.take (i+1)):=by
 rw [lowK,qbb,Nat.mod_eq_of_lt (show l.getD i 0<2^8 from qa3 h i)]
theorem lowK_next (l:List Nat) (i b:Nat):lowK l i (b+1)=lowK l i b+l.getD i 0/2^b%2*(256^i*2^b):=by
 rw [lowK,lowK,Nat.mod_pow_succ,Nat.mul_add];generalize l.getD i 0/2^b%2=t;rw [← Nat.add_assoc,← Nat.mul_assoc t,Nat.mul_comm t,Nat.mul_comm (2^b) t,← Nat.mul_assoc]
theorem times_add (P:PtF) (a b:Nat):times P (a+b)=plus (times P a) (times P b):=Ed.mul_add FF P a b
theorem tri_neb {l:List Nat} {A C E:Option Addr} {a b c d e f:Nat}:∀ v ∈ bnV l,∀ j:Nat,(triV (.slice A a b) (.slice C c d) (.slice E e f))[j]?≠some v:=fun v hv j=>by
 obtain ⟨n,_,rfl⟩:=List.mem_map.1 hv
 match j with
 | 0=>simp [triV]
 | 1=>simp [triV]
 | 2=>simp [triV]
 | j+3=>simp [triV]
structure FB (g:Nat) (P:PtF) (u:World):Prop where
 ex:∃ x y z A a B b C c,Blk u g 114 (triV (.slice A 32 a) (.slice B 32 b) (.slice C 32 c))∧x<PN∧y<PN∧z<PN∧Fr x y z P∧32≤a∧32≤b∧32≤c∧Rd u u.heap.size A (DN x)∧Rd u u.heap.size B (DN y)∧Rd u u.heap.size C (DN z)
theorem FB.next {g:Nat} {P:PtF} {u u':World} (h:FB g P u) (hb:Below u.heap.size u u'):FB g P u':=by
 obtain ⟨x,y,z,A,a,B,b,C,c,h1,h2,h3,h4,h5,h6,h7,h8,h9,h10,h11⟩:=h.ex;exact ⟨x,y,z,A,a,B,b,C,c,h1.below hb h1.lt,h2,h3,h4,h5,h6,h7,h8,qag h9 hb,qag h10 hb,qag h11 hb⟩
theorem FB.other {g g2:Nat} {P:PtF} {u u':World} {A C E:Option Addr} {a b c d e f:Nat} (h:FB g P u) (hw:Wrote g2 u u') (hne:g≠g2) (ho:Blk u g2 114 (triV (.slice A a b) (.slice C c d) (.slice E e f))):FB g P u':=by
 obtain ⟨x,y,z,A,a,B,b,C,c,h1,h2,h3,h4,h5,h6,h7,h8,h9,h10,h11⟩:=h.ex;exact ⟨x,y,z,A,a,B,b,C,c,hw.blk h1 hne,h2,h3,h4,h5,h6,h7,h8,qaX (h9.wrote ho hw qb6) hw.size,qaX (h10.wrote ho hw qb6) hw.size,qaX (h11.wrote ho hw qb6) hw.size⟩
def FPost (P:PtF) (w:World) (e:Ending) (w':World):Prop:=∃ x y z A a B b C c,e=.returned (.agg (triV (.slice A 32 a) (.slice B 32 b) (.slice C 32 c)))∧x<PN∧y<PN∧z<PN∧Fr x y z P∧32≤a∧32≤b∧32≤c∧Rd w' w'.heap.size A (DN x)∧Rd w' w'.heap.size B (DN y)∧Rd w' w'.heap.size C (DN z)∧Below w.heap.size w w'
theorem fadd_fr {x1 y1 z1 x2 y2 z2:Nat} {P Q:PtF} (hP:Fr x1 y1 z1 P) (hQ:Fr x2 y2 z2 Q) (p1:x1<PN) (p2:y1<PN) (p3:z1<PN) (p4:x2<PN) (p5:y2<PN) (p6:z2<PN) {A1 B1 C1 A2 B2 C2 AD:Option Addr} {a1 b1 c1 a2 b2 c2 cD:Nat} {w:World}
  (r1:Rd w w.heap.size A1 (DN x1)) (r2:Rd w w.heap.size B1 (DN y1)) (r3:Rd w w.heap.size C1 (DN z1)) (r4:Rd w w.heap.size A2 (DN x2)) (r5:Rd w w.heap.size B2 (DN y2)) (r6:Rd w w.heap.size C2 (DN z2)) (r7:Rd w w.heap.size AD (DN dN)) :
  Calls Tryz.prog 58 #[.agg (triV (.slice A1 32 a1) (.slice B1 32 b1) (.slice C1 32 c1)),.agg (triV (.slice A2 32 a2) (.slice B2 32 b2) (.slice C2 32 c2)),.slice AD 32 cD] w (FPost (plus P Q) w):=by
 obtain ⟨z,zz,xy,yx,yy,xx,q,k,p,m,a,b,c,e,g,h,o,W⟩:=frW_ex x1 y1 z1 x2 y2 z2;have hF:=W.is hP hQ
 have hc:c<PN∧h<PN∧o<PN:=by
  obtain ⟨h1,h2,h3,h4,h5,h6,h7,h8,h9,h10,h11,h12,h13,h14,h15,h16,h17⟩:=W;exact ⟨by rw [h13]; exact qaK _,by rw [h16]; exact qaK _,by rw [h17]; exact qaK _⟩
 refine Calls.mono (fadd_any W p1 p2 p3 p4 p5 p6 r1 r2 r3 r4 r5 r6 r7) fun e w' hq=>?_;obtain ⟨A,a,B,b,C,c,he,q1,q2,q3,q4,q5,q6,q7⟩:=hq;exact ⟨_,_,_,A,a,B,b,C,c,he,hc.1,hc.2.1,hc.2.2,hF,q1,q2,q3,q4,q5,q6,q7⟩
structure FM (w0:World) (g4 go gw:Nat) (AD K:Option Addr) (l:List Nat) (Q R:PtF) (u:World):Prop where
 bel:Below w0.heap.size w0 u
 pt:Blk u g4 89 (pairV nilS nilS)
 out:FB go Q u
 own:FB gw R u
 d:Rd u u.heap.size AD (DN dN)
 k:Rd u u.heap.size K (bnV l)
 l4:w0.heap.size≤g4
 lo:w0.heap.size≤go
 lw:w0.heap.size≤gw
 n1:go≠gw
 n2:g4≠go
 n3:g4≠gw
theorem FM.next {w0 u u':World} {g4 go gw:Nat} {AD K:Option Addr} {l:List Nat} {Q R:PtF} (h:FM w0 g4 go gw AD K l Q R u) (hb:Below u.heap.size u u'):FM w0 g4 go gw AD K l Q R u' :=
 ⟨h.bel.trans (hb.mono h.bel.size),h.pt.below hb h.pt.lt,h.out.next hb,h.own.next hb,qag h.d hb,qag h.k hb,h.l4,h.lo,h.lw,h.n1,h.n2,h.n3⟩
theorem FM.putW {w0 u u':World} {g4 go gw:Nat} {AD K:Option Addr} {l:List Nat} {Q R S:PtF} {x y z:Nat} {A B C A1 B1 C1:Option Addr} {a b c a1 b1 c1:Nat} (h:FM w0 g4 go gw AD K l Q R u)
  (ho:Blk u gw 114 (triV (.slice A1 32 a1) (.slice B1 32 b1) (.slice C1 32 c1))) (hw:Wrote gw u u') (hb:Blk u' gw 114 (triV (.slice A 32 a) (.slice B 32 b) (.slice C 32 c)))
  (m:x<PN∧y<PN∧z<PN∧Fr x y z S∧32≤a∧32≤b∧32≤c∧Rd u u.heap.size A (DN x)∧Rd u u.heap.size B (DN y)∧Rd u u.heap.size C (DN z)):FM w0 g4 go gw AD K l Q S u':=by
 obtain ⟨m2,m3,m4,m5,m6,m7,m8,m9,m10,m11⟩:=m;exact ⟨hw.below h.bel h.lw h.bel.size,hw.blk h.pt h.n3,h.out.other hw h.n1 ho,⟨x,y,z,A,a,B,b,C,c,hb,m2,m3,m4,m5,m6,m7,m8,qaX (m9.wrote ho hw qb6) hw.size,qaX (m10.wrote ho hw qb6) hw.size,qaX (m11.wrote ho hw qb6) hw.size⟩,qaX (h.d.wrote ho hw qb6) hw.size,qaX (h.k.wrote ho hw tri_neb) hw.size,h.l4,h.lo,h.lw,h.n1,h.n2,h.n3⟩
theorem FM.putO {w0 u u':World} {g4 go gw:Nat} {AD K:Option Addr} {l:List Nat} {Q R S:PtF} {x y z:Nat} {A B C A1 B1 C1:Option Addr} {a b c a1 b1 c1:Nat} (h:FM w0 g4 go gw AD K l Q R u)
  (ho:Blk u go 114 (triV (.slice A1 32 a1) (.slice B1 32 b1) (.slice C1 32 c1))) (hw:Wrote go u u') (hb:Blk u' go 114 (triV (.slice A 32 a) (.slice B 32 b) (.slice C 32 c)))
  (m:x<PN∧y<PN∧z<PN∧Fr x y z S∧32≤a∧32≤b∧32≤c∧Rd u u.heap.size A (DN x)∧Rd u u.heap.size B (DN y)∧Rd u u.heap.size C (DN z)):FM w0 g4 go gw AD K l S R u':=by
 obtain ⟨m2,m3,m4,m5,m6,m7,m8,m9,m10,m11⟩:=m;exact ⟨hw.below h.bel h.lo h.bel.size,hw.blk h.pt h.n2,⟨x,y,z,A,a,B,b,C,c,hb,m2,m3,m4,m5,m6,m7,m8,qaX (m9.wrote ho hw qb6) hw.size,qaX (m10.wrote ho hw qb6) hw.size,qaX (m11.wrote ho hw qb6) hw.size⟩,h.own.other hw (Ne.symm h.n1) ho,qaX (h.d.wrote ho hw qb6) hw.size,qaX (h.k.wrote ho hw tri_neb) hw.size,h.l4,h.lo,h.lw,h.n1,h.n2,h.n3⟩
structure FQ (w0:World) (g4 go:Nat) (O:Array Value) (A B I:Option Addr) (x y z:Nat) (u:World):Prop where
 bel:Below w0.heap.size w0 u
 pt:∃ A a b C c d,Blk u g4 89 (pairV (.slice A a b) (.slice C c d))
 o:Blk u go 114 O
 r1:Rd u u.heap.size A (DN x)
 r2:Rd u u.heap.size B (DN y)
 r3:Rd u u.heap.size I (DN z)
 l4:w0.heap.size≤g4
 n:g4≠go
theorem FQ.next {w0 u u':World} {g4 go:Nat} {O:Array Value} {A B I:Option Addr} {x y z:Nat} (h:FQ w0 g4 go O A B I x y z u) (hb:Below u.heap.size u u'):FQ w0 g4 go O A B I x y z u':=by
 obtain ⟨A1,a,b,C,c,d,hp⟩:=h.pt;exact ⟨h.bel.trans (hb.mono h.bel.size),⟨A1,a,b,C,c,d,hp.below hb hp.lt⟩,h.o.below hb h.o.lt,qag h.r1 hb,qag h.r2 hb,qag h.r3 hb,h.l4,h.n⟩
theorem FQ.drew {w0 u:World} {g4 go:Nat} {O:Array Value} {A B I:Option Addr} {x y z:Nat} (h:FQ w0 g4 go O A B I x y z u):FQ w0 g4 go O A B I x y z u.drew:=h.next (Below.refl _ _).drew
theorem FQ.put {w0 u u':World} {g4 go:Nat} {O:Array Value} {A B I:Option Addr} {x y z:Nat} {A1 A2 A3 A4:Option Addr} {a1 b1 c1 d1 a2 b2 c2 d2:Nat} (h:FQ w0 g4 go O A B I x y z u) (ho:Blk u g4 89 (pairV (.slice A1 a1 b1) (.slice A2 c1 d1))) (hw:Wrote g4 u u') (hb:Blk u' g4 89 (pairV (.slice A3 a2 b2) (.slice A4 c2 d2))):FQ w0 g4 go O A B I x y z u' :=
 ⟨hw.below h.bel h.l4 h.bel.size,⟨_,_,_,_,_,_,hb⟩,hw.blk h.o (Ne.symm h.n),qaX (h.r1.wrote ho hw qds) hw.size,qaX (h.r2.wrote ho hw qds) hw.size,qaX (h.r3.wrote ho hw qds) hw.size,h.l4,h.n⟩
theorem fmul_any (P:PtF) (l:List Nat) (hd:Dg l) (hl:l.length=32) {X Y K:Option Addr} {cx cy ck:Nat} {w:World}
  (r1:Rd w w.heap.size X (DN P.x.val)) (r2:Rd w w.heap.size Y (DN P.y.val)) (r3:Rd w w.heap.size K (bnV l)) (hcx:32≤cx) (hcy:32≤cy) :
  Calls Tryz.prog 38 #[.agg (pairV (.slice X 32 cx) (.slice Y 32 cy)),.slice K 32 ck] w (PairPost (times P (leV l)).x.val (times P (leV l)).y.val w):=by
 have hpt:=Tryz.underlying89;have hft:=Tryz.underlying114;have HFP:=zY (fr_of P);have PX:=zY P.x.isLt;have PY:=zY P.y.isLt;obtain ⟨w0,hw0⟩:=eX ((w.alloc (.cells (pairV (.slice X 32 cx) (.slice Y 32 cy)) 89)).alloc (.cells #[.slice none 0 0,.slice none 0 0] 89));have hb0:Below w.heap.size w w0:=by rw [hw0]; exact (below_new _ _).alloc (by simp) _
 have hp1:Blk w0 w.heap.size 89 (pairV (.slice X 32 cx) (.slice Y 32 cy)):=by rw [hw0]; exact (Blk.new _ _ _).alloc _
 have hp2:Blk w0 (w.heap.size+1) 89 (pairV nilS nilS):=by rw [hw0]; exact Blk.newAt (by simp)
 have HB:=zY hb0;have HP1:=zY hp1;have HP2:=zY hp2;have R1:=zY (qag r1 hb0);have R2:=zY (qag r2 hb0);have R3:=zY (qag r3 hb0);have HCX:=zY hcx;have HCY:=zY hcy;have HD:=zY hd;have HL:=zY hl;have HW:=zY hw0;generalize hpx:P.x.val=px at *;generalize hpy:P.y.val=py at *;clear r1 r2 r3 hcx hcy hd hl hw0 hb0 hp1 hp2;go_enter Tryz.func38,Tryz.ntmps38;go_wp2_with fail;show Calls _ _ _ ((w.alloc (.cells (pairV (.slice X 32 cx) (.slice Y 32 cy)) _)).alloc (.cells #[.slice none 0 0,.slice none 0 0] _)) _;rw [← HW.out];obtain ⟨gp,hgp⟩:=eX (w.heap.size);obtain ⟨g4,hg4⟩:=eX (w.heap.size+1);rw [← hg4] at HP2 ⊢;rw [← hgp] at HP1 ⊢;have HG4:=zY hg4;clear hgp hg4 HW;refine qab (nd_any _) ?_;rintro e u1 ⟨AD,cD,rfl,_,hr,hb⟩;replace HB:=zY (HB.out.trans (hb.mono HB.out.size));replace R1:=zY (qag R1.out hb);replace R2:=zY (qag R2.out hb);replace R3:=zY (qag R3.out hb);replace HP1:=zY (HP1.out.below hb HP1.out.lt);replace HP2:=zY (HP2.out.below hb HP2.out.lt);have RD:=zY hr;clear hr hb;go_wp2_with fail;refine qab (nint 1 (by decide) _) ?_;rintro e u2 ⟨A1,c1,rfl,hc1,hr,hb⟩;replace HB:=zY (HB.out.trans (hb.mono HB.out.size));replace R1:=zY (qag R1.out hb);replace R2:=zY (qag R2.out hb);replace R3:=zY (qag R3.out hb);replace RD:=zY (qag RD.out hb);replace HP1:=zY (HP1.out.below hb HP1.out.lt);replace HP2:=zY (HP2.out.below hb HP2.out.lt);have RO:=zY hr;have HC1:=zY hc1;clear hr hb hc1;go_wp2_with fail;refine qab (nint 0 (by decide) _) ?_;rintro e u3 ⟨A0,c0,rfl,hc0,hr,hb⟩;replace HB:=zY (HB.out.trans (hb.mono HB.out.size));replace R1:=zY (qag R1.out hb);replace R2:=zY (qag R2.out hb);replace R3:=zY (qag R3.out hb);replace RD:=zY (qag RD.out hb);replace RO:=zY (qag RO.out hb);replace HP1:=zY (HP1.out.below hb HP1.out.lt);replace HP2:=zY (HP2.out.below hb HP2.out.lt);have RZ:=zY hr;have HC0':=zY hc0;clear hr hb hc0;have hlt:=HP1.out.lt
 go_wp2_with (first
  | (refine qad (x:=.tmp 7) (cells:=triV (.slice A0 32 c0) (.slice A1 32 c1) (.slice A1 32 c1)) (Blk.new u3 _ _) rfl rfl rfl rfl qbH rfl (by simp [triV,Value.oneCell']) ?_; intro u4 hb4 hw4; have HB4:=zY hb4; have HW4:=zY hw4; have hq4:=hw4.blk (HP1.out.alloc _) (Nat.ne_of_lt hlt); have d0:=(hq4.cell 0).trans (show (pairV (.slice X 32 cx) (.slice Y 32 cy))[0]?=some (.slice X 32 cx) from rfl); have d1:=(hq4.cell 1).trans (show (pairV (.slice X 32 cx) (.slice Y 32 cy))[1]?=some (.slice Y 32 cy) from rfl); clear hb4 hw4 hq4)
  | (refine qad (x:=.tmp 8) (cells:=triV (.slice X 32 cx) (.slice Y 32 cy) (.slice A1 32 c1)) (Blk.new u4 _ _) rfl rfl rfl rfl qbH rfl (by simp [triV,Value.oneCell']) ?_; intro u5 hb5 hw5; have HB5:=zY hb5; have HW5:=zY hw5; clear d0 d1 hb5 hw5))
 have e4:u3.heap.size+1=u4.heap.size:=by rw [HW4.out.size]; simp
 have e5:u4.heap.size+1=u5.heap.size:=by rw [HW5.out.size]; simp
 have B34:Below u3.heap.size u3 u4:=HW4.out.below (below_new _ _) (Nat.le_refl _) (by simp);have B45:Below u4.heap.size u4 u5:=HW5.out.below (below_new _ _) (Nat.le_refl _) (by simp);have B35:Below u3.heap.size u3 u5:=B34.trans (B45.mono (by omega));have hz0:=HB.out.size;have hg4l:=HP2.out.lt;have hg44:=HG4.out
 have hst0:FM w g4 u3.heap.size u4.heap.size AD K l (times P (lowK l 0 0)) (times P (256^0*2^0)) u5:=by
  refine ⟨HB.out.trans (B35.mono hz0),HP2.out.below B35 hg4l,⟨0,1,1,A0,c0,A1,c1,A1,c1,HB4.out.below B45 HB4.out.lt,by decide,by decide,by decide,?_,HC0'.out,HC1.out,HC1.out,qag RZ.out B35,qag (qag RO.out (Below.refl _ _)) B35,qag RO.out B35⟩,⟨px,py,1,X,cx,Y,cy,A1,c1,HB5.out,PX.out,PY.out,by decide,?_,HCX.out,HCY.out,HC1.out,qag R1.out B35,qag R2.out B35,qag RO.out B35⟩,qag RD.out B35,qag R3.out B35,by omega,by omega,by omega,by omega,by omega,by omega⟩
  ·have h0:times P (lowK l 0 0)=zeroF:=by rw [qem]; rfl
   rw [h0];exact fr_zero
  ·have h:=HFP.out;have h1:times P (256^0*2^0)=P:=Ed.mul_one FF P;rw [h1];exact h
 have HST0:=zY hst0;generalize u3.heap.size=go at *;generalize u4.heap.size=gw at *;clear hst0 B34 B45 B35 e4 e5 hz0 hg4l hg44 hlt HB4 HB5 HW4 HW5 HP1 HP2 HB R1 R2 R3 RD RO RZ HC1 HC0' HCX HCY PX PY HFP HG4 hpx hpy
 go_loopw [9] (fun iv wr=>∃ i:Nat,i≤32∧iv=.int .i64 (i:Int)∧FM w g4 go gw AD K l (times P (lowK l i 0)) (times P (256^i*2^0)) wr) (fun iv _=>(32 - intOf iv).toNat)
 case atStart=>exact ⟨0,by omega,rfl,HST0.out⟩
 case round =>
  clear HST0;obtain ⟨i,hi,rfl,hst⟩:=hrel
  by_cases hlt:i<32
  ·have hlt':(i:Int)<32:=by omega
   obtain ⟨v0,hv0⟩:=eX (l.getD i 0);obtain ⟨ad,rfl,d1⟩:=bn_cell hst.k (k:=i) (by rw [HL.out]; exact hlt);rw [← hv0] at d1;have HI:=zY hlt;have HV0:=zY hv0;have HST:=zY hst;have hvl:v0<256:=by rw [hv0]; exact qa3 HD.out i
   have hvl':(v0:Int)<256:=by omega
   clear hst hlt hv0 hi;go_wp2_with fail;clear d1;obtain ⟨wo,rfl⟩:∃ x:World,x=wr:=⟨_,rfl⟩
   go_loopw [10,11] (fun vv bv wr=>∃ b v:Nat,b≤8∧bv=.int .i64 (b:Int)∧vv=.int .i64 (v:Int)∧v=v0/2^b∧FM w g4 go gw AD (some ad) l (times P (lowK l i b)) (times P (256^i*2^b)) wr) (fun _ bv _=>(8 - intOf bv).toNat)
   case atStart=>exact ⟨0,v0,by omega,rfl,rfl,by simp,HST.out⟩
   case round =>
    clear HST;obtain ⟨b,v,hb,rfl,rfl,hv,hst⟩:=hrel
    by_cases hb8:b<8
    ·have hb8':(b:Int)<8:=by omega
     obtain ⟨t,ht⟩:=eX (v%2);obtain ⟨v2,hv2⟩:=eX (v/2);have hv2i:(v:Int)/2=(v2:Int):=by omega
     have hvb:v<256:=by rw [hv]; exact Nat.lt_of_le_of_lt (Nat.div_le_self _ _) hvl
     have hvb':(v:Int)<256:=by omega
     have HV2:=zY (show v2=v0/2^(b+1) by rw [hv2,hv,Nat.div_div_eq_div_mul,← Nat.pow_succ]);have hnx:=lowK_next l i b;rw [← HV0.out,← hv,← ht] at hnx;have HDBL:=zY (show times P (256^i*2^(b+1))=plus (times P (256^i*2^b)) (times P (256^i*2^b)) by rw [← times_add,Nat.pow_succ]; congr 1; rw [← Nat.mul_assoc]; omega);have HB8:=zY hb8
     by_cases ht1:t=1
     ·subst ht1;have hbt:((v:Int)%2 == 1)=true:=by rw [beq_iff_eq]; omega
      rw [Nat.one_mul] at hnx;have HNXT:=zY (show times P (lowK l i (b+1))=plus (times P (lowK l i b)) (times P (256^i*2^b)) by rw [hnx,times_add]);obtain ⟨x1,y1,z1,A1,a1,B1,b1,C1,c1,j1,j2,j3,j4,j5,j6,j7,j8,j9,j10,j11⟩:=hst.out.ex;obtain ⟨x2,y2,z2,A2,a2,B2,b2,C2,c2,k1,k2,k3,k4,k5,k6,k7,k8,k9,k10,k11⟩:=hst.own.ex;have HJ:=zY j1;have HK:=zY k1;have HCALL:=zY (fadd_fr j5 k5 j2 j3 j4 k2 k3 k4 j9 j10 j11 k9 k10 k11 hst.d (a1:=a1) (b1:=b1) (c1:=c1) (a2:=a2) (b2:=b2) (c2:=c2) (cD:=cD));have HST:=zY hst;clear j1 j2 j3 j4 j5 j6 j7 j8 j9 j10 j11 k1 k2 k3 k4 k5 k6 k7 k8 k9 k10 k11 hst hnx hv ht hv2 hb8 hb hvb
      go_wp2_with (first
       | (refine qac (x:=.tmp 7) HJ.out rfl rfl rfl hft rfl qbH ?_)
       | (refine qac (x:=.tmp 8) HK.out rfl rfl rfl hft rfl qbH ?_))
      refine qab HCALL.out ?_;rintro e wa ⟨x3,y3,z3,A3,a3,B3,b3,C3,c3,rfl,m2,m3,m4,m5,m6,m7,m8,m9,m10,m11,mb⟩;have HM:=zY (And.intro m2 (And.intro m3 (And.intro m4 (And.intro m5 (And.intro m6 (And.intro m7 (And.intro m8 (And.intro m9 (And.intro m10 m11)))))))));have HS1:=zY (HST.out.next mb);have HJ1:=zY (HJ.out.below mb HJ.out.lt);clear m2 m3 m4 m5 m6 m7 m8 m9 m10 m11 mb HST HJ HK HCALL hbt;go_wp2_with (refine qad (x:=.tmp 7) (cells:=triV (.slice A3 32 a3) (.slice B3 32 b3) (.slice C3 32 c3)) HJ1.out rfl rfl rfl rfl qbH rfl (by simp [triV,Value.oneCell']) ?_; intro w5 hb5 hw5; have hs9:=HS1.out.putO HJ1.out hw5 hb5 HM.out; rw [← HNXT.out] at hs9; obtain ⟨x2,y2,z2,A2,a2,B2,b2,C2,c2,k1,k2,k3,k4,k5,k6,k7,k8,k9,k10,k11⟩:=hs9.own.ex; have HK:=zY k1; have HCALL:=zY (fadd_fr k5 k5 k2 k3 k4 k2 k3 k4 k9 k10 k11 k9 k10 k11 hs9.d (a1:=a2) (b1:=b2) (c1:=c2) (a2:=a2) (b2:=b2) (c2:=c2) (cD:=cD)); have HS:=zY hs9; clear hs9 hb5 hw5 k1 k2 k3 k4 k5 k6 k7 k8 k9 k10 k11; go_wp2_with (refine qac (x:=.tmp 8) HK.out rfl rfl rfl hft rfl qbH ?_));refine qab HCALL.out ?_;rintro e wb ⟨x5,y5,z5,A5,a5,B5,b5,C5,c5,rfl,m2,m3,m4,m5,m6,m7,m8,m9,m10,m11,mb⟩;have HM:=zY (And.intro m2 (And.intro m3 (And.intro m4 (And.intro m5 (And.intro m6 (And.intro m7 (And.intro m8 (And.intro m9 (And.intro m10 m11)))))))));have HS2:=zY (HS.out.next mb);have HK2:=zY (HK.out.below mb HK.out.lt);clear m2 m3 m4 m5 m6 m7 m8 m9 m10 m11 mb HS HK HCALL;go_wp2_with (refine qad (x:=.tmp 8) (cells:=triV (.slice A5 32 a5) (.slice B5 32 b5) (.slice C5 32 c5)) HK2.out rfl rfl rfl rfl qbH rfl (by simp [triV,Value.oneCell']) ?_; intro wc hbc hwc; have HBC:=zY hbc; have HWC:=zY hwc; clear hbc hwc);refine ⟨⟨b+1,v2,HB8.out,by go_num,rfl,HV2.out,?_⟩,by have:=HB8.out; simp [intOf]; omega⟩;rw [HDBL.out];exact HS2.out.putW HK2.out HWC.out HBC.out HM.out
     ·obtain rfl:t=0:=by omega
      have hbt:((v:Int)%2 == 1)=false:=by rw [beq_eq_false_iff_ne]; omega
      rw [Nat.zero_mul] at hnx;replace hnx:lowK l i (b+1)=lowK l i b:=hnx;obtain ⟨x2,y2,z2,A2,a2,B2,b2,C2,c2,k1,k2,k3,k4,k5,k6,k7,k8,k9,k10,k11⟩:=hst.own.ex;have HK:=zY k1;have HCALL:=zY (fadd_fr k5 k5 k2 k3 k4 k2 k3 k4 k9 k10 k11 k9 k10 k11 hst.d (a1:=a2) (b1:=b2) (c1:=c2) (a2:=a2) (b2:=b2) (c2:=c2) (cD:=cD));rw [← hnx] at hst;have HS:=zY hst;clear k1 k2 k3 k4 k5 k6 k7 k8 k9 k10 k11 hst hnx hv ht hv2 hb8 hb hvb ht1;go_wp2_with (refine qac (x:=.tmp 8) HK.out rfl rfl rfl hft rfl qbH ?_);refine qab HCALL.out ?_;rintro e wb ⟨x5,y5,z5,A5,a5,B5,b5,C5,c5,rfl,m2,m3,m4,m5,m6,m7,m8,m9,m10,m11,mb⟩;have HM:=zY (And.intro m2 (And.intro m3 (And.intro m4 (And.intro m5 (And.intro m6 (And.intro m7 (And.intro m8 (And.intro m9 (And.intro m10 m11)))))))));have HS2:=zY (HS.out.next mb);have HK2:=zY (HK.out.below mb HK.out.lt);clear m2 m3 m4 m5 m6 m7 m8 m9 m10 m11 mb HS HK HCALL;go_wp2_with (refine qad (x:=.tmp 8) (cells:=triV (.slice A5 32 a5) (.slice B5 32 b5) (.slice C5 32 c5)) HK2.out rfl rfl rfl rfl qbH rfl (by simp [triV,Value.oneCell']) ?_; intro wc hbc hwc; have HBC:=zY hbc; have HWC:=zY hwc; clear hbc hwc);refine ⟨⟨b+1,v2,HB8.out,by go_num,rfl,HV2.out,?_⟩,by have:=HB8.out; simp [intOf]; omega⟩;rw [HDBL.out];exact HS2.out.putW HK2.out HWC.out HBC.out HM.out
    ·obtain rfl:b=8:=by omega
     rw [lowK_end HD.out i,← qem,show 256^i*2^8=256^(i+1)*2^0 by rw [show (2:Nat)^8=256 from rfl,show (2:Nat)^0=1 from rfl,Nat.mul_one,Nat.pow_succ]] at hst;have HST:=zY hst;clear hst hv hb hb8;go_wp2_with fail;exact ⟨⟨i+1,HI.out,by go_num,HST.out⟩,by have:=HI.out; simp [intOf]; omega⟩
  ·obtain rfl:i=32:=by omega
   rw [qem,List.take_of_length_le (Nat.le_of_eq HL.out)] at hst;obtain ⟨x1,y1,z1,A1',a1,B1,b1,C1,c1',j1,j2,j3,j4,j5,j6,j7,j8,j9,j10,j11⟩:=hst.out.ex;obtain ⟨iv,hiv⟩:=eX (z1^(PN - 2)%PN);have hvl:iv<PN:=by rw [hiv]; exact qaK _
   obtain ⟨e1,e2⟩:=j5.pair j4 hiv;have cI:=ninv j4 j11 (c:=c1');rw [← hiv] at cI;have HCI:=zY cI;have HJ:=zY j1;have hd0:=(j1.cell 2).trans (show (triV (.slice A1' 32 a1) (.slice B1 32 b1) (.slice C1 32 c1'))[2]?=some (.slice C1 32 c1') from rfl);go_wp2_with fail;refine qab HCI.out ?_;rintro e wi ⟨AI,cI2,rfl,hcI,hrI,hbI⟩
   have hst2:FQ w g4 go (triV (.slice A1' 32 a1) (.slice B1 32 b1) (.slice C1 32 c1')) A1' B1 AI x1 y1 iv wi :=
    ⟨hst.bel.trans (hbI.mono hst.bel.size),⟨none,0,0,none,0,0,hst.pt.below hbI hst.pt.lt⟩,j1.below hbI j1.lt,qag j9 hbI,qag j10 hbI,hrI,hst.l4,hst.n2⟩
   have HC1:=zY (show ∀ ww XA xc XB xd,Rd ww ww.heap.size XA (DN x1)→Rd ww ww.heap.size XB (DN iv)→Calls Tryz.prog 60 #[.slice XA 32 xc,.slice XB 32 xd] ww (NumPost (times P (leV l)).x.val ww) from fun ww XA xc XB xd xh xk=>by rw [← e1]; exact nmul j2 hvl xh xk);have HC2:=zY (show ∀ ww XA xc XB xd,Rd ww ww.heap.size XA (DN y1)→Rd ww ww.heap.size XB (DN iv)→Calls Tryz.prog 60 #[.slice XA 32 xc,.slice XB 32 xd] ww (NumPost (times P (leV l)).y.val ww) from fun ww XA xc XB xd xh xk=>by rw [← e2]; exact nmul j3 hvl xh xk);have HS2:=zY hst2;clear j1 j2 j3 j4 j5 j6 j7 j8 j9 j10 j11 hst hiv hvl e1 e2 cI HCI HJ hd0 hcI hrI hbI hst2;generalize (times P (leV l)).x.val=tx at *;generalize (times P (leV l)).y.val=ty at *;go_wp2_with fail;have HC0:=HS2.out.drew;clear HS2
   refine qaD (fun u=>FQ w g4 go (triV (.slice A1' 32 a1) (.slice B1 32 b1) (.slice C1 32 c1')) A1' B1 AI x1 y1 iv u) (fun | false=>(fun _=>True) | true=>(fun _=>True)) (fun | false,_=>false | true,_=>false)
    [fun z _=>z 0=.pointer (some ⟨go,0,none⟩),
     fun z _=>z 1=.slice A1' 32 a1,
     fun z _=>z 2=.slice AI 32 cI2,
     fun z u=>(RdV 32 (DN tx)) (z 3) u,
     fun z _=>z 4=.pointer (some ⟨go,1,none⟩),
     fun z _=>z 5=.slice B1 32 b1,
     fun z _=>z 6=.slice AI 32 cI2,
     fun z u=>(RdV 32 (DN ty)) (z 7) u,
     fun z u=>∃ A c B d,z 8=.agg (pairV (.slice A 32 c) (.slice B 32 d))∧32≤c∧32≤d∧Rd u u.heap.size A (DN tx)∧Rd u u.heap.size B (DN ty),
     fun z u=>∃ A c B d,Blk u g4 89 (pairV (.slice A 32 c) (.slice B 32 d))∧32≤c∧32≤d∧Rd u u.heap.size A (DN tx)∧Rd u u.heap.size B (DN ty)]
    [Eq,Eq,Eq,fun u u'=>Below u.heap.size u u',Eq,Eq,Eq,fun u u'=>Below u.heap.size u u',Eq,fun u u'=>True]
    (fun i k=>(i == 9 && k == 3) || (i == 9 && k == 7) || (i == 9 && k == 8)) [(0,some 60),(1,some 61),(2,some 62),(3,some 63),(4,some 64),(5,some 65),(6,some 66),(7,some 67),(8,some 68),(9,none)] (by kernel_rfl) (by kernel_rfl) rfl (fun _=>rfl) ?_ ?_ ?_ ?_ ?_ ?_
   ·exact HC0
   ·intro m; cases m; exact trivial; exact trivial
   ·intro m; cases m
    ·refine ⟨?_,?_,?_,?_,?_,?_,?_,?_,?_,?_,trivial⟩ <;> first | exact .inr fun _ _ h h0=>h▸h0 | exact .inr fun _ _ _ h=>h
    ·refine ⟨?_,?_,?_,?_,?_,?_,?_,?_,?_,?_,trivial⟩ <;> first | exact .inr fun _ _ h h0=>h▸h0 | exact .inr fun _ _ _ h=>h
   ·refine ⟨⟨.inl rfl,?_,?_,?_,?_,?_,?_,?_,?_,?_,trivial⟩,⟨?_,.inl rfl,?_,?_,?_,?_,?_,?_,?_,?_,trivial⟩,⟨?_,?_,.inl rfl,?_,?_,?_,?_,?_,?_,?_,trivial⟩,⟨?_,?_,?_,.inl rfl,?_,?_,?_,?_,?_,?_,trivial⟩,⟨?_,?_,?_,?_,.inl rfl,?_,?_,?_,?_,?_,trivial⟩,⟨?_,?_,?_,?_,?_,.inl rfl,?_,?_,?_,?_,trivial⟩,⟨?_,?_,?_,?_,?_,?_,.inl rfl,?_,?_,?_,trivial⟩,⟨?_,?_,?_,.inr (.inr (.inr (fun _ _ _ _ h h0=>h0.next h))),?_,?_,?_,.inl rfl,?_,?_,trivial⟩,⟨?_,?_,?_,?_,?_,?_,?_,?_,.inl rfl,?_,trivial⟩,⟨?_,?_,?_,.inr (.inl rfl),?_,?_,?_,.inr (.inl rfl),.inr (.inl rfl),.inl rfl,trivial⟩,trivial⟩ <;> first | exact .inr (.inr (.inl rfl)) | exact .inr (.inr (.inr fun _ _ _ _ _ h=>h)) | exact .inr (.inr (.inr fun _ _ _ _ h h0=>by cases h; exact h0))
   ·refine ⟨?_,?_,?_,?_,?_,?_,?_,?_,?_,?_,trivial⟩
    ·refine qaf [] (fun _=>rfl) rfl ?_;intro w1 vals hC1 hi0 hf E hE;clear hi0;clear hf;simp only [sP] at hE ⊢;go_wp2;exact .mk (hE _ _ rfl hC1 rfl)
    ·refine qaf [(0,some 60)] (fun _=>rfl) rfl ?_;intro w1 vals hC1 hi0 hf E hE;clear hi0;have f0:vals 0=_:=hf 0 rfl
     try dsimp only at f0
     clear hf;have d0:=(hC1.o.cell 0).trans (show (triV (.slice A1' 32 a1) (.slice B1 32 b1) (.slice C1 32 c1'))[0]?=some (.slice A1' 32 a1) from rfl);simp only [sP,f0] at hE ⊢;clear f0;go_wp2;exact .mk (hE _ _ rfl hC1 rfl)
    ·refine qaf [] (fun _=>rfl) rfl ?_;intro w1 vals hC1 hi0 hf E hE;clear hi0;clear hf;simp only [sP] at hE ⊢;go_wp2;exact .mk (hE _ _ rfl hC1 rfl)
    ·refine qaf [(1,some 61),(2,some 62)] (fun _=>rfl) rfl ?_;intro w1 vals hC1 hi0 hf E hE;clear hi0;have f1:vals 1=_:=hf 1 rfl;have f2:vals 2=_:=hf 2 rfl
     try dsimp only at f1 f2
     clear hf;simp only [sP,f1,f2] at hE ⊢;clear f1 f2;go_wp2_with fail;refine qab (HC1.out _ _ _ _ _ hC1.r1 hC1.r3) ?_;rintro e w2 ⟨A2,c2,rfl,hc2,hr2,hb2⟩;go_wp2_with fail;exact .mk (hE _ _ ⟨A2,c2,rfl,hc2,hr2⟩ (hC1.next hb2) hb2)
    ·refine qaf [] (fun _=>rfl) rfl ?_;intro w1 vals hC1 hi0 hf E hE;clear hi0;clear hf;simp only [sP] at hE ⊢;go_wp2;exact .mk (hE _ _ rfl hC1 rfl)
    ·refine qaf [(4,some 64)] (fun _=>rfl) rfl ?_;intro w1 vals hC1 hi0 hf E hE;clear hi0;have f4:vals 4=_:=hf 4 rfl
     try dsimp only at f4
     clear hf;have d0:=(hC1.o.cell 1).trans (show (triV (.slice A1' 32 a1) (.slice B1 32 b1) (.slice C1 32 c1'))[1]?=some (.slice B1 32 b1) from rfl);simp only [sP,f4] at hE ⊢;clear f4;go_wp2;exact .mk (hE _ _ rfl hC1 rfl)
    ·refine qaf [] (fun _=>rfl) rfl ?_;intro w1 vals hC1 hi0 hf E hE;clear hi0;clear hf;simp only [sP] at hE ⊢;go_wp2;exact .mk (hE _ _ rfl hC1 rfl)
    ·refine qaf [(5,some 65),(6,some 66),(3,some 63)] (fun _=>rfl) rfl ?_;intro w1 vals hC1 hi0 hf E hE;clear hi0;have f3:(RdV 32 (DN tx)) (vals 3) w1:=hf 3 rfl;have f5:vals 5=_:=hf 5 rfl;have f6:vals 6=_:=hf 6 rfl
     try dsimp only at f3 f5 f6
     clear hf;simp only [sP,f5,f6] at hE ⊢;clear f5 f6;go_wp2_with fail;refine qab (HC2.out _ _ _ _ _ hC1.r2 hC1.r3) ?_;rintro e w2 ⟨A2,c2,rfl,hc2,hr2,hb2⟩;go_wp2_with fail;exact .mk (hE _ _ ⟨A2,c2,rfl,hc2,hr2⟩ (hC1.next hb2) hb2)
    ·refine qaf [(3,some 63),(7,some 67)] (fun _=>rfl) rfl ?_;intro w1 vals hC1 hi0 hf E hE;clear hi0;have f3:(RdV 32 (DN tx)) (vals 3) w1:=hf 3 rfl;have f7:(RdV 32 (DN ty)) (vals 7) w1:=hf 7 rfl
     try dsimp only at f3 f7
     clear hf;obtain ⟨A2,c2,hx2,hc2,hr2⟩:=f3;obtain ⟨A3,c3,hx3,hc3,hr3⟩:=f7;simp only [sP,hx2,hx3] at hE ⊢;clear hx2 hx3;go_wp2;exact .mk (hE _ _ ⟨A2,c2,A3,c3,rfl,hc2,hc3,hr2,hr3⟩ hC1 rfl)
    ·refine qaf [(8,some 68),(7,some 67),(0,some 60),(1,some 61),(2,some 62),(3,some 63),(4,some 64),(5,some 65),(6,some 66),(7,some 67),(8,some 68)] (fun _=>rfl) rfl ?_;intro w1 vals hC1 hi0 hf E hE;clear hi0;have f0:vals 0=_:=hf 0 rfl;have f1:vals 1=_:=hf 1 rfl;have f2:vals 2=_:=hf 2 rfl;have f3:(RdV 32 (DN tx)) (vals 3) w1:=hf 3 rfl;have f4:vals 4=_:=hf 4 rfl;have f5:vals 5=_:=hf 5 rfl;have f6:vals 6=_:=hf 6 rfl;have f7:(RdV 32 (DN ty)) (vals 7) w1:=hf 7 rfl;have f8:(fun z u=>∃ A c B d,z 8=.agg (pairV (.slice A 32 c) (.slice B 32 d))∧32≤c∧32≤d∧Rd u u.heap.size A (DN tx)∧Rd u u.heap.size B (DN ty)) vals w1:=hf 8 rfl
     try dsimp only at f0 f1 f2 f3 f4 f5 f6 f7 f8
     clear hf;obtain ⟨A2,c2,A3,c3,hx2,hc2,hc3,hr2,hr3⟩:=f8;obtain ⟨A4,a4,b4,C4,c4,d4,hpt4⟩:=hC1.pt;simp only [sP,f0,f1,f2,f4,f5,f6,hx2] at hE ⊢;clear f0 f1 f2 f4 f5 f6;clear hx2;refine qad (cells:=pairV (.slice A2 32 c2) (.slice A3 32 c3)) hpt4 rfl rfl rfl rfl qaO rfl (by simp [pairV,Value.oneCell']) ?_;intro w6 hb6 hw6;go_wp2_with fail;exact .mk (hE undef _ ⟨A2,c2,A3,c3,hb6,hc2,hc3,qaX (hr2.wrote hpt4 hw6 qds) hw6.size,qaX (hr3.wrote hpt4 hw6 qds) hw6.size⟩ (hC1.put hpt4 hw6 hb6) trivial)
   intro w1 vals hC1 hf;have f0:vals 0=_:=hf 0 (by decide) rfl;have f1:vals 1=_:=hf 1 (by decide) rfl;have f2:vals 2=_:=hf 2 (by decide) rfl;have f4:vals 4=_:=hf 4 (by decide) rfl;have f5:vals 5=_:=hf 5 (by decide) rfl;have f6:vals 6=_:=hf 6 (by decide) rfl;have f9:(fun z u=>∃ A c B d,Blk u g4 89 (pairV (.slice A 32 c) (.slice B 32 d))∧32≤c∧32≤d∧Rd u u.heap.size A (DN tx)∧Rd u u.heap.size B (DN ty)) vals w1:=hf 9 (by decide) rfl
   try dsimp only at f0 f1 f2 f4 f5 f6 f9
   clear hf;simp only [sP,f0,f1,f2,f4,f5,f6];clear f0 f1 f2 f4 f5 f6;generalize vals 3=x3 at *;generalize vals 7=x7 at *;generalize vals 8=x8 at *;obtain ⟨A2,c2,A3,c3,hb6,hc2,hc3,hr2,hr3⟩:=f9;go_wp2_with fail;refine bodyPost_ret (qau (P:=Tryz.prog) rfl rfl hb6 hpt rfl qaO) rfl ?_;exact ⟨_,_,_,_,rfl,hc2,hc3,hr2,hr3,hC1.bel⟩
def BnPost (L:List Nat) (w:World) (e:Ending) (w':World):Prop:=∃ A c,e=.returned (.slice A 32 c)∧32≤c∧Rd w' w'.heap.size A (bnV L)∧Below w.heap.size w w'
theorem bnVl (l:List Nat):(bnV l).length=l.length:=by simp [bnV]
theorem nbytes_any {x y:Nat} (lx:x<PN) (ly:y<PN) {X Y:Option Addr} {cx cy:Nat} {w:World} (hc:32≤cy) (hx:Rd w w.heap.size X (DN x)) (hy:Rd w w.heap.size Y (DN y)) :
  Calls Tryz.prog 37 #[.agg (pairV (.slice X 32 cx) (.slice Y 32 cy))] w (BnPost (byP x y) w):=by
 have hpt:=Tryz.underlying89;obtain ⟨L,hL⟩:=eX (byN y);obtain ⟨b,hb⟩:=eX (L.getD 31 0);have hLl:L.length=32:=by rw [hL]; exact qbs _
 have hb128:b<128:=by rw [hb,hL]; exact byN_high ly
 have hres:byP x y=if x%2=1 then L.set 31 (b+128) else L:=by rw [hb,hL]; rfl
 obtain ⟨M,hM⟩:=eX (byP x y);rw [← hM];rw [← hM] at hres
 have CB:=zY (show ∀ ww,Rd ww ww.heap.size Y (DN y)→Calls Tryz.prog 55 #[.slice Y 32 cy] ww (OwnPostZ 5 32 (bnV L) ww) from fun ww h=>by
  have q:=rbytesz_any (digN 32 y) (qa0 _ _) Y cy ww h (by rw [qaj]; exact hc) (by rw [qaj]; decide);rw [qaj,refB_dig,← bnV_byB,← hL] at q;exact q)
 have HB:=zY (below_new w (.cells (pairV (.slice X 32 cx) (.slice Y 32 cy)) 89));have HP:=zY (Blk.new w 89 (pairV (.slice X 32 cx) (.slice Y 32 cy)));have RX:=zY (qag hx HB.out);have RY:=zY (qag hy HB.out);have HRES:=zY hres;have HLX:=zY lx;have HLL:=zY hLl;have HBB:=zY hb;have hr2:x%256%2=x%2:=Nat.mod_mod_of_dvd x (by decide);have H2:=zY hr2;clear hL hb hLl hres hM lx ly hc hx hy hr2;have d0:=(HP.out.cell 0).trans (show (pairV (.slice X 32 cx) (.slice Y 32 cy))[0]?=some (.slice X 32 cx) from rfl);have d1:=(HP.out.cell 1).trans (show (pairV (.slice X 32 cx) (.slice Y 32 cy))[1]?=some (.slice Y 32 cy) from rfl);go_enter Tryz.func37,Tryz.ntmps37;go_wp2_with fail;clear d0 d1;refine qab (CB.out _ RY.out) ?_;rintro e w1 ⟨A1,c1,rfl,hown,hb1⟩;obtain ⟨g1,ys,rfl,hg1,hc1,hblk⟩:=hown.blk (by decide);have HP1:=zY (HP.out.below hb1 HP.out.lt);have RX1:=zY (qag RX.out hb1);have HB1:=zY (HB.out.trans (hb1.mono HB.out.size));have HG1:=zY (Nat.le_trans HB.out.size hg1);have HQ:=zY hblk;have HC1:=zY hc1;clear hown hb1 hg1 hc1 hblk HP RX RY HB;generalize w.heap.size=g at HP1 ⊢;have d0:=(HP1.out.cell 0).trans (show (pairV (.slice X 32 cx) (.slice Y 32 cy))[0]?=some (.slice X 32 cx) from rfl);obtain ⟨ad,had,dd⟩:=digit0 HLX.out RX1.out;subst had;rw [show ad.add 0=ad from rfl] at dd;obtain ⟨m,hm⟩:=eX (x%256);rw [← hm] at dd;have hm2:m%2=x%2:=by rw [hm]; exact H2.out
 by_cases hodd:x%2=1
 ·have hmi:(m:Int)%2=1:=by omega
  have e1:M=L.set 31 (b+128):=by rw [HRES.out,if_pos hodd]
  have HE:=zY e1;have hb2:(b:Int)<128:=by omega
  have dl:=HQ.out.cell 31
  rw [show (bnV L++ys).toArray[31]?=some (.int .u8 (b:Int)) by
   rw [List.getElem?_toArray,List.getElem?_append_left (by rw [bnVl,HLL.out]; decide),← List.getElem?_toArray,bnV_get (by rw [HLL.out]; decide),HBB.out]] at dl
  have hfr:=HQ.out.free 31;clear hodd e1 hm hm2 hb128;go_wp2_with (refine qam (x:=.tmp 18) (i:=31) (v:=.int .u8 ((b:Int)+128)) HQ.out rfl rfl rfl rfl qdY (by rw [List.size_toArray,List.length_append,bnVl,HLL.out]; omega) rfl ?_; intro w5 hb5 hw5; have HB5:=zY hb5; have HW5:=zY hw5; clear hb5 hw5);go_ret;have hq:=HB5.out;rw [set_front (by rw [bnVl,HLL.out]; decide),show ((b:Int)+128)=((b+128:Nat):Int) from rfl,show (bnV L).set 31 (.int .u8 ((b+128:Nat):Int))=bnV (L.set 31 (b+128)) by simp [bnV,List.map_set],← HE.out] at hq;exact ⟨_,c1,rfl,HC1.out,(Rd.of_blk hq hq.lt).front,HW5.out.below HB1.out HG1.out HB1.out.size⟩
 ·have hmi:(m:Int)%2=0:=by omega
  have e1:M=L:=by rw [HRES.out,if_neg hodd]
  have HE:=zY e1;clear hodd e1 hm hm2 hb128;go_wp2_with fail;go_ret;have hq:=HQ.out;rw [← HE.out] at hq;exact ⟨_,c1,rfl,HC1.out,(Rd.of_blk hq hq.lt).front,HB1.out⟩
theorem base_y:4*(5^(PN - 2)%PN)%PN=byNN:=by
 rw [← qdS,← pm_eq]
 decide
theorem base_w {y2 u t v i a x q:Nat} (W:OfW byNN y2 u t v i a x q):ofR (rtV a x q) (rtB a x q) false=some bxN:=by
 obtain ⟨h1,h2,h3,h4,h5,h6,h7,h8⟩:=W;have e1:y2=37053468555941182535542715202780130513046395093004980492626426882532201484768:=h1.trans (by decide);have e2:u=37053468555941182535542715202780130513046395093004980492626426882532201484767:=by rw [h2,e1]; decide
 have e3:t=35320460721920060721965471946471712506633951349663716574434581141966314745465:=by rw [h3,e1]; decide
 have e4:v=35320460721920060721965471946471712506633951349663716574434581141966314745466:=by rw [h4,e3]; decide
 have e5:i=36615873626505047815401509688526422966742341385236691817538452001808239043262:=by rw [h5,e4,← qdS,← pm_eq]; decide
 have e6:a=26187595835145689230469591415084376402084551887632582719101735842039498021991:=by rw [h6,e2,e5]; decide
 have e7:x=42783823269122696939284341094755422415180979639778424813682678720006717057747:=by rw [h7,e6,← pm_eq]; decide
 clear h1 h2 h3 h4 h5 h6 h7 h8 e1 e2 e3 e4 e5
 have r1:rtV a x q=42783823269122696939284341094755422415180979639778424813682678720006717057747:=by
  rw [rtV,e6,e7,if_pos (by decide)]
 have r2:rtB a x q=true:=by
  rw [rtB,e6,e7,if_pos (by decide)]
 rw [r1,r2]
 decide
theorem nbase_any (w:World):Calls Tryz.prog 39 #[] w (PairPost bxN byNN w):=by
 have hpt:=Tryz.underlying89;obtain ⟨i5,hi5⟩:=eX (5^(PN - 2)%PN);have li5:i5<PN:=by rw [hi5]; exact qaK _
 have hy:=base_y;rw [← hi5] at hy;obtain ⟨y2,u,t,v,i,a,x,q,W⟩:∃ y2 u t v i a x q,OfW byNN y2 u t v i a x q:=⟨_,_,_,_,_,_,_,_,⟨rfl,rfl,rfl,rfl,rfl,rfl,rfl,rfl⟩⟩;have hbw:=base_w W;have lby:byNN<PN:=by decide
 have C4:=zY (show ∀ u,Calls Tryz.prog 57 #[.int .i64 4] u (NumPost 4 u) from fun u=>nint 4 (by decide) u);have C5:=zY (show ∀ u,Calls Tryz.prog 57 #[.int .i64 5] u (NumPost 5 u) from fun u=>nint 5 (by decide) u);have CI:=zY (show ∀ ww XA xc,Rd ww ww.heap.size XA (DN 5)→Calls Tryz.prog 59 #[.slice XA 32 xc] ww (NumPost i5 ww) from fun ww XA xc xh=>by rw [hi5]; exact ninv (by decide) xh);have CM:=zY (show ∀ ww XA xc XB xd,Rd ww ww.heap.size XA (DN 4)→Rd ww ww.heap.size XB (DN i5)→Calls Tryz.prog 60 #[.slice XA 32 xc,.slice XB 32 xd] ww (NumPost byNN ww) from fun ww XA xc XB xd xh xk=>by rw [← hy]; exact nmul (by decide) li5 xh xk)
 have CO:=zY (show ∀ ww XA xc,32≤xc→Rd ww ww.heap.size XA (DN byNN)→Calls Tryz.prog 61 #[.slice XA 32 xc,.bool false] ww (OfNPost (some bxN) (.slice XA 32 xc) ww) from fun ww XA xc hc xh=>by
  have h:=nof_any W lby false hc xh;rw [hbw] at h;exact h)
 clear hi5 li5 hy W hbw lby;generalize byNN=Y at *;generalize bxN=X at *;have HB:=zY (below_new w (.cells (pairV nilS nilS) 89));have HP:=zY (Blk.new w 89 (pairV nilS nilS));go_enter Tryz.func39,Tryz.ntmps39;go_wp2_with fail;refine qab (C4.out _) ?_;rintro e w1 ⟨A4,c4,rfl,hc4,hr4,hb1⟩;have HB1:=zY (HB.out.trans (hb1.mono HB.out.size));have HP1:=zY (HP.out.below hb1 HP.out.lt);have R4:=zY hr4;clear hc4 hr4 hb1 HB HP;generalize hg:w.heap.size=g at HP1 ⊢;have HG:=zY hg;clear hg;go_wp2_with fail;refine qab (C5.out _) ?_;rintro e w2 ⟨A5,c5,rfl,hc5,hr5,hb⟩;replace HB1:=zY (HB1.out.trans (hb.mono HB1.out.size));replace HP1:=zY (HP1.out.below hb HP1.out.lt);replace R4:=zY (qag R4.out hb);have R5:=zY hr5;clear hc5 hr5 hb;go_wp2_with fail;refine qab (CI.out _ _ _ R5.out) ?_;rintro e w3 ⟨A6,c6,rfl,hc6,hr6,hb⟩;replace HB1:=zY (HB1.out.trans (hb.mono HB1.out.size));replace HP1:=zY (HP1.out.below hb HP1.out.lt);replace R4:=zY (qag R4.out hb);have R6:=zY hr6;clear hc6 hr6 hb R5;go_wp2_with fail;refine qab (CM.out _ _ _ _ _ R4.out R6.out) ?_;rintro e w4 ⟨A7,c7,rfl,hc7,hr7,hb⟩;replace HB1:=zY (HB1.out.trans (hb.mono HB1.out.size));replace HP1:=zY (HP1.out.below hb HP1.out.lt);have R7:=zY hr7;have L7:=zY hc7;clear hc7 hr7 hb R4 R6;go_wp2_with fail;refine qab (CO.out _ _ _ L7.out R7.out) ?_;rintro e w5 ⟨hb,A8,c8,rfl,hc8,hr8⟩;replace HB1:=zY (HB1.out.trans (hb.mono HB1.out.size));replace HP1:=zY (HP1.out.below hb HP1.out.lt);replace R7:=zY (qag R7.out hb);have R8:=zY hr8;have L8:=zY hc8;clear hc8 hr8 hb
 go_wp2_with (first
  | (refine qad (x:=.tmp 1) (cells:=pairV (.slice A8 32 c8) (.slice A7 32 c7)) (Blk.new _ _ _) rfl rfl rfl rfl qaO rfl (by simp [pairV,Value.oneCell']) ?_; intro w6 hb6 hw6; have hk6:=qcC hw6; have HQ:=zY hb6; have HP6:=zY (HP1.out.below hk6 HP1.out.lt); have HB6:=zY (HB1.out.trans (hk6.mono HB1.out.size)); have R76:=zY (qag R7.out hk6); have R86:=zY (qag R8.out hk6); clear hb6 hw6 hk6 HP1 HB1 R7 R8)
  | (refine qac (x:=.tmp 1) HQ.out rfl rfl rfl hpt rfl qaO ?_)
  | (refine qad (x:=.tmp 0) (cells:=pairV (.slice A8 32 c8) (.slice A7 32 c7)) HP6.out rfl rfl rfl rfl qaO rfl (by simp [pairV,Value.oneCell']) ?_; intro w7 hb7 hw7; have HP7:=zY hb7; have HW7:=zY hw7; clear hb7 hw7))
 refine bodyPost_ret (qau (P:=Tryz.prog) rfl rfl HP7.out hpt rfl qaO) rfl ?_;exact ⟨_,_,_,_,rfl,L8.out,L7.out,qaX (R86.out.pair HP6.out HW7.out) HW7.out.size,qaX (R76.out.pair HP6.out HW7.out) HW7.out.size,HW7.out.below HB6.out (Nat.le_of_eq HG.out) HB6.out.size⟩
theorem bxF_val:baseF.x.val=bxN:=qdc (by decide)
theorem byF_val:baseF.y.val=byNN:=qdc (by decide)
theorem rmulbase {l:List Nat} (hd:Dg l) (hl:l.length=32) {X Y K:Option Addr} {cx cy ck:Nat} {w:World}
  (r1:Rd w w.heap.size X (DN bxN)) (r2:Rd w w.heap.size Y (DN byNN)) (r3:Rd w w.heap.size K (bnV l)) (hcx:32≤cx) (hcy:32≤cy) :
  Calls Tryz.prog 38 #[.agg (pairV (.slice X 32 cx) (.slice Y 32 cy)),.slice K 32 ck] w (PairPost (times baseF (leV l)).x.val (times baseF (leV l)).y.val w) :=
 fmul_any baseF l hd hl (by rw [bxF_val]; exact r1) (by rw [byF_val]; exact r2) r3 hcx hcy
theorem rpublic_any (b:List UInt8) (hl:b.length=32) (hdl:(Sh.digS Sh.F64 b).length=64) (A:Option Addr) (c:Nat) (w:World) (hr:Rd w w.heap.size A (bytesV b)) (hc:32≤c) :
  Calls Tryz.prog 27 #[.slice A 32 c] w (BnPost (pubL (keyN b)) w):=by
 have hs:=rsecret_any b A c w hr (by rw [hl]; decide) (by rw [hl]; exact hc);rw [hl] at hs;have HS:=zY hs;obtain ⟨K,hK⟩:=eX ((secL b).take 32);have hKl:K.length=32:=by rw [hK,List.length_take,secD_len b hdl]; rfl
 have hKd:Dg K:=by
  have h:Dg (secL b):=clampL_dg (digs_dg _);exact fun d hd=>h d (List.mem_of_mem_take (by rw [hK] at hd; exact hd))
 have HK:=zY hK;have HKL:=zY hKl;have HKD:=zY hKd;clear hs hr hc hl hdl hK hKl hKd;go_enter Tryz.func27,Tryz.ntmps27;go_wp2_with fail;refine qab HS.out ?_;rintro e w1 ⟨A1,c1,B1,d1,rfl,hc1,hd1,r1,r2,hb1⟩;rw [← HK.out] at r1;have H1:=zY (And.intro r1 hb1);clear r1 r2 hb1 hc1 hd1;go_wp2_with fail;refine qab (nbase_any _) ?_;rintro e w2 ⟨X,cx,Y,cy,rfl,hcx,hcy,rx,ry,hb2⟩;have hm:=rmulbase HKD.out HKL.out rx ry ((H1.out.1.below hb2).mono hb2.size) (ck:=c1) hcx hcy;have HM:=zY hm;have HB2:=zY (H1.out.2.trans (hb2.mono H1.out.2.size));clear rx ry hb2 hcx hcy hm H1;go_wp2_with fail;refine qab HM.out ?_;rintro e w3 ⟨X3,cx3,Y3,cy3,rfl,hcx,hcy,rx,ry,hb3⟩;have hby:=nbytes_any (times baseF (leV K)).x.isLt (times baseF (leV K)).y.isLt (cx:=cx3) hcy rx ry;have HBY:=zY hby;have HB3:=zY (HB2.out.trans (hb3.mono HB2.out.size));clear rx ry hb3 hcx hcy hby HM;go_wp2_with fail;refine qab HBY.out ?_;rintro e w4 ⟨A5,c5,rfl,hc5,hr5,hb5⟩;have HF:=zY (show 32≤c5∧Rd w4 w4.heap.size A5 (bnV (pubL (keyN b)))∧Below w.heap.size w w4 from ⟨hc5,by rw [pubL,keyN,← HK.out]; exact hr5,HB3.out.trans (hb5.mono HB3.out.size)⟩);clear hc5 hr5 hb5;go_wp2_with fail;go_ret;exact ⟨A5,c5,rfl,HF.out⟩
end Go.Proofs.YtcbkaaodmjphdaaGreatDoor
namespace Go.Proofs.YtcbkaaodmjphdaaGreatDoor
set_option linter.unusedSimpArgs false
set_option linter.unusedVariables false
set_option maxRecDepth 100000
set_option maxHeartbeats 4000000
open Go.RowKit Go.Shelf
section
variable {P:Program} {F:Fence} {n:Nat} {w:World} {ops:Array Oper} {rest:List Oper} {o:Oper} {a:Act} {Q:Exit→Act→World→Prop}
theorem qbW {ty:TypeId} {x:Operand} {g:Nat} {cs:Array Value} {t:TypeId} {d:TypeDesc}
  (hg:Blk w g t cs) (hgd:o.guard=none) (ho:o.op=.load ty x) (hx:a.eval x=.pointer (some ⟨g,0,none⟩))
  (hu:P.underlying ty=some d) (hd:(match d with | .struct _ | .array _ _=>true | _=>false)=true) (hi:(P.info? ty).map (·.size)=some cs.size)
  (h:wpListIn F n P ops Q rest (a.put o.dst (.agg cs)) w):wpListIn F n P ops Q (o :: rest) a w:=by
 refine wpListIn_plain hgd fun K hK=>?_;have hl:=run_loadVar_row (P:=P) w g t ty cs (0,0) d hg hu hd hi;unfold Oper.wpIn;refine ⟨by simp [Oper.about,ho],?_⟩;rw [Oper.semAt_plain F _ _ (by rw [ho]; intro c hc'; cases hc')];simp only [execOp,ho,hx,Instr.loadAt,Instr.sureAddr,Sem.run_bind,Sem.run_pure,Result.andThen_ok,hl];exact hK _ _ h
theorem qa6 {ty:TypeId} {x y:Operand} {g:Nat} {cells old:Array Value} {t:TypeId}
  (hg:Blk w g t old) (hgd:o.guard=none) (ho:o.op=.store ty x y) (hx:a.eval x=.pointer (some ⟨g,0,none⟩)) (hy:a.eval y=.agg cells)
  (hi:(P.info? ty).map (·.size)=some cells.size) (hold:old.size=cells.size) (h1:cells.all (·.oneCell')=true)
  (h:∀ w',Blk w' g t cells→Wrote g w w'→w'=w.setRow g cells→wpListIn F n P ops Q rest (a.put o.dst undef) w'):wpListIn F n P ops Q (o :: rest) a w:=by
 refine wpListIn_plain hgd fun K hK=>?_;unfold Oper.wpIn;refine ⟨by simp [Oper.about,ho],?_⟩;rw [Oper.semAt_plain F _ _ (by rw [ho]; intro c hc'; cases hc')];simp only [execOp,ho,hx,hy,Instr.storeAt,Instr.sureAddr,Sem.run_bind,Sem.run_pure,Result.andThen_ok,run_storeVar_row w g t ty old cells hg hi hold h1];exact hK _ _ (h _ (setRow_heap w g old cells t (0,0) hg) (qbA w g cells) rfl)
theorem qcd {ty:TypeId} {x y:Operand} {g i:Nat} {v:Value} {cs:Array Value} {t:TypeId}
  (hg:Blk w g t cs) (hgd:o.guard=none) (ho:o.op=.store ty x y) (hx:a.eval x=.pointer (some ⟨g,i,none⟩)) (hy:a.eval y=v)
  (hi:(P.info? ty).map (·.size)=some 1) (hlt:i<cs.size) (h1:v.oneCell'=true)
  (h:∀ w',Blk w' g t (cs.setIfInBounds i v)→Wrote g w w'→w'=w.setRow g (cs.setIfInBounds i v)→wpListIn F n P ops Q rest (a.put o.dst undef) w'):wpListIn F n P ops Q (o :: rest) a w:=by
 refine wpListIn_plain hgd fun K hK=>?_;have hr:=qcS (P:=P) (ty:=ty) hg hi hlt h1;unfold Oper.wpIn;refine ⟨by simp [Oper.about,ho],?_⟩;rw [Oper.semAt_plain F _ _ (by rw [ho]; intro c hc'; cases hc')];simp only [execOp,ho,hx,hy,Instr.storeAt,Instr.sureAddr,Sem.run_bind,Sem.run_pure,Result.andThen_ok,hr];exact hK _ _ (h _ (setRow_heap w g cs _ t (0,0) hg) (qbA w g _) rfl)
theorem qcT {ty:TypeId} {p:Addr} {r:List Value} {d:TypeDesc} (hr:∀ j u,r[j]?=some u→w.cell? (p.add j)=some u)
  (hu:P.underlying ty=some d) (hd:(match d with | .struct _ | .array _ _=>true | _=>false)=true) (hi:(P.info? ty).map (·.size)=some r.length) :
  (loadVar ty p).run P w=.ok (.agg r.toArray) w:=by
 have hl:(loadCells p r.length).run P w=.ok r.toArray w:=run_loadCells_list (P:=P) w p r hr
 cases hq:P.info? ty with
 | none=>simp [hq] at hi
 | some i =>
  have hs:i.size=r.length:=by simpa [hq] using hi
  have hagg:(isAgg ty).run P w=.ok true w:=by
   unfold isAgg;rw [Sem.run_bind,run_underlying hu w]
   cases d <;> simp_all
  simp [loadVar,Sem.run_bind,hagg,sizeOf,typeInfo,hq,hs,hl]
theorem qdW {ty:TypeId} {x:Operand} {p:Addr} {r:List Value} {d:TypeDesc} (hr:∀ j u,r[j]?=some u→w.cell? (p.add j)=some u)
  (hgd:o.guard=none) (ho:o.op=.load ty x) (hx:a.eval x=.pointer (some p))
  (hu:P.underlying ty=some d) (hd:(match d with | .struct _ | .array _ _=>true | _=>false)=true) (hi:(P.info? ty).map (·.size)=some r.length)
  (h:wpListIn F n P ops Q rest (a.put o.dst (.agg r.toArray)) w):wpListIn F n P ops Q (o :: rest) a w:=by
 refine wpListIn_plain hgd fun K hK=>?_;have hl:=qcT (P:=P) (w:=w) hr hu hd hi;unfold Oper.wpIn;refine ⟨by simp [Oper.about,ho],?_⟩;rw [Oper.semAt_plain F _ _ (by rw [ho]; intro c hc'; cases hc')];simp only [execOp,ho,hx,Instr.loadAt,Instr.sureAddr,Sem.run_bind,Sem.run_pure,Result.andThen_ok,hl];exact hK _ _ h
theorem wpListIn_open (hw:Region.wanted o (yielded ops a.tmps)=true) (h:wpListIn F n P ops Q ({ o with guard:=none } :: rest) a w):wpListIn F n P ops Q (o :: rest) a w:=by
 have hw':∀ (O:Array Oper) (t:Array Value),Region.wanted { o with guard:=none } (yielded O t)=true:=fun O t=>by simp [Region.wanted]
 simp only [wpListIn,hw,hw',if_true] at h ⊢;exact h
theorem qaV {fn:Func} {p q:Tmp} {ty ty2:TypeId} (h:fn.results=#[.cell p ty,.cell q ty2]) {tmps:Array Value} {g g2:Nat} {cs:Array Value} {v:Value} {t t2:TypeId} {d:TypeDesc} (hp:tmps.getD p undef=.pointer (some ⟨g,0,none⟩)) (hq:tmps.getD q undef=.pointer (some ⟨g2,0,none⟩))
  (hg:Blk w g t cs) (hg2:Blk w g2 t2 #[v]) (hu:P.underlying ty=some d) (hd:(match d with | .struct _ | .array _ _=>true | _=>false)=true) (hi:(P.info? ty).map (·.size)=some cs.size)
  (hv:(loadVar ty2 ⟨g2,0,none⟩).run P w=.ok v w) :
  (results fn tmps).run P w=.ok (.tuple #[.agg cs,v]) w:=by
 have hl:=run_loadVar_row (P:=P) w g t ty cs (0,0) d hg hu hd hi;have hp':tmps[p]?.getD undef=.pointer (some ⟨g,0,none⟩):=by simpa using hp
 have hq':tmps[q]?.getD undef=.pointer (some ⟨g2,0,none⟩):=by simpa using hq
 simp only [results,h];simp [Sem.run_bind,Result.andThen,hp',hq',asAddr,hl,hv]
end
structure KeyD where
 kid:ByteArray
 seed:ByteArray
 state:Int
 since:Int
def keyCells (k:KeyD):Array Value:=#[.string k.kid,.string k.seed,.int .i64 k.state,.int .i64 k.since]
def keysV (l:List KeyD):List Value:=l.flatMap fun k=>(keyCells k).toList
def zKey:KeyD:=⟨⟨#[]⟩,⟨#[]⟩,0,0⟩
theorem qas (k:KeyD):(keyCells k).all (·.oneCell')=true:=by simp [keyCells,Value.oneCell']
theorem qdR:∀ (l:List KeyD) (i:Nat) (h:i<l.length) (j:Nat) (u:Value),(keyCells l[i])[j]?=some u→(keysV l)[4*i+j]?=some u
 | k :: r,0,_,j,u,hu=>by
  rw [keysV,List.flatMap_cons]
  have hj:j<4:=by
   have:=(Array.getElem?_eq_some_iff.1 hu).1;rw [List.getElem_cons_zero] at this
   simpa [keyCells] using this
  rw [List.getElem?_append_left (by simpa [keyCells] using by omega)]
  simpa using hu
 | k :: r,i+1,h,j,u,hu=>by
  rw [keysV,List.flatMap_cons,List.getElem?_append_right (by simp [keyCells]; omega)];have:=qdR r i (by simpa using h) j u (by simpa using hu);rw [keysV] at this;rw [← this]
  congr 1
  simp [keyCells];omega
theorem rd_key {w:World} {B:Nat} {A:Option Addr} {l:List KeyD} (h:Rd w B A (keysV l)) {i:Nat} (hi:i<l.length) :
  ∃ ad,A=some ad∧ad.block<B∧∀ j u,(keyCells l[i])[j]?=some u→w.cell? ((ad.add (4*i)).add j)=some u:=by
 have h0:=qdR l i hi 0 (.string l[i].kid) rfl;obtain ⟨ad,hA,hb,-⟩:=h _ _ h0;refine ⟨ad,hA,hb,fun j u hu=>?_⟩;obtain ⟨ad',hA',-,hc⟩:=h _ _ (qdR l i hi j u hu);rw [hA] at hA'
 injection hA' with e
 subst e;rw [← hc]
 congr 1
 generalize 4*i=m;unfold Addr.add
 by_cases h1:m=0 <;> by_cases h2:j=0 <;> simp [h1,h2,Nat.add_assoc]
def keysOf (l:List KeyD) (st:Int):List KeyD:=l.filter fun k=>decide (k.state=st)
theorem keysOf_yes {l:List KeyD} {st:Int} {i:Nat} (hi:i<l.length) (h:l[i].state=st):keysOf (l.take (i+1)) st=keysOf (l.take i) st++[l[i]]:=by
 rw [List.take_succ_eq_append_getElem hi,keysOf,List.filter_append,show List.filter (fun k:KeyD=>decide (k.state=st)) [l[i]]=[l[i]] by simp [h]];rfl
theorem keysOf_no {l:List KeyD} {st:Int} {i:Nat} (hi:i<l.length) (h:¬ l[i].state=st):keysOf (l.take (i+1)) st=keysOf (l.take i) st:=by
 rw [List.take_succ_eq_append_getElem hi,keysOf,List.filter_append,show List.filter (fun k:KeyD=>decide (k.state=st)) [l[i]]=[] by simp [h],List.append_nil];rfl
theorem keysOf_pre (l:List KeyD) (st:Int) (i:Nat):keysOf (l.take i) st <+: keysOf l st:=by
 conv=>rhs; rw [← List.take_append_drop i l]
 rw [keysOf,keysOf,List.filter_append];exact List.prefix_append _ _
theorem keysOf_le (l:List KeyD) (st:Int) (i:Nat):(keysOf (l.take i) st).length≤i:=by
 refine Nat.le_trans (List.length_filter_le _ _) ?_;rw [List.length_take];omega
theorem qat:(Tryz.prog.info? 33).map (·.size)=some 4:=by kernel_rfl
theorem qcn {F:Fence} {n:Nat} {w:World} {ops:Array Oper} {rest:List Oper} {o:Oper} {a:Act} {Q:Exit→Act→World→Prop} {x:Operand} {p:Addr} {k:KeyD} (hr:∀ j u,(keyCells k)[j]?=some u→w.cell? (p.add j)=some u)
  (hgd:o.guard=none) (ho:o.op=.load 33 x) (hx:a.eval x=.pointer (some p))
  (h:wpListIn F n Tryz.prog ops Q rest (a.put o.dst (.agg (keyCells k))) w):wpListIn F n Tryz.prog ops Q (o :: rest) a w :=
 qdW (r:=(keyCells k).toList) (fun j u hu=>hr j u (by simpa using hu)) hgd ho hx Tryz.underlying33 rfl qat (by simpa using h)
end Go.Proofs.YtcbkaaodmjphdaaGreatDoor
namespace Go.Proofs.YtcbkaaodmjphdaaGreatDoor
set_option linter.unusedSimpArgs false
set_option linter.unusedVariables false
set_option maxRecDepth 100000
set_option maxHeartbeats 4000000
open Go.RowKit
theorem digS32_len (d:List UInt8):(Sh.digS Sh.F32 d).length=32:=by
 unfold Sh.digS;generalize Sh.runS Sh.F32 (Sh.padS Sh.F32 d) ((Sh.padS Sh.F32 d).length/(2*Sh.F32.bits))=s;simp [Sh.s8L,Sh.wordB_length,Sh.F32]
def mkKey (b:List UInt8) (now:Int):KeyD:=⟨nameS (ptB (keyN b)),⟨b.toArray⟩,1,now⟩
def makeOk (b:List UInt8) (now:Int):Bool:=decide (b.length=32) && decide (0≤now) && decide (now≤1099511627776)
def makeK (b:List UInt8) (now:Int):KeyD:=if makeOk b now=true then mkKey b now else zKey
def makeE (b:List UInt8) (now:Int):Nat:=if makeOk b now=true then 0 else 1
theorem make_any (b:List UInt8) (hl:b.length≤1000) (now:Int) (A:Option Addr) (c:Nat) (w:World) (hr:Rd w w.heap.size A (bytesV b)) (hc:b.length≤c) (hG:Sh.TabG w) :
  Calls Tryz.prog 10 #[.slice A b.length c,.int .i64 now] w (fun e w'=>e=.returned (.tuple #[.agg (keyCells (makeK b now)),.int .i64 (makeE b now:Int)])∧Below w.heap.size w w'):=by
 have hu:=Tryz.underlying33;have hus:=Tryz.underlying9;have hub:=Tryz.underlying23;have hu8:=Tryz.underlying5;have hbn:=Blk.new w 33 #[.string ⟨#[]⟩,.string ⟨#[]⟩,.int .i64 0,.int .i64 0];obtain ⟨W0,hW0⟩:∃ W0,W0=w.alloc (.cells #[.string ⟨#[]⟩,.string ⟨#[]⟩,.int .i64 0,.int .i64 0] 33):=⟨_,rfl⟩;rw [← hW0] at hbn;have hb0:Below w.heap.size w W0:=by rw [hW0]; exact (Below.refl _ _).alloc (Nat.le_refl _) _
 have HW0:=zY hW0;have HB0:=zY hb0;have HBN:=zY hbn;have HR:=zY (qbI hr hb0);have HG:=zY (hG.below hb0 hG.size);have HR0:=zY hr;have HG0:=zY hG;have hwo:w.heap.size<W0.heap.size:=by rw [hW0]; simp
 have HWO:=zY hwo;obtain ⟨n,hn⟩:=eX (b.length)
 by_cases h32:b.length=32
 ·have CP:=zY (spublic_any b h32 A c W0 HR.out (by omega) HG.out);have hUb:bnV (pubL (keyN b))=bytesV (ptB (keyN b)):=by rw [ptB,bnV_bsN (pubL_dg _)]
  obtain ⟨U,hU⟩:=eX (ptB (keyN b));have lU:U.length=32:=by rw [hU,ptB_len]
  have CN:=zY (show ∀ u o,Rd u u.heap.size (some ⟨o,0,none⟩) (bytesV U)→Sh.TabG u→Calls Tryz.prog 23 #[.slice (some ⟨o,0,none⟩) 32 32] u (fun e w'=>e=.returned (.string (nameS U))∧Below u.heap.size u w') from fun u o h g=>by
   have:=jname_any U (by omega) (some ⟨o,0,none⟩) 32 u h (by omega) (by decide) g;rw [lU] at this;exact this)
  rw [h32];have HUB:=zY hUb;have HU:=zY hU;have H32:=zY h32;obtain ⟨SD,hSD⟩:∃ s:ByteArray,s=⟨b.toArray⟩:=⟨_,rfl⟩;have HSD:=zY hSD;obtain ⟨NS,hNS⟩:=eX (nameS U);rw [← hNS] at CN;have HKK:=zY (show mkKey b now=⟨NS,SD,1,now⟩ by rw [mkKey,hNS,hU,hSD]);clear hUb hU lU h32 hn hl hr hc hG hW0 hb0 hbn hSD hNS hwo;go_enter Tryz.func10,Tryz.ntmps10;go_wp2_with fail;rw [← HW0.out];refine qab CP.out ?_;rintro e w1 ⟨o,rfl,ho,hk,hb1⟩;rw [HUB.out,← HU.out] at hk;have HON:=zY (show o≠w.heap.size from fun h=>by have:=HWO.out; omega);replace HBN:=zY (HBN.out.below hb1 HBN.out.lt);replace HR:=zY (qbI HR.out hb1);replace HG:=zY (HG.out.below hb1 HG.out.size);replace HB0:=zY (HB0.out.trans (hb1.mono HB0.out.size));have HK:=zY hk;clear ho hk hb1 CP
  by_cases hlo:now<0
  ·have hd1:decide (now<0)=true:=by simp; omega
   have HOK:=zY (show makeOk b now=false by simp [makeOk,H32.out]; omega);go_wp2_with (refine qad (cells:=keyCells zKey) HBN.out rfl rfl rfl rfl qat rfl (qas _) ?_; intro w3 hb3 hw3; have HB3:=zY hb3; have HW3:=zY hw3; clear hb3 hw3);refine bodyPost_ret (qar (P:=Tryz.prog) rfl rfl HB3.out hu rfl qat) rfl ⟨?_,HW3.out.below HB0.out (Nat.le_refl _) HB0.out.size⟩;rw [makeK,makeE,if_neg (by rw [HOK.out]; simp),if_neg (by rw [HOK.out]; simp)];rfl
  ·by_cases hhi:now > 1099511627776
   ·have hd1:decide (now<0)=false:=by simp; omega
    have hd2:decide (1099511627776<now)=true:=by simp; omega
    have hd3:decide (now > 1099511627776)=true:=by simp; omega
    have HOK:=zY (show makeOk b now=false by simp [makeOk,H32.out]; omega);go_wp2_with (refine qad (cells:=keyCells zKey) HBN.out rfl rfl rfl rfl qat rfl (qas _) ?_; intro w3 hb3 hw3; have HB3:=zY hb3; have HW3:=zY hw3; clear hb3 hw3);refine bodyPost_ret (qar (P:=Tryz.prog) rfl rfl HB3.out hu rfl qat) rfl ⟨?_,HW3.out.below HB0.out (Nat.le_refl _) HB0.out.size⟩;rw [makeK,makeE,if_neg (by rw [HOK.out]; simp),if_neg (by rw [HOK.out]; simp)];rfl
   ·have hd1:decide (now<0)=false:=by simp; omega
    have hd2:decide (1099511627776<now)=false:=by simp; omega
    have hd3:decide (now > 1099511627776)=false:=by simp; omega
    have HOK:=zY (show makeOk b now=true by simp [makeOk,H32.out]; omega);go_wp2_with fail;have HC0:Below w.heap.size w w1.drew∧Blk w1.drew o 5 (bytesV U).toArray:=⟨HB0.out.drew,HK.out⟩;have HI0:Blk w1.drew w.heap.size 33 #[.string ⟨#[]⟩,.string ⟨#[]⟩,.int .i64 0,.int .i64 0]:=HBN.out;clear HB0 HK HBN HR HG hd1 hd2 hd3
    refine qaD (fun u=>Below w.heap.size w u∧Blk u o 5 (bytesV U).toArray) (fun | false=>(fun u=>Blk u w.heap.size 33 #[.string ⟨#[]⟩,.string ⟨#[]⟩,.int .i64 0,.int .i64 0]) | true=>(fun _=>True)) (fun | false,i=>i == 6 | true,_=>false)
     [fun z _=>z 0=.slice (some ⟨o,0,none⟩) 32 32,
      fun z _=>z 1=.string NS,
      fun z _=>z 2=.slice A 32 c,
      fun z _=>z 3=.string SD,
      fun z _=>z 4=.int .i64 now,
      fun z _=>z 5=.agg (keyCells ⟨NS,SD,1,now⟩),
      fun z u=>Blk u w.heap.size 33 (keyCells ⟨NS,SD,1,now⟩),
      fun z _=>z 7=.int .i64 0]
     [Eq,fun u u'=>Below u.heap.size u u',Eq,Eq,Eq,Eq,fun _ _=>True,Eq]
     (fun _ _=>false) [(0,some 24),(1,some 25),(2,some 26),(3,some 27),(4,some 28),(5,some 29),(6,none),(7,some 5)] (by kernel_rfl) (by kernel_rfl) rfl (fun _=>rfl) ?_ ?_ ?_ ?_ ?_ ?_
    ·exact HC0
    ·intro m; cases m; exact HI0; exact trivial
    ·intro m; cases m
     ·refine ⟨?_,.inr (fun _ _ h h0=>h0.below h h0.lt),?_,?_,?_,?_,.inl rfl,?_,trivial⟩ <;> exact .inr fun _ _ h h0=>h▸h0
     ·refine ⟨?_,?_,?_,?_,?_,?_,?_,?_,trivial⟩ <;> first | exact .inr fun _ _ h h0=>h▸h0 | exact .inr fun _ _ _ h=>h
    ·refine ⟨⟨.inl rfl,?_,?_,?_,?_,?_,?_,?_,trivial⟩,⟨?_,.inl rfl,?_,?_,?_,?_,?_,?_,trivial⟩,⟨?_,?_,.inl rfl,?_,?_,?_,?_,?_,trivial⟩,⟨?_,?_,?_,.inl rfl,?_,?_,?_,?_,trivial⟩,⟨?_,?_,?_,?_,.inl rfl,?_,?_,?_,trivial⟩,⟨?_,?_,?_,?_,?_,.inl rfl,?_,?_,trivial⟩,⟨?_,?_,?_,?_,?_,?_,.inl rfl,?_,trivial⟩,⟨?_,?_,?_,?_,?_,?_,.inr (.inr (.inr (fun _ _ _ _ h h0=>by cases h; exact h0))),.inl rfl,trivial⟩,trivial⟩ <;> first | exact .inr (.inr (.inl rfl)) | exact .inr (.inr (.inr fun _ _ _ _ _ h=>h))
    ·refine ⟨?_,?_,?_,?_,?_,?_,?_,?_,trivial⟩
     ·refine qaf [] (fun _=>rfl) rfl ?_;intro w1 vals hC1 hi0 hf E hE;have hI1:(fun u=>Blk u w.heap.size 33 #[.string ⟨#[]⟩,.string ⟨#[]⟩,.int .i64 0,.int .i64 0]) w1:=hi0 false rfl
      try dsimp only at hI1
      clear hi0;clear hf;simp only [sP] at hE ⊢;go_wp2;exact .mk (hE _ _ rfl hC1 rfl)
     ·refine qaf [(0,some 24)] (fun _=>rfl) rfl ?_;intro w1 vals hC1 hi0 hf E hE;have hI1:(fun u=>Blk u w.heap.size 33 #[.string ⟨#[]⟩,.string ⟨#[]⟩,.int .i64 0,.int .i64 0]) w1:=hi0 false rfl
      try dsimp only at hI1
      clear hi0;have f0:vals 0=_:=hf 0 rfl
      try dsimp only at f0
      clear hf;simp only [sP,f0] at hE ⊢;clear f0;go_wp2_with fail;refine qab (CN.out _ _ (Rd.of_blk hC1.2 hC1.2.lt) (HG0.out.below hC1.1 HG0.out.size)) ?_;rintro e w2 ⟨rfl,hb2⟩;go_wp2_with fail;exact .mk (hE _ _ rfl ⟨hC1.1.trans (hb2.mono hC1.1.size),hC1.2.below hb2 hC1.2.lt⟩ hb2)
     ·refine qaf [] (fun _=>rfl) rfl ?_;intro w1 vals hC1 hi0 hf E hE;have hI1:(fun u=>Blk u w.heap.size 33 #[.string ⟨#[]⟩,.string ⟨#[]⟩,.int .i64 0,.int .i64 0]) w1:=hi0 false rfl
      try dsimp only at hI1
      clear hi0;clear hf;simp only [sP] at hE ⊢;go_wp2;exact .mk (hE _ _ rfl hC1 rfl)
     ·refine qaf [(2,some 26)] (fun _=>rfl) rfl ?_;intro w1 vals hC1 hi0 hf E hE;have hI1:(fun u=>Blk u w.heap.size 33 #[.string ⟨#[]⟩,.string ⟨#[]⟩,.int .i64 0,.int .i64 0]) w1:=hi0 false rfl
      try dsimp only at hI1
      clear hi0;have f2:vals 2=_:=hf 2 rfl
      try dsimp only at f2
      clear hf;simp only [sP,f2] at hE ⊢;clear f2;refine qa2 ((HR0.out.below hC1.1).mono hC1.1.size) hub hu8 hus rfl rfl (by rw [H32.out]; rfl) ?_;rw [← HSD.out];go_wp2_with fail;exact .mk (hE _ _ rfl hC1 rfl)
     ·refine qaf [] (fun _=>rfl) rfl ?_;intro w1 vals hC1 hi0 hf E hE;have hI1:(fun u=>Blk u w.heap.size 33 #[.string ⟨#[]⟩,.string ⟨#[]⟩,.int .i64 0,.int .i64 0]) w1:=hi0 false rfl
      try dsimp only at hI1
      clear hi0;clear hf;simp only [sP] at hE ⊢;go_wp2;exact .mk (hE _ _ rfl hC1 rfl)
     ·refine qaf [(1,some 25),(3,some 27),(4,some 28)] (fun _=>rfl) rfl ?_;intro w1 vals hC1 hi0 hf E hE;have hI1:(fun u=>Blk u w.heap.size 33 #[.string ⟨#[]⟩,.string ⟨#[]⟩,.int .i64 0,.int .i64 0]) w1:=hi0 false rfl
      try dsimp only at hI1
      clear hi0;have f1:vals 1=_:=hf 1 rfl;have f3:vals 3=_:=hf 3 rfl;have f4:vals 4=_:=hf 4 rfl
      try dsimp only at f1 f3 f4
      clear hf;simp only [sP,f1,f3,f4] at hE ⊢;clear f1 f3 f4;go_wp2;exact .mk (hE _ _ rfl hC1 rfl)
     ·refine qaf [(5,some 29),(1,some 25),(0,some 24),(1,some 25),(2,some 26),(3,some 27),(4,some 28),(5,some 29)] (fun _=>rfl) rfl ?_;intro w1 vals hC1 hi0 hf E hE;have hI1:(fun u=>Blk u w.heap.size 33 #[.string ⟨#[]⟩,.string ⟨#[]⟩,.int .i64 0,.int .i64 0]) w1:=hi0 false rfl
      try dsimp only at hI1
      clear hi0;have f0:vals 0=_:=hf 0 rfl;have f1:vals 1=_:=hf 1 rfl;have f2:vals 2=_:=hf 2 rfl;have f3:vals 3=_:=hf 3 rfl;have f4:vals 4=_:=hf 4 rfl;have f5:vals 5=_:=hf 5 rfl
      try dsimp only at f0 f1 f2 f3 f4 f5
      clear hf;simp only [sP,f0,f1,f2,f3,f4,f5] at hE ⊢;clear f0 f1 f2 f3 f4 f5;refine qad hI1 rfl rfl rfl rfl qat rfl (qas _) ?_;intro w3 hb3 hw3;go_wp2_with fail;exact .mk (hE undef _ hb3 ⟨hw3.below hC1.1 (Nat.le_refl _) hC1.1.size,hw3.blk hC1.2 HON.out⟩ trivial)
     ·refine qaf [(6,none),(0,some 24),(1,some 25),(2,some 26),(3,some 27),(4,some 28),(5,some 29),(6,none)] (fun _=>rfl) rfl ?_;intro w1 vals hC1 hi0 hf E hE;clear hi0;have f0:vals 0=_:=hf 0 rfl;have f1:vals 1=_:=hf 1 rfl;have f2:vals 2=_:=hf 2 rfl;have f3:vals 3=_:=hf 3 rfl;have f4:vals 4=_:=hf 4 rfl;have f5:vals 5=_:=hf 5 rfl;have f6:(fun z u=>Blk u w.heap.size 33 (keyCells ⟨NS,SD,1,now⟩)) vals w1:=hf 6 rfl
      try dsimp only at f0 f1 f2 f3 f4 f5 f6
      clear hf;simp only [sP,f0,f1,f2,f3,f4,f5] at hE ⊢;clear f0 f1 f2 f3 f4 f5;go_wp2;exact .mk (hE _ _ rfl hC1 rfl)
    intro w1 vals hC1 hf;have f0:vals 0=_:=hf 0 (by decide) rfl;have f1:vals 1=_:=hf 1 (by decide) rfl;have f2:vals 2=_:=hf 2 (by decide) rfl;have f3:vals 3=_:=hf 3 (by decide) rfl;have f4:vals 4=_:=hf 4 (by decide) rfl;have f5:vals 5=_:=hf 5 (by decide) rfl;have f6:(fun z u=>Blk u w.heap.size 33 (keyCells ⟨NS,SD,1,now⟩)) vals w1:=hf 6 (by decide) rfl;have f7:vals 7=_:=hf 7 (by decide) rfl
    try dsimp only at f0 f1 f2 f3 f4 f5 f6 f7
    clear hf;simp only [sP,f0,f1,f2,f3,f4,f5,f7];clear f0 f1 f2 f3 f4 f5 f7;have HF:=zY hC1.1;have HB6:=zY f6;clear HC0 HI0 hC1 f6;go_wp2_with fail;refine bodyPost_ret (qar (P:=Tryz.prog) rfl rfl HB6.out hu rfl qat) rfl ⟨?_,HF.out⟩;rw [makeK,makeE,if_pos HOK.out,if_pos HOK.out,HKK.out];rfl
 ·have CP:=zY (spublic_bad n (by rw [hn]; exact h32) (by rw [hn]; exact hl) A c W0);have HOK:=zY (show makeOk b now=false by simp [makeOk,h32]);rw [← hn];clear hn hl hr hc hG hW0 hb0 hbn h32 hwo;go_enter Tryz.func10,Tryz.ntmps10;go_wp2_with fail;rw [← HW0.out];refine qab CP.out ?_;rintro e w1 ⟨rfl,rfl⟩;clear CP HW0;go_wp2_with (refine qad (cells:=keyCells zKey) HBN.out rfl rfl rfl rfl qat rfl (qas _) ?_; intro w3 hb3 hw3; have HB3:=zY hb3; have HW3:=zY hw3; clear hb3 hw3);refine bodyPost_ret (qar (P:=Tryz.prog) rfl rfl HB3.out hu rfl qat) rfl ⟨?_,HW3.out.below HB0.out (Nat.le_refl _) HB0.out.size⟩;rw [makeK,makeE,if_neg (by rw [HOK.out]; simp),if_neg (by rw [HOK.out]; simp)];rfl
end Go.Proofs.YtcbkaaodmjphdaaGreatDoor
namespace Go.Proofs.YtcbkaaodmjphdaaGreatDoor
set_option linter.unusedSimpArgs false
set_option linter.unusedVariables false
set_option maxRecDepth 100000
set_option maxHeartbeats 4000000
open Go.RowKit Go.Shelf
attribute [local go_sem] Oper.semAt_some
theorem qbo {w w1:World} (h:Below w.heap.size w w1):w.grownBy w1 none:=⟨h.os,h.tape,h.output,h.size,fun k hk _=>h.block k hk⟩
theorem of1_stops (n:Nat) (hn:1≤n) (l:List KeyD) (hl:l.length≤1000) (st:Int) (A:Option Addr) (c bl bs n₀:Nat) (w:World) (hbl:bl<n₀) (hbs:bs<n₀) (hn0:n₀≤w.heap.size)
  (cl:Blk w bl 22 #[.slice A l.length c]) (cs:Blk w bs 3 #[.int .i64 st]) (hr:Rd w n₀ A (keysV l)) :
  SeqStopsK Fence.wide n Tryz.prog 25 #[.pointer (some ⟨bl,0,none⟩),.pointer (some ⟨bs,0,none⟩)] (fun k:KeyD=>#[.agg (keyCells k)]) (Below n₀) (fun ys=>ys=keysOf l st) (fun pre=>pre <+: keysOf l st) l.length w:=fun lp J Jx W hW hJ hJx hY h0=>by
 have hu:=Tryz.underlying33;have hW0:Below n₀ w W:=hW.mono hn0;have c0:W.cell? ⟨bl,0,none⟩=some (.slice A l.length c):=(cl.below hW0 hbl).cell 0;obtain ⟨len,hlen⟩:=eX (l.length);have HLEN:=zY hlen;rw [← hlen] at c0 hl hY;have HCS:=zY (cs.below hW0 hbs);have HR:=zY (hr.below hW0);clear hlen cl cs hr;refine callsIn_of_wp Tryz.func25 rfl trivial ?_ rfl;simp only [Tryz.ntmps25,List.size_toArray,List.length_cons,List.length_nil,Nat.reduceAdd,Nat.reduceSub,Array.replicate_succ,Array.replicate_zero,List.push_toArray,List.append_toArray,List.nil_append,List.cons_append]
 gi_wp2
 gi_loopw [8] (fun i wr=>∃ k:Nat,k≤len∧i=.int .i64 (k:Int)∧J (keysOf (l.take k) st) wr∧Below n₀ W wr) (fun i _=>len - (intOf i).toNat)
 case atStart=>exact ⟨0,Nat.zero_le _,rfl,h0,Below.refl _ _⟩
 case round =>
  clear c0;obtain ⟨k,hk,rfl,hJs,hnx⟩:=hrel
  by_cases hlt:k<len
  ·have hlt':(k:Int)<(len:Int):=by omega
   have hkl:k<l.length:=by rw [← HLEN.out]; exact hlt
   obtain ⟨ad,hA,hadb,hcell⟩:=rd_key (HR.out.below hnx) hkl;subst hA
   have hcell':∀ j u,(keyCells l[k])[j]?=some u→wr.cell? ((ad.add (k*4)).add j)=some u:=fun j u h=>by
    rw [Nat.mul_comm];exact hcell j u h
   obtain ⟨kk,hkk⟩:=eX (l[k]);rw [← hkk] at hcell';have HYES:=zY (show kk.state=st→keysOf (l.take (k+1)) st=keysOf (l.take k) st++[kk] from fun h=>by rw [hkk] at h ⊢; exact keysOf_yes hkl h);have HNO:=zY (show ¬ kk.state=st→keysOf (l.take (k+1)) st=keysOf (l.take k) st from fun h=>by rw [hkk] at h; exact keysOf_no hkl h);have hbn:=Blk.new wr 33 #[.string ⟨#[]⟩,.string ⟨#[]⟩,.int .i64 0,.int .i64 0];have hszl:(keysOf (l.take k) st).length<len:=Nat.lt_of_le_of_lt (keysOf_le l st k) hlt;have HX:=zY hnx;have HADB:=zY hadb;clear hcell hkk hadb hkl hnx
   by_cases hst:kk.state=st
   ·have HST:=zY hst
    gi_wp2_with (first
     | (refine qcn (k:=kk) hcell' rfl rfl rfl ?_)
     | (apply qa6 hbn; rfl; rfl; rfl; rfl; exact qat; rfl; exact qas _; intro w2 hb2 hw2 e2; have HB2:=zY hb2; have hbel:Below wr.heap.size wr w2:=hw2.below ((Below.refl _ _).alloc (Nat.le_refl _) _) (Nat.le_refl _) (by simp); have hj2:=hJ _ wr w2 none hJs (qbo hbel) (by simp); have d2:w2.cell? ⟨wr.heap.size,2,none⟩=some (.int .i64 kk.state):=hb2.cell 2; have ds:w2.cell? ⟨bs,0,none⟩=some (.int .i64 st):=((HCS.out.below HX.out hbs).below hbel (Nat.lt_of_lt_of_le hbs (Nat.le_trans hn0 (Nat.le_trans hW.size HX.out.size)))).cell 0; have HBEL:=zY hbel; obtain ⟨fn,tmps,assign,body,hy,hR⟩:=hY _ kk w2 hj2 hszl; clear e2 hw2 hbel hj2)
     | (refine wpListIn_open (o:=⟨some 18,_,_,_,_,_⟩) rfl (qbW hb2 rfl rfl rfl hu rfl qat ?_)))
    refine hR.mono ?_;rintro e W3 (⟨rfl,hJ3,hk3⟩ | ⟨rfl,hJx3⟩)
    ·gi_wp2
     go_roundw
     case rel=>exact ⟨k+1,by omega,by simp,by rw [HYES.out HST.out]; exact hJ3,HX.out.trans ((HBEL.out.mono (Nat.le_trans hn0 (Nat.le_trans hW.size HX.out.size))).trans hk3)⟩
     case measure=>simp [intOf]; omega
    ·gi_wp2
     refine bodyPost_ret (results_none rfl _ _ _) rfl ?_;exact ⟨⟨_,rfl⟩,.inr ⟨_,by rw [← HYES.out HST.out]; exact keysOf_pre l st (k+1),hJx3⟩⟩
   ·have HST:=zY hst
    gi_wp2_with (first
     | (refine qcn (k:=kk) hcell' rfl rfl rfl ?_)
     | (apply qa6 hbn; rfl; rfl; rfl; rfl; exact qat; rfl; exact qas _; intro w2 hb2 hw2 e2; have hbel:Below wr.heap.size wr w2:=hw2.below ((Below.refl _ _).alloc (Nat.le_refl _) _) (Nat.le_refl _) (by simp); have HJ2:=zY (hJ _ wr w2 none hJs (qbo hbel) (by simp)); have d2:w2.cell? ⟨wr.heap.size,2,none⟩=some (.int .i64 kk.state):=hb2.cell 2; have ds:w2.cell? ⟨bs,0,none⟩=some (.int .i64 st):=((HCS.out.below HX.out hbs).below hbel (Nat.lt_of_lt_of_le hbs (Nat.le_trans hn0 (Nat.le_trans hW.size HX.out.size)))).cell 0; have HBEL:=zY hbel; clear e2 hw2 hbel))
    refine ⟨fun _ h=>(by cases h),?_⟩
    gi_wp2
    go_roundw
    case rel=>exact ⟨k+1,by omega,by simp,by rw [HNO.out HST.out]; exact HJ2.out,HX.out.trans (HBEL.out.mono (Nat.le_trans hn0 (Nat.le_trans hW.size HX.out.size)))⟩
    case measure=>simp [intOf]; omega
  ·obtain rfl:k=len:=by omega
   have HALL:=zY (show keysOf (l.take k) st=keysOf l st by rw [HLEN.out,List.take_length])
   gi_wp2
   go_end0
   exact ⟨⟨_,rfl⟩,.inl ⟨_,HALL.out,hJs⟩⟩
attribute [local go_sem] Oper.semAt_some
theorem of_any (A:Option Addr) (n c:Nat) (st:Int) (w:World) :
  Calls Tryz.prog 13 #[.slice A n c,.int .i64 st] w (fun e w'=>e=.returned (.func (.func 25) #[] #[.pointer (some ⟨w.heap.size,0,none⟩),.pointer (some ⟨w.heap.size+1,0,none⟩)])∧w'=(w.alloc (.cells #[.slice A n c] 22)).alloc (.cells #[.int .i64 st] 3)):=by
 go_enter Tryz.func13,Tryz.ntmps13;go_wp2;go_ret;exact ⟨rfl,rfl⟩
theorem qbO {β:Type} (B g:Nat) (t:TypeId) (f:β→Array Value):OwnFrom B (fun s W=>Blk W g t (f s)):=fun s W W' row hs hg hr =>
 Blk.grown hs hg (fun e=>by
  obtain ⟨-,o,ho,hc⟩:=hr g e.symm;rw [show W.heap[g]?=_ from hs] at ho
  cases ho
  cases hc)
theorem qa7 {w:World} {g D:Nat} {t:TypeId} {cs:Array Value} {d:Option (List Deferred)} (h:Blk w g t cs) (hK:w.heap[D]?=some (.deferred d)) (o:Obj):Blk (w.putObj D o) g t cs :=
 Blk.grown h (grownBy_putObj' w D o) (fun e=>by
  cases e
  rw [show w.heap[g]?=_ from h] at hK
  cases hK)
theorem qcG {w w':World} {g D:Nat} {t:TypeId} {cs:Array Value} {d:Option (List Deferred)} (hw:Wrote g w w') (h:Blk w g t cs) (hK:w.heap[D]?=some (.deferred d)):w'.heap[D]?=some (.deferred d) :=
 (hw.grown.block D (Array.getElem?_eq_some_iff.1 hK).1 (fun e=>by
  cases e
  rw [show w.heap[g]?=_ from h] at hK
  cases hK)).trans hK
def firstK (l:List KeyD) (st:Int):Option KeyD:=(keysOf l st).head?
theorem firstK_pre {l:List KeyD} {st:Int} {x:KeyD} (h:[x] <+: keysOf l st):firstK l st=some x:=by
 obtain ⟨r,hr⟩:=h;rw [firstK,← hr];rfl
theorem firstK_nil {l:List KeyD} {st:Int} (h:keysOf l st=[]):firstK l st=none:=by rw [firstK,h]; rfl
theorem qbU:(Tryz.prog.info? 4).map (·.size)=some 1:=by kernel_rfl
theorem qbT (w:World) (g:Nat) (b:Bool) (h:Blk w g 4 #[.bool b]):(loadVar 4 ⟨g,0,none⟩).run Tryz.prog w=.ok (.bool b) w:=by
 have d0:w.cell? ⟨g,0,none⟩=some (.bool b):=h.cell 0
 have hagg:(isAgg 4).run Tryz.prog w=.ok false w:=by
  unfold isAgg;rw [Sem.run_bind,run_underlying Tryz.underlying4 w];rfl
 simp [loadVar,Sem.run_bind,hagg,Result.andThen,d0]
def optB (o:Option KeyD):Bool:=o.isSome
def optK (o:Option KeyD):KeyD:=o.getD zKey
theorem first_any (l:List KeyD) (hl:l.length≤1000) (st:Int) (A:Option Addr) (c:Nat) (w:World) (hr:Rd w w.heap.size A (keysV l)) :
  Calls Tryz.prog 9 #[.slice A l.length c,.int .i64 st] w (fun e w'=>e=.returned (.tuple #[.agg (keyCells (optK (firstK l st))),.bool (optB (firstK l st))])∧Below w.heap.size w w'):=by
 have hu:=Tryz.underlying33;have HR:=zY hr;have HL:=zY hl;obtain ⟨W0,hW0⟩:∃ W0,W0=(((w.alloc (.cells #[.string ⟨#[]⟩,.string ⟨#[]⟩,.int .i64 0,.int .i64 0] 33)).alloc (.cells #[.bool false] 4)).alloc (.cells #[.slice A l.length c] 22)).alloc (.cells #[.int .i64 st] 3):=⟨_,rfl⟩;have hb0:Below w.heap.size w W0:=by rw [hW0]; exact ((((Below.refl _ w).alloc (Nat.le_refl _) _).alloc (by simp) _).alloc (by simp; omega) _).alloc (by simp; omega) _
 have hk0:Blk W0 w.heap.size 33 (keyCells zKey):=by rw [hW0]; exact ((Blk.new _ _ _).alloc _).alloc _ |>.alloc _
 have hk1:Blk W0 (w.heap.size+1) 4 #[.bool false]:=by
  have:=((Blk.new (w.alloc (.cells #[.string ⟨#[]⟩,.string ⟨#[]⟩,.int .i64 0,.int .i64 0] 33)) 4 #[.bool false]).alloc (.cells #[.slice A l.length c] 22)).alloc (.cells #[.int .i64 st] 3);rw [hW0]; simpa using this
 have hk2:Blk W0 (w.heap.size+2) 22 #[.slice A l.length c]:=by
  have:=(Blk.new ((w.alloc (.cells #[.string ⟨#[]⟩,.string ⟨#[]⟩,.int .i64 0,.int .i64 0] 33)).alloc (.cells #[.bool false] 4)) 22 #[.slice A l.length c]).alloc (.cells #[.int .i64 st] 3);rw [hW0]; simpa using this
 have hk3:Blk W0 (w.heap.size+3) 3 #[.int .i64 st]:=by
  have:=Blk.new (((w.alloc (.cells #[.string ⟨#[]⟩,.string ⟨#[]⟩,.int .i64 0,.int .i64 0] 33)).alloc (.cells #[.bool false] 4)).alloc (.cells #[.slice A l.length c] 22)) 3 #[.int .i64 st];rw [hW0]; simpa using this
 have hsz:W0.heap.size=w.heap.size+4:=by rw [hW0]; simp
 have HB0:=zY hb0;have HK0:=zY hk0;have HK1:=zY hk1;have HSQ:=zY (of1_stops 4 (by omega) l hl st A c (w.heap.size+1+1) (w.heap.size+1+1+1) W0.heap.size W0 (by omega) (by omega) (Nat.le_refl _) hk2 hk3 ((hr.below hb0).mono hb0.size));have HW0:=zY hW0;have HSZ:=zY hsz;clear hb0 hk0 hk1 hk2 hk3 hsz hW0 hr hl;refine (callsIn_wide (n:=5)).1 ?_;refine callsIn_of_wp_marks Tryz.func9 rfl trivial ?_ rfl;simp only [Tryz.ntmps9,List.size_toArray,List.length_cons,List.length_nil,Nat.reduceAdd,Nat.reduceSub,Array.replicate_succ,Array.replicate_zero,List.push_toArray,List.append_toArray,List.nil_append,List.cons_append];refine wpIn_wide.2 ?_;go_wp2_with fail;refine qab (of_any _ _ _ _ _) ?_;rintro e w1 ⟨rfl,rfl⟩;rw [← HW0.out];go_wp2_with fail;refine (wpIn_wide (n:=5)).1 ?_
 refine wpIn_rangeFunc_ownH rfl (by omega) (gf:=25) (lb:=#[.pointer (some ⟨w.heap.size+1+1,0,none⟩),.pointer (some ⟨w.heap.size+1+1+1,0,none⟩)]) rfl trivial (enters_of Tryz.func25 (by kernel_rfl) rfl)
  HSQ.out belowK_t (belowK_b (Nat.le_refl _)) (Below.refl _ _) (fun _=>rfl)
  (fun pre W=>Below W0.heap.size W0 W∧pre=[])
  (fun cd pre W=>((Blk W w.heap.size 33 (keyCells (pre.headD zKey))∧Blk W (w.heap.size+1) 4 #[.bool true])∧Below w.heap.size w W)∧(cd=.ret∧∃ x,pre=[x]))
  (OwnFrom.and (ownFrom_below (Nat.le_refl _) (Nat.le_refl _)) (ownFrom_pure _ _))
  (fun _=>OwnFrom.and (OwnFrom.and (OwnFrom.and (qbO _ _ _ (fun pre:List KeyD=>keyCells (pre.headD zKey))) (qbO _ _ _ _)) (ownFrom_below (Nat.le_refl _) HB0.out.size)) (ownFrom_pure _ _))
  ⟨Below.refl _ _,rfl⟩
  (fun x a' W=>∃ Bx,w.heap.size+1<Bx∧Blk W Bx 33 (keyCells x)∧a'={ tmps:=#[.slice A l.length c,.int .i64 st,undef,undef,.pointer (some ⟨w.heap.size,0,none⟩),.pointer (some ⟨w.heap.size+1,0,none⟩),.pointer (some ⟨Bx,0,none⟩),.slice A l.length c,.int .i64 st,.func (.func 25) #[] #[.pointer (some ⟨w.heap.size+1+1,0,none⟩),.pointer (some ⟨w.heap.size+1+1+1,0,none⟩)],.agg (keyCells x),undef,undef],defers:=[] })
  (fun x a'=>by
   rintro _ X Y row ⟨Bx,h1,h2,rfl⟩ hg hr;exact ⟨Bx,h1,qbO _ Bx _ (fun _:Unit=>keyCells x) () X Y row h2 hg hr,rfl⟩) ?assign ?body ?done ?stop
 case assign =>
  rintro lp pre x W K ⟨i0,rfl⟩ hK;have hbn:=Blk.new W 33 #[.string ⟨#[]⟩,.string ⟨#[]⟩,.int .i64 0,.int .i64 0]
  gi_wp2_with (apply qa6 hbn; rfl; rfl; rfl; rfl; exact qat; rfl; exact qas _; intro w2 hb2 hw2 e2; clear e2)
  have hbel:Below W.heap.size W w2:=hw2.below ((Below.refl _ _).alloc (Nat.le_refl _) _) (Nat.le_refl _) (by simp);have hlt:w.heap.size+1<W.heap.size:=Nat.lt_of_lt_of_le (by have:=HSZ.out; omega) i0.size;have hb3:=hbel.mono i0.size;exact hK _ _ (KeepsFrom.of_grownBy (qbo hbel) (fun j e=>by cases e)) hb3 ⟨i0.trans hb3,by simp⟩ ⟨W.heap.size,hlt,hb2,rfl⟩
 case body =>
  rintro lp pre x a' W hl ⟨r,hr⟩ ⟨i0,rfl⟩ ⟨Bx,hBx,hbx,rfl⟩ _;have i1:=HK0.out.below i0 HK0.out.lt;have i2:=HK1.out.below i0 HK1.out.lt;have i3:=HB0.out.trans (i0.mono HB0.out.size);have HSZ':=HSZ.out
  gi_wp2_with (first
   | (refine qbW hbx rfl rfl rfl hu rfl qat ?_)
   | (apply qa6 i1; rfl; rfl; rfl; rfl; exact qat; rfl; exact qas _; intro w2 hb2 hw2 e2; clear e2; have j2:=hw2.blk i2 (by omega); have HB2:=zY hb2; have HW2:=zY hw2; clear hb2 hw2)
   | (refine qcd (i:=0) (v:=.bool true) j2 rfl rfl rfl rfl qbU (by simp) rfl ?_; intro w3 hb3 hw3 e3; clear e3; have HB3:=zY hb3; have HW3:=zY hw3; clear hb3 hw3))
  refine ⟨(KeepsFrom.of_grownBy HW2.out.grown (fun j e=>by cases e; omega)).trans (KeepsFrom.of_grownBy HW3.out.grown (fun j e=>by cases e; omega)),⟨⟨HW3.out.blk HB2.out (by omega),HB3.out⟩,?_⟩,rfl,x,rfl⟩;exact HW3.out.below (HW2.out.below i3 (Nat.le_refl _) i3.size) (by omega) (HW2.out.below i3 (Nat.le_refl _) i3.size).size
 case done =>
  rintro D ys W hD rfl ⟨i0,hys⟩ hKD;have HN:=zY (firstK_nil hys);have i1:=HK0.out.below i0 HK0.out.lt;have i2:=HK1.out.below i0 HK1.out.lt;have i3:=HB0.out.trans (i0.mono HB0.out.size);have HSZ':=HSZ.out
  go_wp2_with (first
   | (refine qad (cells:=keyCells zKey) i1 rfl rfl rfl rfl qat rfl (qas _) ?_; intro w2 hb2 hw2; have j2:=hw2.blk i2 (by omega); have HB2:=zY hb2; have HW2:=zY hw2; clear hb2 hw2)
   | (refine qam (i:=0) (v:=.bool false) j2 rfl rfl rfl rfl qbU (by simp) rfl ?_; intro w3 hb3 hw3; have HB3:=zY hb3; have HW3:=zY hw3; clear hb3 hw3))
  have hK2:=qcG HW2.out i1 hKD;have hK3:=qcG HW3.out j2 hK2;have hbel:Below w.heap.size w w3:=HW3.out.below (HW2.out.below i3 (Nat.le_refl _) i3.size) (by omega) (HW2.out.below i3 (Nat.le_refl _) i3.size).size;refine ⟨by simp,.inl ⟨_,_,rfl,run_takeDeferred hK3,?_⟩⟩;refine ⟨_,qaV rfl rfl rfl (qa7 (HW3.out.blk HB2.out (by omega)) hK3 _) (qa7 HB3.out hK3 _) hu rfl qat (qbT _ _ _ (qa7 HB3.out hK3 _)),by rw [HN.out]; rfl,?_⟩;exact hbel.trans (belowK_b (w:=w) (Nat.le_refl _) w3 D _ _ (by omega) hK3 rfl rfl)
 case stop =>
  rintro D cd pre W hD hSp ⟨⟨⟨i1,i2⟩,i3⟩,rfl,x,rfl⟩ hKD;have HN:=zY (firstK_pre hSp);have HSZ':=HSZ.out
  gi_wp2
  refine ⟨by simp,.inl ⟨_,_,rfl,run_takeDeferred hKD,?_⟩⟩;refine ⟨_,qaV rfl rfl rfl (qa7 i1 hKD _) (qa7 i2 hKD _) hu rfl qat (qbT _ _ _ (qa7 i2 hKD _)),by rw [HN.out]; rfl,?_⟩;exact i3.trans (belowK_b (w:=w) (Nat.le_refl _) W D _ _ (by omega) hKD rfl rfl)
end Go.Proofs.YtcbkaaodmjphdaaGreatDoor
namespace Go.Proofs.YtcbkaaodmjphdaaGreatDoor
set_option linter.unusedSimpArgs false
set_option linter.unusedVariables false
set_option maxRecDepth 100000
set_option maxHeartbeats 4000000
open Go.RowKit
def opCells (kind n:Int) (name:ByteArray) (k:KeyD):Array Value:=#[.int .i64 kind,.int .i64 n,.string name,.int .i64 0,.string ⟨#[]⟩,.string ⟨#[]⟩,.int .i64 0,.slice none 0 0,.string ⟨#[]⟩,.string ⟨#[]⟩,.int .i64 0,.bool false,.string ⟨#[]⟩,.string ⟨#[]⟩,.int .i64 0,.int .i64 0,.string ⟨#[]⟩,.string k.kid,.string k.seed,.int .i64 k.state,.int .i64 k.since,.string ⟨#[]⟩,.int .i64 0,.slice none 0 0]
theorem qaP:(Tryz.prog.info? 38).map (·.size)=some 24:=by kernel_rfl
theorem qaN (kind n:Int) (name:ByteArray) (k:KeyD):(opCells kind n name k).all (·.oneCell')=true:=by simp [opCells,Value.oneCell']
theorem qa5 {ops:Array Oper} {rest:List Oper} {o:Oper} {a:Act} {w:World} {Q:Exit→Act→World→Prop} {cells:Array Value} (hg:o.guard=none) (parts:Array (Nat × Operand)) (ho:o.op=.build 38 parts)
  (hf:Tryz.prog.built 38 (parts.map fun (i,x)=>(i,a.eval x)).toList=some cells) (h:wpList Tryz.prog ops Q rest (a.put o.dst (.agg cells)) w):wpList Tryz.prog ops Q (o :: rest) a w:=by
 refine wpList_build hg _ parts ho (by rw [hf]; rfl) ?_;rw [hf];exact h
def zOp:Array Value:=opCells 0 0 ⟨#[]⟩ zKey
def NextPost (kind n:Int) (name:ByteArray) (k:KeyD) (b:Bool) (w:World) (e:Ending) (w':World):Prop:=e=.returned (.tuple #[.agg (opCells kind n name k),.bool b])∧Below w.heap.size w w'
theorem next_none (l:List KeyD) (hl:l.length≤1000) (hf:firstK l 1=none) (now every:Int) (b:List UInt8) (hlb:b.length≤1000) (A B:Option Addr) (c cb:Nat) (w:World) (hr:Rd w w.heap.size A (keysV l)) (hb:Rd w w.heap.size B (bytesV b)) (hcb:b.length≤cb) (hG:Sh.TabG w) :
  Calls Tryz.prog 5 #[.slice A l.length c,.int .i64 now,.int .i64 every,.slice B b.length cb] w (NextPost (if makeOk b now=true then 9 else 0) 0 ⟨#[]⟩ (makeK b now) (makeOk b now) w):=by
 have hu:=Tryz.underlying33;have huo:=Tryz.underlying38;obtain ⟨W0,hW0⟩:∃ W0,W0=((w.alloc (.cells #[.int .i64 now] 3)).alloc (.cells #[.int .i64 0,.int .i64 0,.string ⟨#[]⟩,.int .i64 0,.string ⟨#[]⟩,.string ⟨#[]⟩,.int .i64 0,.slice none 0 0,.string ⟨#[]⟩,.string ⟨#[]⟩,.int .i64 0,.bool false,.string ⟨#[]⟩,.string ⟨#[]⟩,.int .i64 0,.int .i64 0,.string ⟨#[]⟩,.string ⟨#[]⟩,.string ⟨#[]⟩,.int .i64 0,.int .i64 0,.string ⟨#[]⟩,.int .i64 0,.slice none 0 0] 38)).alloc (.cells #[.bool false] 4):=⟨_,rfl⟩;have hb0:Below w.heap.size w W0:=by rw [hW0]; exact (((Below.refl _ w).alloc (Nat.le_refl _) _).alloc (by simp) _).alloc (by simp; omega) _
 have hk0:Blk W0 w.heap.size 3 #[.int .i64 now]:=by rw [hW0]; exact (Blk.new _ _ _).alloc _ |>.alloc _
 have hk1:Blk W0 (w.heap.size+1) 38 zOp:=by
  have:=(Blk.new (w.alloc (.cells #[.int .i64 now] 3)) 38 zOp).alloc (.cells #[.bool false] 4);rw [hW0]; simpa [zOp,opCells,zKey] using this
 have hk2:Blk W0 (w.heap.size+1+1) 4 #[.bool false]:=by
  have:=Blk.new ((w.alloc (.cells #[.int .i64 now] 3)).alloc (.cells zOp 38)) 4 #[.bool false];rw [hW0]; simpa [zOp,opCells,zKey] using this
 have HB0:=zY hb0;have HK0:=zY hk0;have HK1:=zY hk1;have HK2:=zY hk2;have HW0:=zY hW0;have CF:=zY (first_any l hl 1 A c W0 (qbI hr hb0));rw [hf,show optB none=false from rfl,show optK none=zKey from rfl] at CF;have HRB:=zY hb;have HG0:=zY hG;obtain ⟨nb,hnb⟩:=eX (b.length);obtain ⟨K,hK⟩:=eX (makeK b now)
 have CM:=zY (show ∀ u,Below w.heap.size w u→Calls Tryz.prog 10 #[.slice B nb cb,.int .i64 now] u (fun e w'=>e=.returned (.tuple #[.agg (keyCells K),.int .i64 (makeE b now:Int)])∧Below u.heap.size u w') from fun u h=>by
  rw [hnb,hK]; exact make_any b hlb now B cb u ((hb.below h).mono h.size) hcb (hG.below h hG.size))
 rw [← hnb,← hK];obtain ⟨E,hE⟩:=eX (makeE b now);rw [← hE] at CM;obtain ⟨okb,hokb⟩:=eX (makeOk b now);have HEE:=zY (show (E:Int)=if okb=true then 0 else 1 by rw [hE,makeE,← hokb]; split <;> rfl);have HKZ:=zY (show okb=false→K=zKey from fun h=>by rw [hK,makeK,← hokb,h]; rfl);rw [← hokb];obtain ⟨knd,hknd⟩:∃ k:Int,k=if okb=true then 9 else 0:=⟨_,rfl⟩
 rw [← hknd];have HKND:=zY hknd;clear hb0 hk0 hk1 hk2 hW0 hr hb hcb hG hl hlb hf hnb hK hE hokb hknd;go_enter Tryz.func5,Tryz.ntmps5;go_wp2_with fail;rw [← HW0.out];refine qab CF.out ?_;rintro e w1 ⟨rfl,hb1⟩;have HB1:=zY (HB0.out.trans (hb1.mono HB0.out.size));replace HK0:=zY (HK0.out.below hb1 HK0.out.lt);replace HK1:=zY (HK1.out.below hb1 HK1.out.lt);replace HK2:=zY (HK2.out.below hb1 HK2.out.lt);clear CF HB0 hb1;have hbn:=Blk.new w1 33 #[.string ⟨#[]⟩,.string ⟨#[]⟩,.int .i64 0,.int .i64 0];go_wp2_with (refine qad (cells:=keyCells zKey) hbn rfl rfl rfl rfl qat rfl (qas _) ?_; intro w2 hb2 hw2; have HW2:=zY hw2; clear hb2 hw2; have dnow:w2.cell? ⟨w.heap.size,0,none⟩=some (.int .i64 now):=by have hbel:Below w1.heap.size w1 w2:=HW2.out.below ((Below.refl _ _).alloc (Nat.le_refl _) _) (Nat.le_refl _) (by simp); exact (HK0.out.below hbel HK0.out.lt).cell 0);have hbel:Below w1.heap.size w1 w2:=HW2.out.below ((Below.refl _ _).alloc (Nat.le_refl _) _) (Nat.le_refl _) (by simp);replace HB1:=zY (HB1.out.trans (hbel.mono HB1.out.size));replace HK1:=zY (HK1.out.below hbel HK1.out.lt);replace HK2:=zY (HK2.out.below hbel HK2.out.lt);clear hbel HW2 HK0 hbn;refine qab (CM.out _ HB1.out) ?_;rintro e w3 ⟨rfl,hb3⟩;replace HB1:=zY (HB1.out.trans (hb3.mono HB1.out.size));replace HK1:=zY (HK1.out.below hb3 HK1.out.lt);replace HK2:=zY (HK2.out.below hb3 HK2.out.lt);clear hb3 CM dnow;have hbn:=Blk.new w3 33 #[.string ⟨#[]⟩,.string ⟨#[]⟩,.int .i64 0,.int .i64 0]
 cases okb with
 | false =>
  have hE1:(E:Int)=1:=by rw [HEE.out]; rfl
  rw [hE1];have HKZ':=zY (HKZ.out rfl);clear HKZ HEE hE1
  go_wp2_with (first
   | (refine qad (cells:=keyCells K) hbn rfl rfl rfl rfl qat rfl (qas _) ?_; intro w4 hb4 hw4; have HW4:=zY hw4; clear hb4 hw4; have hbel4:=zY (HW4.out.below ((Below.refl _ _).alloc (Nat.le_refl _) _) (Nat.le_refl _) (by simp):Below w3.heap.size w3 w4); have hk1:=HK1.out.below hbel4.out HK1.out.lt; have hk2:=HK2.out.below hbel4.out HK2.out.lt)
   | (refine qad (cells:=zOp) hk1 rfl rfl rfl rfl qaP rfl (qaN _ _ _ _) ?_; intro w5 hb5 hw5; have hk25:=hw5.blk hk2 (by omega); have HB5:=zY hb5; have HW5:=zY hw5; clear hb5 hw5)
   | (refine qam (i:=0) (v:=.bool false) hk25 rfl rfl rfl rfl qbU (by simp) rfl ?_; intro w6 hb6 hw6; have HB6:=zY hb6; have HW6:=zY hw6; clear hb6 hw6))
  have hs:=HW5.out.size;refine bodyPost_ret (qaV (P:=Tryz.prog) rfl rfl rfl (HW6.out.blk HB5.out (by omega)) HB6.out huo rfl qaP (qbT _ _ _ HB6.out)) rfl ⟨?_,?_⟩
  ·rw [HKND.out,HKZ'.out];rfl
  ·have h4:=HB1.out.trans (hbel4.out.mono HB1.out.size);exact HW6.out.below (HW5.out.below h4 (by omega) h4.size) (by omega) (HW5.out.below h4 (by omega) h4.size).size
 | true =>
  have hE1:(E:Int)=0:=by rw [HEE.out]; rfl
  rw [hE1];clear HKZ HEE hE1;obtain ⟨kid,sed,stt,snc⟩:=K
  go_wp2_with (first
   | (refine qad (cells:=keyCells ⟨kid,sed,stt,snc⟩) hbn rfl rfl rfl rfl qat rfl (qas _) ?_; intro w4 hb4 hw4; have HB4:=zY hb4; have HW4:=zY hw4; clear hw4; have hbel4:=zY (HW4.out.below ((Below.refl _ _).alloc (Nat.le_refl _) _) (Nat.le_refl _) (by simp):Below w3.heap.size w3 w4); have hk1:=HK1.out.below hbel4.out HK1.out.lt; have hk2:=HK2.out.below hbel4.out HK2.out.lt)
   | (refine qac hb4 rfl rfl rfl hu rfl qat ?_)
   | (refine qa5 (cells:=opCells 9 0 ⟨#[]⟩ ⟨kid,sed,stt,snc⟩) rfl _ rfl (by kernel_rfl) ?_)
   | (refine qad (cells:=opCells 9 0 ⟨#[]⟩ ⟨kid,sed,stt,snc⟩) hk1 rfl rfl rfl rfl qaP rfl (qaN _ _ _ _) ?_; intro w5 hb5 hw5; have hk25:=hw5.blk hk2 (by omega); have HB5:=zY hb5; have HW5:=zY hw5; clear hb5 hw5)
   | (refine qam (i:=0) (v:=.bool true) hk25 rfl rfl rfl rfl qbU (by simp) rfl ?_; intro w6 hb6 hw6; have HB6:=zY hb6; have HW6:=zY hw6; clear hb6 hw6))
  have hs:=HW5.out.size;refine bodyPost_ret (qaV (P:=Tryz.prog) rfl rfl rfl (HW6.out.blk HB5.out (by omega)) HB6.out huo rfl qaP (qbT _ _ _ HB6.out)) rfl ⟨?_,?_⟩
  ·rw [HKND.out];rfl
  ·have h4:=HB1.out.trans (hbel4.out.mono HB1.out.size);exact HW6.out.below (HW5.out.below h4 (by omega) h4.size) (by omega) (HW5.out.below h4 (by omega) h4.size).size
theorem next_still (l:List KeyD) (hl:l.length≤1000) (p:KeyD) (hf:firstK l 1=some p) (hf2:firstK l 2=none) (now every:Int) (nb:Nat) (A B:Option Addr) (c cb:Nat) (w:World) (hr:Rd w w.heap.size A (keysV l)) :
  Calls Tryz.prog 5 #[.slice A l.length c,.int .i64 now,.int .i64 every,.slice B nb cb] w (NextPost 10 now ⟨#[]⟩ zKey true w):=by
 have hu:=Tryz.underlying33;have huo:=Tryz.underlying38;obtain ⟨W0,hW0⟩:∃ W0,W0=((w.alloc (.cells #[.int .i64 now] 3)).alloc (.cells #[.int .i64 0,.int .i64 0,.string ⟨#[]⟩,.int .i64 0,.string ⟨#[]⟩,.string ⟨#[]⟩,.int .i64 0,.slice none 0 0,.string ⟨#[]⟩,.string ⟨#[]⟩,.int .i64 0,.bool false,.string ⟨#[]⟩,.string ⟨#[]⟩,.int .i64 0,.int .i64 0,.string ⟨#[]⟩,.string ⟨#[]⟩,.string ⟨#[]⟩,.int .i64 0,.int .i64 0,.string ⟨#[]⟩,.int .i64 0,.slice none 0 0] 38)).alloc (.cells #[.bool false] 4):=⟨_,rfl⟩;have hb0:Below w.heap.size w W0:=by rw [hW0]; exact (((Below.refl _ w).alloc (Nat.le_refl _) _).alloc (by simp) _).alloc (by simp; omega) _
 have hk0:Blk W0 w.heap.size 3 #[.int .i64 now]:=by rw [hW0]; exact (Blk.new _ _ _).alloc _ |>.alloc _
 have hk1:Blk W0 (w.heap.size+1) 38 zOp:=by
  have:=(Blk.new (w.alloc (.cells #[.int .i64 now] 3)) 38 zOp).alloc (.cells #[.bool false] 4);rw [hW0]; simpa [zOp,opCells,zKey] using this
 have hk2:Blk W0 (w.heap.size+1+1) 4 #[.bool false]:=by
  have:=Blk.new ((w.alloc (.cells #[.int .i64 now] 3)).alloc (.cells zOp 38)) 4 #[.bool false];rw [hW0]; simpa [zOp,opCells,zKey] using this
 have HB0:=zY hb0;have HK0:=zY hk0;have HK1:=zY hk1;have HK2:=zY hk2;have HW0:=zY hW0;have CF:=zY (first_any l hl 1 A c W0 (qbI hr hb0));rw [hf,show optB (some p)=true from rfl,show optK (some p)=p from rfl] at CF
 have CF2:=zY (show ∀ u,Below w.heap.size w u→Calls Tryz.prog 9 #[.slice A l.length c,.int .i64 2] u (fun e w'=>e=.returned (.tuple #[.agg (keyCells zKey),.bool false])∧Below u.heap.size u w') from fun u h=>by
  have:=first_any l hl 2 A c u ((hr.below h).mono h.size);rw [hf2] at this;exact this)
 clear hb0 hk0 hk1 hk2 hW0 hr hl hf hf2;go_enter Tryz.func5,Tryz.ntmps5;go_wp2_with fail;rw [← HW0.out];refine qab CF.out ?_;rintro e w1 ⟨rfl,hb1⟩;have HB1:=zY (HB0.out.trans (hb1.mono HB0.out.size));replace HK0:=zY (HK0.out.below hb1 HK0.out.lt);replace HK1:=zY (HK1.out.below hb1 HK1.out.lt);replace HK2:=zY (HK2.out.below hb1 HK2.out.lt);clear CF HB0 hb1;have hbn:=Blk.new w1 33 #[.string ⟨#[]⟩,.string ⟨#[]⟩,.int .i64 0,.int .i64 0];go_wp2_with (refine qad (cells:=keyCells p) hbn rfl rfl rfl rfl qat rfl (qas _) ?_; intro w2 hb2 hw2; have HW2:=zY hw2; clear hb2 hw2);have hbel:Below w1.heap.size w1 w2:=HW2.out.below ((Below.refl _ _).alloc (Nat.le_refl _) _) (Nat.le_refl _) (by simp);replace HB1:=zY (HB1.out.trans (hbel.mono HB1.out.size));replace HK0:=zY (HK0.out.below hbel HK0.out.lt);replace HK1:=zY (HK1.out.below hbel HK1.out.lt);replace HK2:=zY (HK2.out.below hbel HK2.out.lt);clear hbel HW2 hbn;refine qab (CF2.out _ HB1.out) ?_;rintro e w3 ⟨rfl,hb3⟩;replace HB1:=zY (HB1.out.trans (hb3.mono HB1.out.size));replace HK0:=zY (HK0.out.below hb3 HK0.out.lt);replace HK1:=zY (HK1.out.below hb3 HK1.out.lt);replace HK2:=zY (HK2.out.below hb3 HK2.out.lt);clear hb3 CF2;have hbn:=Blk.new w3 33 #[.string ⟨#[]⟩,.string ⟨#[]⟩,.int .i64 0,.int .i64 0];go_wp2_with (refine qad (cells:=keyCells zKey) hbn rfl rfl rfl rfl qat rfl (qas _) ?_; intro w4 hb4 hw4; have HW4:=zY hw4; clear hb4 hw4);have hbel4:=zY (HW4.out.below ((Below.refl _ _).alloc (Nat.le_refl _) _) (Nat.le_refl _) (by simp):Below w3.heap.size w3 w4);have hk1:=HK1.out.below hbel4.out HK1.out.lt;have hk2:=HK2.out.below hbel4.out HK2.out.lt;have dnow:w4.cell? ⟨w.heap.size,0,none⟩=some (.int .i64 now):=(HK0.out.below hbel4.out HK0.out.lt).cell 0;clear hbn
 go_quiet (fail)
 obtain ⟨w5,hw5⟩:=eX (w4.drewN nq)
 have h5b:Below w.heap.size w w5:=by
  have h:=HB1.out.trans (hbel4.out.mono HB1.out.size);rw [hw5];exact ⟨h.os,h.tape,h.output,h.size,h.block⟩
 have k1:Blk w5 (w.heap.size+1) 38 zOp:=by rw [hw5]; exact hk1
 have k2:Blk w5 (w.heap.size+1+1) 4 #[.bool false]:=by rw [hw5]; exact hk2
 have dn:w5.cell? ⟨w.heap.size,0,none⟩=some (.int .i64 now):=by rw [hw5]; exact dnow
 rw [← hw5];have H5:=zY h5b;clear dnow hk1 hk2 hw5 h5b
 go_wp2_with (first
  | (refine qa5 (cells:=opCells 10 now ⟨#[]⟩ zKey) rfl _ rfl (by kernel_rfl) ?_)
  | (refine qad (cells:=opCells 10 now ⟨#[]⟩ zKey) k1 rfl rfl rfl rfl qaP rfl (qaN _ _ _ _) ?_; intro w6 hb6 hw6; have k26:=hw6.blk k2 (by omega); have HB6:=zY hb6; have HW6:=zY hw6; clear hb6 hw6)
  | (refine qam (i:=0) (v:=.bool true) k26 rfl rfl rfl rfl qbU (by simp) rfl ?_; intro w7 hb7 hw7; have HB7:=zY hb7; have HW7:=zY hw7; clear hb7 hw7))
 have hs:=HW6.out.size;refine bodyPost_ret (qaV (P:=Tryz.prog) rfl rfl rfl (HW7.out.blk HB6.out (by omega)) HB7.out huo rfl qaP (qbT _ _ _ HB7.out)) rfl ⟨rfl,?_⟩;exact HW7.out.below (HW6.out.below H5.out (by omega) H5.out.size) (by omega) (HW6.out.below H5.out (by omega) H5.out.size).size
def satA (a b:Int):Int:=if a+b > 9223372036854775807 then 9223372036854775807 else if a+b< -9223372036854775808 then -9223372036854775808 else a+b
def timeT (t:Int):Int:=if t<0 then 0 else if t > 1099511627776 then 1099511627776 else t
theorem wrap64_sum (a b:Int) (ha:-9223372036854775808≤a∧a≤9223372036854775807) (hb:-9223372036854775808≤b∧b≤9223372036854775807) :
  (wrap64 (a+b)=a+b - 18446744073709551616∧a+b > 9223372036854775807)∨(wrap64 (a+b)=a+b+18446744073709551616∧a+b< -9223372036854775808)∨(wrap64 (a+b)=a+b∧-9223372036854775808≤a+b∧a+b≤9223372036854775807):=by
 unfold wrap64;omega
theorem satA_zero {a:Int} (ha:-9223372036854775808≤a∧a≤9223372036854775807):satA 0 a=a:=by unfold satA; repeat' split <;> omega
def addC (a b:Int):Int:=if 0<a∧0<b∧wrap64 (a+b)<a then 9223372036854775807 else if a<0∧b<0∧0≤wrap64 (a+b) then -9223372036854775808 else wrap64 (a+b)
theorem addC_eq (a b:Int) (ha:-9223372036854775808≤a∧a≤9223372036854775807) (hb:-9223372036854775808≤b∧b≤9223372036854775807):addC a b=satA a b:=by
 unfold addC satA;have hw:=wrap64_sum a b ha hb;generalize wrap64 (a+b)=x at *
 repeat' split
 all_goals omega
def timeC (a b:Int):Int:=timeT (addC (addC 0 a) b)
theorem timeC_eq (a b:Int) (ha:-9223372036854775808≤a∧a≤9223372036854775807) (hb:-9223372036854775808≤b∧b≤9223372036854775807):timeC a b=timeT (satA a b):=by
 rw [timeC,addC_eq 0 a (by omega) ha,satA_zero ha,addC_eq a b ha hb]
theorem cadd_any (a b:Int) (w:World) :
  Calls Tryz.prog 34 #[.int .i64 a,.int .i64 b] w (fun e w'=>e=.returned (.int .i64 (addC a b))∧w'=w):=by
 obtain ⟨r,hr⟩:=eX (addC a b);rw [← hr];have HR:=zY hr;clear hr;go_enter Tryz.func34,Tryz.ntmps34;go_wp2_with fail
 all_goals go_ret
 all_goals refine ⟨?_,rfl⟩
 all_goals rw [HR.out]
 all_goals refine congrArg (fun x=>Ending.returned (.int .i64 x)) ?_
 all_goals unfold addC
 all_goals generalize wrap64 (a+b)=x at *
 all_goals (repeat' split)
 all_goals omega
theorem cwithin_any (a b:Int) (g:Nat) (w:World) (hk:Blk w g 3 #[.int .i64 a,.int .i64 b]) :
  Calls Tryz.prog 24 #[.slice (some ⟨g,0,none⟩) 2 2] w (fun e w'=>e=.returned (.int .i64 (timeC a b))∧w'=w):=by
 have d0:w.cell? ⟨g,0,none⟩=some (.int .i64 a):=hk.cell 0;have d1:w.cell? ⟨g,1,none⟩=some (.int .i64 b):=hk.cell 1;obtain ⟨a0,ha0⟩:=eX (addC 0 a);have CA:=zY (show ∀ u,Calls Tryz.prog 34 #[.int .i64 0,.int .i64 a] u (fun e w'=>e=.returned (.int .i64 a0)∧w'=u) from fun u=>by rw [ha0]; exact cadd_any 0 a u);obtain ⟨s,hs⟩:=eX (addC a0 b);have CB:=zY (show ∀ u,Calls Tryz.prog 34 #[.int .i64 a0,.int .i64 b] u (fun e w'=>e=.returned (.int .i64 s)∧w'=u) from fun u=>by rw [hs]; exact cadd_any a0 b u);rw [timeC,← ha0,← hs];obtain ⟨r,hr⟩:=eX (timeT s);rw [← hr];have HR:=zY hr;clear hs hr hk ha0;go_enter Tryz.func24,Tryz.ntmps24;go_wp2_with fail
 go_loopw [3,8] (fun t i wr=>∃ k:Nat,k≤2∧i=.int .i64 (k:Int)∧wr=w∧t=.int .i64 (if k=0 then 0 else if k=1 then a0 else s)) (fun _ i _=>2 - (intOf i).toNat)
 case atStart=>exact ⟨0,by omega,rfl,rfl,rfl⟩
 case round =>
  obtain ⟨k,hk,rfl,rfl,rfl⟩:=hrel;have hk3:k=0∨k=1∨k=2:=by omega
  rcases hk3 with rfl | rfl | rfl
  ·simp only [if_true];go_wp2_with fail;refine qab (CA.out _) ?_;rintro e w2 ⟨rfl,rfl⟩;go_wp2_with fail
   go_roundw
   case rel=>exact ⟨1,by omega,by simp,by simp,by simp⟩
   case measure=>simp [intOf]
  ·simp only [if_neg (show ¬ (1:Nat)=0 by decide),if_true];go_wp2_with fail;refine qab (CB.out _) ?_;rintro e w2 ⟨rfl,rfl⟩;go_wp2_with fail
   go_roundw
   case rel=>exact ⟨2,by omega,by simp,by simp,by simp⟩
   case measure=>simp [intOf]
  ·simp only [if_neg (show ¬ (2:Nat)=0 by decide),if_neg (show ¬ (2:Nat)=1 by decide)];go_wp2_with fail
   all_goals go_ret
   all_goals refine ⟨?_,rfl⟩
   all_goals rw [HR.out]
   all_goals refine congrArg (fun x=>Ending.returned (.int .i64 x)) ?_
   all_goals unfold timeT
   all_goals (repeat' split)
   all_goals omega
theorem cuntil_any (a b:Int) (w:World) :
  Calls Tryz.prog 12 #[.int .i64 a,.int .i64 b] w (fun e w'=>e=.returned (.int .i64 (timeC a b))∧Below w.heap.size w w'):=by
 have hk:=Blk.new w 3 #[.int .i64 a,.int .i64 b];have CW:=zY (cwithin_any a b w.heap.size _ hk);have HB:=zY (show Below w.heap.size w (w.alloc (.cells #[.int .i64 a,.int .i64 b] 3)) from (Below.refl _ _).alloc (Nat.le_refl _) _);clear hk;go_enter Tryz.func12,Tryz.ntmps12;go_wp2_with fail;refine qab CW.out ?_;rintro e w2 ⟨rfl,rfl⟩;go_wp2_with fail;go_ret;exact ⟨rfl,HB.out⟩
theorem cover_any (a b:Int) (w:World):Calls Tryz.prog 11 #[.int .i64 a,.int .i64 b] w (fun e w'=>e=.returned (.bool (decide (b≤a)))∧w'=w):=by
 go_enter Tryz.func11,Tryz.ntmps11;go_wp2_with fail
 all_goals go_ret
 all_goals first | exact ⟨rfl,rfl⟩ | (refine ⟨?_,rfl⟩; simp; try omega)
def spentB (k:KeyD) (now:Int):Bool:=decide (k.state=3) && decide (timeC k.since 1000≤now)
theorem cspent_any (k:KeyD) (now:Int) (w:World) :
  Calls Tryz.prog 14 #[.agg (keyCells k),.int .i64 now] w (fun e w'=>e=.returned (.bool (spentB k now))∧Below w.heap.size w w'):=by
 have hbn:=Blk.new w 33 (keyCells k);have HB:=zY (below_new w (.cells (keyCells k) 33));have d2:(w.alloc (.cells (keyCells k) 33)).cell? ⟨w.heap.size,2,none⟩=some (.int .i64 k.state):=hbn.cell 2;have d3:(w.alloc (.cells (keyCells k) 33)).cell? ⟨w.heap.size,3,none⟩=some (.int .i64 k.since):=hbn.cell 3;obtain ⟨W0,hW0⟩:=eX (w.alloc (.cells (keyCells k) 33));rw [← hW0] at HB d2 d3;have HW0:=zY hW0;have CU:=zY (fun u:World=>cuntil_any k.since 1000 u);obtain ⟨r,hr⟩:=eX (spentB k now);rw [← hr];have HR:=zY hr;clear hbn hW0 hr;go_enter Tryz.func14,Tryz.ntmps14
 by_cases h3:k.state=3
 ·go_upto_region 1 with (fail)
  rw [← HW0.out];go_wp2_with fail;refine qab (CU.out _) ?_;rintro e w2 ⟨rfl,hb2⟩;replace HB:=zY (HB.out.trans (hb2.mono HB.out.size));clear hb2;go_wp2_with fail;refine qab (cover_any _ _ _) ?_;rintro e w3 ⟨rfl,rfl⟩;go_wp2_with fail;go_ret;exact ⟨by rw [HR.out,spentB,h3]; simp,HB.out⟩
 ·go_upto_region 1 with (fail)
  rw [← HW0.out];go_wp2_with fail;go_ret;exact ⟨by rw [HR.out,spentB]; simp [h3],HB.out⟩
end Go.Proofs.YtcbkaaodmjphdaaGreatDoor
