/-
  Joined texts: Blk32 HSum32 OfC Of32 Top2r Rnm Jnm Bys Jct Mps Jmy Jky Jpl Jww Jrk Jwl Jr2 Rda Rmy Jl2.
-/
import Derived.Deep.QuietTactic
import Derived.Laws.IdiomStrings
import Derived.Deep.CutBlock
import Derived.Test.YtlkikjeccamheaaGreatDoorProg
import Derived.MapKept
import Derived.Shelf.Abstract
import Derived.Lib.SlTrimSet
import Derived.BigQuiet
import Derived.Test.YtlkikjeccamheaaGreatDoorJ4
import Derived.Test.YtlkikjeccamheaaGreatDoorJ1
import Derived.Test.YtlkikjeccamheaaGreatDoorJ3
import Derived.Test.YtlkikjeccamheaaGreatDoorJ2
namespace Go.Proofs.YtlkikjeccamheaaGreatDoor.Sh
set_option linter.unusedSimpArgs false
set_option linter.unusedVariables false
set_option maxRecDepth 100000
set_option maxHeartbeats 4000000
open Go.RowKit
theorem block32_any (p:HP) (S:S8) (blk:List UInt8) (bA sA:Option Addr) (bc sc B:Nat) (w:World) (hok:HOk F32 p w B) (hB:B≤w.heap.size) (hrb:Rd w B bA (bytesV blk)) (hrs:Rd w B sA (wordsV .u64 (s8L S)))
  (hbl:blk.length=64) (hbc:blk.length≤bc) (hsc:8≤sc) (hS:S.Lt (2^32)) :
  Calls Tryz.prog 81 #[.agg (hv F32 p),.slice sA 8 sc,.slice bA blk.length bc] w (BlockPost F32 S blk w):=by
 obtain ⟨W0,hW0⟩:=eX (w.alloc (.cells (hv F32 p) 93))
 have hst:BkSt w w.heap.size F32 p bA blk sA S W0:=by
  have hb:=below_new w (.cells (hv F32 p) 93);rw [hW0]; exact ⟨hb,Blk.new _ _ _,(hok.mono hB).below hb,(hrb.mono hB).below hb,(hrs.mono hB).below hb⟩
 obtain ⟨sad,rfl,hz1,hz2⟩:=hrs.at_ (k:=0) (by simp [wordsV,s8L]);obtain ⟨bad,rfl,hz3,hz4⟩:=hrb.at_ (k:=0) (by rw [qan,hbl]; decide);clear hz1 hz2 hz3 hz4;have hst0:=hst;rw [hW0] at hst0;have HST:=zY hst0;have HBL:=zY hbl;have HS:=zY hS;have hbc2:64≤bc:=by omega
 rw [hbl];obtain ⟨hh,hhh⟩:=eX (hv F32 p);obtain ⟨gf,hgf⟩:=eX (w.heap.size);have c0:=hst.h.cell 0;have c1:=hst.h.cell 1;rw [hW0,← hgf] at c0 c1;simp only [hv,hC,List.getElem?_toArray,List.getElem?_cons_zero,List.getElem?_cons_succ] at c0 c1;rw [← hgf] at hst0;clear HST;have HST:=zY hst0;have HH:=zY hhh;have HGF:=zY hgf;clear hst hst0 hbl hS hok hB hrb hrs hbc hW0 hhh hgf W0 c0 c1;go_enter Tryz.func81,Tryz.ntmps81;go_wp2;rw [show w.heap.size=gf from HGF.out.symm];have hst0:=HST.out;have hown0:OwnX (w.alloc (.cells (hv F32 p) 93)) (gf+1) 118 1 (.slice none 0 0) 0 (wordsV .u64 (rowW F32 blk 0)):=OwnX.nil _ _ _ _;clear HST
 go_loopw [7,8] (fun v i wr=>∃ (t:Nat) (A:Option Addr) (c:Nat),t≤16∧i=.int .i64 t∧v=.slice A t c∧BkSt w gf F32 p (some bad) blk (some sad) S wr∧OwnX wr (gf+1) 118 1 (.slice A t c) t (wordsV .u64 (rowW F32 blk t))) (fun _ i _=>16 - (intOf i).toNat)
 case atStart=>exact ⟨0,none,0,by omega,rfl,rfl,hst0,hown0⟩
 case round =>
  obtain ⟨t,A,c,ht,rfl,rfl,hst,hown⟩:=hrel;clear hst0 hown0;have c0:=hst.h.cell 0;simp only [hv,hC,List.getElem?_toArray,List.getElem?_cons_zero,F32] at c0
  by_cases hlt:t<16
  ·have hlt':(t:Int)<16:=by omega
   obtain ⟨tE,htE⟩:∃ tE:Nat,tE=t*4:=⟨_,rfl⟩;have hq:(t:Int)*32/8=(tE:Int):=by omega
   obtain ⟨pc,hpc⟩:=eX ((blk.drop tE).take 4);have hpl:pc.length=4:=by rw [hpc]; simp; rw [HBL.out]; omega
   have hrp:∀ u,BkSt w gf F32 p (some bad) blk (some sad) S u→∀ j z,pc[j]?=some z→u.cell? (bad.add (tE+j))=some (.int .u8 (z.toNat:Int)):=fun u hu j z hz=>by
    refine hu.rb.val ?_;rw [hpc,List.getElem?_take] at hz
    split at hz
    ·rw [List.getElem?_drop] at hz;rw [bytesV,List.getElem?_map,hz]; rfl
    ·cases hz
   have HST:=zY hst;have HOWN:=zY hown;have HPC:=zY hpc;have HPL:=zY hpl;have HRP:=zY hrp;have HTE:=zY htE;have htE2:tE≤64 - 4:=by omega
   clear hst hown hpc hpl hrp htE;go_wp2_with fail;obtain ⟨wo,rfl⟩:∃ wo:World,wo=wr:=⟨_,rfl⟩
   go_loop [9,10] (fun v i=>∃ j:Nat,j≤4∧i=.int .i64 j∧v=.int .u64 (beN (pc.take j):Nat)) (fun _ i=>4 - (intOf i).toNat)
   case atStart=>exact ⟨0,by omega,rfl,rfl⟩
   case round =>
    obtain ⟨j,hj,rfl,rfl⟩:=hrel;obtain ⟨x,hx⟩:=eX (beN (pc.take j));rw [← hx]
    by_cases hjl:j<4
    ·have hjl':(j:Int)<4:=by omega
     have hpj:j<pc.length:=by rw [HPL.out]; exact hjl
     obtain ⟨z,hz⟩:=eX (pc[j]);have hcl:=HRP.out _ HST.out j z (by rw [hz]; exact List.getElem?_eq_getElem hpj);have hzl:=z.toNat_lt
     have hxl:x<256^(4 - 1):=by
      rw [hx];have h1:=beN_lt (pc.take j);have h2:(pc.take j).length≤j:=List.length_take_le _ _;exact Nat.lt_of_lt_of_le h1 (Nat.pow_le_pow_right (by omega) (by omega))
     have hs2:beN (pc.take (j+1))=x*256+z.toNat:=by
      rw [List.take_succ_eq_append_getElem hpj,beN_snoc,hx,hz]
     have hb1:(x:Int)*256+(z.toNat:Int)<18446744073709551616:=by omega
     have hb2:(x:Int)*256<18446744073709551616:=by omega
     obtain ⟨ix,hix⟩:=eX (tE+j);have hlx:tE+j<64:=by omega
     have HS2:=zY hs2;clear hx hz hs2 hpj hxl hix;go_wp2_with fail;exact ⟨⟨j+1,by omega,by go_num,by rw [HS2.out]; go_num⟩,by simp [intOf]; omega⟩
    ·have hge:¬ (j:Int)<4:=by omega
     obtain rfl:j=4:=by omega
     have hpc2:pieceN (F32.bits/8) blk t=x:=by rw [hx,List.take_of_length_le (by rw [HPL.out]; omega),HPC.out,HTE.out]; rfl
     have HX:=zY hpc2;clear hx hpc2;go_wp2_with (refine qak qdq rfl rfl HOWN.out rfl rfl rfl rfl (by unfold maxLen; omega) (by omega) (by have:=HST.out.h.lt; omega) ?_; intro A2 c2 w2 hown2 hg2 hn2; have HOWN2:=zY hown2; have HG2:=zY hg2; clear hown2 hg2 hn2);refine ⟨⟨t+1,A2,c2,by omega,by go_num,rfl,HST.out.grow HOWN.out HG2.out,?_⟩,by simp [intOf]; omega⟩;rw [rowW,if_pos hlt,HX.out,qbi];exact HOWN2.out
  ·obtain rfl:t=16:=by omega
   have hsw:BkW w gf F32 p (some bad) blk (some sad) S (.slice A 16 c) (rowW F32 blk 16) wr:=⟨hst,by rw [qaQ]; exact hown⟩;clear hst hown;go_wp2_with fail;rw [show ((16:Nat):Int)=16 from rfl];obtain ⟨wo,rfl⟩:∃ wo:World,wo=wr:=⟨_,rfl⟩
   go_loopw [7,11] (fun v i wr=>∃ (t:Nat) (A:Option Addr) (c:Nat),16≤t∧t≤64∧i=.int .i64 t∧v=.slice A t c∧BkW w gf F32 p (some bad) blk (some sad) S (.slice A t c) (rowW F32 blk t) wr) (fun _ i _=>64 - (intOf i).toNat)
   case atStart=>exact ⟨16,A,c,by omega,by omega,rfl,rfl,hsw⟩
   case round =>
    clear hsw;clear c0;obtain ⟨t,A,c,ht16,htM,rfl,rfl,hsw⟩:=hrel;have c1:=hsw.st.h.cell 1;simp only [hv,hC,List.getElem?_toArray,List.getElem?_cons_zero,List.getElem?_cons_succ,F32] at c1
    by_cases hlt:t<64
    ·have hlt':(t:Int)<64:=by omega
     obtain ⟨g,rfl,hgb,hgl⟩:=(show OwnX wr (gf+1) 118 1 (.slice A t c) t (wordsV .u64 (rowW F32 blk t)) by have:=hsw.own; rwa [qaQ] at this).ptr (by omega)
     have hct:t≤c:=by
      have ho:OwnX wr (gf+1) 118 1 (.slice (some ⟨g,0,none⟩) t c) t (wordsV .u64 (rowW F32 blk t)):=by have:=hsw.own; rwa [qaQ] at this
      exact ho.le_cap
     obtain ⟨l,hl⟩:=eX (rowW F32 blk t);have hlen:l.length=t:=by rw [hl]; exact qaQ _ _ _
     have hlw:∀ i,l.getD i 0<2^32:=by rw [hl]; exact qb6 (qdw F32 (by decide) blk t) (by decide)
     rw [← hl] at hsw;obtain ⟨a16,h16⟩:=eX (l.getD (t - 16) 0);obtain ⟨a15,h15⟩:=eX (l.getD (t - 15) 0);obtain ⟨a7,h7⟩:=eX (l.getD (t - 7) 0);obtain ⟨a2,h2⟩:=eX (l.getD (t - 2) 0);obtain ⟨m1,hm1⟩:=eX (allF F32 a15 F32.t0 true);obtain ⟨m2,hm2⟩:=eX (allF F32 a2 F32.t1 true);obtain ⟨s1,hs1⟩:=eX ((a16+m1)%2^64);obtain ⟨s2,hs2⟩:=eX ((s1+a7)%2^64);obtain ⟨s3,hs3⟩:=eX ((s2+m2)%2^64);have W15:Hid (a15<2^32):=zY (by rw [h15]; exact hlw _);have W2:Hid (a2<2^32):=zY (by rw [h2]; exact hlw _);have hnw:nextW F32 l t=s3%2^32:=by rw [hs3,hs2,hs1,hm1,hm2,h16,h15,h7,h2]; exact next_32 _ _ _ _
     have hs3l:s3<18446744073709551616:=by rw [hs3]; exact Nat.mod_lt _ (by decide)
     have HL:=zY hl;have HLEN:=zY hlen;have H16:=zY h16;have H15:=zY h15;have H7:=zY h7;have H2:=zY h2;have HM1:=zY hm1;have HM2:=zY hm2;have HS1:=zY hs1;have HS2:=zY hs2;have HS3:=zY hs3;have HNW:=zY hnw;have HS3L:=zY hs3l;clear hl hlen hlw h16 h15 h7 h2 hm1 hm2 hs1 hs2 hs3 hnw hs3l;have hu:=Tryz.underlying93;have HC0:=hsw.drew;have HSW:=zY hsw;clear hsw;go_wp2_with fail;refine qam (fun u=>BkW w gf F32 p (some bad) blk (some sad) S (.slice (some ⟨g,0,none⟩) t c) l u) (by kernel_rfl) (by kernel_rfl) HC0 ?_
     iterate 4
      ((first | (apply SeqL.next; rfl; rfl)); (simp only [sP]; rfl); (intro w1 hC1 E hE; go_wp2; exact .mk (hE _ hC1)))
     apply SeqL.next
     ·rfl
     ·rfl
     ·simp only [sP];rfl
     ·intro w1 hC1 E hE;have d0:=hC1.at_ (i:=t - 16) HLEN.out (by omega);rw [← H16.out] at d0;go_wp2;exact .mk (hE _ hC1)
     apply SeqL.next
     ·rfl
     ·rfl
     ·simp only [sP];rfl
     ·intro w1 hC1 E hE;refine qad hC1.st.h rfl rfl rfl hu rfl qaX ?_;go_wp2_with fail;exact .mk (hE _ hC1)
     iterate 4
      ((first | (apply SeqL.next; rfl; rfl)); (simp only [sP]; rfl); (intro w1 hC1 E hE; go_wp2; exact .mk (hE _ hC1)))
     apply SeqL.next
     ·rfl
     ·rfl
     ·simp only [sP];rfl
     ·intro w1 hC1 E hE;have d0:=hC1.at_ (i:=t - 15) HLEN.out (by omega);rw [← H15.out] at d0;go_wp2;exact .mk (hE _ hC1)
     iterate 1
      ((first | (apply SeqL.next; rfl; rfl)); (simp only [sP]; rfl); (intro w1 hC1 E hE; go_wp2; exact .mk (hE _ hC1)))
     apply SeqL.next
     ·rfl
     ·rfl
     ·simp only [sP];rfl
     ·intro w1 hC1 E hE;have d0:=hC1.st.h.cell 4;simp [hv,hC] at d0;go_wp2;exact .mk (hE _ hC1)
     apply SeqL.next
     ·rfl
     ·rfl
     ·simp only [sP];rfl
     ·intro w1 hC1 E hE;go_wp2_with fail;refine qaa (qcD 32 64 _ _ _ _ _ _ _ (.inl rfl) a15 _ _ _ true W15.out (by decide) (by decide) (by decide) _ _ gf hC1.st.ok.c (by have:=hC1.st.h.lt; omega) hC1.st.ok.cc) ?_;rintro e w2 ⟨rfl,hb2⟩;rw [show allN 32 a15 _ _ _ true=m1 from HM1.out.symm];go_wp2_with fail;exact .mk (hE _ (hC1.next hb2))
     apply SeqL.next
     ·rfl
     ·rfl
     ·simp only [sP];rfl
     ·intro w1 hC1 E hE;go_wp2;rw [qbB a16 m1,← HS1.out];exact .mk (hE _ hC1)
     iterate 4
      ((first | (apply SeqL.next; rfl; rfl)); (simp only [sP]; rfl); (intro w1 hC1 E hE; go_wp2; exact .mk (hE _ hC1)))
     apply SeqL.next
     ·rfl
     ·rfl
     ·simp only [sP];rfl
     ·intro w1 hC1 E hE;have d0:=hC1.at_ (i:=t - 7) HLEN.out (by omega);rw [← H7.out] at d0;go_wp2;exact .mk (hE _ hC1)
     apply SeqL.next
     ·rfl
     ·rfl
     ·simp only [sP];rfl
     ·intro w1 hC1 E hE;go_wp2;rw [qbB s1 a7,← HS2.out];exact .mk (hE _ hC1)
     apply SeqL.next
     ·rfl
     ·rfl
     ·simp only [sP];rfl
     ·intro w1 hC1 E hE;refine qad hC1.st.h rfl rfl rfl hu rfl qaX ?_;go_wp2_with fail;exact .mk (hE _ hC1)
     iterate 4
      ((first | (apply SeqL.next; rfl; rfl)); (simp only [sP]; rfl); (intro w1 hC1 E hE; go_wp2; exact .mk (hE _ hC1)))
     apply SeqL.next
     ·rfl
     ·rfl
     ·simp only [sP];rfl
     ·intro w1 hC1 E hE;have d0:=hC1.at_ (i:=t - 2) HLEN.out (by omega);rw [← H2.out] at d0;go_wp2;exact .mk (hE _ hC1)
     iterate 1
      ((first | (apply SeqL.next; rfl; rfl)); (simp only [sP]; rfl); (intro w1 hC1 E hE; go_wp2; exact .mk (hE _ hC1)))
     apply SeqL.next
     ·rfl
     ·rfl
     ·simp only [sP];rfl
     ·intro w1 hC1 E hE;have d0:=hC1.st.h.cell 5;simp [hv,hC] at d0;go_wp2;exact .mk (hE _ hC1)
     apply SeqL.next
     ·rfl
     ·rfl
     ·simp only [sP];rfl
     ·intro w1 hC1 E hE;go_wp2_with fail;refine qaa (qcD 32 64 _ _ _ _ _ _ _ (.inl rfl) a2 _ _ _ true W2.out (by decide) (by decide) (by decide) _ _ gf hC1.st.ok.d (by have:=hC1.st.h.lt; omega) hC1.st.ok.cd) ?_;rintro e w2 ⟨rfl,hb2⟩;rw [show allN 32 a2 _ _ _ true=m2 from HM2.out.symm];go_wp2_with fail;exact .mk (hE _ (hC1.next hb2))
     apply SeqL.next
     ·rfl
     ·rfl
     ·simp only [sP];rfl
     ·intro w1 hC1 E hE;go_wp2;rw [qbB s2 m2,← HS3.out];exact .mk (hE _ hC1)
     iterate 1
      ((first | (apply SeqL.next; rfl; rfl)); (simp only [sP]; rfl); (intro w1 hC1 E hE; go_wp2; exact .mk (hE _ hC1)))
     refine SeqL.nil ?_;intro w1 hC1;clear HC0;have HC1:=zY hC1;clear hC1 HSW;go_wp2_with (refine qad (x:=.tmp 3) HC1.out.st.h rfl rfl rfl hu rfl qaX ?_);obtain ⟨nv,hnv⟩:=eX (s3%2^32);refine qaa (qct 32 64 _ _ _ _ _ _ _ (.inl rfl) s3 HS3L.out) ?_;rintro e w2 ⟨rfl,hb2⟩;rw [← hnv];have hw2:=HC1.out.next hb2;have HO2:Hid (OwnX w2 (gf+1) 118 1 (.slice (some ⟨g,0,none⟩) t c) t (wordsV .u64 l)):=zY (by have:=hw2.own; rwa [HLEN.out] at this);have HW2:=zY hw2;have HNV:=zY hnv;clear hw2 hb2 hnv HC1;go_wp2_with (refine qak qdq rfl rfl HO2.out rfl rfl rfl rfl (by unfold maxLen; omega) (by omega) (by have:=HW2.out.st.h.lt; omega) ?_; intro A3 c3 w3 hown3 hg3 hn3; have HOWN3:=zY hown3; have HG3:=zY hg3; clear hown3 hg3 hn3);refine ⟨⟨t+1,A3,c3,by omega,by omega,by go_num,rfl,?_⟩,by simp [intOf]; omega⟩;have h:=HW2.out.app (v':=.slice A3 (t+1) c3) (x:=nv) (by rw [HLEN.out]; exact HOWN3.out) HG3.out;rw [rowW,if_neg (show ¬ t<16 by omega),← HL.out,HNW.out,← HNV.out];exact h
    ·obtain rfl:t=64:=by omega
     obtain ⟨g,rfl,hgb,hgl⟩:=(show OwnX wr (gf+1) 118 1 (.slice A 64 c) 64 (wordsV .u64 (rowW F32 blk 64)) by have:=hsw.own; rwa [qaQ] at this).ptr (by omega)
     have hct:64≤c:=by
      have ho:OwnX wr (gf+1) 118 1 (.slice (some ⟨g,0,none⟩) 64 c) 64 (wordsV .u64 (rowW F32 blk 64)):=by have:=hsw.own; rwa [qaQ] at this
      exact ho.le_cap
     obtain ⟨RW,hRW⟩:=eX (rowW F32 blk 64);have hlen:RW.length=64:=by rw [hRW]; exact qaQ _ _ _
     have hlw:∀ i,RW.getD i 0<2^32:=by rw [hRW]; exact qb6 (qdw F32 (by decide) blk 64) (by decide)
     rw [← hRW] at hsw;have hwx:(wordsV .u64 (s8L S)).length=8:=rfl;have HSW:=zY hsw;have HLEN:=zY hlen;have HRW:=zY hRW;have HLW:=zY hlw;clear hsw hlen hRW hlw;go_wp2_with (refine qaI (base:=gf+1) (n:=0) (v:=.slice none 0 0) (xs:=[]) (news:=wordsV .u64 (s8L S)) qdq rfl rfl (OwnX.nil _ _ _ _) rfl rfl rfl HSW.out.st.rs (by intro u hu; simp [wordsV] at hu; obtain ⟨_,_,rfl⟩:=hu; rfl) (by unfold maxLen; omega) (by omega) (by have:=HSW.out.st.h.lt; omega) ?_; intro A4 c4 w4 hown4 hg4 hn4; have HOWN4:=zY hown4; have HG4:=zY hg4; clear hown4 hg4 hn4);obtain ⟨g2,rfl,hgb2,hgl2⟩:=(show OwnX w4 (gf+1) 118 1 (.slice A4 8 c4) 8 (wordsV .u64 (s8L S)) by simpa using HOWN4.out).ptr (by omega)
     have hsr:BkR w gf F32 p (some bad) blk (some sad) S (.slice (some ⟨g,0,none⟩) 64 c) RW g2 c4 (mixTo F32 RW S 0) w4:=by
      have hnx:=HSW.out.own;have hg5:=HG4.out;refine ⟨⟨HSW.out.st.keep (qbo hg5 (by have:=HSW.out.st.h.lt; omega) (by intro k hk; simp [Value.ownBlock] at hk)),hnx.kept hg5 (.inr (by simp [Value.ownBlock]))⟩,?_⟩;show OwnX w4 (gf+1) 118 1 (.slice (some ⟨g2,0,none⟩) 8 c4) 8 (wordsV .u64 (s8L S))
      simpa using HOWN4.out
     have HSR:=zY hsr;clear hsr HOWN4 HG4 HSW c1 hgb hgl hgb2 hgl2;obtain ⟨wo2,rfl⟩:∃ wo2:World,wo2=w4:=⟨_,rfl⟩;go_wp2_with fail
     go_loopw [13,14] (fun v i wr=>∃ t g2 c2:Nat,t≤64∧i=.int .i64 t∧v=.slice (some ⟨g2,0,none⟩) 8 c2∧BkR w gf F32 p (some bad) blk (some sad) S (.slice (some ⟨g,0,none⟩) 64 c) RW g2 c2 (mixTo F32 RW S t) wr) (fun _ i _=>64 - (intOf i).toNat)
     case atStart=>exact ⟨0,g2,c4,by omega,rfl,rfl,HSR.out⟩
     case round =>
      obtain ⟨t,g2,c2,ht,rfl,rfl,hsr⟩:=hrel;have c1:=hsr.w.st.h.cell 1;simp only [hv,hC,List.getElem?_toArray,List.getElem?_cons_zero,List.getElem?_cons_succ,F32] at c1;have hc8:=hsr.le
      by_cases hlt:t<64
      ·have hlt':(t:Int)<64:=by omega
       obtain ⟨vv,hvv⟩:=eX (mixTo F32 RW S t);have hvl:vv.Lt (2^32):=by rw [hvv]; exact mixTo_lt HS.out t
       rw [← hvv] at hsr;have HVV:=zY hvv;obtain ⟨va,vb,vc,vd,ve,vf,vg,vh⟩:=vv;have HL8:=zY hvl;obtain ⟨wk,hwk⟩:=eX (RW.getD t 0);obtain ⟨kk,hkk⟩:=eX (kN F32 t);obtain ⟨big,hbig⟩:∃ x:Nat,x=18446744073709551615:=⟨_,rfl⟩;obtain ⟨on,hon⟩:=eX (big%2^32);obtain ⟨XA,hXA⟩:=eX (allF F32 ve F32.s1 false);obtain ⟨p1,hp1⟩:=eX ((vh+XA)%2^64);obtain ⟨af,haf⟩:=eX (ve &&& vf);obtain ⟨ne,hne⟩:=eX (on ^^^ ve);obtain ⟨ng,hng⟩:=eX (ne &&& vg);obtain ⟨ch,hch⟩:=eX (af ^^^ ng);obtain ⟨p2,hp2⟩:=eX ((p1+ch)%2^64);obtain ⟨p3,hp3⟩:=eX ((p2+kk)%2^64);obtain ⟨p4,hp4⟩:=eX ((p3+wk)%2^64);obtain ⟨xx,hxx⟩:=eX (p4%2^32);obtain ⟨YA,hYA⟩:=eX (allF F32 va F32.s0 false);obtain ⟨ab,hab⟩:=eX (va &&& vb);obtain ⟨ac,hac⟩:=eX (va &&& vc);obtain ⟨bc2,hbc2'⟩:∃ x,x=vb &&& vc:=⟨_,rfl⟩;obtain ⟨x1,hx1⟩:=eX (ab ^^^ ac);obtain ⟨mj,hmj⟩:=eX (x1 ^^^ bc2);obtain ⟨q1,hq1⟩:=eX ((YA+mj)%2^64);obtain ⟨yy,hyy⟩:=eX (q1%2^32);obtain ⟨z1,hz1⟩:=eX ((xx+yy)%2^64);obtain ⟨za,hza⟩:=eX (z1%2^32);obtain ⟨z2,hz2⟩:=eX ((vd+xx)%2^64);obtain ⟨ze,hze⟩:=eX (z2%2^32);have lon:on<2^64:=by rw [hon,hbig]; decide
       have l64:∀ z,z<2^32→z<2^64:=fun z hz=>Nat.lt_of_lt_of_le hz (by decide);have laf:af<2^64:=by rw [haf]; exact qcm (l64 _ hvl.e)
       have lne:ne<2^64:=by rw [hne]; exact Nat.xor_lt_two_pow lon (l64 _ hvl.e)
       have lng:ng<2^64:=by rw [hng]; exact qcm lne
       have lab:ab<2^64:=by rw [hab]; exact qcm (l64 _ hvl.a)
       have lac:ac<2^64:=by rw [hac]; exact qcm (l64 _ hvl.a)
       have lbc:bc2<2^64:=by rw [hbc2']; exact qcm (l64 _ hvl.b)
       have lx1:x1<2^64:=by rw [hx1]; exact Nat.xor_lt_two_pow lab lac
       have hmx:mixX F32 ⟨va,vb,vc,vd,ve,vf,vg,vh⟩ kk wk=xx:=by
        rw [hxx,hp4,hp3,hp2,hp1,hch,hng,hne,hon,hbig,haf,hXA];rw [show 18446744073709551615%2^32=2^32 - 1 by decide,ones_xor 32 ve hvl.e];exact mixX_r32 _ _ _ _ _
       have hmy:mixY F32 ⟨va,vb,vc,vd,ve,vf,vg,vh⟩=yy:=by
        rw [hyy,hq1,hmj,hx1,hab,hac,hbc2',hYA];exact mod_r32 _ _
       have hstp:stepS F32 ⟨va,vb,vc,vd,ve,vf,vg,vh⟩ kk wk=⟨za,va,vb,vc,ze,ve,vf,vg⟩:=by
        have e1:(xx+yy)%2^32=za:=by rw [hza,hz1]; exact mod_r32 _ _
        have e2:(vd+xx)%2^32=ze:=by rw [hze,hz2]; exact mod_r32 _ _
        rw [stepS,hmx,hmy];show S8.mk ((xx+yy)%2^32) va vb vc ((vd+xx)%2^32) ve vf vg=_;rw [e1,e2]
       have hm1:mixTo F32 RW S (t+1)=⟨za,va,vb,vc,ze,ve,vf,vg⟩:=by rw [mixTo,← HVV.out,← hkk,← hwk]; exact hstp
       have HM1:=zY hm1;have LP4:Hid (p4<18446744073709551616):=zY (by rw [hp4]; exact Nat.mod_lt _ (by decide));have LQ1:Hid (q1<18446744073709551616):=zY (by rw [hq1]; exact Nat.mod_lt _ (by decide));have LZ1:Hid (z1<18446744073709551616):=zY (by rw [hz1]; exact Nat.mod_lt _ (by decide));have LZ2:Hid (z2<18446744073709551616):=zY (by rw [hz2]; exact Nat.mod_lt _ (by decide));have LON:=zY lon;have L64:=zY l64;have LAF:=zY laf;have LNE:=zY lne;have LNG:=zY lng;have LAB:=zY lab;have LAC:=zY lac;have LBC:=zY lbc;have LX1:=zY lx1;have HWK:=zY hwk;have HKK:=zY hkk;have HON:=zY hon;have HBIG:=zY hbig;have HXA:=zY hXA;have HP1:=zY hp1;have HAF:=zY haf;have HNE:=zY hne;have HNG:=zY hng;have HCH:=zY hch;have HP2:=zY hp2;have HP3:=zY hp3;have HP4:=zY hp4;have HXX:=zY hxx;have HYA:=zY hYA;have HAB:=zY hab;have HAC:=zY hac;have HBC:=zY hbc2';have HX1:=zY hx1;have HMJ:=zY hmj;have HQ1:=zY hq1;have HYY:=zY hyy;have HZ1:=zY hz1;have HZA:=zY hza;have HZ2:=zY hz2;have HZE:=zY hze;have hu:=Tryz.underlying93;have d4:=hsr.r.atN (i:=4) (v:=.int .u64 (ve:Int)) rfl;have d0:=hsr.r.atN (i:=0) (v:=.int .u64 (va:Int)) rfl;have HSR2:=zY hsr;clear hvv hvl hwk hkk hon hbig hXA hp1 haf hne hng hch hp2 hp3 hp4 hxx hYA hab hac hbc2' hx1 hmj hq1 hyy hz1 hza hz2 hze lon l64 laf lne lng lab lac lbc lx1 hmx hmy hstp hm1 hsr HSR;go_wp2_with (refine qad (x:=.tmp 3) HSR2.out.w.st.h rfl rfl rfl hu rfl qaX ?_);have hlo:=qct 32 64 (.slice (some p.a) 3 p.ca) (.slice (some p.b) 3 p.cb) (.slice (some p.c) 3 p.cc) (.slice (some p.d) 3 p.cd) (.slice (some p.k) 64 p.ck) (.slice (some p.f) 8 p.cf) wr (.inl rfl) big (by rw [HBIG.out]; decide);rw [← HON.out,show (big:Int)=18446744073709551615 by rw [HBIG.out]; rfl] at hlo;refine qaa hlo ?_;rintro e w2 ⟨rfl,hb2⟩;have hsr2:=HSR2.out.next hb2;clear hlo hb2 HSR2 d4 d0;go_wp2_with fail;have HC0:=hsr2.drew;clear hsr2;refine qam (fun u=>BkR w gf F32 p (some bad) blk (some sad) S (.slice (some ⟨g,0,none⟩) 64 c) RW g2 c2 ⟨va,vb,vc,vd,ve,vf,vg,vh⟩ u) (by kernel_rfl) (by kernel_rfl) HC0 ?_;apply SeqL.next
       ·rfl
       ·rfl
       ·simp only [sP];rfl
       ·intro w1 hC1 E hE;refine qad hC1.w.st.h rfl rfl rfl hu rfl qaX ?_;go_wp2_with fail;exact .mk (hE _ hC1)
       iterate 2
        ((first | (apply SeqL.next; rfl; rfl)); (simp only [sP]; rfl); (intro w1 hC1 E hE; go_wp2; exact .mk (hE _ hC1)))
       apply SeqL.next
       ·rfl
       ·rfl
       ·simp only [sP];rfl
       ·intro w1 hC1 E hE;have d0:=hC1.r.atN (i:=7) (v:=.int .u64 (vh:Int)) rfl;go_wp2;exact .mk (hE _ hC1)
       apply SeqL.next
       ·rfl
       ·rfl
       ·simp only [sP];rfl
       ·intro w1 hC1 E hE;refine qad hC1.w.st.h rfl rfl rfl hu rfl qaX ?_;go_wp2_with fail;exact .mk (hE _ hC1)
       iterate 2
        ((first | (apply SeqL.next; rfl; rfl)); (simp only [sP]; rfl); (intro w1 hC1 E hE; go_wp2; exact .mk (hE _ hC1)))
       apply SeqL.next
       ·rfl
       ·rfl
       ·simp only [sP];rfl
       ·intro w1 hC1 E hE;have d0:=hC1.w.st.h.cell 3;simp [hv,hC] at d0;go_wp2;exact .mk (hE _ hC1)
       apply SeqL.next
       ·rfl
       ·rfl
       ·simp only [sP];rfl
       ·intro w1 hC1 E hE;go_wp2_with fail;refine qaa (qcD 32 64 _ _ _ _ _ _ _ (.inl rfl) ve _ _ _ false HL8.out.e (by decide) (by decide) (by decide) _ _ gf hC1.w.st.ok.b (by have:=hC1.w.st.h.lt; omega) hC1.w.st.ok.cb) ?_;rintro e w2 ⟨rfl,hb2⟩;rw [show allN 32 ve _ _ _ false=XA from HXA.out.symm];go_wp2_with fail;exact .mk (hE _ (hC1.next hb2))
       apply SeqL.next
       ·rfl
       ·rfl
       ·simp only [sP];rfl
       ·intro w1 hC1 E hE;go_wp2;rw [qbB vh XA,← HP1.out];exact .mk (hE _ hC1)
       iterate 3
        ((first | (apply SeqL.next; rfl; rfl)); (simp only [sP]; rfl); (intro w1 hC1 E hE; go_wp2; exact .mk (hE _ hC1)))
       apply SeqL.next
       ·rfl
       ·rfl
       ·simp only [sP];rfl
       ·intro w1 hC1 E hE;have d0:=hC1.r.atN (i:=5) (v:=.int .u64 (vf:Int)) rfl;go_wp2;exact .mk (hE _ hC1)
       apply SeqL.next
       ·rfl
       ·rfl
       ·simp only [sP];rfl
       ·intro w1 hC1 E hE;go_wp2;rw [and64 ve vf (L64.out _ HL8.out.e) (L64.out _ HL8.out.f),← HAF.out];exact .mk (hE _ hC1)
       iterate 2
        ((first | (apply SeqL.next; rfl; rfl)); (simp only [sP]; rfl); (intro w1 hC1 E hE; go_wp2; exact .mk (hE _ hC1)))
       apply SeqL.next
       ·rfl
       ·rfl
       ·simp only [sP];rfl
       ·intro w1 hC1 E hE;go_wp2;rw [xor64 on ve LON.out (L64.out _ HL8.out.e),← HNE.out];exact .mk (hE _ hC1)
       iterate 2
        ((first | (apply SeqL.next; rfl; rfl)); (simp only [sP]; rfl); (intro w1 hC1 E hE; go_wp2; exact .mk (hE _ hC1)))
       apply SeqL.next
       ·rfl
       ·rfl
       ·simp only [sP];rfl
       ·intro w1 hC1 E hE;have d0:=hC1.r.atN (i:=6) (v:=.int .u64 (vg:Int)) rfl;go_wp2;exact .mk (hE _ hC1)
       apply SeqL.next
       ·rfl
       ·rfl
       ·simp only [sP];rfl
       ·intro w1 hC1 E hE;go_wp2;rw [and64 ne vg LNE.out (L64.out _ HL8.out.g),← HNG.out];exact .mk (hE _ hC1)
       apply SeqL.next
       ·rfl
       ·rfl
       ·simp only [sP];rfl
       ·intro w1 hC1 E hE;go_wp2;rw [xor64 af ng LAF.out LNG.out,← HCH.out];exact .mk (hE _ hC1)
       apply SeqL.next
       ·rfl
       ·rfl
       ·simp only [sP];rfl
       ·intro w1 hC1 E hE;go_wp2;rw [qbB p1 ch,← HP2.out];exact .mk (hE _ hC1)
       iterate 1
        ((first | (apply SeqL.next; rfl; rfl)); (simp only [sP]; rfl); (intro w1 hC1 E hE; go_wp2; exact .mk (hE _ hC1)))
       apply SeqL.next
       ·rfl
       ·rfl
       ·simp only [sP];rfl
       ·intro w1 hC1 E hE;have d0:=hC1.w.st.h.cell 6;simp [hv,hC] at d0;go_wp2;exact .mk (hE _ hC1)
       iterate 1
        ((first | (apply SeqL.next; rfl; rfl)); (simp only [sP]; rfl); (intro w1 hC1 E hE; go_wp2; exact .mk (hE _ hC1)))
       apply SeqL.next
       ·rfl
       ·rfl
       ·simp only [sP];rfl
       ·intro w1 hC1 E hE;have hck:=hC1.w.st.ok.ck;dsimp only [F32] at hck;go_wp2;exact .mk (hE _ hC1)
       apply SeqL.next
       ·rfl
       ·rfl
       ·simp only [sP];rfl
       ·intro w1 hC1 E hE;have d0:=hC1.w.st.ok.k.val (k:=t) (v:=.int .u64 (kk:Int)) (by rw [HKK.out,wordsV,List.getElem?_map,kL_get _ _ hlt]; rfl);go_wp2;exact .mk (hE _ hC1)
       apply SeqL.next
       ·rfl
       ·rfl
       ·simp only [sP];rfl
       ·intro w1 hC1 E hE;go_wp2;rw [qbB p2 kk,← HP3.out];exact .mk (hE _ hC1)
       iterate 3
        ((first | (apply SeqL.next; rfl; rfl)); (simp only [sP]; rfl); (intro w1 hC1 E hE; go_wp2; exact .mk (hE _ hC1)))
       apply SeqL.next
       ·rfl
       ·rfl
       ·simp only [sP];rfl
       ·intro w1 hC1 E hE;have d0:=hC1.w.at_ (i:=t) HLEN.out hlt;rw [← HWK.out] at d0;go_wp2;exact .mk (hE _ hC1)
       apply SeqL.next
       ·rfl
       ·rfl
       ·simp only [sP];rfl
       ·intro w1 hC1 E hE;go_wp2;rw [qbB p3 wk,← HP4.out];exact .mk (hE _ hC1)
       apply SeqL.next
       ·rfl
       ·rfl
       ·simp only [sP];rfl
       ·intro w1 hC1 E hE;go_wp2_with fail;refine qaa (qct 32 64 _ _ _ _ _ _ _ (.inl rfl) p4 LP4.out) ?_;rintro e w2 ⟨rfl,hb2⟩;rw [← HXX.out];go_wp2_with fail;exact .mk (hE _ (hC1.next hb2))
       iterate 1
        ((first | (apply SeqL.next; rfl; rfl)); (simp only [sP]; rfl); (intro w1 hC1 E hE; go_wp2; exact .mk (hE _ hC1)))
       refine SeqL.nil ?_;intro w1 hC1;clear HC0;go_wp2_with fail;have HC0:=hC1.drew;clear hC1;refine qam (fun u=>BkR w gf F32 p (some bad) blk (some sad) S (.slice (some ⟨g,0,none⟩) 64 c) RW g2 c2 ⟨va,vb,vc,vd,ve,vf,vg,vh⟩ u) (by kernel_rfl) (by kernel_rfl) HC0 ?_;apply SeqL.next
       ·rfl
       ·rfl
       ·simp only [sP];rfl
       ·intro w1 hC1 E hE;refine qad hC1.w.st.h rfl rfl rfl hu rfl qaX ?_;go_wp2_with fail;exact .mk (hE _ hC1)
       apply SeqL.next
       ·rfl
       ·rfl
       ·simp only [sP];rfl
       ·intro w1 hC1 E hE;refine qad hC1.w.st.h rfl rfl rfl hu rfl qaX ?_;go_wp2_with fail;exact .mk (hE _ hC1)
       iterate 2
        ((first | (apply SeqL.next; rfl; rfl)); (simp only [sP]; rfl); (intro w1 hC1 E hE; go_wp2; exact .mk (hE _ hC1)))
       apply SeqL.next
       ·rfl
       ·rfl
       ·simp only [sP];rfl
       ·intro w1 hC1 E hE;have d0:=hC1.w.st.h.cell 2;simp [hv,hC] at d0;go_wp2;exact .mk (hE _ hC1)
       apply SeqL.next
       ·rfl
       ·rfl
       ·simp only [sP];rfl
       ·intro w1 hC1 E hE;go_wp2_with fail;refine qaa (qcD 32 64 _ _ _ _ _ _ _ (.inl rfl) va _ _ _ false HL8.out.a (by decide) (by decide) (by decide) _ _ gf hC1.w.st.ok.a (by have:=hC1.w.st.h.lt; omega) hC1.w.st.ok.ca) ?_;rintro e w2 ⟨rfl,hb2⟩;rw [show allN 32 va _ _ _ false=YA from HYA.out.symm];go_wp2_with fail;exact .mk (hE _ (hC1.next hb2))
       iterate 3
        ((first | (apply SeqL.next; rfl; rfl)); (simp only [sP]; rfl); (intro w1 hC1 E hE; go_wp2; exact .mk (hE _ hC1)))
       apply SeqL.next
       ·rfl
       ·rfl
       ·simp only [sP];rfl
       ·intro w1 hC1 E hE;have d0:=hC1.r.atN (i:=1) (v:=.int .u64 (vb:Int)) rfl;go_wp2;exact .mk (hE _ hC1)
       apply SeqL.next
       ·rfl
       ·rfl
       ·simp only [sP];rfl
       ·intro w1 hC1 E hE;go_wp2;rw [and64 va vb (L64.out _ HL8.out.a) (L64.out _ HL8.out.b),← HAB.out];exact .mk (hE _ hC1)
       iterate 3
        ((first | (apply SeqL.next; rfl; rfl)); (simp only [sP]; rfl); (intro w1 hC1 E hE; go_wp2; exact .mk (hE _ hC1)))
       apply SeqL.next
       ·rfl
       ·rfl
       ·simp only [sP];rfl
       ·intro w1 hC1 E hE;have d0:=hC1.r.atN (i:=2) (v:=.int .u64 (vc:Int)) rfl;go_wp2;exact .mk (hE _ hC1)
       apply SeqL.next
       ·rfl
       ·rfl
       ·simp only [sP];rfl
       ·intro w1 hC1 E hE;go_wp2;rw [and64 va vc (L64.out _ HL8.out.a) (L64.out _ HL8.out.c),← HAC.out];exact .mk (hE _ hC1)
       apply SeqL.next
       ·rfl
       ·rfl
       ·simp only [sP];rfl
       ·intro w1 hC1 E hE;go_wp2;rw [xor64 ab ac LAB.out LAC.out,← HX1.out];exact .mk (hE _ hC1)
       iterate 2
        ((first | (apply SeqL.next; rfl; rfl)); (simp only [sP]; rfl); (intro w1 hC1 E hE; go_wp2; exact .mk (hE _ hC1)))
       apply SeqL.next
       ·rfl
       ·rfl
       ·simp only [sP];rfl
       ·intro w1 hC1 E hE;have d0:=hC1.r.atN (i:=1) (v:=.int .u64 (vb:Int)) rfl;go_wp2;exact .mk (hE _ hC1)
       iterate 2
        ((first | (apply SeqL.next; rfl; rfl)); (simp only [sP]; rfl); (intro w1 hC1 E hE; go_wp2; exact .mk (hE _ hC1)))
       apply SeqL.next
       ·rfl
       ·rfl
       ·simp only [sP];rfl
       ·intro w1 hC1 E hE;have d0:=hC1.r.atN (i:=2) (v:=.int .u64 (vc:Int)) rfl;go_wp2;exact .mk (hE _ hC1)
       apply SeqL.next
       ·rfl
       ·rfl
       ·simp only [sP];rfl
       ·intro w1 hC1 E hE;go_wp2;rw [and64 vb vc (L64.out _ HL8.out.b) (L64.out _ HL8.out.c),← HBC.out];exact .mk (hE _ hC1)
       apply SeqL.next
       ·rfl
       ·rfl
       ·simp only [sP];rfl
       ·intro w1 hC1 E hE;go_wp2;rw [xor64 x1 bc2 LX1.out LBC.out,← HMJ.out];exact .mk (hE _ hC1)
       apply SeqL.next
       ·rfl
       ·rfl
       ·simp only [sP];rfl
       ·intro w1 hC1 E hE;go_wp2;rw [qbB YA mj,← HQ1.out];exact .mk (hE _ hC1)
       apply SeqL.next
       ·rfl
       ·rfl
       ·simp only [sP];rfl
       ·intro w1 hC1 E hE;go_wp2_with fail;refine qaa (qct 32 64 _ _ _ _ _ _ _ (.inl rfl) q1 LQ1.out) ?_;rintro e w2 ⟨rfl,hb2⟩;rw [← HYY.out];go_wp2_with fail;exact .mk (hE _ (hC1.next hb2))
       iterate 1
        ((first | (apply SeqL.next; rfl; rfl)); (simp only [sP]; rfl); (intro w1 hC1 E hE; go_wp2; exact .mk (hE _ hC1)))
       refine SeqL.nil ?_;intro w1 hC1;clear HC0;go_wp2_with fail;have HC0:=hC1.drew;clear hC1;refine qcl (fun u=>BkR w gf F32 p (some bad) blk (some sad) S (.slice (some ⟨g,0,none⟩) 64 c) RW g2 c2 ⟨va,vb,vc,vd,ve,vf,vg,vh⟩ u) (fun _=>false) 26 (by kernel_rfl) (by kernel_rfl) (by decide) (by kernel_rfl) HC0 ?_;simp only [List.take_succ_cons,List.take_zero,List.drop_succ_cons,List.drop_zero];apply SeqL.next
       ·rfl
       ·rfl
       ·simp only [sP];rfl
       ·intro w1 hC1 E hE;refine qad hC1.w.st.h rfl rfl rfl hu rfl qaX ?_;go_wp2_with fail;exact .mk (hE _ hC1)
       iterate 2
        ((first | (apply SeqL.next; rfl; rfl)); (simp only [sP]; rfl); (intro w1 hC1 E hE; go_wp2; exact .mk (hE _ hC1)))
       apply SeqL.next
       ·rfl
       ·rfl
       ·simp only [sP];rfl
       ·intro w1 hC1 E hE;go_wp2;rw [qbB xx yy,← HZ1.out];exact .mk (hE _ hC1)
       apply SeqL.next
       ·rfl
       ·rfl
       ·simp only [sP];rfl
       ·intro w1 hC1 E hE;go_wp2_with fail;refine qaa (qct 32 64 _ _ _ _ _ _ _ (.inl rfl) z1 LZ1.out) ?_;rintro e w2 ⟨rfl,hb2⟩;rw [← HZA.out];go_wp2_with fail;exact .mk (hE _ (hC1.next hb2))
       iterate 3
        ((first | (apply SeqL.next; rfl; rfl)); (simp only [sP]; rfl); (intro w1 hC1 E hE; go_wp2; exact .mk (hE _ hC1)))
       apply SeqL.next
       ·rfl
       ·rfl
       ·simp only [sP];rfl
       ·intro w1 hC1 E hE;have d0:=hC1.r.atN (i:=1) (v:=.int .u64 (vb:Int)) rfl;go_wp2;exact .mk (hE _ hC1)
       iterate 2
        ((first | (apply SeqL.next; rfl; rfl)); (simp only [sP]; rfl); (intro w1 hC1 E hE; go_wp2; exact .mk (hE _ hC1)))
       apply SeqL.next
       ·rfl
       ·rfl
       ·simp only [sP];rfl
       ·intro w1 hC1 E hE;have d0:=hC1.r.atN (i:=2) (v:=.int .u64 (vc:Int)) rfl;go_wp2;exact .mk (hE _ hC1)
       apply SeqL.next
       ·rfl
       ·rfl
       ·simp only [sP];rfl
       ·intro w1 hC1 E hE;refine qad hC1.w.st.h rfl rfl rfl hu rfl qaX ?_;go_wp2_with fail;exact .mk (hE _ hC1)
       iterate 2
        ((first | (apply SeqL.next; rfl; rfl)); (simp only [sP]; rfl); (intro w1 hC1 E hE; go_wp2; exact .mk (hE _ hC1)))
       apply SeqL.next
       ·rfl
       ·rfl
       ·simp only [sP];rfl
       ·intro w1 hC1 E hE;have d0:=hC1.r.atN (i:=3) (v:=.int .u64 (vd:Int)) rfl;go_wp2;exact .mk (hE _ hC1)
       iterate 1
        ((first | (apply SeqL.next; rfl; rfl)); (simp only [sP]; rfl); (intro w1 hC1 E hE; go_wp2; exact .mk (hE _ hC1)))
       apply SeqL.next
       ·rfl
       ·rfl
       ·simp only [sP];rfl
       ·intro w1 hC1 E hE;go_wp2;rw [qbB vd xx,← HZ2.out];exact .mk (hE _ hC1)
       apply SeqL.next
       ·rfl
       ·rfl
       ·simp only [sP];rfl
       ·intro w1 hC1 E hE;go_wp2_with fail;refine qaa (qct 32 64 _ _ _ _ _ _ _ (.inl rfl) z2 LZ2.out) ?_;rintro e w2 ⟨rfl,hb2⟩;rw [← HZE.out];go_wp2_with fail;exact .mk (hE _ (hC1.next hb2))
       iterate 3
        ((first | (apply SeqL.next; rfl; rfl)); (simp only [sP]; rfl); (intro w1 hC1 E hE; go_wp2; exact .mk (hE _ hC1)))
       apply SeqL.next
       ·rfl
       ·rfl
       ·simp only [sP];rfl
       ·intro w1 hC1 E hE;have d0:=hC1.r.atN (i:=5) (v:=.int .u64 (vf:Int)) rfl;go_wp2;exact .mk (hE _ hC1)
       iterate 2
        ((first | (apply SeqL.next; rfl; rfl)); (simp only [sP]; rfl); (intro w1 hC1 E hE; go_wp2; exact .mk (hE _ hC1)))
       apply SeqL.next
       ·rfl
       ·rfl
       ·simp only [sP];rfl
       ·intro w1 hC1 E hE;have d0:=hC1.r.atN (i:=6) (v:=.int .u64 (vg:Int)) rfl;go_wp2;exact .mk (hE _ hC1)
       refine SeqL.nil ?_;intro w1 hC1;refine SeqT.step rfl ?_;intro E hE;simp only [sP] at hE;go_wp2;refine .mk (hE _ _ ?_);clear hE E;refine SeqT.step rfl ?_;intro E hE;simp only [sP] at hE;go_wp2;refine .mk (hE _ _ ?_);clear hE E;refine SeqT.nil ?_;clear HC0;have hfin:BkR w gf F32 p (some bad) blk (some sad) S (.slice (some ⟨g,0,none⟩) 64 c) RW w1.heap.size 8 (mixTo F32 RW S (t+1)) _:=hC1.turn (V':=mixTo F32 RW S (t+1)) (fz:=(0,0));rw [HM1.out] at hfin;have HFIN:=zY hfin;clear hfin hC1;go_wp2_with fail;refine ⟨⟨t+1,w1.heap.size,8,by omega,by go_num,rfl,?_⟩,by simp [intOf]; omega⟩;rw [HM1.out]; exact HFIN.out
      ·obtain rfl:t=64:=by omega
       obtain ⟨R,hR⟩:=eX (mixTo F32 RW S 64);rw [← hR] at hsr;have ho:BkO w gf F32 p (some bad) blk (some sad) S (.slice (some ⟨g,0,none⟩) 64 c) RW g2 c2 R (.slice none 0 0) ((s8L (addS F32 S R)).take 0) wr:=⟨hsr,OwnX.nil _ _ _ _,.inl rfl⟩;have HR:=zY hR;have HO:=zY ho;clear hR ho hsr HSR;go_wp2_with fail;obtain ⟨wo3,rfl⟩:∃ wo3:World,wo3=wr:=⟨_,rfl⟩
       go_loopw [20,21] (fun v i wr=>∃ (k:Nat) (A5:Option Addr) (c5:Nat),k≤8∧i=.int .i64 k∧v=.slice A5 k c5∧BkO w gf F32 p (some bad) blk (some sad) S (.slice (some ⟨g,0,none⟩) 64 c) RW g2 c2 R (.slice A5 k c5) ((s8L (addS F32 S R)).take k) wr) (fun _ i _=>8 - (intOf i).toNat)
       case atStart=>exact ⟨0,none,0,by omega,rfl,rfl,HO.out⟩
       case round =>
        obtain ⟨k,A5,c5,hk,rfl,rfl,hbo⟩:=hrel
        by_cases hk8:k<8
        ·have hk8':(k:Int)<8:=by omega
         obtain ⟨rj,hrj⟩:=eX ((s8L R).getD k 0);obtain ⟨sj,hsj⟩:=eX ((s8L S).getD k 0);obtain ⟨s1,hs1⟩:=eX ((rj+sj)%2^64);obtain ⟨aj,haj⟩:=eX (s1%2^32);obtain ⟨XS,hXS⟩:=eX ((s8L (addS F32 S R)).take k);have hxl:XS.length=k:=by rw [hXS]; exact qds _ _ hk
         have hnx:(s8L (addS F32 S R)).take (k+1)=XS++[aj]:=by
          rw [s8_take _ _ hk8,addS_get _ _ _ _ hk8,hXS,haj,hs1,hrj,hsj];exact congrArg (fun z=>(s8L (addS F32 S R)).take k++[z]) (mod_r32 _ _)
         have ER:Hid ((wordsV .u64 (s8L R))[k]?=some (.int .u64 (rj:Int))):=zY (by rw [hrj]; exact qcd _ _ _ (by show k<8; exact hk8));have ES:Hid ((wordsV .u64 (s8L S))[k]?=some (.int .u64 (sj:Int))):=zY (by rw [hsj]; exact qcd _ _ _ (by show k<8; exact hk8));have LS1:Hid (s1<18446744073709551616):=zY (by rw [hs1]; exact Nat.mod_lt _ (by decide));rw [← hXS] at hbo;have HS1:=zY hs1;have HAJ:=zY haj;have HXL:=zY hxl;have HNX:=zY hnx;have hu:=Tryz.underlying93;have HC0:=hbo.drew;clear hrj hsj hs1 haj hXS hxl hnx hbo HO;go_wp2_with fail;refine qcl (fun u=>BkO w gf F32 p (some bad) blk (some sad) S (.slice (some ⟨g,0,none⟩) 64 c) RW g2 c2 R (.slice A5 k c5) XS u) (fun i=>i == 0) 12 (by kernel_rfl) (by kernel_rfl) (by decide) (by kernel_rfl) HC0 ?_;simp only [List.take_succ_cons,List.take_zero,List.drop_succ_cons,List.drop_zero]
         iterate 1
          (apply SeqL.pure; rfl; rfl; (simp only [sP]; rfl); (intro w1 E hE; go_wp2; exact .mk hE))
         apply SeqL.next
         ·rfl
         ·rfl
         ·simp only [sP];rfl
         ·intro w1 hC1 E hE;refine qad hC1.r.w.st.h rfl rfl rfl hu rfl qaX ?_;go_wp2_with fail;exact .mk (hE _ hC1)
         iterate 2
          ((first | (apply SeqL.next; rfl; rfl)); (simp only [sP]; rfl); (intro w1 hC1 E hE; go_wp2; exact .mk (hE _ hC1)))
         apply SeqL.next
         ·rfl
         ·rfl
         ·simp only [sP];rfl
         ·intro w1 hC1 E hE;have hc8:=hC1.r.le;go_wp2;exact .mk (hE _ hC1)
         apply SeqL.next
         ·rfl
         ·rfl
         ·simp only [sP];rfl
         ·intro w1 hC1 E hE;have d0:=hC1.r.r.atN ER.out;go_wp2;exact .mk (hE _ hC1)
         iterate 3
          ((first | (apply SeqL.next; rfl; rfl)); (simp only [sP]; rfl); (intro w1 hC1 E hE; go_wp2; exact .mk (hE _ hC1)))
         apply SeqL.next
         ·rfl
         ·rfl
         ·simp only [sP];rfl
         ·intro w1 hC1 E hE;have d0:=hC1.r.w.st.rs.val ES.out;go_wp2;exact .mk (hE _ hC1)
         apply SeqL.next
         ·rfl
         ·rfl
         ·simp only [sP];rfl
         ·intro w1 hC1 E hE;go_wp2;rw [qbB rj sj,← HS1.out];exact .mk (hE _ hC1)
         apply SeqL.next
         ·rfl
         ·rfl
         ·simp only [sP];rfl
         ·intro w1 hC1 E hE;go_wp2_with fail;refine qaa (qct 32 64 _ _ _ _ _ _ _ (.inl rfl) s1 LS1.out) ?_;rintro e w2 ⟨rfl,hb2⟩;rw [← HAJ.out];go_wp2_with fail;exact .mk (hE _ (hC1.next hb2))
         refine SeqL.nil ?_;intro w1 hC1;refine SeqT.step rfl ?_;intro E hE;simp only [sP] at hE;go_wp2;refine .mk (hE _ _ ?_);clear hE E;refine SeqT.step rfl ?_;intro E hE;simp only [sP] at hE;refine qak qdq rfl rfl (show OwnX w1 (gf+1) 118 1 (.slice A5 k c5) k (wordsV .u64 XS) by have:=hC1.o; rwa [HXL.out] at this) rfl rfl rfl rfl (by unfold maxLen; omega) (by omega) (by have:=hC1.r.w.st.h.lt; omega) ?_;intro A6 c6 w6 hown6 hg6 hn6;have HOWN6:=zY hown6;have HG6:=zY hg6;have HN6:=zY hn6;clear hown6 hg6 hn6;go_wp2_with fail;refine .mk (hE _ _ ?_);clear hE E;refine SeqT.step rfl ?_;intro E hE;simp only [sP] at hE;go_wp2;refine .mk (hE _ _ ?_);clear hE E;refine SeqT.nil ?_;clear HC0;have hbo2:=hC1.app (o':=.slice A6 (k+1) c6) (y:=aj) (by rw [HXL.out]; exact HOWN6.out) HG6.out HN6.out;rw [← HNX.out] at hbo2;have HBO2:=zY hbo2;clear hbo2 hC1;go_wp2_with fail;exact ⟨⟨k+1,A6,c6,by omega,by go_num,rfl,HBO2.out⟩,by simp [intOf]; omega⟩
        ·obtain rfl:k=8:=by omega
         have HBO:=zY hbo;clear hbo HO;go_wp2_with fail;go_ret;refine ⟨A5,c5,rfl,?_,by rw [← HGF.out]; exact HBO.out.r.w.st.bel⟩;have h:=HBO.out.o;rw [qds _ _ (by omega)] at h;have hd:addS F32 S R=mixS F32 S blk:=by rw [mixS,HR.out,HRW.out]; rfl
         rw [← hd,← HGF.out];exact h.mono (by omega)
theorem zeroR32_ne (n k:Nat) (h:k<zeroR F32 n):((((n+1+k:Nat):Int)+8)%64 != 0)=true:=by
 simp only [zeroR,F32] at h;rw [bne_iff_ne];omega
theorem zeroR32_eq (n:Nat):((((n+1+zeroR F32 n:Nat):Int)+8)%64 != 0)=false:=by
 have h:zeroR F32 n=(2*32 - (n+1+32/4)%(2*32))%(2*32):=rfl;rw [bne_eq_false_iff_eq];omega
theorem hsum32_any (p:HP) (data:List UInt8) (A:Option Addr) (c B:Nat) (w:World) (hok:HOk F32 p w B) (hr:Rd w B A (bytesV data)) (hB:B≤w.heap.size) (hl:data.length≤1000) (hc:data.length≤c) :
  Calls Tryz.prog 52 #[.agg (hv F32 p),.slice A data.length c] w (HSumPost F32 32 data w):=by
 have hu:=Tryz.underlying93;obtain ⟨gf,hgf⟩:=eX (w.heap.size)
 have hst0:HsA w gf F32 p A data (.slice none 0 0) [] (w.alloc (.cells (hv F32 p) 93)):=by
  have hb:=below_new w (.cells (hv F32 p) 93);rw [hgf];exact ⟨⟨hb,Blk.new _ _ _,(hok.mono hB).below hb,(hr.mono hB).below hb⟩,OwnX.nil _ _ _ _⟩
 have d0:=hst0.st.h.cell 0;simp [hv,hC,F32] at d0;have HST0:=zY hst0;have HGF:=zY hgf;have hl':(data.length:Int)≤1000:=by omega
 clear hst0 hok hr hB hgf;go_enter Tryz.func52,Tryz.ntmps52;have HOWN0:Hid (OwnX (w.alloc (.cells (hv F32 p) 93)) (gf+1) 5 1 (.slice none 0 0) 0 []):=zY HST0.out.own
 go_wp2_with (first
  | (refine qaI (o:=⟨some 17,_,_,_,_,_⟩) sl_bytes rfl rfl HOWN0.out rfl rfl (by simp [bytesV]) HST0.out.st.rd (by intro u hu; simp [bytesV,byteV] at hu; obtain ⟨_,_,rfl⟩:=hu; rfl) (by unfold maxLen; omega) (by omega) (by have:=HST0.out.st.h.lt; omega) ?_; intro A1 c1 w1 hown1 hg1 hn1; have HOWN1:Hid (OwnX w1 (gf+1) 5 1 (.slice A1 data.length c1) data.length (bytesV data)):=zY (by simpa using hown1); have H641:Hid (gf+1≤w1.heap.size):=zY (by have:=hg1.size; have:=HGF.out; simp at *; omega); have HG1:=zY hg1; clear hown1 hg1 hn1)
  | (refine qak (o:=⟨some 20,_,_,_,_,_⟩) sl_bytes rfl rfl HOWN1.out rfl rfl rfl rfl (by unfold maxLen; omega) (by omega) H641.out ?_; intro A2 c2 w2 hown2 hg2 hn2; have hs2:HsA w gf F32 p A data (.slice A2 (data.length+1) c2) (oneZ data 0) w2:=(HST0.out.app (ys:=data) HG1.out HOWN1.out).app hg2 (by rw [qaN,oneZ_zero,qbb]; exact hown2); have d2:=hs2.st.h.cell 0; simp [hv,hC,F32] at d2; rw [HGF.out] at d2; have HST2:=zY hs2; clear hs2 hown2 hg2 hn2))
 rw [show w.heap.size=gf from HGF.out.symm] at d2 ⊢;have hzl:zeroR F32 data.length<64:=Nat.mod_lt _ (by decide);clear HST0 HOWN0 HG1 HOWN1 H641 d0 d2
 go_loopw [5] (fun v wr=>∃ (k n:Nat) (A3:Option Addr) (c3:Nat),k≤zeroR F32 data.length∧n=data.length+1+k∧v=.slice A3 n c3∧HsA w gf F32 p A data (.slice A3 n c3) (oneZ data k) wr) (fun v _=>data.length+1+zeroR F32 data.length - lenOf v)
 case atStart=>exact ⟨0,data.length+1,A2,c2,Nat.zero_le _,rfl,rfl,HST2.out⟩
 case round =>
  clear HST2;obtain ⟨k,n,A3,c3,hk,hn,rfl,hst⟩:=hrel;have hn2:n≤2000:=by omega
  have d0:=hst.st.h.cell 0;simp [hv,hC,F32] at d0
  by_cases hlt:k<zeroR F32 data.length
  ·have hne:((((n:Nat):Int)+8)%64 != 0)=true:=by rw [hn]; exact zeroR32_ne _ _ hlt
   have HO:Hid (OwnX wr (gf+1) 5 1 (.slice A3 n c3) n (bytesV (oneZ data k))):=zY (by have:=hst.own; rwa [qaN,← hn] at this);have HN:=zY hn;have HST:=zY hst;clear hn hst;go_wp2_with (refine qak (o:=⟨some 35,_,_,_,_,_⟩) sl_bytes rfl rfl HO.out rfl rfl rfl rfl (by unfold maxLen; omega) (by omega) (by have:=HST.out.st.h.lt; omega) ?_; intro A4 c4 w4 hown4 hg4 hn4; have HOWN4:=zY hown4; have HG4:=zY hg4; clear hown4 hg4 hn4);exact ⟨⟨k+1,n+1,A4,c4,hlt,by rw [HN.out]; omega,rfl,HST.out.app HG4.out (by rw [qaN,oneZ_succ,qbb,← Nat.add_assoc,← HN.out]; exact HOWN4.out)⟩,by simp only [lenOf]; have:=HN.out; omega⟩
  ·obtain rfl:k=zeroR F32 data.length:=by omega
   have hne:((((n:Nat):Int)+8)%64 != 0)=false:=by rw [hn]; exact zeroR32_eq _
   have HN:=zY hn;have HST:=zY hst;clear hn hst;go_wp2_with fail;clear hne;obtain ⟨W1,rfl⟩:∃ x:World,x=wr:=⟨_,rfl⟩;obtain ⟨gl0,hgl0⟩:=eX (W1.heap.size);have HGL:=zY hgl0;clear hgl0
   go_loopw [8,9] (fun v i wr=>∃ (k:Nat) (A4:Option Addr) (c4:Nat),k≤8∧i=.int .i64 k∧v=.slice A4 k c4∧Below gl0 W1 wr∧wr.ownsRow gl0 5 1 (.slice A4 k c4) k (bytesV (List.replicate k 0))∧gl0≤wr.heap.size) (fun _ i _=>8 - (intOf i).toNat)
   case atStart=>exact ⟨0,none,0,by omega,rfl,rfl,Below.refl _ _,World.ownsRow_nil _ _ _ _,by rw [HGL.out]; exact Nat.le_refl _⟩
   case round =>
    obtain ⟨k,A4,c4,hk,rfl,rfl,hb4,ho4,hl4⟩:=hrel
    by_cases hk8:k<8
    ·have hk8':(k:Int)<8:=by omega
     have HB4:=zY hb4;have HO4:=zY ho4;clear hb4 ho4;go_wp2_with (refine qbC sl_bytes rfl rfl HO4.out rfl rfl rfl rfl (by unfold maxLen; omega) (by omega) hl4 ?_; intro A5 c5 w5 hown5 hg5; have HOWN5:=zY hown5; have HG5:=zY hg5; clear hown5 hg5);refine ⟨⟨k+1,A5,c5,hk8,by go_num,rfl,HB4.out.grown HG5.out hl4 (fun k hk=>(own_lt HO4.out k hk).1),?_,by have:=HG5.out.size; omega⟩,by simp [intOf]; omega⟩;rw [List.replicate_succ',qbb];exact HOWN5.out
    ·obtain rfl:k=8:=by omega
     obtain ⟨gl,R,rfl,hgl,hcl,hbk⟩:=own_blk ho4 (by decide);obtain ⟨ws,hws⟩:=eX (lenB F32 data.length);have hwl:ws.length=8:=by rw [hws,lenB,List.length_append,List.length_replicate,qbm]; rfl
     have hbk0:Blk wr gl 5 (backC 8 ws 0++R):=by
      rw [qc0 _ _ hwl];have e:bytesV (List.replicate 8 (0:UInt8))=List.replicate 8 (.int .u8 0):=by simp [bytesV,byteV]
      rw [e] at hbk;exact hbk
     have hget:∀ i j,i+j+1=8→(bytesV ws)[i]?=some (.int .u8 ((data.length*8/256^j%256:Nat):Int)):=fun i j h=>by rw [hws]; exact lenB32_get _ _ _ h
     have HWS:=zY hws;have HWL:=zY hwl;have HB4:=zY hb4;have HBK0:=zY hbk0;have HGET:=zY hget;clear hws hwl hb4 hbk hbk0 hget ho4;go_wp2_with fail;obtain ⟨wo2,rfl⟩:∃ x:World,x=wr:=⟨_,rfl⟩
     go_loopw [7,10] (fun v i wr=>∃ (j y:Nat),j≤8∧y=data.length*8/256^j∧v=.int .i64 y∧i=.int .i64 ((8:Int) - 1 - (j:Int))∧Below gl0 W1 wr∧Blk wr gl 5 (backC 8 ws j++R)) (fun _ i _=>(intOf i+1).toNat)
     case atStart=>exact ⟨0,data.length*8,by omega,by simp,by exact congrArg (Value.int .i64) (by omega),rfl,HB4.out,HBK0.out⟩
     case round =>
      clear HBK0;obtain ⟨j,y,hj,hy,rfl,rfl,hb5,hk5⟩:=hrel;have hyx:y≤data.length*8:=by rw [hy]; exact Nat.div_le_self _ _
      have hy64:(y:Int)≤8000:=by omega
      by_cases hlt2:j<8
      ·obtain ⟨ix,hix⟩:∃ ix:Nat,(8:Int) - 1 - (j:Int)=(ix:Int):=⟨8 - 1 - j,by omega⟩;have hix2:ix+j+1=8:=by omega
       have hval:=HGET.out ix j hix2;rw [← hy] at hval;have hset:=backC_set_app 8 ws j ix _ R HWL.out hix2 hval;obtain ⟨ov,hov⟩:=backC_app_get 8 ws j ix R HWL.out hix2;have hnx:data.length*8/256^(j+1)=y/256:=by rw [hy,Nat.pow_succ,← Nat.div_div_eq_div_mul]
       rw [hix];have dcell:=hk5.cell ix;rw [hov] at dcell;have dfree:=hk5.free ix;have hixl:(ix:Int)<8:=by omega
       have HSET:=zY hset;have HNX:=zY hnx;have HB5:=zY hb5;have HK5:=zY hk5;have HIX:=zY hix;clear hset hnx hb5 hk5 hix hix2 hval hy hov;go_wp2_with fail;refine ⟨⟨j+1,y/256,by omega,by rw [HNX.out],by go_num,by have:=HIX.out; exact congrArg (Value.int .i64) (by omega),(qap _ _ _ _).below HB5.out hgl (by have:=HB5.out.size; rw [HGL.out]; omega),?_⟩,by simp [intOf]⟩;have h:=qau (i:=ix) HK5.out (.int .u8 ((y%256:Nat):Int));rw [HSET.out] at h;exact h
      ·obtain rfl:j=8:=by omega
       rw [qd4] at hk5;have hall:HsA w gf F32 p A data (.slice A3 n c3) (oneZ data (zeroR F32 data.length)) wr:=HST.out.next (by rw [← HGL.out]; exact hb5);have HO5:Hid (OwnX wr (gf+1) 5 1 (.slice A3 n c3) n (bytesV (oneZ data (zeroR F32 data.length)))):=zY (by have:=hall.own; rwa [qaN,← HN.out] at this);have hrl:Rd wr wr.heap.size (some ⟨gl,0,none⟩) (bytesV ws):=Rd.of_blk_app hk5 hk5.lt;have HRL:=zY hrl;have HALL0:=zY hall;clear hrl hall hk5 hb5 hy HST
       go_wp2_with (first
        | (refine qaI (o:=⟨some 63,_,_,_,_,_⟩) (m:=8) sl_bytes rfl rfl HO5.out rfl rfl (by rw [qan,HWL.out]) HRL.out (by intro u hu; simp [bytesV,byteV] at hu; obtain ⟨_,_,rfl⟩:=hu; rfl) (by unfold maxLen; omega) (by omega) (by have:=HALL0.out.st.h.lt; omega) ?_; intro A5 c5 w5 hown5 hg5 hn5; have hall5:HsA w gf F32 p A data (.slice A5 (n+8) c5) (oneZ data (zeroR F32 data.length)++ws) w5:=HALL0.out.app hg5 (by rw [List.length_append,qaN,HWL.out,← HN.out,qaD]; exact hown5); have d7:=hall5.st.h.cell 7; simp [hv,hC,F32] at d7; have HALL5:=zY hall5; clear hall5 hown5 hg5 hn5)
        | (refine qaI (o:=⟨some 67,_,_,_,_,_⟩) (base:=gf+1) (n:=0) (m:=8) (v:=.slice none 0 0) (xs:=[]) qdq rfl rfl (OwnX.nil _ _ _ _) rfl rfl rfl HALL5.out.st.ok.f (by intro u hu; simp [wordsV] at hu; obtain ⟨_,_,rfl⟩:=hu; rfl) (by unfold maxLen; omega) (by omega) (by have:=HALL5.out.st.h.lt; omega) ?_; intro A6 c6 w6 hown6 hg6 hn6; have HOWN6:=zY hown6; have HG6:=zY hg6; clear hown6 hg6 hn6))
       obtain ⟨ALL,hALL⟩:=eX (padS F32 data);obtain ⟨m,hm⟩:=eX (n+8);rw [← hm];have hall:ALL=oneZ data (zeroR F32 data.length)++ws:=by rw [hALL,HWS.out]; exact (padR32 data hl).symm
       have hal:ALL.length=m:=by rw [hall,List.length_append,qaN,HWL.out,← HN.out,hm]
       have hm4:m≤4000:=by omega
       have hsb:HsB w gf F32 p A data (.slice A5 m c5) ALL A6 c6 (runS F32 ALL 0) w6:=by
        have h5:=HALL5.out;rw [← hm,← hall] at h5;have hg6:=HG6.out;refine ⟨⟨h5.st.keep (qbo hg6 (by have:=h5.st.h.lt; omega) (by intro k hk; simp [Value.ownBlock] at hk)),h5.own.kept hg6 ?_⟩,?_⟩
        ·cases h9:(Value.slice A5 m c5).ownBlock with
         | none=>exact .inl rfl
         | some k=>exact .inr (by simp [Value.ownBlock])
        ·show OwnX w6 (gf+1) 118 1 (.slice A6 8 c6) 8 (wordsV .u64 (s8L (startS F32)))
         simpa using HOWN6.out
       obtain ⟨nb,hnb⟩:∃ nb,m=nb*64:=⟨m/64,by have:=qc4 data; rw [← hALL,hal] at this; omega⟩;have hcap:m≤c5∧c5≤9223372036854775807:=own_cap (show OwnX w6 (gf+1) 5 1 (.slice A5 m c5) m (bytesV ALL) by have:=hsb.a.own; rwa [hal] at this);obtain ⟨hcap1,hcap2⟩:=hcap;have HALL:=zY hALL;have HAL:=zY hal;have HSB:=zY hsb;have HNB:=zY hnb;clear hALL hm hall hal hsb hnb HALL5 HOWN6 HG6 HALL0 HO5 HRL d7 d0
       go_loopw [11,12] (fun v i wr=>∃ (j a:Nat) (A7:Option Addr) (c7:Nat),j≤nb∧a=j*64∧i=.int .i64 (a:Int)∧v=.slice A7 8 c7∧HsB w gf F32 p A data (.slice A5 m c5) ALL A7 c7 (runS F32 ALL j) wr) (fun _ i _=>m - (intOf i).toNat)
       case atStart=>exact ⟨0,0,A6,c6,by omega,rfl,rfl,rfl,HSB.out⟩
       case round =>
        clear HSB;obtain ⟨j,a,A7,c7,hj,ha,rfl,rfl,hsj⟩:=hrel
        by_cases hjn:j<nb
        ·have ham:a+64≤m:=by rw [HNB.out,ha]; omega
         have hlt3:a<m:=by omega
         have hle1:a+64≤c5:=by omega
         have hla:OwnX wr (gf+1) 5 1 (.slice A5 m c5) m (bytesV ALL):=by have:=hsj.a.own; rwa [HAL.out] at this
         obtain ⟨g5,hg5,_,_⟩:=hla.ptr (by omega);subst hg5;obtain ⟨bk,hbk⟩:=eX ((ALL.drop a).take 64);have hbl:bk.length=64:=by rw [hbk]; simp; rw [HAL.out]; omega
         obtain ⟨sj,hsj2⟩:=eX (runS F32 ALL j);have hsl:sj.Lt (2^32):=by rw [hsj2]; exact runS_lt F32 ALL j
         have hs1:runS F32 ALL (j+1)=mixS F32 sj bk:=by rw [hsj2,hbk,ha]; rfl
         rw [← hsj2] at hsj
         have HRB:Hid (∀ u,HsB w gf F32 p A data (.slice (some ⟨g5,0,none⟩) m c5) ALL A7 c7 sj u→Rd u u.heap.size (some ⟨g5,a,none⟩) (bytesV bk)):=zY fun u hu=>by
          have h1:OwnX u (gf+1) 5 1 (.slice (some ⟨g5,0,none⟩) m c5) m (bytesV ALL):=by have:=hu.a.own; rwa [HAL.out] at this
          have h2:=rd_take (rd_drop (Rd.of_own h1 (Nat.le_refl _)) a) 64;rw [Addr.add_lit,Nat.zero_add] at h2;rw [hbk,bytesV,List.map_take,List.map_drop];exact h2
         have HBL:=zY hbl;have HSL:=zY hsl;have HS1:=zY hs1;have HA:=zY ha;have d0:=hsj.a.st.h.cell 0;simp [hv,hC,F32] at d0;have HC0:=hsj.drew;have D0:=zY d0;have HSJ:=zY hsj;clear hbl hsl hs1 hbk hsj2 ha hla hsj d0;go_wp2_with fail;clear HSJ;refine qbV (fun u=>HsB w gf F32 p A data (.slice (some ⟨g5,0,none⟩) m c5) ALL A7 c7 sj u) (fun _=>false) 10 [(0,some 77),(1,some 78),(2,some 79),(3,some 80),(4,some 81),(5,some 82),(6,some 83),(7,some 84),(8,some 85),(9,some 86),(10,some 87),(11,some 11)] (by kernel_rfl) (by kernel_rfl) (by decide) (by kernel_rfl) (fun _=>rfl) HC0 ?_;apply DetQ.next
         ·apply dQ;apply dP [];exact fun _=>rfl;rfl;rintro vals - w1 hC1 E hE;simp only [sP] at hE ⊢;refine qad hC1.a.st.h rfl rfl rfl hu rfl qaX ?_;go_wp2_with fail;exact .mk (hE _ hC1)
         apply DetQ.next
         ·apply dQ;apply dP [];exact fun _=>rfl;rfl;rintro vals ⟨-,-⟩ w1 hC1 E hE;simp only [sP] at hE ⊢;go_wp2;exact .mk (hE _ hC1)
         apply DetQ.next
         ·apply dQ;apply dP [];exact fun _=>rfl;rfl;intro vals vq w1 hC1 E hE;clear vq;simp only [sP] at hE ⊢;go_wp2;exact .mk (hE _ hC1)
         apply DetQ.next
         ·apply dQ;apply dP [];exact fun _=>rfl;rfl;intro vals vq w1 hC1 E hE;clear vq;simp only [sP] at hE ⊢;go_wp2;exact .mk (hE _ hC1)
         apply DetQ.next
         ·apply dQ;apply dP [];exact fun _=>rfl;rfl;intro vals vq w1 hC1 E hE;clear vq;simp only [sP] at hE ⊢;go_wp2;exact .mk (hE _ hC1)
         apply DetQ.next
         ·apply dQ;apply dP [];exact fun _=>rfl;rfl;intro vals vq w1 hC1 E hE;clear vq;simp only [sP] at hE ⊢;go_wp2;exact .mk (hE _ hC1)
         apply DetQ.next
         ·apply dQ;apply dP [(5,some 82)];exact fun _=>rfl;rfl;intro vals vq w1 hC1 E hE;have d0:=hC1.a.st.h.cell 0;simp [hv,hC,F32] at d0;simp only [sP,vq] at hE ⊢;clear vq;go_wp2;exact .mk (hE _ hC1)
         apply DetQ.next
         ·apply dQ;apply dP [(6,some 83)];exact fun _=>rfl;rfl;intro vals vq w1 hC1 E hE;simp only [sP,vq] at hE ⊢;clear vq;go_wp2;exact .mk (hE _ hC1)
         apply DetQ.next
         ·apply dQ;apply dP [(4,some 81),(7,some 84)];exact fun _=>rfl;rfl;intro vals vq w1 hC1 E hE;simp only [sP,vq] at hE ⊢;clear vq;go_wp2;exact .mk (hE _ hC1)
         apply DetQ.next
         ·apply dQ;apply dP [(2,some 79),(3,some 80),(8,some 85)];exact fun _=>rfl;rfl;intro vals vq w1 hC1 E hE;simp only [sP,vq] at hE ⊢;clear vq;go_wp2;rw [show a+64 - a=64 by omega];exact .mk (hE _ hC1)
         apply DetQ.done;rintro vals ⟨⟨⟨⟨⟨⟨⟨⟨⟨⟨-,f0⟩,f1⟩,f2⟩,f3⟩,f4⟩,f5⟩,f6⟩,f7⟩,f8⟩,f9⟩ w1 hC1;refine tail_step [(0,some 77),(1,some 78),(9,some 86)] (fun _=>rfl) rfl ?_;intro E hE;simp only [sP,f0,f1,f9] at hE ⊢;go_wp2_with fail;have hmx:=block32_any p sj bk (some ⟨g5,a,none⟩) A7 (c5 - a) c7 w1.heap.size w1 (hC1.a.st.ok.mono (by have:=hC1.a.st.h.lt; omega)) (Nat.le_refl _) (HRB.out _ hC1) (Rd.of_own hC1.s (Nat.le_refl _)) HBL.out (by rw [HBL.out]; omega) hC1.s.le_cap HSL.out;rw [HBL.out] at hmx;refine qaa hmx ?_;rintro e w2 ⟨A8,c8,rfl,hown8,hb8⟩;go_wp2_with fail;refine .mk (hE _ _ ?_);clear hE E;generalize hval:upd _ 10 _=vals10;replace f0:=uP hval (by decide) f0;replace f1:=uP hval (by decide) f1;replace f2:=uP hval (by decide) f2;replace f3:=uP hval (by decide) f3;replace f4:=uP hval (by decide) f4;replace f5:=uP hval (by decide) f5;replace f6:=uP hval (by decide) f6;replace f7:=uP hval (by decide) f7;replace f8:=uP hval (by decide) f8;replace f9:=uP hval (by decide) f9;have f10:=(congrFun hval 10).symm.trans (qa2 _ _ _);clear hval;refine tail_step [(10,some 87),(10,some 87),(0,some 77),(1,some 78),(2,some 79),(3,some 80),(4,some 81),(5,some 82),(6,some 83),(7,some 84),(8,some 85),(9,some 86),(10,some 87)] (fun _=>rfl) rfl ?_;intro E hE;simp only [sP,f0,f1,f2,f3,f4,f5,f6,f7,f8,f9,f10] at hE ⊢;go_wp2;refine .mk (hE _ _ ?_);clear hE E;generalize hval:upd _ 11 _=vals11;replace f0:=uP hval (by decide) f0;replace f1:=uP hval (by decide) f1;replace f2:=uP hval (by decide) f2;replace f3:=uP hval (by decide) f3;replace f4:=uP hval (by decide) f4;replace f5:=uP hval (by decide) f5;replace f6:=uP hval (by decide) f6;replace f7:=uP hval (by decide) f7;replace f8:=uP hval (by decide) f8;replace f9:=uP hval (by decide) f9;replace f10:=uP hval (by decide) f10;have f11:=(congrFun hval 11).symm.trans (qa2 _ _ _);clear hval;refine tail_end ?_;simp only [sP,f0,f1,f2,f3,f4,f5,f6,f7,f8,f9,f10,f11];clear f0 f1 f2 f3 f4 f5 f6 f7 f8 f9 f10 f11
         have hfin:HsB w gf F32 p A data (.slice (some ⟨g5,0,none⟩) m c5) ALL A8 c8 (runS F32 ALL (j+1)) w2:=by
          rw [HS1.out];exact ⟨hC1.a.next hb8,hown8.mono (by have:=hC1.a.st.h.lt; omega)⟩
         have d0:=hfin.a.st.h.cell 0;simp [hv,hC,F32] at d0;have HFIN:=zY hfin;clear hfin hC1 HC0 hown8 hb8;go_wp2_with fail;exact ⟨⟨j+1,a+64,A8,c8,hjn,by rw [HA.out]; omega,by go_num,rfl,HFIN.out⟩,by simp [intOf]; omega⟩
        ·obtain rfl:j=nb:=by omega
         have hge:¬ a<m:=by rw [HNB.out,ha]; omega
         obtain ⟨sv,hsv⟩:=eX (runS F32 ALL j);have hsl:sv.Lt (2^32):=by rw [hsv]; exact runS_lt F32 ALL j
         rw [← hsv] at hsj;obtain ⟨g7,rfl,_,_⟩:=hsj.s.ptr (by decide);have hc7:=hsj.s.le_cap;have hso:HsB w gf F32 p A data (.slice none 0 0) (outW 32 4 sv 0) (some ⟨g7,0,none⟩) c7 sv wr:=⟨⟨hsj.a.st,OwnX.nil _ _ _ _⟩,hsj.s⟩;have HSV:=zY hsv;have HSL:=zY hsl;have HSO:=zY hso;have HA:=zY ha;clear hsv hsl hso hsj ha;go_wp2_with fail;obtain ⟨wo5,rfl⟩:∃ x:World,x=wr:=⟨_,rfl⟩
         go_loopw [13,14] (fun v i wr=>∃ (k q:Nat) (A8:Option Addr) (c8:Nat),k≤8∧q=k*4∧i=.int .i64 k∧v=.slice A8 q c8∧HsB w gf F32 p A data (.slice A8 q c8) (outW 32 4 sv k) (some ⟨g7,0,none⟩) c7 sv wr) (fun _ i _=>8 - (intOf i).toNat)
         case atStart=>exact ⟨0,0,none,0,by omega,by omega,rfl,rfl,HSO.out⟩
         case round =>
          clear HSO;obtain ⟨k,q,A8,c8,hk,hq,rfl,rfl,hso⟩:=hrel
          by_cases hk8:k<8
          ·have hk8':(k:Int)<8:=by omega
           obtain ⟨x,hx⟩:=eX ((s8L sv).getD k 0);have hxl:x<2^32:=by rw [hx]; exact s8L_lt HSL.out (by decide) k
           have ex:(wordsV .u64 (s8L sv))[k]?=some (.int .u64 (x:Int)):=by rw [hx]; exact qcd _ _ _ (show k<8 from hk8)
           have hol:(outW 32 4 sv k).length=q:=by rw [qbz _ _ _ _ hk,hq]
           have hnx:outW 32 4 sv (k+1)=outW 32 4 sv k++wordB 32 x 4:=by rw [outW_succ _ _ _ _ hk8,hx]
           obtain ⟨XS,hXS⟩:=eX (outW 32 4 sv k);rw [← hXS] at hol hnx hso;have HXL:=zY hxl;have EX:=zY ex;have HOL:=zY hol;have HNX:=zY hnx;have HQ:=zY hq;have hq9:q≤64:=by omega
           have HC0:=hso.drew;clear hx hxl ex hol hnx hXS hq hso;go_wp2_with fail;refine qbw (fun u=>HsB w gf F32 p A data (.slice A8 q c8) XS (some ⟨g7,0,none⟩) c7 sv u) (fun i=>i == 0) 6 7 [(0,some 92),(1,some 93),(2,some 94),(3,some 95),(4,some 96),(5,some 97),(6,some 98),(7,some 99),(8,some 13)] (by kernel_rfl) (by kernel_rfl) (by decide) (by kernel_rfl) (fun _=>rfl) HC0 (fun _ _ hb h=>h.next hb) (by decide) ?_;apply DetR.next
           ·apply qbh [];exact fun _=>rfl;rfl;rintro vals - w1 hC1 E hE;simp only [sP] at hE ⊢;go_wp2;exact .mk hE
           apply DetR.next
           ·apply qaw;apply dP [];exact fun _=>rfl;rfl;rintro vals ⟨-,-⟩ w1 hC1 E hE;simp only [sP] at hE ⊢;refine qad hC1.a.st.h rfl rfl rfl hu rfl qaX ?_;go_wp2_with fail;exact .mk (hE _ hC1)
           apply DetR.next
           ·apply qaw;apply dP [];exact fun _=>rfl;rfl;intro vals vq w1 hC1 E hE;clear vq;simp only [sP] at hE ⊢;go_wp2;exact .mk (hE _ hC1)
           apply DetR.next
           ·apply qaw;apply dP [];exact fun _=>rfl;rfl;intro vals vq w1 hC1 E hE;clear vq;simp only [sP] at hE ⊢;go_wp2;exact .mk (hE _ hC1)
           apply DetR.next
           ·apply qaw;apply dP [(2,some 94),(3,some 95)];exact fun _=>rfl;rfl;intro vals vq w1 hC1 E hE;simp only [sP,vq] at hE ⊢;clear vq;go_wp2;exact .mk (hE _ hC1)
           apply DetR.next
           ·apply qaw;apply dP [(4,some 96)];exact fun _=>rfl;rfl;intro vals vq w1 hC1 E hE;have d0:=hC1.s.atN EX.out;simp only [sP,vq] at hE ⊢;clear vq;go_wp2;exact .mk (hE _ hC1)
           apply DetR.done;rintro vals ⟨⟨⟨⟨⟨⟨-,f0⟩,f1⟩,f2⟩,f3⟩,f4⟩,f5⟩ w1 hC1;refine qaS [(1,some 93),(5,some 97)] (fun _=>rfl) rfl ?_;intro E hE;simp only [sP,f1,f5] at hE ⊢;go_wp2_with fail;have hct:=bytes_any 32 64 (.slice (some p.a) 3 p.ca) (.slice (some p.b) 3 p.cb) (.slice (some p.c) 3 p.cc) (.slice (some p.d) 3 p.cd) (.slice (some p.k) 64 p.ck) (.slice (some p.f) 8 p.cf) w1 (.inl rfl) x HXL.out;refine qaa hct ?_;rintro e w2 ⟨g9,he9,hg9,hb9,hbel9⟩;have he9':e=.returned (.slice (some ⟨g9,0,none⟩) 4 4):=he9;clear he9;subst he9';have hb9':Blk w2 g9 5 (bytesV (wordB 32 x 4)).toArray:=hb9;clear hb9;go_wp2_with fail;refine .mk (hE _ _ (fun _=>hbel9) ?_);clear hE E;generalize hval:upd _ 6 _=vals6;replace f0:=uP hval (by decide) f0;replace f1:=uP hval (by decide) f1;replace f2:=uP hval (by decide) f2;replace f3:=uP hval (by decide) f3;replace f4:=uP hval (by decide) f4;replace f5:=uP hval (by decide) f5;have f6:=(congrFun hval 6).symm.trans (qa2 _ _ _);clear hval;refine qaS [(0,some 92),(6,some 98),(6,some 98)] (fun _=>rfl) rfl ?_;intro E hE;simp only [sP,f0,f6] at hE ⊢;refine qaI (m:=4) sl_bytes rfl rfl (show OwnX w2 (gf+1) 5 1 (.slice A8 q c8) q (bytesV XS) by have:=(hC1.next hbel9).a.own; rwa [HOL.out] at this) rfl rfl (by rw [qan,wordB_length]) (Rd.of_blk hb9' hb9'.lt) (by intro u hu; simp [bytesV,byteV] at hu; obtain ⟨_,_,rfl⟩:=hu; rfl) (by unfold maxLen; omega) (by omega) (by have:=(hC1.next hbel9).a.st.h.lt; omega) ?_;intro A9 c9 w9 hown9 hg9' hn9;have hap:=(hC1.next hbel9).app (ys:=XS++wordB 32 x 4) hg9' (by rw [List.length_append,HOL.out,wordB_length,qaD]; exact hown9);have HAP:=zY hap;clear hap hown9 hg9' hn9 hb9';go_wp2_with fail;refine .mk (hE _ _ (fun h=>absurd h (by decide)) ?_);clear hE E;generalize hval:upd _ 7 _=vals7;replace f0:=uP hval (by decide) f0;replace f1:=uP hval (by decide) f1;replace f2:=uP hval (by decide) f2;replace f3:=uP hval (by decide) f3;replace f4:=uP hval (by decide) f4;replace f5:=uP hval (by decide) f5;replace f6:=uP hval (by decide) f6;have f7:=(congrFun hval 7).symm.trans (qa2 _ _ _);clear hval;refine qaS [(7,some 99),(7,some 99),(0,some 92),(1,some 93),(2,some 94),(3,some 95),(4,some 96),(5,some 97),(6,some 98),(7,some 99)] (fun _=>rfl) rfl ?_;intro E hE;simp only [sP,f0,f1,f2,f3,f4,f5,f6,f7] at hE ⊢;go_wp2;refine .mk (hE _ _ (fun h=>absurd h (by decide)) ?_);clear hE E;generalize hval:upd _ 8 _=vals8;replace f0:=uP hval (by decide) f0;replace f1:=uP hval (by decide) f1;replace f2:=uP hval (by decide) f2;replace f3:=uP hval (by decide) f3;replace f4:=uP hval (by decide) f4;replace f5:=uP hval (by decide) f5;replace f6:=uP hval (by decide) f6;replace f7:=uP hval (by decide) f7;have f8:=(congrFun hval 8).symm.trans (qa2 _ _ _);clear hval;refine qdn ?_;simp only [sP,f0,f1,f2,f3,f4,f5,f6,f7,f8];clear f0 f1 f2 f3 f4 f5 f6 f7 f8;clear HC0 hC1 hbel9;go_wp2_with fail;refine ⟨⟨k+1,q+4,A9,c9,by omega,by rw [HQ.out]; omega,by go_num,rfl,?_⟩,by simp [intOf]; omega⟩;rw [HNX.out];exact HAP.out
          ·obtain rfl:k=8:=by omega
           obtain rfl:q=8*4:=hq;have HSO:=zY hso;clear hso;go_wp2_with fail;go_ret;refine ⟨A8,c8,rfl,?_,by rw [← HGF.out]; exact HSO.out.a.st.bel⟩;have h:=HSO.out.a.own;rw [qbz _ _ _ _ (by omega)] at h
           have hd:outW 32 4 sv 8=digS F32 data:=by
            rw [HSV.out,digS,← HALL.out,HAL.out,HNB.out];show _=(s8L (runS F32 ALL (j*64/64))).flatMap _;rw [Nat.mul_div_cancel _ (by decide)];rfl
           rw [← hd,← HGF.out];exact h.mono (by omega)
theorem Blk.newAt {w:World} {n:Nat} {t:TypeId} {cs:Array Value} (h:w.heap.size=n):Blk (w.alloc (.cells cs t)) n t cs:=h▸Blk.new w t cs
def zH:Array Value:=#[.int .i64 0,.int .i64 0,.slice none 0 0,.slice none 0 0,.slice none 0 0,.slice none 0 0,.slice none 0 0,.slice none 0 0]
theorem kL_take (F:ShaF) (n:Nat) (h:n<F.many):(kL F).take (n+1)=(kL F).take n++[stepsN.getD n 0/2^(64 - F.bits)%2^F.bits]:=by
 have hl:n<(kL F).length:=by rw [qbM]; exact h
 rw [List.take_succ_eq_append_getElem hl];have:=kL_get F n h;rw [List.getElem?_eq_getElem hl] at this;rw [Option.some.inj this];rfl
theorem start_take (F:ShaF) (n:Nat) (h:n<8):(s8L (startS F)).take (n+1)=(s8L (startS F)).take n++[firstN.getD n 0/2^(64 - F.bits)%2^F.bits]:=by
 rw [s8_take _ _ h,startS_at _ _ h]
def csV (bits many ga gb gc gd:Nat) (vK vF:Value):Array Value:=hC bits many (.slice (some ⟨ga,0,none⟩) 3 3) (.slice (some ⟨gb,0,none⟩) 3 3) (.slice (some ⟨gc,0,none⟩) 3 3) (.slice (some ⟨gd,0,none⟩) 3 3) vK vF
theorem of32_any (w:World):Calls Tryz.prog 51 #[.int .i64 32] w (OfPost F32 w):=by
 have hu:=Tryz.underlying93;obtain ⟨g0,hg0⟩:=eX (w.heap.size);go_enter Tryz.func51,Tryz.ntmps51;go_wp2_with fail;obtain ⟨gh,hgh⟩:=eX (w.heap.size+1+1+1+1+1);obtain ⟨ga,hga⟩:=eX (w.heap.size+1+1+1+1+1+1);obtain ⟨gb,hgb⟩:=eX (w.heap.size+1+1+1+1+1+1+1);obtain ⟨gc,hgc⟩:=eX (w.heap.size+1+1+1+1+1+1+1+1);obtain ⟨gd,hgd⟩:=eX (w.heap.size+1+1+1+1+1+1+1+1+1);have hd:ga≠gh∧gb≠gh∧gc≠gh∧gd≠gh:=by omega
 have hlt:g0<gh∧g0<ga∧g0<gb∧g0<gc∧g0<gd:=by omega
 refine qaa (primes_any _) ?_;rintro e wp ⟨P,pc,rfl,hown,hbel⟩;have B0:=(((((((((((Blk.newAt (n:=w.heap.size) (t:=93) (cs:=zH) (by simp)).alloc _).alloc _).alloc _).alloc _).alloc _).alloc _).alloc _).alloc _).alloc _)).below hbel (by simp <;> omega);have Bh:=((((((Blk.newAt (n:=w.heap.size+1+1+1+1+1) (t:=93) (cs:=#[.int .i64 32,.int .i64 64,.slice (some ⟨w.heap.size+1+1+1+1+1+1,0,none⟩) 3 3,.slice (some ⟨w.heap.size+1+1+1+1+1+1+1,0,none⟩) 3 3,.slice (some ⟨w.heap.size+1+1+1+1+1+1+1+1,0,none⟩) 3 3,.slice (some ⟨w.heap.size+1+1+1+1+1+1+1+1+1,0,none⟩) 3 3,.slice none 0 0,.slice none 0 0]) (by simp)).alloc _).alloc _).alloc _).alloc _)).below hbel (by simp <;> omega);have Ba:=(((((Blk.newAt (n:=w.heap.size+1+1+1+1+1+1) (t:=3) (cs:=(tri F32.s0).toArray) (by simp)).alloc _).alloc _).alloc _)).below hbel (by simp <;> omega);have Bb:=((((Blk.newAt (n:=w.heap.size+1+1+1+1+1+1+1) (t:=3) (cs:=(tri F32.s1).toArray) (by simp)).alloc _).alloc _)).below hbel (by simp <;> omega);have Bc:=(((Blk.newAt (n:=w.heap.size+1+1+1+1+1+1+1+1) (t:=3) (cs:=(tri F32.t0).toArray) (by simp)).alloc _)).below hbel (by simp <;> omega);have Bd:=((Blk.newAt (n:=w.heap.size+1+1+1+1+1+1+1+1+1) (t:=3) (cs:=(tri F32.t1).toArray) (by simp))).below hbel (by simp <;> omega);have hbl:=(((((((((((below_new w _).alloc (by simp; try omega) _).alloc (by simp; try omega) _).alloc (by simp; try omega) _).alloc (by simp; try omega) _).alloc (by simp; try omega) _).alloc (by simp; try omega) _).alloc (by simp; try omega) _).alloc (by simp; try omega) _).alloc (by simp; try omega) _):Below w.heap.size w _).trans (hbel.mono (by simp <;> omega));have hown':=hown.mono (show w.heap.size≤_ by simp <;> omega);rw [← hgd,← hgc,← hgb,← hga,← hgh] at Bh ⊢;rw [← hg0] at B0 hbl hown' ⊢;rw [← hga] at Ba;rw [← hgb] at Bb;rw [← hgc] at Bc;rw [← hgd] at Bd;obtain ⟨gp,rfl,hgp1,hgp2⟩:=hown'.ptr (by decide);have hpc:=hown'.le_cap
 have hst0:OfSt w ⟨g0,gh,ga,gb,gc,gd⟩ F32 zH (.slice (some ⟨gp,0,none⟩) 80 pc) (csV 32 64 ga gb gc gd (.slice none 0 0) (.slice none 0 0)) (.slice none 0 0) ((kL F32).take 0) (.slice none 0 0) [] wp :=
  ⟨hbl,B0,Bh,Ba,Bb,Bc,Bd,hown',OwnX.nil _ _ _ _,OwnX.nil _ _ _ _,.inl rfl,hlt.1⟩
 have HD:=zY hd;have HLT:=zY hlt;have HG0:=zY hg0;have HST0:=zY hst0;clear B0 Bh Ba Bb Bc Bd hbl hown' hown hbel hd hlt hgp1 hgp2 hgh hga hgb hgc hgd hg0 hst0;go_wp2_with fail
 go_loopw [5] (fun i wr=>∃ (n:Nat) (A:Option Addr) (c:Nat),n≤64∧i=.int .i64 n∧OfSt w ⟨g0,gh,ga,gb,gc,gd⟩ F32 zH (.slice (some ⟨gp,0,none⟩) 80 pc) (csV 32 64 ga gb gc gd (.slice A n c) (.slice none 0 0)) (.slice A n c) ((kL F32).take n) (.slice none 0 0) [] wr) (fun i _=>64 - (intOf i).toNat)
 case atStart=>exact ⟨0,none,0,by omega,rfl,HST0.out⟩
 case round =>
  clear HST0;obtain ⟨n,A,c,hn,rfl,hst⟩:=hrel;have d1:=hst.h.cell 1;simp [csV,hC] at d1
  by_cases hnl:n<64
  ·have hnl':(n:Int)<64:=by omega
   obtain ⟨L,hL⟩:=eX ((kL F32).take n);have hLl:L.length=n:=by rw [hL,List.length_take,qbM,show F32.many=64 from rfl]; omega
   obtain ⟨pn,hpn⟩:=eX (primes80.getD n 0);have hpl:pn<65536:=by rw [hpn]; exact prime_lt n (by omega)
   have hrt:rootN pn 3=stepsN.getD n 0:=by rw [hpn]; exact rootN3 n (by omega)
   obtain ⟨rt,hrt2⟩:=eX (rootN pn 3);have hrl:rt<18446744073709551616:=by rw [hrt2,rootN]; exact Nat.mod_lt _ (by decide)
   obtain ⟨kn,hkn⟩:=eX (rt/2^(64 - 32)%2^32)
   have hnx:(kL F32).take (n+1)=L++[kn]:=by
    rw [hkn,hrt2,hrt,hL];exact kL_take F32 n hnl
   have ep:(wordsV .i64 primes80)[n]?=some (.int .i64 (pn:Int)):=by rw [hpn]; exact qaB (show n<80 by omega)
   rw [← hL] at hst;have HL:=zY hLl;have HPL:=zY hpl;have HRT:=zY hrt2;have HRL:=zY hrl;have HKN:=zY hkn;have HNX:=zY hnx;have EP:=zY ep;have hn80:n<80:=by omega
   have HC0:=hst.drew;have HST1:=zY hst;clear hL hLl hpn hpl hrt hrt2 hrl hkn hnx ep hst;go_wp2_with fail;clear HST1 d1;refine qbw (fun u=>OfSt w ⟨g0,gh,ga,gb,gc,gd⟩ F32 zH (.slice (some ⟨gp,0,none⟩) 80 pc) (csV 32 64 ga gb gc gd (.slice A n c) (.slice none 0 0)) (.slice A n c) L (.slice none 0 0) [] u) (fun i=>i == 0 || i == 1) 9 10 [(0,some 26),(1,some 27),(2,some 28),(3,some 29),(4,some 30),(5,some 31),(6,some 32),(7,some 33),(8,some 34),(9,some 35),(10,some 36),(11,some 37),(12,none)] (by kernel_rfl) (by kernel_rfl) (by decide) (by kernel_rfl) (fun _=>rfl) HC0 (fun _ _ hb h=>h.next hb) (by decide) ?_;apply DetR.next
   ·apply qbh [];exact fun _=>rfl;rfl;rintro vals - w1 hC1 E hE;simp only [sP] at hE ⊢;go_wp2;exact .mk hE
   apply DetR.next
   ·apply qbh [(0,some 26)];exact fun _=>rfl;rfl;intro vals vq w1 hC1 E hE;have d0:=hC1.h.cell 6;simp [csV,hC] at d0;simp only [sP,vq] at hE ⊢;clear vq;go_wp2;exact .mk hE
   apply DetR.next
   ·apply qaw;apply dP [];exact fun _=>rfl;rfl;intro vals vq w1 hC1 E hE;clear vq;simp only [sP] at hE ⊢;refine qad hC1.h rfl rfl rfl hu rfl qaX ?_;go_wp2_with fail;exact .mk (hE _ hC1)
   apply DetR.next
   ·apply qaw;apply dP [];exact fun _=>rfl;rfl;intro vals vq w1 hC1 E hE;clear vq;simp only [sP] at hE ⊢;go_wp2;exact .mk (hE _ hC1)
   apply DetR.next
   ·apply qaw;apply dP [];exact fun _=>rfl;rfl;intro vals vq w1 hC1 E hE;clear vq;simp only [sP] at hE ⊢;go_wp2;exact .mk (hE _ hC1)
   apply DetR.next
   ·apply qaw;apply dP [(3,some 29),(4,some 30)];exact fun _=>rfl;rfl;intro vals vq w1 hC1 E hE;simp only [sP,vq] at hE ⊢;clear vq;go_wp2;exact .mk (hE _ hC1)
   apply DetR.next
   ·apply qaw;apply dP [(5,some 31)];exact fun _=>rfl;rfl;intro vals vq w1 hC1 E hE;have d0:=hC1.p.atN EP.out;simp only [sP,vq] at hE ⊢;clear vq;go_wp2;exact .mk (hE _ hC1)
   apply DetR.next
   ·apply qaw;apply dP [(6,some 32)];exact fun _=>rfl;rfl;intro vals vq w1 hC1 E hE;simp only [sP,vq] at hE ⊢;clear vq;go_wp2_with fail;refine qaa (root3_any pn _ HPL.out) ?_;rintro e w2 ⟨rfl,hb2⟩;rw [← HRT.out];go_wp2_with fail;exact .mk (hE _ (hC1.next hb2))
   apply DetR.next
   ·apply qaw;apply dP [(2,some 28),(7,some 33),(7,some 33)];exact fun _=>rfl;rfl;intro vals vq w1 hC1 E hE;simp only [sP,vq] at hE ⊢;clear vq;go_wp2_with fail;refine qaa (top_any 32 64 _ _ _ _ _ _ _ (.inl rfl) rt HRL.out) ?_;rintro e w2 ⟨rfl,hb2⟩;rw [← HKN.out];go_wp2_with fail;exact .mk (hE _ (hC1.next hb2))
   apply DetR.done;rintro vals ⟨⟨⟨⟨⟨⟨⟨⟨⟨-,f0⟩,f1⟩,f2⟩,f3⟩,f4⟩,f5⟩,f6⟩,f7⟩,f8⟩ w1 hC1;refine qaS [(8,some 34)] (fun _=>rfl) rfl ?_;intro E hE;simp only [sP,f8] at hE ⊢;go_wp2;refine .mk (hE _ _ (fun _=>below_new _ _) ?_);clear hE E;generalize hval:upd _ 9 _=vals9;replace f0:=uP hval (by decide) f0;replace f1:=uP hval (by decide) f1;replace f2:=uP hval (by decide) f2;replace f3:=uP hval (by decide) f3;replace f4:=uP hval (by decide) f4;replace f5:=uP hval (by decide) f5;replace f6:=uP hval (by decide) f6;replace f7:=uP hval (by decide) f7;replace f8:=uP hval (by decide) f8;have f9:=(congrFun hval 9).symm.trans (qa2 _ _ _);clear hval;refine qaS [(1,some 27),(9,some 35),(8,some 34)] (fun _=>rfl) rfl ?_;intro E hE;simp only [sP,f1,f8,f9] at hE ⊢;refine qak qdq rfl rfl (show OwnX w1 g0 118 1 (.slice A n c) n (wordsV .u64 L) by have:=hC1.k; rwa [HL.out] at this) rfl rfl rfl rfl (by unfold maxLen; omega) (by omega) (by have:=hC1.res.lt; dsimp only at this; omega) ?_;intro A6 c6 w6 hown6 hg6 hn6;have hap:=hC1.appK (v':=.slice A6 (n+1) c6) (x:=kn) (by rw [HL.out]; exact hown6) hg6 (rfl);have HAP:=zY hap;clear hap hown6 hg6 hn6;go_wp2_with fail;refine .mk (hE _ _ (fun h=>absurd h (by decide)) ?_);clear hE E;generalize hval:upd _ 10 _=vals10;replace f0:=uP hval (by decide) f0;replace f1:=uP hval (by decide) f1;replace f2:=uP hval (by decide) f2;replace f3:=uP hval (by decide) f3;replace f4:=uP hval (by decide) f4;replace f5:=uP hval (by decide) f5;replace f6:=uP hval (by decide) f6;replace f7:=uP hval (by decide) f7;replace f8:=uP hval (by decide) f8;replace f9:=uP hval (by decide) f9;have f10:=(congrFun hval 10).symm.trans (qa2 _ _ _);clear hval;refine qaS [(0,some 26),(1,some 27),(2,some 28),(3,some 29),(4,some 30),(5,some 31),(6,some 32),(7,some 33),(8,some 34),(9,some 35),(10,some 36)] (fun _=>rfl) rfl ?_;intro E hE;simp only [sP,f0,f1,f2,f3,f4,f5,f6,f7,f8,f9,f10] at hE ⊢;go_wp2;refine .mk (hE _ _ (fun h=>absurd h (by decide)) ?_);clear hE E;generalize hval:upd _ 11 _=vals11;replace f0:=uP hval (by decide) f0;replace f1:=uP hval (by decide) f1;replace f2:=uP hval (by decide) f2;replace f3:=uP hval (by decide) f3;replace f4:=uP hval (by decide) f4;replace f5:=uP hval (by decide) f5;replace f6:=uP hval (by decide) f6;replace f7:=uP hval (by decide) f7;replace f8:=uP hval (by decide) f8;replace f9:=uP hval (by decide) f9;replace f10:=uP hval (by decide) f10;have f11:=(congrFun hval 11).symm.trans (qa2 _ _ _);clear hval;refine qaS [(11,some 37),(10,some 36),(10,some 36),(0,some 26),(1,some 27),(2,some 28),(3,some 29),(4,some 30),(5,some 31),(6,some 32),(7,some 33),(8,some 34),(9,some 35),(10,some 36)] (fun _=>rfl) rfl ?_;intro E hE;simp only [sP,f0,f1,f2,f3,f4,f5,f6,f7,f8,f9,f10,f11] at hE ⊢;refine qaf (i:=6) (v:=.slice A6 (n+1) c6) HAP.out.h rfl rfl rfl rfl slu_size (show 6<8 by decide) rfl ?_;intro w7 hb7 hw7;have HFIN:=zY (HAP.out.put hw7 hb7 HD.out);clear hb7 hw7;go_wp2_with fail;refine .mk (hE undef _ (fun h=>absurd h (by decide)) ?_);clear hE E;generalize hval:upd _ 12 _=vals12;replace f0:=uP hval (by decide) f0;replace f1:=uP hval (by decide) f1;replace f2:=uP hval (by decide) f2;replace f3:=uP hval (by decide) f3;replace f4:=uP hval (by decide) f4;replace f5:=uP hval (by decide) f5;replace f6:=uP hval (by decide) f6;replace f7:=uP hval (by decide) f7;replace f8:=uP hval (by decide) f8;replace f9:=uP hval (by decide) f9;replace f10:=uP hval (by decide) f10;replace f11:=uP hval (by decide) f11;have f12:=(congrFun hval 12).symm.trans (qa2 _ _ _);clear hval;refine qdn ?_;simp only [sP,f0,f1,f2,f3,f4,f5,f6,f7,f8,f9,f10,f11,f12];clear f0 f1 f2 f3 f4 f5 f6 f7 f8 f9 f10 f11 f12;clear HC0 HAP hC1;go_wp2_with fail;refine ⟨⟨n+1,A6,c6,by omega,by go_num,?_⟩,by simp [intOf]; omega⟩;rw [HNX.out];exact HFIN.out
  ·obtain rfl:n=64:=by omega
   rw [List.take_of_length_le (by rw [qbM]; exact Nat.le_refl _)] at hst;obtain ⟨gk,rfl,hk1,hk2⟩:=(show OwnX wr g0 118 1 (.slice A 64 c) 64 (wordsV .u64 (kL F32)) by have:=hst.k; rwa [qbM] at this).ptr (by decide)
   have hck:64≤c:=by
    have ho:OwnX wr g0 118 1 (.slice (some ⟨gk,0,none⟩) 64 c) 64 (wordsV .u64 (kL F32)):=by have:=hst.k; rwa [qbM] at this
    exact ho.le_cap
   have hst1:OfSt w ⟨g0,gh,ga,gb,gc,gd⟩ F32 zH (.slice (some ⟨gp,0,none⟩) 80 pc) (csV 32 64 ga gb gc gd (.slice (some ⟨gk,0,none⟩) 64 c) (.slice none 0 0)) (.slice (some ⟨gk,0,none⟩) 64 c) (kL F32) (.slice none 0 0) ((s8L (startS F32)).take 0) wr:=hst;have HST0:=zY hst1;have HK1:=zY hk1;clear hst hst1 hk1 hk2;obtain ⟨ck,rfl⟩:=eX c;go_wp2_with fail;clear d1;obtain ⟨wo,rfl⟩:∃ wo:World,wo=wr:=⟨_,rfl⟩
   go_loopw [6] (fun i wr=>∃ (n:Nat) (A:Option Addr) (c:Nat),n≤8∧i=.int .i64 n∧OfSt w ⟨g0,gh,ga,gb,gc,gd⟩ F32 zH (.slice (some ⟨gp,0,none⟩) 80 pc) (csV 32 64 ga gb gc gd (.slice (some ⟨gk,0,none⟩) 64 ck) (.slice A n c)) (.slice (some ⟨gk,0,none⟩) 64 ck) (kL F32) (.slice A n c) ((s8L (startS F32)).take n) wr) (fun i _=>8 - (intOf i).toNat)
   case atStart=>exact ⟨0,none,0,by omega,rfl,HST0.out⟩
   case round =>
    clear HST0;obtain ⟨n,A,c,hn,rfl,hst⟩:=hrel
    by_cases hnl:n<8
    ·have hnl':(n:Int)<8:=by omega
     obtain ⟨L,hL⟩:=eX ((s8L (startS F32)).take n);have hLl:L.length=n:=by rw [hL,List.length_take,show (s8L (startS F32)).length=8 from rfl]; omega
     obtain ⟨pn,hpn⟩:=eX (primes80.getD n 0);have hpl:pn<65536:=by rw [hpn]; exact prime_lt n (by omega)
     have hrt:rootN pn 2=firstN.getD n 0:=by rw [hpn]; exact rootN2 n hnl
     obtain ⟨rt,hrt2⟩:=eX (rootN pn 2);have hrl:rt<18446744073709551616:=by rw [hrt2,rootN]; exact Nat.mod_lt _ (by decide)
     obtain ⟨kn,hkn⟩:=eX (rt/2^(64 - 32)%2^32)
     have hnx:(s8L (startS F32)).take (n+1)=L++[kn]:=by
      rw [hkn,hrt2,hrt,hL];exact start_take F32 n hnl
     have ep:(wordsV .i64 primes80)[n]?=some (.int .i64 (pn:Int)):=by rw [hpn]; exact qaB (show n<80 by omega)
     rw [← hL] at hst;have HL:=zY hLl;have HPL:=zY hpl;have HRT:=zY hrt2;have HRL:=zY hrl;have HKN:=zY hkn;have HNX:=zY hnx;have EP:=zY ep;have hn80:n<80:=by omega
     have HC0:=hst.drew;have HST1:=zY hst;clear hL hLl hpn hpl hrt hrt2 hrl hkn hnx ep hst;go_wp2_with fail;clear HST1;refine qbw (fun u=>OfSt w ⟨g0,gh,ga,gb,gc,gd⟩ F32 zH (.slice (some ⟨gp,0,none⟩) 80 pc) (csV 32 64 ga gb gc gd (.slice (some ⟨gk,0,none⟩) 64 ck) (.slice A n c)) (.slice (some ⟨gk,0,none⟩) 64 ck) (kL F32) (.slice A n c) L u) (fun i=>i == 0 || i == 1) 9 10 [(0,some 42),(1,some 43),(2,some 44),(3,some 45),(4,some 46),(5,some 47),(6,some 48),(7,some 49),(8,some 50),(9,some 51),(10,some 52),(11,some 53),(12,none)] (by kernel_rfl) (by kernel_rfl) (by decide) (by kernel_rfl) (fun _=>rfl) HC0 (fun _ _ hb h=>h.next hb) (by decide) ?_;apply DetR.next
     ·apply qbh [];exact fun _=>rfl;rfl;rintro vals - w1 hC1 E hE;simp only [sP] at hE ⊢;go_wp2;exact .mk hE
     apply DetR.next
     ·apply qbh [(0,some 42)];exact fun _=>rfl;rfl;intro vals vq w1 hC1 E hE;have d0:=hC1.h.cell 7;simp [csV,hC] at d0;simp only [sP,vq] at hE ⊢;clear vq;go_wp2;exact .mk hE
     apply DetR.next
     ·apply qaw;apply dP [];exact fun _=>rfl;rfl;intro vals vq w1 hC1 E hE;clear vq;simp only [sP] at hE ⊢;refine qad hC1.h rfl rfl rfl hu rfl qaX ?_;go_wp2_with fail;exact .mk (hE _ hC1)
     apply DetR.next
     ·apply qaw;apply dP [];exact fun _=>rfl;rfl;intro vals vq w1 hC1 E hE;clear vq;simp only [sP] at hE ⊢;go_wp2;exact .mk (hE _ hC1)
     apply DetR.next
     ·apply qaw;apply dP [];exact fun _=>rfl;rfl;intro vals vq w1 hC1 E hE;clear vq;simp only [sP] at hE ⊢;go_wp2;exact .mk (hE _ hC1)
     apply DetR.next
     ·apply qaw;apply dP [(3,some 45),(4,some 46)];exact fun _=>rfl;rfl;intro vals vq w1 hC1 E hE;simp only [sP,vq] at hE ⊢;clear vq;go_wp2;exact .mk (hE _ hC1)
     apply DetR.next
     ·apply qaw;apply dP [(5,some 47)];exact fun _=>rfl;rfl;intro vals vq w1 hC1 E hE;have d0:=hC1.p.atN EP.out;simp only [sP,vq] at hE ⊢;clear vq;go_wp2;exact .mk (hE _ hC1)
     apply DetR.next
     ·apply qaw;apply dP [(6,some 48)];exact fun _=>rfl;rfl;intro vals vq w1 hC1 E hE;simp only [sP,vq] at hE ⊢;clear vq;go_wp2_with fail;refine qaa (root2_any pn _ HPL.out) ?_;rintro e w2 ⟨rfl,hb2⟩;rw [← HRT.out];go_wp2_with fail;exact .mk (hE _ (hC1.next hb2))
     apply DetR.next
     ·apply qaw;apply dP [(2,some 44),(7,some 49),(7,some 49)];exact fun _=>rfl;rfl;intro vals vq w1 hC1 E hE;simp only [sP,vq] at hE ⊢;clear vq;go_wp2_with fail;refine qaa (top_any 32 64 _ _ _ _ _ _ _ (.inl rfl) rt HRL.out) ?_;rintro e w2 ⟨rfl,hb2⟩;rw [← HKN.out];go_wp2_with fail;exact .mk (hE _ (hC1.next hb2))
     apply DetR.done;rintro vals ⟨⟨⟨⟨⟨⟨⟨⟨⟨-,f0⟩,f1⟩,f2⟩,f3⟩,f4⟩,f5⟩,f6⟩,f7⟩,f8⟩ w1 hC1;refine qaS [(8,some 50)] (fun _=>rfl) rfl ?_;intro E hE;simp only [sP,f8] at hE ⊢;go_wp2;refine .mk (hE _ _ (fun _=>below_new _ _) ?_);clear hE E;generalize hval:upd _ 9 _=vals9;replace f0:=uP hval (by decide) f0;replace f1:=uP hval (by decide) f1;replace f2:=uP hval (by decide) f2;replace f3:=uP hval (by decide) f3;replace f4:=uP hval (by decide) f4;replace f5:=uP hval (by decide) f5;replace f6:=uP hval (by decide) f6;replace f7:=uP hval (by decide) f7;replace f8:=uP hval (by decide) f8;have f9:=(congrFun hval 9).symm.trans (qa2 _ _ _);clear hval;refine qaS [(1,some 43),(9,some 51),(8,some 50)] (fun _=>rfl) rfl ?_;intro E hE;simp only [sP,f1,f8,f9] at hE ⊢;refine qak qdq rfl rfl (show OwnX w1 g0 118 1 (.slice A n c) n (wordsV .u64 L) by have:=hC1.f; rwa [HL.out] at this) rfl rfl rfl rfl (by unfold maxLen; omega) (by omega) (by have:=hC1.res.lt; dsimp only at this; omega) ?_;intro A6 c6 w6 hown6 hg6 hn6;have hap:=hC1.appF (v':=.slice A6 (n+1) c6) (x:=kn) (by rw [HL.out]; exact hown6) hg6 (hn6);have HAP:=zY hap;clear hap hown6 hg6 hn6;go_wp2_with fail;refine .mk (hE _ _ (fun h=>absurd h (by decide)) ?_);clear hE E;generalize hval:upd _ 10 _=vals10;replace f0:=uP hval (by decide) f0;replace f1:=uP hval (by decide) f1;replace f2:=uP hval (by decide) f2;replace f3:=uP hval (by decide) f3;replace f4:=uP hval (by decide) f4;replace f5:=uP hval (by decide) f5;replace f6:=uP hval (by decide) f6;replace f7:=uP hval (by decide) f7;replace f8:=uP hval (by decide) f8;replace f9:=uP hval (by decide) f9;have f10:=(congrFun hval 10).symm.trans (qa2 _ _ _);clear hval;refine qaS [(0,some 42),(1,some 43),(2,some 44),(3,some 45),(4,some 46),(5,some 47),(6,some 48),(7,some 49),(8,some 50),(9,some 51),(10,some 52)] (fun _=>rfl) rfl ?_;intro E hE;simp only [sP,f0,f1,f2,f3,f4,f5,f6,f7,f8,f9,f10] at hE ⊢;go_wp2;refine .mk (hE _ _ (fun h=>absurd h (by decide)) ?_);clear hE E;generalize hval:upd _ 11 _=vals11;replace f0:=uP hval (by decide) f0;replace f1:=uP hval (by decide) f1;replace f2:=uP hval (by decide) f2;replace f3:=uP hval (by decide) f3;replace f4:=uP hval (by decide) f4;replace f5:=uP hval (by decide) f5;replace f6:=uP hval (by decide) f6;replace f7:=uP hval (by decide) f7;replace f8:=uP hval (by decide) f8;replace f9:=uP hval (by decide) f9;replace f10:=uP hval (by decide) f10;have f11:=(congrFun hval 11).symm.trans (qa2 _ _ _);clear hval;refine qaS [(11,some 53),(10,some 52),(10,some 52),(0,some 42),(1,some 43),(2,some 44),(3,some 45),(4,some 46),(5,some 47),(6,some 48),(7,some 49),(8,some 50),(9,some 51),(10,some 52)] (fun _=>rfl) rfl ?_;intro E hE;simp only [sP,f0,f1,f2,f3,f4,f5,f6,f7,f8,f9,f10,f11] at hE ⊢;refine qaf (i:=7) (v:=.slice A6 (n+1) c6) HAP.out.h rfl rfl rfl rfl slu_size (show 7<8 by decide) rfl ?_;intro w7 hb7 hw7;have HFIN:=zY (HAP.out.put hw7 hb7 HD.out);clear hb7 hw7;go_wp2_with fail;refine .mk (hE undef _ (fun h=>absurd h (by decide)) ?_);clear hE E;generalize hval:upd _ 12 _=vals12;replace f0:=uP hval (by decide) f0;replace f1:=uP hval (by decide) f1;replace f2:=uP hval (by decide) f2;replace f3:=uP hval (by decide) f3;replace f4:=uP hval (by decide) f4;replace f5:=uP hval (by decide) f5;replace f6:=uP hval (by decide) f6;replace f7:=uP hval (by decide) f7;replace f8:=uP hval (by decide) f8;replace f9:=uP hval (by decide) f9;replace f10:=uP hval (by decide) f10;replace f11:=uP hval (by decide) f11;have f12:=(congrFun hval 12).symm.trans (qa2 _ _ _);clear hval;refine qdn ?_;simp only [sP,f0,f1,f2,f3,f4,f5,f6,f7,f8,f9,f10,f11,f12];clear f0 f1 f2 f3 f4 f5 f6 f7 f8 f9 f10 f11 f12;clear HC0 HAP hC1;go_wp2_with fail;refine ⟨⟨n+1,A6,c6,by omega,by go_num,?_⟩,by simp [intOf]; omega⟩;rw [HNX.out];exact HFIN.out
    ·obtain rfl:n=8:=by omega
     rw [show (s8L (startS F32)).take 8=s8L (startS F32) from rfl] at hst;obtain ⟨gz,rfl,hz1,hz2⟩:=(show OwnX wr g0 118 1 (.slice A 8 c) 8 (wordsV .u64 (s8L (startS F32))) from hst.f).ptr (by decide);have hcz:8≤c:=(show OwnX wr g0 118 1 (.slice (some ⟨gz,0,none⟩) 8 c) 8 (wordsV .u64 (s8L (startS F32))) from hst.f).le_cap;have HST2:=zY hst;clear hz1 hz2 hst
     go_wp2_with (first
      | (refine qad (x:=.tmp 3) HST2.out.h rfl rfl rfl hu rfl qaX ?_)
      | (refine qac (x:=.tmp 2) (cells:=csV 32 64 ga gb gc gd (.slice (some ⟨gk,0,none⟩) 64 ck) (.slice (some ⟨gz,0,none⟩) 8 c)) HST2.out.res rfl rfl rfl rfl qaX rfl (by simp [csV,hC,Value.oneCell']) ?_; intro w5 hb5 hw5))
     refine bodyPost_ret (qah (P:=Tryz.prog) rfl rfl hb5 hu rfl qaX) rfl ?_;have h2:=HST2.out;have hdl:=HLT.out;refine ⟨⟨⟨ga,0,none⟩,⟨gb,0,none⟩,⟨gc,0,none⟩,⟨gd,0,none⟩,⟨gk,0,none⟩,⟨gz,0,none⟩,3,3,3,3,ck,c⟩,rfl,?_,?_⟩
     ·have k1:=hw5.blk h2.a (by dsimp only; omega);have k2:=hw5.blk h2.b (by dsimp only; omega);have k3:=hw5.blk h2.c (by dsimp only; omega);have k4:=hw5.blk h2.d (by dsimp only; omega);have k5:=hw5.own h2.k (qax h2.k h2.res (by decide));have k6:=hw5.own h2.f (qax h2.f h2.res (by decide));exact ⟨Rd.of_blk k1 k1.lt,Rd.of_blk k2 k2.lt,Rd.of_blk k3 k3.lt,Rd.of_blk k4 k4.lt,Rd.of_own (n:=64) (by rw [qbM] at k5; exact k5) (Nat.le_refl _),Rd.of_own (n:=8) k6 (Nat.le_refl _),Nat.le_refl _,Nat.le_refl _,Nat.le_refl _,Nat.le_refl _,hck,hcz⟩
     ·rw [← HG0.out];exact hw5.below h2.bel (Nat.le_refl _) (by have:=h2.res.lt; dsimp only at this; omega)
theorem r256_any (data:List UInt8) (A:Option Addr) (c B:Nat) (w:World) (hr:Rd w B A (bytesV data)) (hB:B≤w.heap.size) (hl:data.length≤1000) (hc:data.length≤c) :
  Calls Tryz.prog 30 #[.slice A data.length c] w (HSumPost F32 32 data w):=by
 have HR:=zY hr;have hu:=Tryz.underlying93;clear hr;go_enter Tryz.func30,Tryz.ntmps30;go_wp2_with fail;refine qaa (of32_any w) ?_;rintro e w1 ⟨p,rfl,hok,hb1⟩;have HOK:=zY hok;have HB1:=zY hb1;clear hok hb1
 go_wp2_with (first
  | (refine qac (x:=.tmp 3) (cells:=hv F32 p) (Blk.new w1 93 zH) rfl rfl rfl rfl qaX rfl (by simp [hv,hC,Value.oneCell']) ?_; intro w2 hb2 hw2; have HB2:=zY hb2; have HW2:=zY hw2; clear hb2 hw2)
  | (refine qad (x:=.tmp 3) HB2.out rfl rfl rfl hu rfl qaX ?_))
 have hbel:Below w1.heap.size w1 w2:=HW2.out.below (below_new _ _) (Nat.le_refl _) (by simp);have hsz:w1.heap.size+1=w2.heap.size:=by rw [HW2.out.size]; simp
 refine qaa (hsum32_any p data A c w1.heap.size w2 (HOK.out.below hbel) (((HR.out.mono hB).below HB1.out).mono HB1.out.size |>.below hbel) (by omega) hl hc) ?_;rintro e w3 ⟨A3,c3,rfl,ho3,hb3⟩;have HO3:=zY ho3;have HB3:=zY hb3;have HBEL:=zY hbel;have HSZ:=zY hsz;clear ho3 hb3 hbel hsz;go_wp2_with fail;go_ret;exact ⟨A3,c3,rfl,HO3.out.mono (by have:=HB1.out.size; have:=HSZ.out; omega),HB1.out.trans ((HBEL.out.mono HB1.out.size).trans (HB3.out.mono (by have:=HB1.out.size; have:=HSZ.out; omega)))⟩
end Go.Proofs.YtlkikjeccamheaaGreatDoor.Sh
namespace Go.Proofs.YtlkikjeccamheaaGreatDoor
set_option linter.unusedSimpArgs false
set_option linter.unusedVariables false
set_option maxRecDepth 100000
set_option maxHeartbeats 4000000
open Go.RowKit
theorem hexA_cut (n:Nat) (h:n<16):(⟨#[48,49,50,51,52,53,54,55,56,57,97,98,99,100,101,102]⟩:ByteArray).extract n (n+1)=⟨#[UInt8.ofNat (hexD n)]⟩:=by
 have:n=0∨n=1∨n=2∨n=3∨n=4∨n=5∨n=6∨n=7∨n=8∨n=9∨n=10∨n=11∨n=12∨n=13∨n=14∨n=15:=by omega
 rcases this with h | h | h | h | h | h | h | h | h | h | h | h | h | h | h | h <;> subst h <;> decide
theorem name_snoc (L:List UInt8) (a b:UInt8):(⟨L.toArray⟩:ByteArray)++⟨#[a]⟩++⟨#[b]⟩=⟨(L++[a,b]).toArray⟩:=by
 apply ByteArray.ext;rw [ByteArray.data_append,ByteArray.data_append];simp
theorem rname_any (data:List UInt8) (hl:data.length≤1000) (A:Option Addr) (c:Nat) (w:World) (hr:Rd w w.heap.size A (bytesV data)) (hc:data.length≤c) (hH32:(Sh.digS Sh.F32 data).length=32) :
  Calls Tryz.prog 14 #[.slice A data.length c] w (fun e w'=>e=.returned (.string (nameS data))∧Below w.heap.size w w'):=by
 have HS:=zY (Sh.r256_any data A c w.heap.size w hr (Nat.le_refl _) hl hc);obtain ⟨n,hn⟩:=eX (data.length);rw [← hn] at HS ⊢;clear hr hl hc hn;obtain ⟨H,hH⟩:=eX (Sh.digS Sh.F32 data);rw [← hH] at hH32;have HH:=zY hH;have HLH:=zY hH32;clear hH32;go_enter Tryz.func14,Tryz.ntmps14;go_wp2_with fail;refine qaa HS.out ?_;rintro e u1 ⟨A1,c1,rfl,ho,hb1⟩;rw [← hH] at ho;have HRD:=zY (Rd.of_own ho (Nat.le_refl _));obtain ⟨ad0,hA1,-,-⟩:=HRD.out.at_ (k:=0) (by rw [qan,HLH.out]; decide);have HB1:=zY hb1;subst hA1;clear hb1 ho hH HS;go_wp2_with fail
 go_loopw [5,6] (fun s i wr=>∃ (k:Nat),k≤4∧i=.int .i64 (k:Int)∧s=.string ⟨(nameK H k).toArray⟩∧Below u1.heap.size u1 wr) (fun _ i _=>4 - (intOf i).toNat)
 case atStart=>exact ⟨0,by omega,rfl,rfl,Below.refl _ _⟩
 case round =>
  obtain ⟨k,hk,rfl,rfl,hbel⟩:=hrel
  by_cases hlt:k<4
  ·have hlt':(k:Int)<4:=by omega
   have hkH:k<H.length:=by rw [HLH.out]; omega
   obtain ⟨ad',hA',-,hcell⟩:=(HRD.out.below hbel).at_ (k:=k) (by rw [qan]; exact hkH)
   injection hA' with hA'
   subst hA';obtain ⟨x,hx⟩:=eX (H[k].toNat);have hxl:x<256:=by have:=H[k].toNat_lt; omega
   have hbv:(bytesV H)[k]'(by rw [qan]; exact hkH)=.int .u8 (x:Int):=by
    rw [hx]; simp [bytesV,byteV]
   rw [hbv] at hcell;obtain ⟨L,hL⟩:=eX (nameK H k);have HN:=zY (show nameK H (k+1)=L++hexB x by rw [qcS hkH,← hx,hL]);have hLl:L.length=2*k:=by rw [hL]; exact qbG (by omega)
   rw [← hL];have hd4:decide ((k:Int)<4)=true:=by simp; omega
   obtain ⟨SL,hSL⟩:∃ s:ByteArray,s=⟨L.toArray⟩:=⟨_,rfl⟩;rw [← hSL];clear hx hbv hL hkH;go_wp2_with fail;obtain ⟨a,ha⟩:=eX (x/16);obtain ⟨b,hb⟩:=eX (x%16);rw [show (x:Int)/16=(a:Int) by omega,show (x:Int)%16=(b:Int) by omega];have ha16:a<16:=by omega
   have hb16:b<16:=by omega
   have HA:=zY ha;have HB:=zY hb;have HX:=zY hxl;clear ha hb hxl
   go_quiet (fail)
   rw [hexA_cut a ha16,hexA_cut b hb16,name_snoc];go_wp2_with fail
   go_roundw
   case rel=>exact ⟨k+1,by omega,by go_num,by rw [HN.out,hexB,← HA.out,← HB.out],by first | exact hbel | exact hbel.drew | exact qcb hbel _⟩
   case measure=>simp [intOf]; omega
  ·obtain rfl:k=4:=by omega
   have HF:=zY (HB1.out.trans (hbel.mono HB1.out.size));have hd4:decide (((4:Nat):Int)<4)=false:=by decide
   clear hbel;go_wp2_with fail;go_ret;exact ⟨by rw [nameS,← HH.out]; rfl,HF.out⟩
end Go.Proofs.YtlkikjeccamheaaGreatDoor
namespace Go.Proofs.YtlkikjeccamheaaGreatDoor.Js
set_option linter.unusedSimpArgs false
set_option linter.unusedVariables false
set_option maxRecDepth 100000
set_option maxHeartbeats 4000000
open Go.RowKit
theorem qdY (d:List UInt8):(Sh.digS Sh.F32 d).length=32:=by
 unfold Sh.digS;generalize Sh.runS Sh.F32 (Sh.padS Sh.F32 d) ((Sh.padS Sh.F32 d).length/(2*Sh.F32.bits))=s;simp [Sh.s8L,Sh.wordB_length,Sh.F32]
theorem rd_take {w:World} {B:Nat} {A:Option Addr} {l:List UInt8} (h:Rd w B A (bytesV l)) (n:Nat):Rd w B A (bytesV (l.take n)):=fun i u hu=>by
 have e:bytesV (l.take n)=(bytesV l).take n:=by simp [bytesV,List.map_take]
 rw [e,List.getElem?_take] at hu
 split at hu
 ·exact h i u hu
 ·cases hu
end Go.Proofs.YtlkikjeccamheaaGreatDoor.Js
namespace Go.Proofs.YtlkikjeccamheaaGreatDoor
set_option linter.unusedSimpArgs false
set_option linter.unusedVariables false
set_option maxRecDepth 100000
set_option maxHeartbeats 4000000
open Go.RowKit
section
variable {P:Program}
theorem rd_bytesRow (w:World) (s:ByteArray) (cap:Nat) (e:TypeId) (f:Nat × Nat) (u:World) (hu:u=w.alloc (.cells (bytesRow s cap) e f)):Rd u u.heap.size (some ⟨w.heap.size,0,none⟩) (bytesV s.data.toList):=by
 subst hu;intro i v hv
 have hlt:i<s.data.size:=by
  have:=(List.getElem?_eq_some_iff.1 hv).1
  simpa [bytesV] using this
 refine ⟨_,rfl,by simp,?_⟩;have hadd:(⟨w.heap.size,0,none⟩:Addr).add i=⟨w.heap.size,i,none⟩:=by unfold Addr.add; split <;> simp_all
 have hg:(w.alloc (.cells (bytesRow s cap) e f)).heap[w.heap.size]?=some (.cells (bytesRow s cap) e f):=by
  show (w.heap.push _)[w.heap.size]?=_;simp
 rw [hadd,cell_of_row _ _ _ _ _ f hg,bytesRow,Array.getElem?_append_left (by simpa using hlt)];rw [bytesV,List.getElem?_map,Array.getElem?_toList] at hv;rw [Array.getElem?_map];exact hv
theorem qaW {w:World} {ops:Array Oper} {rest:List Oper} {o:Oper} {a:Act} {Q:Exit→Act→World→Prop} {src dst e:TypeId} {x:Operand} {s:ByteArray}
  (hs:P.underlying src=some .string) (hd:P.underlying dst=some (.slice e)) (he:P.underlying e=some (.int .u8))
  (hgd:o.guard=none) (ho:o.op=.convert src dst x) (hx:a.eval x=.string s) (hm:s.size≤maxLen)
  (h:∀ c w',Rd w' w'.heap.size (some ⟨w.heap.size,0,none⟩) (bytesV s.data.toList)→s.size≤c→c≤maxLen→Below w.heap.size w w'→wpList P ops Q rest (a.put o.dst (.slice (some ⟨w.heap.size,0,none⟩) s.size c)) w'):wpList P ops Q (o :: rest) a w:=by
 refine wpList_plain hgd fun K hK=>?_;have hrun:=run_bytes_of_string (P:=P) w src dst e s hs hd he;unfold Oper.wp execOp;simp only [ho,hx];simp only [Sem.run_bind,hrun,Result.andThen_ok,Sem.run_pure];refine hK _ _ (h _ _ (rd_bytesRow w.drew s _ e _ _ rfl) (grownCap_ge w s.size 0 e) (grownCap_le_maxLen w s.size 0 e hm) ?_);exact (Below.refl _ _).drew.alloc (Nat.le_refl _) _
end
end Go.Proofs.YtlkikjeccamheaaGreatDoor
namespace Go.Proofs.YtlkikjeccamheaaGreatDoor.Js
set_option linter.unusedSimpArgs false
set_option linter.unusedVariables false
set_option maxRecDepth 100000
set_option maxHeartbeats 4000000
open Go.RowKit
theorem bs_takem (t:Bs) (m:Nat):(bs t).extract 0 m=bs (t.take m):=by
 apply ByteArray.ext;simp [bs,ByteArray.data_extract]
theorem few_any (s:Bs) (m:Nat) (hs:(s.length:Int)≤9223372036854775807) (w:World) :
  Calls Tryz.prog 12 #[.string (bs s),.int .i64 (m:Int)] w fun e w'=>e=.returned (.string (bs (s.take m)))∧w'=w:=by
 have hsz:((bs s).size:Int)=(s.length:Int):=by rw [qay]
 have HS:=zY hsz;go_enter Tryz.func12,Tryz.ntmps12
 by_cases hl:m<s.length
 ·have hl':(m:Int)<((bs s).size:Int):=by omega
  have hl2:m≤(bs s).size:=by omega
  clear hsz;go_wp2_with fail;go_ret;exact ⟨by rw [← bs_takem]; rfl,rfl⟩
 ·have hl':¬ (m:Int)<((bs s).size:Int):=by omega
  have HT:=zY (show s.take m=s from List.take_of_length_le (by omega));clear hsz;go_wp2_with fail;go_ret;exact ⟨by rw [HT.out]; rfl,rfl⟩
def nameL (x:Bs):Bs:=_root_.Go.Proofs.YtlkikjeccamheaaGreatDoor.nameK (Sh.digS Sh.F32 x) 4
def zB:Array Value:=#[.string ⟨#[]⟩,.int .i64 0,.slice none 0 0]
def bC (d:Bs) (n:Int) (A:Option Addr) (l c:Nat):Array Value:=#[.string (bs d),.int .i64 n,.slice A l c]
structure Cb (w0:World) (V R:Array Value) (A1:Option Addr) (c1:Nat) (ks:List (Bs × Bs)) (u:World):Prop where
 low:Below w0.heap.size w0 u
 vbox:Blk u w0.heap.size 24 V
 res:Blk u (w0.heap.size+1) 24 zB
 out:Blk u (w0.heap.size+2) 24 R
 keys:OwnR u (w0.heap.size+3) 38 2 A1 c1 ks.length (rowsV kCell ks)
section
variable {w0:World} {V R:Array Value} {A1:Option Addr} {c1:Nat} {ks:List (Bs × Bs)} {u u':World}
theorem Cb.size (h:Cb w0 V R A1 c1 ks u):w0.heap.size+3≤u.heap.size:=h.out.lt
theorem Cb.new (h:Cb w0 V R A1 c1 ks u) (hb:Below u.heap.size u u'):Cb w0 V R A1 c1 ks u' :=
 ⟨h.low.trans (hb.mono (by have:=h.size; omega)),h.vbox.below hb h.vbox.lt,h.res.below hb h.res.lt,h.out.below hb h.out.lt,h.keys.below hb⟩
theorem Cb.put {R':Array Value} (h:Cb w0 V R A1 c1 ks u) (hw:Wrote (w0.heap.size+2) u u') (ht:Blk u' (w0.heap.size+2) 24 R'):Cb w0 V R' A1 c1 ks u':=by
 have hs:=h.size;have hk:∀ b,b<u.heap.size→w0.heap.size+3≤b→u'.heap[b]?=u.heap[b]?:=fun b hb hl=>hw.grown.block b hb (by intro h; injection h with h; omega);have hlt:∀ {k cs t},u.heap[k]?=some (.cells cs t (0,0))→k<u.heap.size:=fun hq=>(Array.getElem?_eq_some_iff.1 hq).1;exact ⟨hw.below h.low (by omega) (by omega),hw.blk h.vbox (by omega),hw.blk h.res (by omega),ht,h.keys.heap fun k cs hq hl=>(hk k (hlt hq) hl).trans hq⟩
theorem ownR_put {w w':World} {base:Nat} {e:TypeId} {size:Nat} {A:Option Addr} {c n g:Nat} {xs:List Value} (h:OwnR w base e size A c n xs) (hw:Wrote g w w') (hne:∀ k,(Value.slice A n c).ownBlock=some k→k≠g):OwnR w' base e size A c n xs:=by
 refine ⟨h.1,?_⟩
 rcases h.2 with h0 | ⟨g',cap,cur,h1,h2,h3,h4⟩
 ·exact .inl h0
 ·have hn:g'≠g:=hne g' (by rw [h1]; rfl);exact .inr ⟨g',cap,cur,h1,h2,(hw.grown.block g' (Array.getElem?_eq_some_iff.1 h3).1 (by intro he; injection he with he; exact hn he)).trans h3,h4⟩
theorem Cb.wrote {g:Nat} (h:Cb w0 V R A1 c1 ks u) (hw:Wrote g u u') (hg:w0.heap.size+3≤g) (hne:∀ k,(Value.slice A1 ks.length c1).ownBlock=some k→k≠g):Cb w0 V R A1 c1 ks u' :=
 ⟨hw.below h.low (by omega) (by have:=h.size; omega),hw.blk h.vbox (by omega),hw.blk h.res (by omega),hw.blk h.out (by omega),ownR_put h.keys hw hne⟩
theorem Cb.add {k:Bs × Bs} {A':Option Addr} {c':Nat} (h:Cb w0 V R A1 c1 ks u) (ho:OwnR u' (w0.heap.size+3) 38 2 A' c' (ks.length+1) (rowsV kCell ks++(kCell k).toList)) (hg:u.grownBy u' (Value.slice A1 ks.length c1).ownBlock) :
  Cb w0 V R A' c' (ks++[k]) u':=by
 have hs:=h.size;have hne:∀ k,k<w0.heap.size+3→some k≠(Value.slice A1 ks.length c1).ownBlock:=fun k hk he=>by have:=(h.keys.lt k he.symm).1; omega
 exact ⟨h.low.grown hg (by omega) (fun k hk=>by have:=(h.keys.lt k hk).1; omega),h.vbox.grown hg (hne _ (by omega)),h.res.grown hg (hne _ (by omega)),h.out.grown hg (hne _ (by omega)),by rw [qaT,qbp,List.length_append]; exact ho⟩
end
theorem qaE:(Tryz.prog.info? 24).map (·.size)=some 3:=by kernel_rfl
theorem sl_jwks:SlT Tryz.prog 22 38 2 32:=SlT.mk1 (z:=.agg #[.string ⟨#[]⟩,.string ⟨#[]⟩]) Tryz.underlying22 (by kernel_rfl) rfl (by decide)
theorem qdE {w:World} {base:Nat} {e:TypeId} {size:Nat} {A:Option Addr} {c n:Nat} {xs:List Value} (h:OwnR w base e size A c n xs):RdS w (fun b=>base≤b) A xs:=fun i u hu=>by
 obtain ⟨ad,h1,h2,h3⟩:=Rd.of_own h.x (Nat.le_refl _) i u hu;refine ⟨ad,h1,?_,h3⟩;exact (h.lt ad.block (by rw [h1]; rfl)).1
end Go.Proofs.YtlkikjeccamheaaGreatDoor.Js
namespace Go.Proofs.YtlkikjeccamheaaGreatDoor
set_option linter.unusedSimpArgs false
set_option linter.unusedVariables false
set_option maxRecDepth 100000
set_option maxHeartbeats 4000000
open Go.RowKit
def MapS (w:World) (g:Nat) (es:Array MapEntry):Prop:=w.heap[g]?=some (.map es es.size)
theorem MapS.lt {w:World} {g:Nat} {es:Array MapEntry} (h:MapS w g es):g<w.heap.size:=(Array.getElem?_eq_some_iff.1 h).1
theorem MapS.new (w:World):MapS (w.alloc (.map #[] 0)) w.heap.size #[]:=heap_alloc_new w _
section
variable {P:Program} {w:World} {ops:Array Oper} {rest:List Oper} {o:Oper} {a:Act} {Q:Exit→Act→World→Prop}
theorem run_insertS {t k e:TypeId} {g:Nat} {es:Array MapEntry} {x:ByteArray} {v:Value} (ht:P.underlying t=some (.map k e)) (hk:P.underlying k=some .string) (hm:MapS w g es) (hf:Instr.findNow .string (.string x) es.toList 0=some none) :
  ∃ w',(Instr.mapUpdate t (.map (some g)) (.string x) v).run P w=.ok () w'∧MapS w' g (es.push ⟨.string x,v,es.size⟩)∧w.grownBy w' (some g):=by
 unfold MapS at hm;have hlt:g<w.heap.size:=(Array.getElem?_eq_some_iff.1 hm).1;have hc:(Instr.checkKey false 10000 k (.string x)).run P w=.ok () w:=MapKept.run_checkKey (k:=(.string x)) hk (by simp [MapKept.IsKey]) false 9999;refine ⟨{ w with heap:=w.heap.setIfInBounds g (.map (es.push ⟨.string x,v,es.size⟩) (es.size+1)) },?_,?_,?_⟩
 ·simp [Instr.mapUpdate,run_underlying ht,MapKept.run_getObj_map hm,hc,MapKept.run_findKey hk hf,MapKept.run_setObj_map _ hm,Result.andThen]
 ·unfold MapS;simp [hlt]
 ·refine ⟨rfl,rfl,rfl,by simp,fun i hi hne=>?_⟩;have:g≠i:=fun h=>hne (by rw [h]);simp [this]
def foundS (z:Value):Option (Nat × Value)→Value × Bool
 | some (_,v)=>(v,true)
 | none=>(z,false)
theorem qdu {t k e:TypeId} {g:Nat} {es:Array MapEntry} {x:ByteArray} {z:Value} {r:Option (Nat × Value)} (c:Bool) (ht:P.underlying t=some (.map k e)) (hk:P.underlying k=some .string) (hm:MapS w g es) (hf:Instr.findNow .string (.string x) es.toList 0=some r)
  (hz:(zeroValue e).run P w=.ok z w):(Instr.lookup t (.map (some g)) (.string x) c).run P w=.ok (if c then .tuple #[(foundS z r).1,.bool (foundS z r).2] else (foundS z r).1) w:=by
 unfold MapS at hm;have hc:(Instr.checkKey es.isEmpty 10000 k (.string x)).run P w=.ok () w:=MapKept.run_checkKey (k:=(.string x)) hk (by simp [MapKept.IsKey]) _ 9999
 cases r with
 | none=>cases c <;> simp [Instr.lookup,run_underlying ht,MapKept.run_getObj_map hm,hc,MapKept.run_findKey hk hf,hz,Result.andThen,foundS]
 | some p=>cases c <;> simp [Instr.lookup,run_underlying ht,MapKept.run_getObj_map hm,hc,MapKept.run_findKey hk hf,Result.andThen,foundS]
end
end Go.Proofs.YtlkikjeccamheaaGreatDoor
namespace Go.Proofs.YtlkikjeccamheaaGreatDoor.Js
set_option linter.unusedSimpArgs false
set_option linter.unusedVariables false
set_option maxRecDepth 100000
set_option maxHeartbeats 4000000
open Go.RowKit
def keysOk:List Bs→List (Bs × Bs)→Bool
 | _,[]=>true
 | seen,k :: r=>decide (k.2.length=32) && decide (k.1=nameL k.2) && !(seen.contains k.1) && keysOk (seen++[k.1]) r
def headOk (D:Bs) (num:Int) (ks:List (Bs × Bs)):Bool:=domB D && decide (0≤num) && decide (num≤1099511627776) && decide (ks.length≤8)
def mayB (D:Bs) (num:Int) (ks:List (Bs × Bs)):Bool:=headOk D num ks && keysOk [] ks
def keysTo (ks:List (Bs × Bs)) (i:Nat):Prop:=keysOk [] ks=keysOk ((ks.take i).map (·.1)) (ks.drop i)
theorem qdN (ks:List (Bs × Bs)):keysTo ks 0:=rfl
theorem qdO {ks:List (Bs × Bs)} {i:Nat} (h:keysTo ks i) (hi:i<ks.length) (h1:ks[i].2.length=32) (h2:ks[i].1=nameL ks[i].2) (h3:ks[i].1 ∉ (ks.take i).map (·.1)):keysTo ks (i+1):=by
 unfold keysTo at h ⊢;rw [h,List.drop_eq_getElem_cons hi,List.take_succ_eq_append_getElem hi,List.map_append]
 conv=>lhs; unfold keysOk
 rw [decide_eq_true h1,decide_eq_true h2,show ((ks.take i).map (·.1)).contains ks[i].1=false by simpa using h3];rfl
theorem keysTo_no {ks:List (Bs × Bs)} {i:Nat} (h:keysTo ks i) (hi:i<ks.length) (hn:ks[i].2.length=32→ks[i].1=nameL ks[i].2→ks[i].1 ∈ (ks.take i).map (·.1)):keysOk [] ks=false:=by
 unfold keysTo at h;rw [h,List.drop_eq_getElem_cons hi];unfold keysOk
 by_cases h1:ks[i].2.length=32
 ·by_cases h2:ks[i].1=nameL ks[i].2
  ·have h3:=hn h1 h2;rw [show ((ks.take i).map (·.1)).contains ks[i].1=true by simpa using h3];simp
  ·simp [h2]
 ·simp [h1]
theorem keysTo_all {ks:List (Bs × Bs)} {i:Nat} (h:keysTo ks i) (hi:i=ks.length):keysOk [] ks=true:=by
 unfold keysTo at h;rw [h,hi,List.drop_length];rfl
def mapE (l:List Bs):Array MapEntry:=(l.mapIdx fun i s=>(⟨.string (bs s),.int .i64 1,i⟩:MapEntry)).toArray
theorem mapE_push (l:List Bs) (s:Bs):mapE (l++[s])=(mapE l).push ⟨.string (bs s),.int .i64 1,(mapE l).size⟩:=by
 unfold mapE;rw [List.mapIdx_concat];simp
theorem mapE_key (l:List Bs):∀ x ∈ (mapE l).toList,MapKept.IsKey .string x.key:=by
 intro x hx;simp only [mapE,List.mem_mapIdx] at hx;obtain ⟨i,hi,rfl⟩:=hx;trivial
theorem mapE_at {l:List Bs} {j:Nat} {e:MapEntry} (h:(mapE l).toList[j]?=some e):∃ s ∈ l,e.key=.string (bs s)∧e.val=.int .i64 1:=by
 simp only [mapE,List.getElem?_mapIdx,Option.map_eq_some_iff] at h;obtain ⟨s,hs,rfl⟩:=h;exact ⟨s,List.mem_of_getElem? hs,rfl,rfl⟩
theorem mapE_no {l:List Bs} {s:Bs} (h:s ∉ l):Instr.findNow .string (.string (bs s)) (mapE l).toList 0=some none:=by
 rcases MapKept.findNow_spec (d:=.string) (k:=.string (bs s)) trivial (mapE l).toList 0 (mapE_key l) with ⟨h1,_⟩ | ⟨j,e,_,h2,h3⟩
 ·exact h1
 ·obtain ⟨t,ht,hk,_⟩:=mapE_at h2;rw [hk] at h3
  injection h3 with h3
  exact absurd (bs_inj h3▸ht) h
theorem mapE_yes {l:List Bs} {s:Bs} (h:s ∈ l):∃ i,Instr.findNow .string (.string (bs s)) (mapE l).toList 0=some (some (i,.int .i64 1)):=by
 rcases MapKept.findNow_spec (d:=.string) (k:=.string (bs s)) trivial (mapE l).toList 0 (mapE_key l) with ⟨_,h2⟩ | ⟨j,e,h1,h2,h3⟩
 ·obtain ⟨i,hi,hs⟩:=List.getElem_of_mem h
  have:=h2 ⟨.string (bs s),.int .i64 1,i⟩ (by
   simp only [mapE,List.mem_mapIdx];exact ⟨i,hi,by rw [hs]⟩)
  exact absurd rfl this
 ·obtain ⟨t,ht,hk,hv⟩:=mapE_at h2;rw [hv] at h1;exact ⟨_,h1⟩
theorem qcg {w w':World} {g:Nat} {es:Array MapEntry} (h:MapS w g es) (hb:Below w.heap.size w w'):MapS w' g es:=(hb.block g h.lt).trans h
theorem qb2 {D:Bs} {num:Int} {ks:List (Bs × Bs)} (h:headOk D num ks=false):mayB D num ks=false:=by unfold mayB; rw [h]; rfl
set_option maxHeartbeats 8000000 in
theorem may_any (D:Bs) (num:Int) (ks:List (Bs × Bs)) (A:Option Addr) (c B:Nat) (w:World) (hr:Rd w B A (rowsV kCell ks)) (hB:B≤w.heap.size) (hD:((bs D).size:Int)≤100000000) (hl:(ks.length:Int)≤9223372036854775807)
  (hk:∀ k ∈ ks,(k.2.length:Int)≤9223372036854775807) (hG:Sh.TabG w) :
  Calls Tryz.prog 15 #[.agg (bC D num A ks.length c)] w fun e w'=>e=.returned (.bool (mayB D num ks))∧Below w.heap.size w w':=by
 obtain ⟨r,hrr⟩:=eX (mayB D num ks);rw [← hrr];have HRR:=zY hrr;clear hrr;obtain ⟨n,hn⟩:=eX (ks.length);rw [← hn] at hl ⊢;have HN:=zY hn;obtain ⟨W0,hW0⟩:=eX (w.alloc (.cells (bC D num A n c) 24));have HB0:=zY (show Below w.heap.size w W0 by rw [hW0]; exact (Below.refl _ w).alloc (Nat.le_refl _) _);have HK:=zY (show Blk W0 w.heap.size 24 (bC D num A n c) by rw [hW0]; exact Blk.new _ _ _);have HW0:=zY hW0;have HR:=zY hr;have HBB:=zY hB;have HKX:=zY hk;have HG:=zY hG;have HHD:=zY (show headOk D num ks=(domB D && decide (0≤num) && decide (num≤1099511627776) && decide (n≤8)) by rw [hn]; rfl);have C:=zY (domain_any (bs D) hD W0);rw [show (bs D).data.toList=D from by simp [bs]] at C;obtain ⟨d,hd⟩:=eX (domB D);rw [← hd] at C HHD;have a0:W0.cell? ⟨w.heap.size,0,none⟩=some (.string (bs D)):=HK.out.cell 0;clear hW0 hn hr hB hk hG hD hd;go_enter Tryz.func15,Tryz.ntmps15
 go_upto_region 1 with (fail)
 rw [show w.alloc (.cells (bC D num A n c) 24)=W0 from HW0.out.symm];generalize Value.agg (bC D num A n c)=AV
 cases d with
 | false =>
  have HNO:=zY (qb2 (HHD.out.trans (by rfl)));go_wp2_with (go_at_call 31; refine qaa C.out ?_; rintro e u1 ⟨rfl,hb1⟩; have HB1:=zY (HB0.out.trans (hb1.mono HB0.out.size)); clear hb1);go_ret;exact ⟨by rw [HRR.out,HNO.out]; rfl,HB1.out⟩
 | true =>
  go_wp2_with fail;refine qaa C.out ?_;rintro e u1 ⟨rfl,hb1⟩;have HK1:=zY (HK.out.below hb1 HK.out.lt);have HB1:=zY (HB0.out.trans (hb1.mono HB0.out.size));have a1:u1.cell? ⟨w.heap.size,1,none⟩=some (.int .i64 num):=HK1.out.cell 1;have a2:u1.cell? ⟨w.heap.size,2,none⟩=some (.slice A n c):=HK1.out.cell 2;clear a0 hb1
  by_cases hn0:num<0
  ·have HNO:=zY (qb2 (HHD.out.trans (by rw [decide_eq_false (show ¬ (0≤num) by omega)]; rfl)));go_wp2_with fail;go_ret;exact ⟨by rw [HRR.out,HNO.out]; rfl,HB1.out⟩
  by_cases hn1:1099511627776<num
  ·have HNO:=zY (qb2 (HHD.out.trans (by rw [decide_eq_false (show ¬ (num≤1099511627776) by omega)]; simp)));go_wp2_with fail;go_ret;exact ⟨by rw [HRR.out,HNO.out]; rfl,HB1.out⟩
  by_cases hn8:8<(n:Int)
  ·have HNO:=zY (qb2 (HHD.out.trans (by rw [decide_eq_false (show ¬ (n≤8) by omega)]; simp)));go_wp2_with fail;go_ret;exact ⟨by rw [HRR.out,HNO.out]; rfl,HB1.out⟩
  have HHO:=zY (show mayB D num ks=keysOk [] ks by
   unfold mayB;rw [HHD.out,decide_eq_true (show 0≤num by omega),decide_eq_true (show num≤1099511627776 by omega),decide_eq_true (show n≤8 by omega)]
   rfl)
  have hmm:=@run_makeMap Tryz.prog
  go_upto_region 4 with (fail)
  obtain ⟨g,hg⟩:=eX (u1.heap.size);have HGE:=zY (show w.heap.size<g by rw [hg]; exact HK1.out.lt);have HGU:=zY (show u1.heap.size=g from hg.symm);have hb2:Below w.heap.size w (u1.alloc (.map #[] 0)):=HB1.out.alloc HB1.out.size _;have hm2:MapS (u1.alloc (.map #[] 0)) g (mapE []):=by rw [hg]; exact MapS.new u1
  have hd2:(u1.alloc (.map #[] 0)).cell? ⟨w.heap.size,2,none⟩=some (.slice A n c):=(HK1.out.alloc _).cell 2;obtain ⟨W2,hW2⟩:=eX (u1.alloc (.map #[] 0));rw [← hW2] at hb2 hm2 hd2;rw [← hg,← hW2];have HB2:=zY hb2;have HM2:=zY hm2;clear hW2 hb2 hm2 hg a1 a2 hmm;have hn8':(n:Int)≤8:=by omega
  clear hn8 hn0 hn1 hl;go_wp2_with fail
  go_loopw [30] (fun x wr=>∃ i:Nat,i≤n∧x=.int .i64 (i:Int)∧keysTo ks i∧Below w.heap.size w wr∧MapS wr g (mapE ((ks.take i).map (·.1)))) (fun x _=>n - (intOf x).toNat)
  case atStart=>exact ⟨0,Nat.zero_le _,rfl,qdN ks,HB2.out,HM2.out⟩
  case round =>
   obtain ⟨i,hi,rfl,hto,hbw,hmp⟩:=hrel;have HTO:=zY hto;have HBW:=zY hbw;have HMP:=zY hmp;clear hto hbw hmp
   by_cases hlt:i<n
   ·have huj:=Tryz.underlying38;have hil:i<ks.length:=by rw [← HN.out]; exact hlt
    have hlt':(i:Int)<(n:Int):=by omega
    obtain ⟨ad,hA,hadb,hcell⟩:=qaO (f:=kCell) (m:=2) (fun _=>rfl) (by decide) (HR.out.below (HBW.out.mono HBB.out)) hil;subst hA;obtain ⟨X,hX⟩:=eX (ks[i]);rw [← hX] at hcell;have HX:=zY (show ∃ h:i<ks.length,X=ks[i] from ⟨hil,hX⟩);have HCL:=zY (show ∀ j u,(kCell X).toList[j]?=some u→wr.cell? ((ad.add (i*2)).add j)=some u from fun j u hu=>hcell j u (by simpa using hu));have HKL:=zY (HKX.out X (by rw [hX]; exact List.getElem_mem hil));have HLT:=zY hlt
    have HNK:=zY (fun (hno:X.2.length=32→X.1=nameL X.2→X.1 ∈ (ks.take i).map (·.1))=>show mayB D num ks=false by
     rw [HHO.out];exact keysTo_no HTO.out hil (by rw [← hX]; exact hno))
    have HYK:=zY (fun (h1:X.2.length=32) (h2:X.1=nameL X.2) (h3:X.1 ∉ (ks.take i).map (·.1))=>show keysTo ks (i+1)∧(ks.take (i+1)).map (·.1)=(ks.take i).map (·.1)++[X.1] from
     ⟨qdO HTO.out hil (by rw [← hX]; exact h1) (by rw [← hX]; exact h2) (by rw [← hX]; exact h3),by rw [List.take_succ_eq_append_getElem hil,List.map_append,hX]; rfl⟩)
    obtain ⟨N,hN⟩:=eX ((ks.take i).map (·.1));rw [← hN] at HNK HYK HMP;clear hX hcell hadb hil hlt hN
    go_upto_region 7 with (first
     | refine qaA (r:=(kCell X).toList) HCL.out rfl rfl rfl huj rfl qbR ?_
     | (refine qac (cells:=kCell X) (Blk.new _ _ _) rfl rfl rfl rfl qbR rfl (qdR X) ?_; intro w5 hb5 hw5))
    have HK5:=zY hb5;have hbw5:Below wr.heap.size wr w5:=qaz hw5;have HM5:=zY (qcg HMP.out hbw5);have HB5:=zY (HBW.out.trans (hbw5.mono HBW.out.size));have HGT:=zY (fun (u:World) (hu:Below w5.heap.size w5 u)=>show Sh.TabG u from HG.out.below (HB5.out.trans (hu.mono HB5.out.size)) HG.out.size);have hc1:w5.cell? ⟨wr.heap.size,1,none⟩=some (.string (bs X.2)):=hb5.cell 1;have hs0:((bs X.2).size:Int)=(X.2.length:Int):=by rw [qay]
    clear hb5 hw5 hbw5
    by_cases h32:X.2.length=32
    ·have HS32:=zY (show (bs X.2).size=32 by rw [qay,h32]);have HSZ:=zY (show ((bs X.2).size:Int)=32 by rw [hs0,h32]; rfl)
     have HNA:=zY (show ∀ A c u,Rd u u.heap.size A (bytesV X.2)→32≤c→c≤9223372036854775807→Sh.TabG u→Calls Tryz.prog 32 #[.slice A 32 c] u (fun e w'=>e=.returned (.string (bs (nameL X.2)))∧Below u.heap.size u w') from
      fun A c u h1 h2 h3 h4=>by have h:=jname_any X.2 (by omega) A c u h1 (by omega) h3 h4; rw [h32] at h; exact h)
     have hus:=Tryz.underlying9;have hub8:=Tryz.underlying40;have hu8:=Tryz.underlying5;have HC0:Below w5.heap.size w5 w5.drew:=(Below.refl _ _).drew;have H32:=zY h32;clear hs0 h32 hc1
     by_cases hkn:X.1=nameL X.2
     ·have HQ:=zY (show ((bs X.1).toList == (bs (nameL X.2)).toList)=true by rw [qat,qat]; simpa using hkn)
      obtain ⟨m,hlk0,hmm⟩:∃ m:Int,(∀ u,Below w5.heap.size w5 u→(Instr.lookup 61 (.map (some g)) (.string (bs X.1)) false).run Tryz.prog u=.ok (.int .i64 m) u)∧((m=0∧X.1 ∉ N)∨(m=1∧X.1 ∈ N)):=by
       have ht:=Tryz.underlying61;have hz:∀ u:World,(zeroValue 3).run Tryz.prog u=.ok (.int .i64 0) u:=fun u=>by first | rfl | (simp; done) | kernel_rfl
       by_cases hx:X.1 ∈ N
       ·obtain ⟨q,hq⟩:=mapE_yes hx;exact ⟨1,fun u hu=>qdu false ht hus (qcg HM5.out hu) hq (hz u),.inr ⟨rfl,hx⟩⟩
       ·exact ⟨0,fun u hu=>qdu false ht hus (qcg HM5.out hu) (mapE_no hx) (hz u),.inl ⟨rfl,hx⟩⟩
      have HLK:=zY hlk0;have HMM:=zY hmm;clear hlk0 hmm;have HKN:=zY hkn;clear hkn
      refine qas (fun u=>Below w5.heap.size w5 u) (fun | false=>(fun _=>True) | true=>(fun _=>True)) (fun | false,_=>false | true,_=>false)
       [fun z _=>z 0=.pointer (some ⟨wr.heap.size,1,none⟩),
        fun z _=>z 1=.string (bs X.2),
        fun z _=>z 2=.int .i64 32,
        fun z _=>z 3=.bool false,
        fun z _=>z 4=.bool false,
        fun z _=>z 5=.pointer (some ⟨wr.heap.size,0,none⟩),
        fun z _=>z 6=.string (bs X.1),
        fun z _=>z 7=.pointer (some ⟨wr.heap.size,1,none⟩),
        fun z _=>z 8=.string (bs X.2),
        fun z u=>(fun v u=>∃ A c,v=.slice A 32 c∧Rd u u.heap.size A (bytesV X.2)∧32≤c∧c≤9223372036854775807) (z 9) u,
        fun z _=>z 10=.string (bs (nameL X.2)),
        fun z _=>z 11=.bool false,
        fun z _=>z 12=.bool false,
        fun z _=>z 13=.bool false,
        fun z _=>z 14=.map (some g),
        fun z _=>z 15=.pointer (some ⟨wr.heap.size,0,none⟩),
        fun z _=>z 16=.string (bs X.1),
        fun z _=>z 17=.int .i64 m,
        fun z _=>z 18=.bool (decide (0<m)),
        fun z _=>z 19=.bool (decide (0<m))]
       [Eq,Eq,Eq,Eq,Eq,Eq,Eq,Eq,Eq,fun u u'=>Below u.heap.size u u',fun u u'=>Below u.heap.size u u',Eq,Eq,Eq,Eq,Eq,Eq,Eq,Eq,Eq]
       (fun _ _=>false) [(0,some 34),(1,some 35),(2,some 36),(3,some 37),(4,some 38),(5,some 39),(6,some 40),(7,some 41),(8,some 42),(9,some 43),(10,some 44),(11,some 45),(12,some 46),(13,some 47),(14,some 48),(15,some 49),(16,some 50),(17,some 51),(18,some 52),(19,some 53)] (by kernel_rfl) (by kernel_rfl) rfl (fun _=>rfl) ?_ ?_ ?_ ?_ ?_ ?_
      ·exact HC0
      ·intro m; cases m; exact trivial; exact trivial
      ·intro m; cases m
       ·refine ⟨?_,?_,?_,?_,?_,?_,?_,?_,?_,?_,?_,?_,?_,?_,?_,?_,?_,?_,?_,?_,trivial⟩ <;> first | exact .inr fun _ _ h h0=>h▸h0 | exact .inr fun _ _ _ h=>h
       ·refine ⟨?_,?_,?_,?_,?_,?_,?_,?_,?_,?_,?_,?_,?_,?_,?_,?_,?_,?_,?_,?_,trivial⟩ <;> first | exact .inr fun _ _ h h0=>h▸h0 | exact .inr fun _ _ _ h=>h
      ·refine ⟨⟨.inl rfl,?_,?_,?_,?_,?_,?_,?_,?_,?_,?_,?_,?_,?_,?_,?_,?_,?_,?_,?_,trivial⟩,⟨?_,.inl rfl,?_,?_,?_,?_,?_,?_,?_,?_,?_,?_,?_,?_,?_,?_,?_,?_,?_,?_,trivial⟩,⟨?_,?_,.inl rfl,?_,?_,?_,?_,?_,?_,?_,?_,?_,?_,?_,?_,?_,?_,?_,?_,?_,trivial⟩,⟨?_,?_,?_,.inl rfl,?_,?_,?_,?_,?_,?_,?_,?_,?_,?_,?_,?_,?_,?_,?_,?_,trivial⟩,⟨?_,?_,?_,?_,.inl rfl,?_,?_,?_,?_,?_,?_,?_,?_,?_,?_,?_,?_,?_,?_,?_,trivial⟩,⟨?_,?_,?_,?_,?_,.inl rfl,?_,?_,?_,?_,?_,?_,?_,?_,?_,?_,?_,?_,?_,?_,trivial⟩,⟨?_,?_,?_,?_,?_,?_,.inl rfl,?_,?_,?_,?_,?_,?_,?_,?_,?_,?_,?_,?_,?_,trivial⟩,⟨?_,?_,?_,?_,?_,?_,?_,.inl rfl,?_,?_,?_,?_,?_,?_,?_,?_,?_,?_,?_,?_,trivial⟩,⟨?_,?_,?_,?_,?_,?_,?_,?_,.inl rfl,?_,?_,?_,?_,?_,?_,?_,?_,?_,?_,?_,trivial⟩,⟨?_,?_,?_,?_,?_,?_,?_,?_,?_,.inl rfl,?_,?_,?_,?_,?_,?_,?_,?_,?_,?_,trivial⟩,⟨?_,?_,?_,?_,?_,?_,?_,?_,?_,.inr (.inr (.inr (fun _ _ _ _ h h0=>by obtain ⟨A0,c0,h1,h2,h3⟩:=h0; exact ⟨A0,c0,h1,(h2.below h).mono h.size,h3⟩))),.inl rfl,?_,?_,?_,?_,?_,?_,?_,?_,?_,trivial⟩,⟨?_,?_,?_,?_,?_,?_,?_,?_,?_,?_,?_,.inl rfl,?_,?_,?_,?_,?_,?_,?_,?_,trivial⟩,⟨?_,?_,?_,?_,?_,?_,?_,?_,?_,?_,?_,?_,.inl rfl,?_,?_,?_,?_,?_,?_,?_,trivial⟩,⟨?_,?_,?_,?_,?_,?_,?_,?_,?_,?_,?_,?_,?_,.inl rfl,?_,?_,?_,?_,?_,?_,trivial⟩,⟨?_,?_,?_,?_,?_,?_,?_,?_,?_,?_,?_,?_,?_,?_,.inl rfl,?_,?_,?_,?_,?_,trivial⟩,⟨?_,?_,?_,?_,?_,?_,?_,?_,?_,?_,?_,?_,?_,?_,?_,.inl rfl,?_,?_,?_,?_,trivial⟩,⟨?_,?_,?_,?_,?_,?_,?_,?_,?_,?_,?_,?_,?_,?_,?_,?_,.inl rfl,?_,?_,?_,trivial⟩,⟨?_,?_,?_,?_,?_,?_,?_,?_,?_,?_,?_,?_,?_,?_,?_,?_,?_,.inl rfl,?_,?_,trivial⟩,⟨?_,?_,?_,?_,?_,?_,?_,?_,?_,?_,?_,?_,?_,?_,?_,?_,?_,?_,.inl rfl,?_,trivial⟩,⟨?_,?_,?_,?_,?_,?_,?_,?_,?_,?_,?_,?_,?_,?_,?_,?_,?_,?_,?_,.inl rfl,trivial⟩,trivial⟩ <;> first | exact .inr (.inr (.inl rfl)) | exact .inr (.inr (.inr fun _ _ _ _ _ h=>h)) | exact .inr (.inr (.inr fun _ _ _ _ h h0=>by cases h; exact h0))
      ·refine ⟨?_,?_,?_,?_,?_,?_,?_,?_,?_,?_,?_,?_,?_,?_,?_,?_,?_,?_,?_,?_,trivial⟩
       ·refine qab [] (fun _=>rfl) rfl ?_;intro w1 vals hC1 hi0 hf E hE;clear hi0;clear hf;simp only [sP] at hE ⊢;go_wp2;exact .mk (hE _ _ rfl hC1 rfl)
       ·refine qab [(0,some 34)] (fun _=>rfl) rfl ?_;intro w1 vals hC1 hi0 hf E hE;clear hi0;have f0:vals 0=_:=hf 0 rfl
        try dsimp only at f0
        clear hf;simp only [sP,f0] at hE ⊢;clear f0;have d0:=(HK5.out.below hC1 HK5.out.lt).cell 1;simp only [kCell,List.getElem?_toArray,List.getElem?_cons_zero,List.getElem?_cons_succ] at d0;go_wp2;exact .mk (hE _ _ rfl hC1 rfl)
       ·refine qab [(1,some 35)] (fun _=>rfl) rfl ?_;intro w1 vals hC1 hi0 hf E hE;clear hi0;have f1:vals 1=_:=hf 1 rfl
        try dsimp only at f1
        clear hf;simp only [sP,f1] at hE ⊢;clear f1;have hsz:=HSZ.out;go_wp2;exact .mk (hE _ _ rfl hC1 rfl)
       ·refine qab [(2,some 36)] (fun _=>rfl) rfl ?_;intro w1 vals hC1 hi0 hf E hE;clear hi0;have f2:vals 2=_:=hf 2 rfl
        try dsimp only at f2
        clear hf;simp only [sP,f2] at hE ⊢;clear f2;go_wp2;exact .mk (hE _ _ rfl hC1 rfl)
       ·refine qab [(3,some 37)] (fun _=>rfl) rfl ?_;intro w1 vals hC1 hi0 hf E hE;clear hi0;have f3:vals 3=_:=hf 3 rfl
        try dsimp only at f3
        clear hf;simp only [sP,f3] at hE ⊢;clear f3;go_wp2;exact .mk (hE _ _ rfl hC1 rfl)
       ·refine qao [(4,some 38)] (fun _=>rfl) 4 38 false rfl rfl ?_ ?_
        ·intro w1 vals hC1 hi0 hf hy E hE;dsimp only at hE ⊢;clear hi0;have f4:vals 4=_:=hf 4 rfl
         try dsimp only at f4
         clear hf;clear hy;simp only [sP,f4] at hE ⊢;clear f4;go_wp2;exact .mk (hE _ _ rfl hC1 rfl)
        ·intro w1 vals hC1 hi0 hf hy;clear hi0;have f4:vals 4=_:=hf 4 rfl
         try dsimp only at f4
         clear hf;exact absurd (by simp only [sP,f4]; rfl) hy
       ·refine qao [(5,some 39),(4,some 38)] (fun _=>rfl) 4 38 false rfl rfl ?_ ?_
        ·intro w1 vals hC1 hi0 hf hy E hE;dsimp only at hE ⊢;clear hi0;have f4:vals 4=_:=hf 4 rfl;have f5:vals 5=_:=hf 5 rfl
         try dsimp only at f4 f5
         clear hf;clear hy;simp only [sP,f4,f5] at hE ⊢;clear f4 f5;have d0:=(HK5.out.below hC1 HK5.out.lt).cell 0;simp only [kCell,List.getElem?_toArray,List.getElem?_cons_zero,List.getElem?_cons_succ] at d0;go_wp2;exact .mk (hE _ _ rfl hC1 rfl)
        ·intro w1 vals hC1 hi0 hf hy;clear hi0;have f4:vals 4=_:=hf 4 rfl;have f5:vals 5=_:=hf 5 rfl
         try dsimp only at f4 f5
         clear hf;exact absurd (by simp only [sP,f4]; rfl) hy
       ·refine qao [(4,some 38)] (fun _=>rfl) 4 38 false rfl rfl ?_ ?_
        ·intro w1 vals hC1 hi0 hf hy E hE;dsimp only at hE ⊢;clear hi0;have f4:vals 4=_:=hf 4 rfl
         try dsimp only at f4
         clear hf;clear hy;simp only [sP,f4] at hE ⊢;clear f4;go_wp2;exact .mk (hE _ _ rfl hC1 rfl)
        ·intro w1 vals hC1 hi0 hf hy;clear hi0;have f4:vals 4=_:=hf 4 rfl
         try dsimp only at f4
         clear hf;exact absurd (by simp only [sP,f4]; rfl) hy
       ·refine qao [(7,some 41),(4,some 38)] (fun _=>rfl) 4 38 false rfl rfl ?_ ?_
        ·intro w1 vals hC1 hi0 hf hy E hE;dsimp only at hE ⊢;clear hi0;have f4:vals 4=_:=hf 4 rfl;have f7:vals 7=_:=hf 7 rfl
         try dsimp only at f4 f7
         clear hf;clear hy;simp only [sP,f4,f7] at hE ⊢;clear f4 f7;have d0:=(HK5.out.below hC1 HK5.out.lt).cell 1;simp only [kCell,List.getElem?_toArray,List.getElem?_cons_zero,List.getElem?_cons_succ] at d0;go_wp2;exact .mk (hE _ _ rfl hC1 rfl)
        ·intro w1 vals hC1 hi0 hf hy;clear hi0;have f4:vals 4=_:=hf 4 rfl;have f7:vals 7=_:=hf 7 rfl
         try dsimp only at f4 f7
         clear hf;exact absurd (by simp only [sP,f4]; rfl) hy
       ·refine qao [(8,some 42),(4,some 38)] (fun _=>rfl) 4 38 false rfl rfl ?_ ?_
        ·intro w1 vals hC1 hi0 hf hy E hE;dsimp only at hE ⊢;clear hi0;have f4:vals 4=_:=hf 4 rfl;have f8:vals 8=_:=hf 8 rfl
         try dsimp only at f4 f8
         clear hf;clear hy;simp only [sP,f4,f8] at hE ⊢;clear f4 f8;refine qaW (s:=bs X.2) hus hub8 hu8 rfl rfl rfl (by rw [HS32.out]; decide) ?_;intro c7 w7 hr7 hc7 hm7 hb7;rw [HS32.out] at hc7 ⊢;go_wp2_with fail;exact .mk (hE _ _ ⟨_,c7,rfl,hr7,hc7,hm7⟩ (hC1.trans (hb7.mono hC1.size)) hb7)
        ·intro w1 vals hC1 hi0 hf hy;clear hi0;have f4:vals 4=_:=hf 4 rfl;have f8:vals 8=_:=hf 8 rfl
         try dsimp only at f4 f8
         clear hf;exact absurd (by simp only [sP,f4]; rfl) hy
       ·refine qao [(9,some 43),(4,some 38),(4,some 38)] (fun _=>rfl) 4 38 false rfl rfl ?_ ?_
        ·intro w1 vals hC1 hi0 hf hy E hE;dsimp only at hE ⊢;clear hi0;have f4:vals 4=_:=hf 4 rfl;have f9:(fun v u=>∃ A c,v=.slice A 32 c∧Rd u u.heap.size A (bytesV X.2)∧32≤c∧c≤9223372036854775807) (vals 9) w1:=hf 9 rfl
         try dsimp only at f4 f9
         clear hf;clear hy;obtain ⟨A9,c9,hx9,hr9,hc9,hm9⟩:=f9;simp only [sP,f4,hx9] at hE ⊢;clear f4;clear hx9;go_wp2_with fail;refine qaa (HNA.out A9 c9 _ hr9 hc9 hm9 (HGT.out _ hC1)) ?_;rintro e w2 ⟨rfl,hb2⟩;go_wp2_with fail;exact .mk (hE _ _ rfl (hC1.trans (hb2.mono hC1.size)) hb2)
        ·intro w1 vals hC1 hi0 hf hy;clear hi0;have f4:vals 4=_:=hf 4 rfl;have f9:(fun v u=>∃ A c,v=.slice A 32 c∧Rd u u.heap.size A (bytesV X.2)∧32≤c∧c≤9223372036854775807) (vals 9) w1:=hf 9 rfl
         try dsimp only at f4 f9
         clear hf;exact absurd (by simp only [sP,f4]; rfl) hy
       ·refine qao [(6,some 40),(10,some 44),(4,some 38)] (fun _=>rfl) 4 38 false rfl rfl ?_ ?_
        ·intro w1 vals hC1 hi0 hf hy E hE;dsimp only at hE ⊢;clear hi0;have f4:vals 4=_:=hf 4 rfl;have f6:vals 6=_:=hf 6 rfl;have f10:vals 10=_:=hf 10 rfl
         try dsimp only at f4 f6 f10
         clear hf;clear hy;simp only [sP,f4,f6,f10] at hE ⊢;clear f4 f6 f10;have hq:=HQ.out;go_wp2;exact .mk (hE _ _ rfl hC1 rfl)
        ·intro w1 vals hC1 hi0 hf hy;clear hi0;have f4:vals 4=_:=hf 4 rfl;have f6:vals 6=_:=hf 6 rfl;have f10:vals 10=_:=hf 10 rfl
         try dsimp only at f4 f6 f10
         clear hf;exact absurd (by simp only [sP,f4]; rfl) hy
       ·refine qab [(4,some 38),(11,some 45)] (fun _=>rfl) rfl ?_;intro w1 vals hC1 hi0 hf E hE;clear hi0;have f4:vals 4=_:=hf 4 rfl;have f11:vals 11=_:=hf 11 rfl
        try dsimp only at f4 f11
        clear hf;simp only [sP,f4,f11] at hE ⊢;clear f4 f11;go_wp2;exact .mk (hE _ _ rfl hC1 rfl)
       ·refine qab [(12,some 46),(10,some 44)] (fun _=>rfl) rfl ?_;intro w1 vals hC1 hi0 hf E hE;clear hi0;have f10:vals 10=_:=hf 10 rfl;have f12:vals 12=_:=hf 12 rfl
        try dsimp only at f10 f12
        clear hf;simp only [sP,f10,f12] at hE ⊢;clear f10 f12;go_wp2;exact .mk (hE _ _ rfl hC1 rfl)
       ·refine qao [(13,some 47)] (fun _=>rfl) 13 47 false rfl rfl ?_ ?_
        ·intro w1 vals hC1 hi0 hf hy E hE;dsimp only at hE ⊢;clear hi0;have f13:vals 13=_:=hf 13 rfl
         try dsimp only at f13
         clear hf;clear hy;simp only [sP,f13] at hE ⊢;clear f13;go_wp2;exact .mk (hE _ _ rfl hC1 rfl)
        ·intro w1 vals hC1 hi0 hf hy;clear hi0;have f13:vals 13=_:=hf 13 rfl
         try dsimp only at f13
         clear hf;exact absurd (by simp only [sP,f13]; rfl) hy
       ·refine qao [(13,some 47)] (fun _=>rfl) 13 47 false rfl rfl ?_ ?_
        ·intro w1 vals hC1 hi0 hf hy E hE;dsimp only at hE ⊢;clear hi0;have f13:vals 13=_:=hf 13 rfl
         try dsimp only at f13
         clear hf;clear hy;simp only [sP,f13] at hE ⊢;clear f13;go_wp2;exact .mk (hE _ _ rfl hC1 rfl)
        ·intro w1 vals hC1 hi0 hf hy;clear hi0;have f13:vals 13=_:=hf 13 rfl
         try dsimp only at f13
         clear hf;exact absurd (by simp only [sP,f13]; rfl) hy
       ·refine qao [(15,some 49),(13,some 47)] (fun _=>rfl) 13 47 false rfl rfl ?_ ?_
        ·intro w1 vals hC1 hi0 hf hy E hE;dsimp only at hE ⊢;clear hi0;have f13:vals 13=_:=hf 13 rfl;have f15:vals 15=_:=hf 15 rfl
         try dsimp only at f13 f15
         clear hf;clear hy;simp only [sP,f13,f15] at hE ⊢;clear f13 f15;have d0:=(HK5.out.below hC1 HK5.out.lt).cell 0;simp only [kCell,List.getElem?_toArray,List.getElem?_cons_zero,List.getElem?_cons_succ] at d0;go_wp2;exact .mk (hE _ _ rfl hC1 rfl)
        ·intro w1 vals hC1 hi0 hf hy;clear hi0;have f13:vals 13=_:=hf 13 rfl;have f15:vals 15=_:=hf 15 rfl
         try dsimp only at f13 f15
         clear hf;exact absurd (by simp only [sP,f13]; rfl) hy
       ·refine qao [(14,some 48),(16,some 50),(13,some 47)] (fun _=>rfl) 13 47 false rfl rfl ?_ ?_
        ·intro w1 vals hC1 hi0 hf hy E hE;dsimp only at hE ⊢;clear hi0;have f13:vals 13=_:=hf 13 rfl;have f14:vals 14=_:=hf 14 rfl;have f16:vals 16=_:=hf 16 rfl
         try dsimp only at f13 f14 f16
         clear hf;clear hy;simp only [sP,f13,f14,f16] at hE ⊢;clear f13 f14 f16;have hlk:=HLK.out _ hC1;go_wp2;exact .mk (hE _ _ rfl hC1 rfl)
        ·intro w1 vals hC1 hi0 hf hy;clear hi0;have f13:vals 13=_:=hf 13 rfl;have f14:vals 14=_:=hf 14 rfl;have f16:vals 16=_:=hf 16 rfl
         try dsimp only at f13 f14 f16
         clear hf;exact absurd (by simp only [sP,f13]; rfl) hy
       ·refine qao [(17,some 51),(13,some 47)] (fun _=>rfl) 13 47 false rfl rfl ?_ ?_
        ·intro w1 vals hC1 hi0 hf hy E hE;dsimp only at hE ⊢;clear hi0;have f13:vals 13=_:=hf 13 rfl;have f17:vals 17=_:=hf 17 rfl
         try dsimp only at f13 f17
         clear hf;clear hy;simp only [sP,f13,f17] at hE ⊢;clear f13 f17;go_wp2;exact .mk (hE _ _ rfl hC1 rfl)
        ·intro w1 vals hC1 hi0 hf hy;clear hi0;have f13:vals 13=_:=hf 13 rfl;have f17:vals 17=_:=hf 17 rfl
         try dsimp only at f13 f17
         clear hf;exact absurd (by simp only [sP,f13]; rfl) hy
       ·refine qab [(13,some 47),(18,some 52)] (fun _=>rfl) rfl ?_;intro w1 vals hC1 hi0 hf E hE;clear hi0;have f13:vals 13=_:=hf 13 rfl;have f18:vals 18=_:=hf 18 rfl
        try dsimp only at f13 f18
        clear hf;simp only [sP,f13,f18] at hE ⊢;clear f13 f18;go_wp2;exact .mk (hE _ _ rfl hC1 rfl)
      intro w1 vals hC1 hf;have f0:vals 0=_:=hf 0 (by decide) rfl;have f1:vals 1=_:=hf 1 (by decide) rfl;have f2:vals 2=_:=hf 2 (by decide) rfl;have f3:vals 3=_:=hf 3 (by decide) rfl;have f4:vals 4=_:=hf 4 (by decide) rfl;have f5:vals 5=_:=hf 5 (by decide) rfl;have f6:vals 6=_:=hf 6 (by decide) rfl;have f7:vals 7=_:=hf 7 (by decide) rfl;have f8:vals 8=_:=hf 8 (by decide) rfl;have f9:(fun v u=>∃ A c,v=.slice A 32 c∧Rd u u.heap.size A (bytesV X.2)∧32≤c∧c≤9223372036854775807) (vals 9) w1:=hf 9 (by decide) rfl;have f10:vals 10=_:=hf 10 (by decide) rfl;have f11:vals 11=_:=hf 11 (by decide) rfl;have f12:vals 12=_:=hf 12 (by decide) rfl;have f13:vals 13=_:=hf 13 (by decide) rfl;have f14:vals 14=_:=hf 14 (by decide) rfl;have f15:vals 15=_:=hf 15 (by decide) rfl;have f16:vals 16=_:=hf 16 (by decide) rfl;have f17:vals 17=_:=hf 17 (by decide) rfl;have f18:vals 18=_:=hf 18 (by decide) rfl;have f19:vals 19=_:=hf 19 (by decide) rfl
      try dsimp only at f0 f1 f2 f3 f4 f5 f6 f7 f8 f9 f10 f11 f12 f13 f14 f15 f16 f17 f18 f19
      clear hf;simp only [sP,f0,f1,f2,f3,f4,f5,f6,f7,f8,f10,f11,f12,f13,f14,f15,f16,f17,f18,f19];clear f0 f1 f2 f3 f4 f5 f6 f7 f8 f10 f11 f12 f13 f14 f15 f16 f17 f18 f19;generalize vals 9=x9 at *;have HB6:=zY (HB5.out.trans (hC1.mono HB5.out.size));have HC6:=zY hC1;have hM6:=qcg HM5.out hC1;have a0:w1.cell? ⟨wr.heap.size,0,none⟩=some (.string (bs X.1)):=(HK5.out.below hC1 HK5.out.lt).cell 0;have hlk:=HLK.out _ hC1;clear hC1 HC0
      rcases HMM.out with ⟨rfl,hx⟩ | ⟨rfl,hx⟩
      ·obtain ⟨hto2,htk⟩:=HYK.out H32.out HKN.out hx;have HTO2:=zY hto2;have HTK:=zY htk;obtain ⟨w6,hr6,hm6,hg6⟩:=run_insertS (P:=Tryz.prog) (v:=.int .i64 1) Tryz.underlying61 hus hM6 (mapE_no hx);have HM6:=zY hm6;have HG6:=zY hg6;clear hto2 htk hx hM6 hm6 hg6;go_wp2_with fail
       go_roundw
       case rel=>exact ⟨i+1,HLT.out,by go_num,HTO2.out,HB6.out.grown HG6.out (by have:=HB6.out.size; omega) (fun k hk=>by injection hk with hk; have:=HGE.out; omega),by rw [HTK.out,mapE_push]; exact HM6.out⟩
       case measure=>have:=HLT.out; simp [intOf]; omega
      ·have HNO:=zY (HNK.out fun _ _=>hx);clear hx hM6;go_wp2_with fail;go_ret;exact ⟨by rw [HRR.out,HNO.out]; rfl,HB6.out⟩
     ·have HQ:=zY (show ((bs X.1).toList == (bs (nameL X.2)).toList)=false by rw [qat,qat]; simpa using hkn);have HNO:=zY (HNK.out fun _ h=>absurd h hkn);clear hkn
      refine qas (fun u=>Below w5.heap.size w5 u) (fun | false=>(fun _=>True) | true=>(fun _=>True)) (fun | false,_=>false | true,_=>false)
       [fun z _=>z 0=.pointer (some ⟨wr.heap.size,1,none⟩),
        fun z _=>z 1=.string (bs X.2),
        fun z _=>z 2=.int .i64 32,
        fun z _=>z 3=.bool false,
        fun z _=>z 4=.bool false,
        fun z _=>z 5=.pointer (some ⟨wr.heap.size,0,none⟩),
        fun z _=>z 6=.string (bs X.1),
        fun z _=>z 7=.pointer (some ⟨wr.heap.size,1,none⟩),
        fun z _=>z 8=.string (bs X.2),
        fun z u=>(fun v u=>∃ A c,v=.slice A 32 c∧Rd u u.heap.size A (bytesV X.2)∧32≤c∧c≤9223372036854775807) (z 9) u,
        fun z _=>z 10=.string (bs (nameL X.2)),
        fun z _=>z 11=.bool true,
        fun z _=>z 12=.bool true,
        fun z _=>z 13=.bool true,
        fun _ _=>True,
        fun _ _=>True,
        fun _ _=>True,
        fun _ _=>True,
        fun _ _=>True,
        fun z _=>z 19=.bool true]
       [Eq,Eq,Eq,Eq,Eq,Eq,Eq,Eq,Eq,fun u u'=>Below u.heap.size u u',fun u u'=>Below u.heap.size u u',Eq,Eq,Eq,Eq,Eq,Eq,Eq,Eq,Eq]
       (fun _ _=>false) [(0,some 34),(1,some 35),(2,some 36),(3,some 37),(4,some 38),(5,some 39),(6,some 40),(7,some 41),(8,some 42),(9,some 43),(10,some 44),(11,some 45),(12,some 46),(13,some 47),(14,some 48),(15,some 49),(16,some 50),(17,some 51),(18,some 52),(19,some 53)] (by kernel_rfl) (by kernel_rfl) rfl (fun _=>rfl) ?_ ?_ ?_ ?_ ?_ ?_
      ·exact HC0
      ·intro m; cases m; exact trivial; exact trivial
      ·intro m; cases m
       ·refine ⟨?_,?_,?_,?_,?_,?_,?_,?_,?_,?_,?_,?_,?_,?_,?_,?_,?_,?_,?_,?_,trivial⟩ <;> first | exact .inr fun _ _ h h0=>h▸h0 | exact .inr fun _ _ _ h=>h
       ·refine ⟨?_,?_,?_,?_,?_,?_,?_,?_,?_,?_,?_,?_,?_,?_,?_,?_,?_,?_,?_,?_,trivial⟩ <;> first | exact .inr fun _ _ h h0=>h▸h0 | exact .inr fun _ _ _ h=>h
      ·refine ⟨⟨.inl rfl,?_,?_,?_,?_,?_,?_,?_,?_,?_,?_,?_,?_,?_,?_,?_,?_,?_,?_,?_,trivial⟩,⟨?_,.inl rfl,?_,?_,?_,?_,?_,?_,?_,?_,?_,?_,?_,?_,?_,?_,?_,?_,?_,?_,trivial⟩,⟨?_,?_,.inl rfl,?_,?_,?_,?_,?_,?_,?_,?_,?_,?_,?_,?_,?_,?_,?_,?_,?_,trivial⟩,⟨?_,?_,?_,.inl rfl,?_,?_,?_,?_,?_,?_,?_,?_,?_,?_,?_,?_,?_,?_,?_,?_,trivial⟩,⟨?_,?_,?_,?_,.inl rfl,?_,?_,?_,?_,?_,?_,?_,?_,?_,?_,?_,?_,?_,?_,?_,trivial⟩,⟨?_,?_,?_,?_,?_,.inl rfl,?_,?_,?_,?_,?_,?_,?_,?_,?_,?_,?_,?_,?_,?_,trivial⟩,⟨?_,?_,?_,?_,?_,?_,.inl rfl,?_,?_,?_,?_,?_,?_,?_,?_,?_,?_,?_,?_,?_,trivial⟩,⟨?_,?_,?_,?_,?_,?_,?_,.inl rfl,?_,?_,?_,?_,?_,?_,?_,?_,?_,?_,?_,?_,trivial⟩,⟨?_,?_,?_,?_,?_,?_,?_,?_,.inl rfl,?_,?_,?_,?_,?_,?_,?_,?_,?_,?_,?_,trivial⟩,⟨?_,?_,?_,?_,?_,?_,?_,?_,?_,.inl rfl,?_,?_,?_,?_,?_,?_,?_,?_,?_,?_,trivial⟩,⟨?_,?_,?_,?_,?_,?_,?_,?_,?_,.inr (.inr (.inr (fun _ _ _ _ h h0=>by obtain ⟨A0,c0,h1,h2,h3⟩:=h0; exact ⟨A0,c0,h1,(h2.below h).mono h.size,h3⟩))),.inl rfl,?_,?_,?_,?_,?_,?_,?_,?_,?_,trivial⟩,⟨?_,?_,?_,?_,?_,?_,?_,?_,?_,?_,?_,.inl rfl,?_,?_,?_,?_,?_,?_,?_,?_,trivial⟩,⟨?_,?_,?_,?_,?_,?_,?_,?_,?_,?_,?_,?_,.inl rfl,?_,?_,?_,?_,?_,?_,?_,trivial⟩,⟨?_,?_,?_,?_,?_,?_,?_,?_,?_,?_,?_,?_,?_,.inl rfl,?_,?_,?_,?_,?_,?_,trivial⟩,⟨?_,?_,?_,?_,?_,?_,?_,?_,?_,?_,?_,?_,?_,?_,.inl rfl,?_,?_,?_,?_,?_,trivial⟩,⟨?_,?_,?_,?_,?_,?_,?_,?_,?_,?_,?_,?_,?_,?_,?_,.inl rfl,?_,?_,?_,?_,trivial⟩,⟨?_,?_,?_,?_,?_,?_,?_,?_,?_,?_,?_,?_,?_,?_,?_,?_,.inl rfl,?_,?_,?_,trivial⟩,⟨?_,?_,?_,?_,?_,?_,?_,?_,?_,?_,?_,?_,?_,?_,?_,?_,?_,.inl rfl,?_,?_,trivial⟩,⟨?_,?_,?_,?_,?_,?_,?_,?_,?_,?_,?_,?_,?_,?_,?_,?_,?_,?_,.inl rfl,?_,trivial⟩,⟨?_,?_,?_,?_,?_,?_,?_,?_,?_,?_,?_,?_,?_,?_,?_,?_,?_,?_,?_,.inl rfl,trivial⟩,trivial⟩ <;> first | exact .inr (.inr (.inl rfl)) | exact .inr (.inr (.inr fun _ _ _ _ _ h=>h)) | exact .inr (.inr (.inr fun _ _ _ _ h h0=>by cases h; exact h0)) | exact .inr (.inr (.inr fun _ _ _ _ _ _=>trivial))
      ·refine ⟨?_,?_,?_,?_,?_,?_,?_,?_,?_,?_,?_,?_,?_,?_,?_,?_,?_,?_,?_,?_,trivial⟩
       ·refine qab [] (fun _=>rfl) rfl ?_;intro w1 vals hC1 hi0 hf E hE;clear hi0;clear hf;simp only [sP] at hE ⊢;go_wp2;exact .mk (hE _ _ rfl hC1 rfl)
       ·refine qab [(0,some 34)] (fun _=>rfl) rfl ?_;intro w1 vals hC1 hi0 hf E hE;clear hi0;have f0:vals 0=_:=hf 0 rfl
        try dsimp only at f0
        clear hf;simp only [sP,f0] at hE ⊢;clear f0;have d0:=(HK5.out.below hC1 HK5.out.lt).cell 1;simp only [kCell,List.getElem?_toArray,List.getElem?_cons_zero,List.getElem?_cons_succ] at d0;go_wp2;exact .mk (hE _ _ rfl hC1 rfl)
       ·refine qab [(1,some 35)] (fun _=>rfl) rfl ?_;intro w1 vals hC1 hi0 hf E hE;clear hi0;have f1:vals 1=_:=hf 1 rfl
        try dsimp only at f1
        clear hf;simp only [sP,f1] at hE ⊢;clear f1;have hsz:=HSZ.out;go_wp2;exact .mk (hE _ _ rfl hC1 rfl)
       ·refine qab [(2,some 36)] (fun _=>rfl) rfl ?_;intro w1 vals hC1 hi0 hf E hE;clear hi0;have f2:vals 2=_:=hf 2 rfl
        try dsimp only at f2
        clear hf;simp only [sP,f2] at hE ⊢;clear f2;go_wp2;exact .mk (hE _ _ rfl hC1 rfl)
       ·refine qab [(3,some 37)] (fun _=>rfl) rfl ?_;intro w1 vals hC1 hi0 hf E hE;clear hi0;have f3:vals 3=_:=hf 3 rfl
        try dsimp only at f3
        clear hf;simp only [sP,f3] at hE ⊢;clear f3;go_wp2;exact .mk (hE _ _ rfl hC1 rfl)
       ·refine qao [(4,some 38)] (fun _=>rfl) 4 38 false rfl rfl ?_ ?_
        ·intro w1 vals hC1 hi0 hf hy E hE;dsimp only at hE ⊢;clear hi0;have f4:vals 4=_:=hf 4 rfl
         try dsimp only at f4
         clear hf;clear hy;simp only [sP,f4] at hE ⊢;clear f4;go_wp2;exact .mk (hE _ _ rfl hC1 rfl)
        ·intro w1 vals hC1 hi0 hf hy;clear hi0;have f4:vals 4=_:=hf 4 rfl
         try dsimp only at f4
         clear hf;exact absurd (by simp only [sP,f4]; rfl) hy
       ·refine qao [(5,some 39),(4,some 38)] (fun _=>rfl) 4 38 false rfl rfl ?_ ?_
        ·intro w1 vals hC1 hi0 hf hy E hE;dsimp only at hE ⊢;clear hi0;have f4:vals 4=_:=hf 4 rfl;have f5:vals 5=_:=hf 5 rfl
         try dsimp only at f4 f5
         clear hf;clear hy;simp only [sP,f4,f5] at hE ⊢;clear f4 f5;have d0:=(HK5.out.below hC1 HK5.out.lt).cell 0;simp only [kCell,List.getElem?_toArray,List.getElem?_cons_zero,List.getElem?_cons_succ] at d0;go_wp2;exact .mk (hE _ _ rfl hC1 rfl)
        ·intro w1 vals hC1 hi0 hf hy;clear hi0;have f4:vals 4=_:=hf 4 rfl;have f5:vals 5=_:=hf 5 rfl
         try dsimp only at f4 f5
         clear hf;exact absurd (by simp only [sP,f4]; rfl) hy
       ·refine qao [(4,some 38)] (fun _=>rfl) 4 38 false rfl rfl ?_ ?_
        ·intro w1 vals hC1 hi0 hf hy E hE;dsimp only at hE ⊢;clear hi0;have f4:vals 4=_:=hf 4 rfl
         try dsimp only at f4
         clear hf;clear hy;simp only [sP,f4] at hE ⊢;clear f4;go_wp2;exact .mk (hE _ _ rfl hC1 rfl)
        ·intro w1 vals hC1 hi0 hf hy;clear hi0;have f4:vals 4=_:=hf 4 rfl
         try dsimp only at f4
         clear hf;exact absurd (by simp only [sP,f4]; rfl) hy
       ·refine qao [(7,some 41),(4,some 38)] (fun _=>rfl) 4 38 false rfl rfl ?_ ?_
        ·intro w1 vals hC1 hi0 hf hy E hE;dsimp only at hE ⊢;clear hi0;have f4:vals 4=_:=hf 4 rfl;have f7:vals 7=_:=hf 7 rfl
         try dsimp only at f4 f7
         clear hf;clear hy;simp only [sP,f4,f7] at hE ⊢;clear f4 f7;have d0:=(HK5.out.below hC1 HK5.out.lt).cell 1;simp only [kCell,List.getElem?_toArray,List.getElem?_cons_zero,List.getElem?_cons_succ] at d0;go_wp2;exact .mk (hE _ _ rfl hC1 rfl)
        ·intro w1 vals hC1 hi0 hf hy;clear hi0;have f4:vals 4=_:=hf 4 rfl;have f7:vals 7=_:=hf 7 rfl
         try dsimp only at f4 f7
         clear hf;exact absurd (by simp only [sP,f4]; rfl) hy
       ·refine qao [(8,some 42),(4,some 38)] (fun _=>rfl) 4 38 false rfl rfl ?_ ?_
        ·intro w1 vals hC1 hi0 hf hy E hE;dsimp only at hE ⊢;clear hi0;have f4:vals 4=_:=hf 4 rfl;have f8:vals 8=_:=hf 8 rfl
         try dsimp only at f4 f8
         clear hf;clear hy;simp only [sP,f4,f8] at hE ⊢;clear f4 f8;refine qaW (s:=bs X.2) hus hub8 hu8 rfl rfl rfl (by rw [HS32.out]; decide) ?_;intro c7 w7 hr7 hc7 hm7 hb7;rw [HS32.out] at hc7 ⊢;go_wp2_with fail;exact .mk (hE _ _ ⟨_,c7,rfl,hr7,hc7,hm7⟩ (hC1.trans (hb7.mono hC1.size)) hb7)
        ·intro w1 vals hC1 hi0 hf hy;clear hi0;have f4:vals 4=_:=hf 4 rfl;have f8:vals 8=_:=hf 8 rfl
         try dsimp only at f4 f8
         clear hf;exact absurd (by simp only [sP,f4]; rfl) hy
       ·refine qao [(9,some 43),(4,some 38),(4,some 38)] (fun _=>rfl) 4 38 false rfl rfl ?_ ?_
        ·intro w1 vals hC1 hi0 hf hy E hE;dsimp only at hE ⊢;clear hi0;have f4:vals 4=_:=hf 4 rfl;have f9:(fun v u=>∃ A c,v=.slice A 32 c∧Rd u u.heap.size A (bytesV X.2)∧32≤c∧c≤9223372036854775807) (vals 9) w1:=hf 9 rfl
         try dsimp only at f4 f9
         clear hf;clear hy;obtain ⟨A9,c9,hx9,hr9,hc9,hm9⟩:=f9;simp only [sP,f4,hx9] at hE ⊢;clear f4;clear hx9;go_wp2_with fail;refine qaa (HNA.out A9 c9 _ hr9 hc9 hm9 (HGT.out _ hC1)) ?_;rintro e w2 ⟨rfl,hb2⟩;go_wp2_with fail;exact .mk (hE _ _ rfl (hC1.trans (hb2.mono hC1.size)) hb2)
        ·intro w1 vals hC1 hi0 hf hy;clear hi0;have f4:vals 4=_:=hf 4 rfl;have f9:(fun v u=>∃ A c,v=.slice A 32 c∧Rd u u.heap.size A (bytesV X.2)∧32≤c∧c≤9223372036854775807) (vals 9) w1:=hf 9 rfl
         try dsimp only at f4 f9
         clear hf;exact absurd (by simp only [sP,f4]; rfl) hy
       ·refine qao [(6,some 40),(10,some 44),(4,some 38)] (fun _=>rfl) 4 38 false rfl rfl ?_ ?_
        ·intro w1 vals hC1 hi0 hf hy E hE;dsimp only at hE ⊢;clear hi0;have f4:vals 4=_:=hf 4 rfl;have f6:vals 6=_:=hf 6 rfl;have f10:vals 10=_:=hf 10 rfl
         try dsimp only at f4 f6 f10
         clear hf;clear hy;simp only [sP,f4,f6,f10] at hE ⊢;clear f4 f6 f10;have hq:=HQ.out;go_wp2;exact .mk (hE _ _ rfl hC1 rfl)
        ·intro w1 vals hC1 hi0 hf hy;clear hi0;have f4:vals 4=_:=hf 4 rfl;have f6:vals 6=_:=hf 6 rfl;have f10:vals 10=_:=hf 10 rfl
         try dsimp only at f4 f6 f10
         clear hf;exact absurd (by simp only [sP,f4]; rfl) hy
       ·refine qab [(4,some 38),(11,some 45)] (fun _=>rfl) rfl ?_;intro w1 vals hC1 hi0 hf E hE;clear hi0;have f4:vals 4=_:=hf 4 rfl;have f11:vals 11=_:=hf 11 rfl
        try dsimp only at f4 f11
        clear hf;simp only [sP,f4,f11] at hE ⊢;clear f4 f11;go_wp2;exact .mk (hE _ _ rfl hC1 rfl)
       ·refine qab [(12,some 46),(10,some 44)] (fun _=>rfl) rfl ?_;intro w1 vals hC1 hi0 hf E hE;clear hi0;have f10:vals 10=_:=hf 10 rfl;have f12:vals 12=_:=hf 12 rfl
        try dsimp only at f10 f12
        clear hf;simp only [sP,f10,f12] at hE ⊢;clear f10 f12;go_wp2;exact .mk (hE _ _ rfl hC1 rfl)
       ·refine qao [(13,some 47)] (fun _=>rfl) 13 47 false rfl rfl ?_ ?_
        ·intro w1 vals hC1 hi0 hf hy E hE;dsimp only at hE ⊢;clear hi0;have f13:vals 13=_:=hf 13 rfl
         try dsimp only at f13
         clear hf;exact absurd (hy.symm.trans (by simp only [sP,f13]; rfl:_=some (Value.bool true))) (by simp)
        ·exact fun _ _ _ _ _ _=>⟨trivial,rfl⟩
       ·refine qao [(13,some 47)] (fun _=>rfl) 13 47 false rfl rfl ?_ ?_
        ·intro w1 vals hC1 hi0 hf hy E hE;dsimp only at hE ⊢;clear hi0;have f13:vals 13=_:=hf 13 rfl
         try dsimp only at f13
         clear hf;exact absurd (hy.symm.trans (by simp only [sP,f13]; rfl:_=some (Value.bool true))) (by simp)
        ·exact fun _ _ _ _ _ _=>⟨trivial,rfl⟩
       ·refine qao [(15,some 49),(13,some 47)] (fun _=>rfl) 13 47 false rfl rfl ?_ ?_
        ·intro w1 vals hC1 hi0 hf hy E hE;dsimp only at hE ⊢;clear hi0;have f13:vals 13=_:=hf 13 rfl
         try dsimp only at f13
         clear hf;exact absurd (hy.symm.trans (by simp only [sP,f13]; rfl:_=some (Value.bool true))) (by simp)
        ·exact fun _ _ _ _ _ _=>⟨trivial,rfl⟩
       ·refine qao [(14,some 48),(16,some 50),(13,some 47)] (fun _=>rfl) 13 47 false rfl rfl ?_ ?_
        ·intro w1 vals hC1 hi0 hf hy E hE;dsimp only at hE ⊢;clear hi0;have f13:vals 13=_:=hf 13 rfl
         try dsimp only at f13
         clear hf;exact absurd (hy.symm.trans (by simp only [sP,f13]; rfl:_=some (Value.bool true))) (by simp)
        ·exact fun _ _ _ _ _ _=>⟨trivial,rfl⟩
       ·refine qao [(17,some 51),(13,some 47)] (fun _=>rfl) 13 47 false rfl rfl ?_ ?_
        ·intro w1 vals hC1 hi0 hf hy E hE;dsimp only at hE ⊢;clear hi0;have f13:vals 13=_:=hf 13 rfl
         try dsimp only at f13
         clear hf;exact absurd (hy.symm.trans (by simp only [sP,f13]; rfl:_=some (Value.bool true))) (by simp)
        ·exact fun _ _ _ _ _ _=>⟨trivial,rfl⟩
       ·refine qab [(13,some 47),(18,some 52)] (fun _=>rfl) rfl ?_;intro w1 vals hC1 hi0 hf E hE;clear hi0;have f13:vals 13=_:=hf 13 rfl
        try dsimp only at f13
        clear hf;simp only [sP,f13] at hE ⊢;clear f13;go_wp2;exact .mk (hE _ _ rfl hC1 rfl)
      intro w1 vals hC1 hf;have f0:vals 0=_:=hf 0 (by decide) rfl;have f1:vals 1=_:=hf 1 (by decide) rfl;have f2:vals 2=_:=hf 2 (by decide) rfl;have f3:vals 3=_:=hf 3 (by decide) rfl;have f4:vals 4=_:=hf 4 (by decide) rfl;have f5:vals 5=_:=hf 5 (by decide) rfl;have f6:vals 6=_:=hf 6 (by decide) rfl;have f7:vals 7=_:=hf 7 (by decide) rfl;have f8:vals 8=_:=hf 8 (by decide) rfl;have f9:(fun v u=>∃ A c,v=.slice A 32 c∧Rd u u.heap.size A (bytesV X.2)∧32≤c∧c≤9223372036854775807) (vals 9) w1:=hf 9 (by decide) rfl;have f10:vals 10=_:=hf 10 (by decide) rfl;have f11:vals 11=_:=hf 11 (by decide) rfl;have f12:vals 12=_:=hf 12 (by decide) rfl;have f13:vals 13=_:=hf 13 (by decide) rfl;have f19:vals 19=_:=hf 19 (by decide) rfl
      try dsimp only at f0 f1 f2 f3 f4 f5 f6 f7 f8 f9 f10 f11 f12 f13 f19
      clear hf;simp only [sP,f0,f1,f2,f3,f4,f5,f6,f7,f8,f10,f11,f12,f13,f19];clear f0 f1 f2 f3 f4 f5 f6 f7 f8 f10 f11 f12 f13 f19;generalize vals 9=x9 at *;generalize vals 14=x14 at *;generalize vals 15=x15 at *;generalize vals 16=x16 at *;generalize vals 17=x17 at *;generalize vals 18=x18 at *;have HB6:=zY (HB5.out.trans (hC1.mono HB5.out.size));clear hC1 HC0;go_wp2_with fail;go_ret;exact ⟨by rw [HRR.out,HNO.out]; rfl,HB6.out⟩
    ·have h32':¬ ((bs X.2).size:Int)=32:=by omega
     have HNO:=zY (HNK.out fun h=>absurd h h32);clear hs0 h32
     go_quiet (fail)
     go_wp2_with fail;go_ret;exact ⟨by rw [HRR.out,HNO.out]; rfl,⟨HB5.out.os,HB5.out.tape,HB5.out.output,HB5.out.size,HB5.out.block⟩⟩
   ·obtain rfl:i=n:=by omega
    have HYS:=zY (show mayB D num ks=true by rw [HHO.out]; exact keysTo_all HTO.out HN.out);go_wp2_with fail;go_ret;exact ⟨by rw [HRR.out,HYS.out]; rfl,HBW.out⟩
def RowFrom (u:World) (L:Nat) (t:TypeId) (n:Nat) (xs:List Value) (v:Value):Prop:=∃ g,v=.slice (some ⟨g,0,none⟩) n n∧Blk u g t xs.toArray∧L≤g
theorem RowFrom.step {u u':World} {L:Nat} {t:TypeId} {n:Nat} {xs:List Value} {v:Value} (h:RowFrom u L t n xs v) (hb:Below u.heap.size u u'):RowFrom u' L t n xs v:=by
 obtain ⟨g,h1,h2,h3⟩:=h;exact ⟨g,h1,h2.below hb h2.lt,h3⟩
def BytFrom (u:World) (L n:Nat) (l:Bs) (v:Value):Prop:=∃ g c,v=.slice (some ⟨g,0,none⟩) n c∧n≤c∧c≤9223372036854775807∧L≤g∧Rd u u.heap.size (some ⟨g,0,none⟩) (bytesV l)
theorem BytFrom.step {u u':World} {L n:Nat} {l:Bs} {v:Value} (h:BytFrom u L n l v) (hb:Below u.heap.size u u'):BytFrom u' L n l v:=by
 obtain ⟨g,c,h1,h2,h3,h4,h5⟩:=h;exact ⟨g,c,h1,h2,h3,h4,(h5.below hb).mono hb.size⟩
theorem BytFrom.wrote {u u':World} {L n k:Nat} {l:Bs} {v:Value} (h:BytFrom u L n l v) (hw:Wrote k u u') (hk:k<L):BytFrom u' L n l v:=by
 obtain ⟨g,c,h1,h2,h3,h4,h5⟩:=h;refine ⟨g,c,h1,h2,h3,h4,fun i x hx=>?_⟩;obtain ⟨ad,e1,e2,e3⟩:=h5 i x hx;refine ⟨ad,e1,Nat.lt_of_lt_of_le e2 hw.grown.size,?_⟩;rw [← e3]
 injection e1 with e1
 subst e1;exact World.cell?_of_block (w:=u) (w':=u') (by rw [qar]; exact hw.grown.block _ e2 (by intro h; injection h with h; have h9:g=k:=h; omega))
def RepFrom (u:World) (L:Nat) (j:JT) (v:Value):Prop:=∃ jv,v=.agg (jvCells jv)∧JRep u (fun b=>L≤b) j jv
theorem RepFrom.step {u u':World} {L:Nat} {j:JT} {v:Value} (h:RepFrom u L j v) (hb:Below u.heap.size u u'):RepFrom u' L j v:=by
 obtain ⟨jv,h1,h2⟩:=h;exact ⟨jv,h1,h2.heap fun b hlt _=>hb.block b hlt⟩
theorem key_rep {u:World} {gn gk L:Nat} {tn tk:TypeId} (kid x:Bs) (hn:Blk u gn tn [Value.string (bs [99,114,118]),.string (bs [107,105,100]),.string (bs [107,116,121]),.string (bs [120])].toArray)
  (hk:Blk u gk tk (rowsV jvCells [flatV 3 0 [69,100,50,53,53,49,57],flatV 3 0 kid,flatV 3 0 [79,75,80],flatV 3 0 (enc x)]).toArray) (hln:L≤gn) (hlk:L≤gk) :
  JRep u (fun b=>L≤b) (keyJ (kid,x)) ⟨5,0,[],some ⟨gn,0,none⟩,4,4,some ⟨gk,0,none⟩,4,4⟩:=by
 have h1:RdS u (fun b=>L≤b) (some ⟨gn,0,none⟩) (rowsV sCell [[99,114,118],[107,105,100],[107,116,121],[120]]):=fun i v hv=>by
  obtain ⟨ad,e1,_,e3⟩:=(Rd.of_blk hn hn.lt) i v hv
  injection e1 with e1
  subst e1;exact ⟨_,rfl,hln,e3⟩
 have h2:RdS u (fun b=>L≤b) (some ⟨gk,0,none⟩) (rowsV jvCells [flatV 3 0 [69,100,50,53,53,49,57],flatV 3 0 kid,flatV 3 0 [79,75,80],flatV 3 0 (enc x)]):=fun i v hv=>by
  obtain ⟨ad,e1,_,e3⟩:=(Rd.of_blk hk hk.lt) i v hv
  injection e1 with e1
  subst e1;exact ⟨_,rfl,hlk,e3⟩
 refine JRep.mk (⟨5,0,[],some ⟨gn,0,none⟩,4,4,some ⟨gk,0,none⟩,4,4⟩:JV) _ _ _ rfl (Nat.le_refl _) h1 rfl (Nat.le_refl _) rfl h2 ?_;intro i h h'
 match i,h,h' with
 | 0,_,_=>exact JRep.flat _ _ _ _ _
 | 1,_,_=>exact JRep.flat _ _ _ _ _
 | 2,_,_=>exact JRep.flat _ _ _ _ _
 | 3,_,_=>exact JRep.flat _ _ _ _ _
 | n+4,h,_=>exact absurd h (by simp)
theorem key_any (kid x:Bs) (hx:x.length=32) (w:World) :
  Calls Tryz.prog 16 #[.agg (kCell (kid,x))] w fun e w'=>∃ jv,e=.returned (.agg (jvCells jv))∧JRep w' (fun b=>w.heap.size≤b) (keyJ (kid,x)) jv∧Below w.heap.size w w':=by
 have hu:=Tryz.underlying44;obtain ⟨G,hG⟩:=eX (w.heap.size);obtain ⟨W1,hW1⟩:=eX ((w.alloc (.cells (kCell (kid,x)) 38)).alloc (.cells (jvCells zJV) 44));have hb1:Below w.heap.size w W1:=by rw [hW1]; exact ((Below.refl _ w).alloc (Nat.le_refl _) _).alloc (by simp) _
 have HB1:=zY hb1;have HK1:=zY (show Blk W1 w.heap.size 38 (kCell (kid,x)) by rw [hW1]; exact (Blk.new _ _ _).alloc _);have HZ1:=zY (show Blk W1 (w.heap.size+1) 44 (jvCells zJV) by rw [hW1]; have:=Blk.new (w.alloc (.cells (kCell (kid,x)) 38)) 44 (jvCells zJV); simpa using this);have HS1:=zY (show W1.heap.size=w.heap.size+2 by rw [hW1]; simp);have HW1:=zY hW1;have HTX:=zY (qdS)
 have HEN:=zY (fun (u:World) (A:Option Addr) (c:Nat) (h:Rd u u.heap.size A (bytesV x)) (hc:32≤c)=>show Calls Tryz.prog 33 #[.slice A 32 c] u fun e w'=>e=.returned (.string (bs (enc x)))∧Below u.heap.size u w' by
  have h2:=encode_any x (by omega) (by omega) A c u h (by omega);rw [hx] at h2;exact h2)
 have HS32:=zY (show (bs x).size=32 by rw [qay,hx]);have hus:=Tryz.underlying9;have hub8:=Tryz.underlying40;have hu8:=Tryz.underlying5;clear hW1 hb1 hG hx;go_enter Tryz.func16,Tryz.ntmps16
 go_upto_region 1 with (fail)
 rw [show ((w.alloc (.cells (kCell (kid,x)) 38)).alloc (.cells #[.int .i64 0,.int .i64 0,.string ⟨#[]⟩,.slice none 0 0,.slice none 0 0] 44))=W1 from HW1.out.symm];generalize Value.agg (kCell (kid,x))=AV;have HC0:Below (w.heap.size+1) W1 W1.drew:=(Below.refl _ _).drew;have HI0:Blk W1.drew (w.heap.size+1) 44 (jvCells zJV):=HZ1.out;have HJ0:w.heap.size+2≤W1.drew.heap.size:=by have:=HS1.out; show _≤W1.heap.size; omega
 refine qas (fun u=>Below (w.heap.size+1) W1 u) (fun | false=>(fun u=>Blk u (w.heap.size+1) 44 (jvCells zJV)) | true=>(fun u=>w.heap.size+2≤u.heap.size)) (fun | false,i=>i == 13 | true,_=>false)
  [fun z u=>(fun v u=>RowFrom u (w.heap.size+2) 9 4 [.string (bs [99,114,118]),.string (bs [107,105,100]),.string (bs [107,116,121]),.string (bs [120])] v) (z 0) u,
   fun z _=>z 1=.agg (jvCells (flatV 3 0 [69,100,50,53,53,49,57])),
   fun z _=>z 2=.pointer (some ⟨w.heap.size,0,none⟩),
   fun z _=>z 3=.string (bs kid),
   fun z _=>z 4=.agg (jvCells (flatV 3 0 kid)),
   fun z _=>z 5=.agg (jvCells (flatV 3 0 [79,75,80])),
   fun z _=>z 6=.pointer (some ⟨w.heap.size,1,none⟩),
   fun z _=>z 7=.string (bs x),
   fun z u=>(fun v u=>BytFrom u (w.heap.size+2) 32 x v) (z 8) u,
   fun z _=>z 9=.string (bs (enc x)),
   fun z _=>z 10=.agg (jvCells (flatV 3 0 (enc x))),
   fun z u=>(fun v u=>RowFrom u (w.heap.size+2) 44 4 (rowsV jvCells [flatV 3 0 [69,100,50,53,53,49,57],flatV 3 0 kid,flatV 3 0 [79,75,80],flatV 3 0 (enc x)]) v) (z 11) u,
   fun z u=>(fun v u=>RepFrom u (w.heap.size+2) (keyJ (kid,x)) v) (z 12) u,
   fun z u=>∃ jv,Blk u (w.heap.size+1) 44 (jvCells jv)∧JRep u (fun b=>w.heap.size+2≤b) (keyJ (kid,x)) jv]
  [fun u u'=>Below u.heap.size u u',fun u u'=>Below u.heap.size u u',Eq,Eq,fun u u'=>Below u.heap.size u u',fun u u'=>Below u.heap.size u u',Eq,Eq,fun u u'=>Below u.heap.size u u',fun u u'=>Below u.heap.size u u',fun u u'=>Below u.heap.size u u',fun u u'=>Below u.heap.size u u',Eq,fun u u'=>Wrote (w.heap.size+1) u u']
  (fun i k=>(i == 13 && k == 0) || (i == 13 && k == 11) || (i == 13 && k == 12)) [(0,some 3),(1,some 4),(2,some 5),(3,some 6),(4,some 7),(5,some 8),(6,some 9),(7,some 10),(8,some 11),(9,some 12),(10,some 13),(11,some 14),(12,some 15),(13,none)] (by kernel_rfl) (by kernel_rfl) rfl (fun _=>rfl) ?_ ?_ ?_ ?_ ?_ ?_
 ·exact HC0
 ·intro m; cases m; exact HI0; exact HJ0
 ·intro m; cases m
  ·refine ⟨.inr (fun _ _ h h0=>h0.below h h0.lt),.inr (fun _ _ h h0=>h0.below h h0.lt),?_,?_,.inr (fun _ _ h h0=>h0.below h h0.lt),.inr (fun _ _ h h0=>h0.below h h0.lt),?_,?_,.inr (fun _ _ h h0=>h0.below h h0.lt),.inr (fun _ _ h h0=>h0.below h h0.lt),.inr (fun _ _ h h0=>h0.below h h0.lt),.inr (fun _ _ h h0=>h0.below h h0.lt),?_,.inl rfl,trivial⟩ <;> exact .inr fun _ _ h h0=>h▸h0
  ·refine ⟨.inr (fun _ _ h h0=>Nat.le_trans h0 h.size),.inr (fun _ _ h h0=>Nat.le_trans h0 h.size),?_,?_,.inr (fun _ _ h h0=>Nat.le_trans h0 h.size),.inr (fun _ _ h h0=>Nat.le_trans h0 h.size),?_,?_,.inr (fun _ _ h h0=>Nat.le_trans h0 h.size),.inr (fun _ _ h h0=>Nat.le_trans h0 h.size),.inr (fun _ _ h h0=>Nat.le_trans h0 h.size),.inr (fun _ _ h h0=>Nat.le_trans h0 h.size),?_,.inr (fun _ _ h h0=>Nat.le_trans h0 h.grown.size),trivial⟩ <;> exact .inr fun _ _ h h0=>h▸h0
 ·refine ⟨⟨.inl rfl,?_,?_,?_,?_,?_,?_,?_,.inr (.inr (.inr (fun _ _ _ _ h h0=>h0.step h))),?_,?_,.inr (.inr (.inr (fun _ _ _ _ h h0=>h0.step h))),?_,?_,trivial⟩,⟨.inr (.inr (.inr (fun _ _ _ _ h h0=>h0.step h))),.inl rfl,?_,?_,?_,?_,?_,?_,.inr (.inr (.inr (fun _ _ _ _ h h0=>h0.step h))),?_,?_,?_,?_,?_,trivial⟩,⟨?_,?_,.inl rfl,?_,?_,?_,?_,?_,?_,?_,?_,?_,?_,?_,trivial⟩,⟨?_,?_,?_,.inl rfl,?_,?_,?_,?_,?_,?_,?_,?_,?_,?_,trivial⟩,⟨.inr (.inr (.inr (fun _ _ _ _ h h0=>h0.step h))),?_,?_,?_,.inl rfl,?_,?_,?_,.inr (.inr (.inr (fun _ _ _ _ h h0=>h0.step h))),?_,?_,?_,?_,?_,trivial⟩,⟨.inr (.inr (.inr (fun _ _ _ _ h h0=>h0.step h))),?_,?_,?_,?_,.inl rfl,?_,?_,.inr (.inr (.inr (fun _ _ _ _ h h0=>h0.step h))),?_,?_,?_,?_,?_,trivial⟩,⟨?_,?_,?_,?_,?_,?_,.inl rfl,?_,?_,?_,?_,?_,?_,?_,trivial⟩,⟨?_,?_,?_,?_,?_,?_,?_,.inl rfl,?_,?_,?_,?_,?_,?_,trivial⟩,⟨.inr (.inr (.inr (fun _ _ _ _ h h0=>h0.step h))),?_,?_,?_,?_,?_,?_,?_,.inl rfl,?_,?_,?_,.inr (.inr (.inr (fun _ _ _ _ h h0=>h0.step h))),?_,trivial⟩,⟨.inr (.inr (.inr (fun _ _ _ _ h h0=>h0.step h))),?_,?_,?_,?_,?_,?_,?_,.inr (.inr (.inr (fun _ _ _ _ h h0=>h0.step h))),.inl rfl,?_,?_,?_,?_,trivial⟩,⟨.inr (.inr (.inr (fun _ _ _ _ h h0=>h0.step h))),?_,?_,?_,?_,?_,?_,?_,.inr (.inr (.inr (fun _ _ _ _ h h0=>h0.step h))),?_,.inl rfl,?_,?_,?_,trivial⟩,⟨.inr (.inr (.inr (fun _ _ _ _ h h0=>h0.step h))),?_,?_,?_,?_,?_,?_,?_,.inr (.inr (.inr (fun _ _ _ _ h h0=>h0.step h))),?_,?_,.inl rfl,?_,?_,trivial⟩,⟨?_,?_,?_,?_,?_,?_,?_,?_,?_,?_,?_,?_,.inl rfl,?_,trivial⟩,⟨.inr (.inl rfl),?_,?_,?_,?_,?_,?_,?_,.inr (.inr (.inr (fun _ _ _ _ h h0=>h0.wrote h (by omega)))),?_,?_,.inr (.inl rfl),.inr (.inl rfl),.inl rfl,trivial⟩,trivial⟩ <;> first | exact .inr (.inr (.inl rfl)) | exact .inr (.inr (.inr fun _ _ _ _ _ h=>h)) | exact .inr (.inr (.inr fun _ _ _ _ h h0=>by cases h; exact h0))
 ·refine ⟨?_,?_,?_,?_,?_,?_,?_,?_,?_,?_,?_,?_,?_,?_,trivial⟩
  ·refine qab [] (fun _=>rfl) rfl ?_;intro w1 vals hC1 hi0 hf E hE;have hI1:(fun u=>Blk u (w.heap.size+1) 44 (jvCells zJV)) w1:=hi0 false rfl
   try dsimp only at hI1
   have hJ1:(fun u=>w.heap.size+2≤u.heap.size) w1:=hi0 true rfl
   try dsimp only at hJ1
   clear hi0;clear hf;simp only [sP] at hE ⊢;go_wp2;exact .mk (hE _ _ ⟨_,rfl,Blk.new _ _ _,hJ1⟩ (hC1.alloc (Nat.le_of_succ_le hJ1) _) ((Below.refl _ _).alloc (Nat.le_refl _) _))
  ·refine qab [] (fun _=>rfl) rfl ?_;intro w1 vals hC1 hi0 hf E hE;have hI1:(fun u=>Blk u (w.heap.size+1) 44 (jvCells zJV)) w1:=hi0 false rfl
   try dsimp only at hI1
   have hJ1:(fun u=>w.heap.size+2≤u.heap.size) w1:=hi0 true rfl
   try dsimp only at hJ1
   clear hi0;clear hf;simp only [sP] at hE ⊢;go_wp2_with fail;refine qaa (HTX.out [69,100,50,53,53,49,57] _) ?_;rintro e w2 ⟨rfl,hb2⟩;go_wp2_with fail;exact .mk (hE _ _ rfl (hC1.trans (hb2.mono (Nat.le_of_succ_le hJ1))) hb2)
  ·refine qab [] (fun _=>rfl) rfl ?_;intro w1 vals hC1 hi0 hf E hE;have hI1:(fun u=>Blk u (w.heap.size+1) 44 (jvCells zJV)) w1:=hi0 false rfl
   try dsimp only at hI1
   have hJ1:(fun u=>w.heap.size+2≤u.heap.size) w1:=hi0 true rfl
   try dsimp only at hJ1
   clear hi0;clear hf;simp only [sP] at hE ⊢;go_wp2;exact .mk (hE _ _ rfl hC1 rfl)
  ·refine qab [(2,some 5)] (fun _=>rfl) rfl ?_;intro w1 vals hC1 hi0 hf E hE;have hI1:(fun u=>Blk u (w.heap.size+1) 44 (jvCells zJV)) w1:=hi0 false rfl
   try dsimp only at hI1
   have hJ1:(fun u=>w.heap.size+2≤u.heap.size) w1:=hi0 true rfl
   try dsimp only at hJ1
   clear hi0;have f2:vals 2=_:=hf 2 rfl
   try dsimp only at f2
   clear hf;simp only [sP,f2] at hE ⊢;clear f2;have d0:=(HK1.out.below hC1 (Nat.lt_succ_self _)).cell 0;simp only [kCell,List.getElem?_toArray,List.getElem?_cons_zero] at d0;go_wp2;exact .mk (hE _ _ rfl hC1 rfl)
  ·refine qab [(3,some 6),(1,some 4)] (fun _=>rfl) rfl ?_;intro w1 vals hC1 hi0 hf E hE;have hI1:(fun u=>Blk u (w.heap.size+1) 44 (jvCells zJV)) w1:=hi0 false rfl
   try dsimp only at hI1
   have hJ1:(fun u=>w.heap.size+2≤u.heap.size) w1:=hi0 true rfl
   try dsimp only at hJ1
   clear hi0;have f1:vals 1=_:=hf 1 rfl;have f3:vals 3=_:=hf 3 rfl
   try dsimp only at f1 f3
   clear hf;simp only [sP,f1,f3] at hE ⊢;clear f1 f3;go_wp2_with fail;refine qaa (HTX.out kid _) ?_;rintro e w2 ⟨rfl,hb2⟩;go_wp2_with fail;exact .mk (hE _ _ rfl (hC1.trans (hb2.mono (Nat.le_of_succ_le hJ1))) hb2)
  ·refine qab [(4,some 7)] (fun _=>rfl) rfl ?_;intro w1 vals hC1 hi0 hf E hE;have hI1:(fun u=>Blk u (w.heap.size+1) 44 (jvCells zJV)) w1:=hi0 false rfl
   try dsimp only at hI1
   have hJ1:(fun u=>w.heap.size+2≤u.heap.size) w1:=hi0 true rfl
   try dsimp only at hJ1
   clear hi0;have f4:vals 4=_:=hf 4 rfl
   try dsimp only at f4
   clear hf;simp only [sP,f4] at hE ⊢;clear f4;go_wp2_with fail;refine qaa (HTX.out [79,75,80] _) ?_;rintro e w2 ⟨rfl,hb2⟩;go_wp2_with fail;exact .mk (hE _ _ rfl (hC1.trans (hb2.mono (Nat.le_of_succ_le hJ1))) hb2)
  ·refine qab [] (fun _=>rfl) rfl ?_;intro w1 vals hC1 hi0 hf E hE;have hI1:(fun u=>Blk u (w.heap.size+1) 44 (jvCells zJV)) w1:=hi0 false rfl
   try dsimp only at hI1
   have hJ1:(fun u=>w.heap.size+2≤u.heap.size) w1:=hi0 true rfl
   try dsimp only at hJ1
   clear hi0;clear hf;simp only [sP] at hE ⊢;go_wp2;exact .mk (hE _ _ rfl hC1 rfl)
  ·refine qab [(6,some 9)] (fun _=>rfl) rfl ?_;intro w1 vals hC1 hi0 hf E hE;have hI1:(fun u=>Blk u (w.heap.size+1) 44 (jvCells zJV)) w1:=hi0 false rfl
   try dsimp only at hI1
   have hJ1:(fun u=>w.heap.size+2≤u.heap.size) w1:=hi0 true rfl
   try dsimp only at hJ1
   clear hi0;have f6:vals 6=_:=hf 6 rfl
   try dsimp only at f6
   clear hf;simp only [sP,f6] at hE ⊢;clear f6;have d0:=(HK1.out.below hC1 (Nat.lt_succ_self _)).cell 1;simp only [kCell,List.getElem?_toArray,List.getElem?_cons_zero,List.getElem?_cons_succ] at d0;go_wp2;exact .mk (hE _ _ rfl hC1 rfl)
  ·refine qab [(7,some 10)] (fun _=>rfl) rfl ?_;intro w1 vals hC1 hi0 hf E hE;have hI1:(fun u=>Blk u (w.heap.size+1) 44 (jvCells zJV)) w1:=hi0 false rfl
   try dsimp only at hI1
   have hJ1:(fun u=>w.heap.size+2≤u.heap.size) w1:=hi0 true rfl
   try dsimp only at hJ1
   clear hi0;have f7:vals 7=_:=hf 7 rfl
   try dsimp only at f7
   clear hf;simp only [sP,f7] at hE ⊢;clear f7;refine qaW (s:=bs x) hus hub8 hu8 rfl rfl rfl (by rw [HS32.out]; decide) ?_;intro c7 w7 hr7 hc7 hm7 hb7;rw [HS32.out] at hc7 ⊢;go_wp2_with fail;exact .mk (hE _ _ ⟨_,c7,rfl,hc7,hm7,hJ1,hr7⟩ (hC1.trans (hb7.mono (Nat.le_of_succ_le hJ1))) hb7)
  ·refine qab [(8,some 11),(5,some 8)] (fun _=>rfl) rfl ?_;intro w1 vals hC1 hi0 hf E hE;have hI1:(fun u=>Blk u (w.heap.size+1) 44 (jvCells zJV)) w1:=hi0 false rfl
   try dsimp only at hI1
   have hJ1:(fun u=>w.heap.size+2≤u.heap.size) w1:=hi0 true rfl
   try dsimp only at hJ1
   clear hi0;have f5:vals 5=_:=hf 5 rfl;have f8:(fun v u=>BytFrom u (w.heap.size+2) 32 x v) (vals 8) w1:=hf 8 rfl
   try dsimp only at f5 f8
   clear hf;obtain ⟨g9,c9,hx9,hc9,hm9,hl9,hr9⟩:=f8;simp only [sP,f5,hx9] at hE ⊢;clear f5;clear hx9;go_wp2_with fail;refine qaa (HEN.out _ _ c9 hr9 hc9) ?_;rintro e w2 ⟨rfl,hb2⟩;go_wp2_with fail;exact .mk (hE _ _ rfl (hC1.trans (hb2.mono (Nat.le_of_succ_le hJ1))) hb2)
  ·refine qab [(9,some 12),(9,some 12)] (fun _=>rfl) rfl ?_;intro w1 vals hC1 hi0 hf E hE;have hI1:(fun u=>Blk u (w.heap.size+1) 44 (jvCells zJV)) w1:=hi0 false rfl
   try dsimp only at hI1
   have hJ1:(fun u=>w.heap.size+2≤u.heap.size) w1:=hi0 true rfl
   try dsimp only at hJ1
   clear hi0;have f9:vals 9=_:=hf 9 rfl
   try dsimp only at f9
   clear hf;simp only [sP,f9] at hE ⊢;clear f9;go_wp2_with fail;refine qaa (HTX.out (enc x) _) ?_;rintro e w2 ⟨rfl,hb2⟩;go_wp2_with fail;exact .mk (hE _ _ rfl (hC1.trans (hb2.mono (Nat.le_of_succ_le hJ1))) hb2)
  ·refine qab [(1,some 4),(4,some 7),(5,some 8),(10,some 13)] (fun _=>rfl) rfl ?_;intro w1 vals hC1 hi0 hf E hE;have hI1:(fun u=>Blk u (w.heap.size+1) 44 (jvCells zJV)) w1:=hi0 false rfl
   try dsimp only at hI1
   have hJ1:(fun u=>w.heap.size+2≤u.heap.size) w1:=hi0 true rfl
   try dsimp only at hJ1
   clear hi0;have f1:vals 1=_:=hf 1 rfl;have f4:vals 4=_:=hf 4 rfl;have f5:vals 5=_:=hf 5 rfl;have f10:vals 10=_:=hf 10 rfl
   try dsimp only at f1 f4 f5 f10
   clear hf;simp only [sP,f1,f4,f5,f10] at hE ⊢;clear f1 f4 f5 f10;unfold jvCells flatV;go_wp2;exact .mk (hE _ _ ⟨_,rfl,Blk.new _ _ _,hJ1⟩ (hC1.alloc (Nat.le_of_succ_le hJ1) _) ((Below.refl _ _).alloc (Nat.le_refl _) _))
  ·refine qab [(0,some 3),(11,some 14)] (fun _=>rfl) rfl ?_;intro w1 vals hC1 hi0 hf E hE;have hI1:(fun u=>Blk u (w.heap.size+1) 44 (jvCells zJV)) w1:=hi0 false rfl
   try dsimp only at hI1
   have hJ1:(fun u=>w.heap.size+2≤u.heap.size) w1:=hi0 true rfl
   try dsimp only at hJ1
   clear hi0;have f0:(fun v u=>RowFrom u (w.heap.size+2) 9 4 [.string (bs [99,114,118]),.string (bs [107,105,100]),.string (bs [107,116,121]),.string (bs [120])] v) (vals 0) w1:=hf 0 rfl;have f11:(fun v u=>RowFrom u (w.heap.size+2) 44 4 (rowsV jvCells [flatV 3 0 [69,100,50,53,53,49,57],flatV 3 0 kid,flatV 3 0 [79,75,80],flatV 3 0 (enc x)]) v) (vals 11) w1:=hf 11 rfl
   try dsimp only at f0 f11
   clear hf;obtain ⟨g0,hx0,hg0,hl0⟩:=f0;obtain ⟨g1,hx1,hg1,hl1⟩:=f11;simp only [sP,hx0,hx1] at hE ⊢;clear hx0 hx1;go_wp2;exact .mk (hE _ _ ⟨_,rfl,key_rep kid x hg0 hg1 hl0 hl1⟩ hC1 rfl)
  ·refine qab [(12,some 15),(10,some 13),(0,some 3),(1,some 4),(2,some 5),(3,some 6),(4,some 7),(5,some 8),(6,some 9),(7,some 10),(8,some 11),(9,some 12),(10,some 13),(11,some 14),(12,some 15)] (fun _=>rfl) rfl ?_;intro w1 vals hC1 hi0 hf E hE;have hI1:(fun u=>Blk u (w.heap.size+1) 44 (jvCells zJV)) w1:=hi0 false rfl
   try dsimp only at hI1
   have hJ1:(fun u=>w.heap.size+2≤u.heap.size) w1:=hi0 true rfl
   try dsimp only at hJ1
   clear hi0;have f0:(fun v u=>RowFrom u (w.heap.size+2) 9 4 [.string (bs [99,114,118]),.string (bs [107,105,100]),.string (bs [107,116,121]),.string (bs [120])] v) (vals 0) w1:=hf 0 rfl;have f1:vals 1=_:=hf 1 rfl;have f2:vals 2=_:=hf 2 rfl;have f3:vals 3=_:=hf 3 rfl;have f4:vals 4=_:=hf 4 rfl;have f5:vals 5=_:=hf 5 rfl;have f6:vals 6=_:=hf 6 rfl;have f7:vals 7=_:=hf 7 rfl;have f8:(fun v u=>BytFrom u (w.heap.size+2) 32 x v) (vals 8) w1:=hf 8 rfl;have f9:vals 9=_:=hf 9 rfl;have f10:vals 10=_:=hf 10 rfl;have f11:(fun v u=>RowFrom u (w.heap.size+2) 44 4 (rowsV jvCells [flatV 3 0 [69,100,50,53,53,49,57],flatV 3 0 kid,flatV 3 0 [79,75,80],flatV 3 0 (enc x)]) v) (vals 11) w1:=hf 11 rfl;have f12:(fun v u=>RepFrom u (w.heap.size+2) (keyJ (kid,x)) v) (vals 12) w1:=hf 12 rfl
   try dsimp only at f0 f1 f2 f3 f4 f5 f6 f7 f8 f9 f10 f11 f12
   clear hf;obtain ⟨jv,hx1,hj1⟩:=f12;have HJJ:=zY hj1;have HII:=zY hI1;have HCC:=zY hC1;clear hj1 hI1 hC1;simp only [sP,f1,f2,f3,f4,f5,f6,f7,f9,f10,hx1] at hE ⊢;clear f1 f2 f3 f4 f5 f6 f7 f9 f10;clear hx1;go_wp2_with (refine qac (cells:=jvCells jv) HII.out rfl rfl rfl rfl qal rfl (qae _) ?_; intro w5 hb5 hw5);exact .mk (hE undef _ ⟨jv,hb5,HJJ.out.heap fun b hlt hl=>hw5.grown.block b hlt (by intro h; injection h with h; omega)⟩ (hw5.below HCC.out (Nat.le_refl _) (Nat.le_of_succ_le hJ1)) hw5)
 intro w1 vals hC1 hf;have f1:vals 1=_:=hf 1 (by decide) rfl;have f2:vals 2=_:=hf 2 (by decide) rfl;have f3:vals 3=_:=hf 3 (by decide) rfl;have f4:vals 4=_:=hf 4 (by decide) rfl;have f5:vals 5=_:=hf 5 (by decide) rfl;have f6:vals 6=_:=hf 6 (by decide) rfl;have f7:vals 7=_:=hf 7 (by decide) rfl;have f8:(fun v u=>BytFrom u (w.heap.size+2) 32 x v) (vals 8) w1:=hf 8 (by decide) rfl;have f9:vals 9=_:=hf 9 (by decide) rfl;have f10:vals 10=_:=hf 10 (by decide) rfl;have f13:(fun z u=>∃ jv,Blk u (w.heap.size+1) 44 (jvCells jv)∧JRep u (fun b=>w.heap.size+2≤b) (keyJ (kid,x)) jv) vals w1:=hf 13 (by decide) rfl
 try dsimp only at f1 f2 f3 f4 f5 f6 f7 f8 f9 f10 f13
 clear hf;simp only [sP,f1,f2,f3,f4,f5,f6,f7,f9,f10];clear f1 f2 f3 f4 f5 f6 f7 f9 f10;generalize vals 0=x0 at *;generalize vals 8=x8 at *;generalize vals 11=x11 at *;generalize vals 12=x12 at *;obtain ⟨jv,hb13,hj13⟩:=f13;have HB13:=zY hb13;have HJ13:=zY hj13;have HB14:=zY (HB1.out.trans (hC1.mono (Nat.le_succ _)));clear hb13 hj13 hC1 HC0 HI0 HJ0;go_wp2_with fail;refine bodyPost_ret (qah (P:=Tryz.prog) rfl rfl HB13.out hu rfl qal) rfl ?_;exact ⟨jv,rfl,HJ13.out.imp fun b _ hb=>by omega,HB14.out⟩
end Go.Proofs.YtlkikjeccamheaaGreatDoor.Js
namespace Go.Proofs.YtlkikjeccamheaaGreatDoor.Js
set_option linter.unusedSimpArgs false
set_option linter.unusedVariables false
set_option maxRecDepth 100000
set_option maxHeartbeats 4000000
theorem digB_len:∀ f n:Nat,(digB f n).length≤f
 | 0,n=>by simp [digB]
 | f+1,n=>by
  unfold digB
  split
  ·simp
  ·have:=digB_len f (n/10);simp;omega
theorem intB_len (n:Int):(intB n).length≤17:=by
 unfold intB;have:=digB_len 16 n.natAbs
 split
 ·simp; omega
 ·omega
theorem hexB_plain:∀ x:Fin 256,(hexB x.1).all plainC=true:=by decide +kernel
theorem nameL_plain (x:Bs):(nameL x).all plainC=true:=by
 unfold nameL _root_.Go.Proofs.YtlkikjeccamheaaGreatDoor.nameK;rw [List.all_eq_true];intro c hc;obtain ⟨b,_,hb⟩:=List.mem_flatMap.1 hc;have h:=hexB_plain ⟨b.toNat,b.toNat_lt⟩;rw [List.all_eq_true] at h;exact h c hb
theorem nameL_len (x:Bs):(nameL x).length=8:=by
 unfold nameL;rw [qbG (by rw [qdY]; omega)]
theorem keysOk_all:∀ (seen:List Bs) (ks:List (Bs × Bs)),keysOk seen ks=true→∀ k ∈ ks,k.2.length=32∧k.1=nameL k.2
 | _,[],_,k,hk=>by cases hk
 | seen,x :: r,h,k,hk=>by
  unfold keysOk at h;simp only [Bool.and_eq_true,decide_eq_true_eq] at h
  rcases List.mem_cons.1 hk with rfl | hk
  ·exact ⟨h.1.1.1,h.1.1.2⟩
  ·exact keysOk_all _ r h.2 k hk
theorem innerZ_plain:∀ x:Fin 256,innerZ ((x.1:Nat):Int)=true→plainC (UInt8.ofNat x.1)=true:=by decide +kernel
theorem domB_plain {s:Bs} (h:domB s=true):s.all plainC=true∧s.length≤16:=by
 unfold domB at h;simp only [Bool.and_eq_true,decide_eq_true_eq] at h;refine ⟨?_,h.1⟩;have h1:=h.2.1;unfold allD at h1;simp only [Bool.and_eq_true] at h1;rw [List.all_eq_true] at h1 ⊢;intro c hc;have h2:=innerZ_plain ⟨c.toNat,c.toNat_lt⟩ (h1.1 c hc)
 simpa using h2
theorem qcU {b:BD} (h:mayB b.dom b.num b.keys=true):PlainB b∧(∀ k ∈ b.keys,k.2.length=32∧k.1=nameL k.2):=by
 unfold mayB headOk at h;simp only [Bool.and_eq_true,decide_eq_true_eq] at h;obtain ⟨⟨⟨⟨h1,h2⟩,h3⟩,h4⟩,h5⟩:=h;obtain ⟨p1,p2⟩:=domB_plain h1;have hk:=keysOk_all _ _ h5;exact ⟨⟨p1,p2,h2,h3,h4,fun k hm=>by rw [(hk k hm).2]; exact ⟨nameL_plain _,by rw [nameL_len]; exact Nat.le_refl _⟩,fun k hm=>by rw [(hk k hm).1]; exact Nat.le_refl _⟩,hk⟩
def keyT (k:Bs × Bs):Bs:=[123,34,99,114,118,34,58,34,69,100,50,53,53,49,57,34,44,34,107,105,100,34,58,34]++(k.1++([34,44,34,107,116,121,34,58,34,79,75,80,34,44,34,120,34,58,34]++(enc k.2++[34,125])))
theorem key_text {k:Bs × Bs} (h:k.1.all plainC=true):writeV (keyJ k)=keyT k:=by
 have e1:=qcq h;have e2:=qcq (enc_plain k.2);have e3:quote [99,114,118]=[34,99,114,118,34]:=by decide +kernel
 have e4:quote [107,105,100]=[34,107,105,100,34]:=by decide +kernel
 have e5:quote [107,116,121]=[34,107,116,121,34]:=by decide +kernel
 have e6:quote [120]=[34,120,34]:=by decide +kernel
 have e7:quote [69,100,50,53,53,49,57]=[34,69,100,50,53,53,49,57,34]:=by decide +kernel
 have e8:quote [79,75,80]=[34,79,75,80,34]:=by decide +kernel
 simp [keyJ,jtext,writeV,itemsV,keyT,e1,e2,e3,e4,e5,e6,e7,e8]
def keysT:List (Bs × Bs)→Bool→Bs
 | [],_=>[]
 | k :: r,f=>(if f then [] else [44])++(keyT k++keysT r false)
theorem keys_text:∀ (ks:List (Bs × Bs)) (f:Bool),(∀ k ∈ ks,k.1.all plainC=true)→itemsV false [] (ks.map keyJ) f=keysT ks f
 | [],f,_=>by simp [itemsV,keysT]
 | k :: r,f,h=>by
  have h1:=key_text (h k List.mem_cons_self);have h2:=keys_text r false (fun x hx=>h x (List.mem_cons_of_mem _ hx));simp [itemsV,keysT,h1,h2]
def bundleT (b:BD):Bs:=[123,34,100,111,109,97,105,110,34,58,34]++(b.dom++([34,44,34,107,101,121,115,34,58,91]++(keysT b.keys true++([93,44,34,110,117,109,98,101,114,34,58]++(intB b.num++[125])))))
theorem qd0 {b:BD} (h:PlainB b):writeV (bundleJ b)=bundleT b:=by
 have e1:=qcq h.dom;have e2:=keys_text b.keys true (fun k hk=>(h.kid k hk).1);have e3:quote [100,111,109,97,105,110]=[34,100,111,109,97,105,110,34]:=by decide +kernel
 have e4:quote [107,101,121,115]=[34,107,101,121,115,34]:=by decide +kernel
 have e5:quote [110,117,109,98,101,114]=[34,110,117,109,98,101,114,34]:=by decide +kernel
 simp [bundleJ,jtext,jint,writeV,itemsV,bundleT,e1,e2,e3,e4,e5]
theorem qdP:∀ (ks:List (Bs × Bs)) (f:Bool),(∀ k ∈ ks,k.1.length≤8∧k.2.length≤32)→(keysT ks f).length≤ks.length*130
 | [],f,_=>by simp [keysT]
 | k :: r,f,h=>by
  have h1:=h k List.mem_cons_self;have h2:=qdP r false (fun x hx=>h x (List.mem_cons_of_mem _ hx));have h3:(enc k.2).length≤2*k.2.length+1:=qdi k.2 0 0 (by omega);have h4:(if f=true then ([]:Bs) else [44]).length≤1:=by cases f <;> simp
  simp only [keysT,keyT,List.length_append,List.length_cons,List.length_nil];omega
theorem bundle_len {b:BD} (h:PlainB b):(writeV (bundleJ b)).length≤2000:=by
 rw [qd0 h];have h1:=qdP b.keys true (fun k hk=>⟨(h.kid k hk).2,h.x k hk⟩);have h2:=h.kn;have h3:=h.dlen;have h4:=intB_len b.num;simp only [bundleT,List.length_append,List.length_cons,List.length_nil];omega
theorem wrE_may {b:BD} (h:PlainB b):wrE (bundleJ b)=(writeV (bundleJ b),0):=by
 unfold wrE;rw [bundleJ_right h,if_neg (by simp),if_neg (by have:=bundle_len h; omega)]
end Go.Proofs.YtlkikjeccamheaaGreatDoor.Js
namespace Go.Proofs.YtlkikjeccamheaaGreatDoor.Js
set_option linter.unusedSimpArgs false
set_option linter.unusedVariables false
set_option maxRecDepth 100000
set_option maxHeartbeats 4000000
open Go.RowKit
theorem qb5 {w w1:World} (h:Below w.heap.size w w1) (r:Option Nat):w.grownBy w1 r:=⟨h.os,h.tape,h.output,h.size,fun k hk _=>h.block k hk⟩
def KQ (K:Nat) (V:Value) (b:Nat):Prop:=K+1≤b∧V.ownBlock≠some b
structure Kb (w0:World) (L K:Nat) (T:JV) (A2:Option Addr) (c2:Nat) (ks:List JT) (u:World):Prop where
 low:Below L w0 u
 hL:L≤K
 tree:Blk u K 44 (jvCells T)
 kids:∃ kv:List JV,kv.length=ks.length∧OwnR u (K+1) 44 5 A2 c2 ks.length (rowsV jvCells kv) ∧
  ∀ i (h:i<ks.length) (h':i<kv.length),JRep u (KQ K (.slice A2 ks.length c2)) ks[i] kv[i]
section
variable {w0:World} {L K:Nat} {T:JV} {A2:Option Addr} {c2:Nat} {ks:List JT} {u u':World}
theorem Kb.size (h:Kb w0 L K T A2 c2 ks u):K+1≤u.heap.size:=h.tree.lt
theorem Kb.new (h:Kb w0 L K T A2 c2 ks u) (hb:Below u.heap.size u u'):Kb w0 L K T A2 c2 ks u':=by
 obtain ⟨kv,h1,h2,h3⟩:=h.kids;have:=h.size;have:=h.hL;exact ⟨h.low.trans (hb.mono (by omega)),h.hL,h.tree.below hb h.tree.lt,kv,h1,h2.below hb,fun i hi hi'=>(h3 i hi hi').heap fun b hlt _=>hb.block b hlt⟩
theorem Kb.put {T':JV} (h:Kb w0 L K T A2 c2 ks u) (hw:Wrote K u u') (ht:Blk u' K 44 (jvCells T')):Kb w0 L K T' A2 c2 ks u':=by
 obtain ⟨kv,h1,h2,h3⟩:=h.kids;have hk:∀ b,b<u.heap.size→K+1≤b→u'.heap[b]?=u.heap[b]?:=fun b hb hl=>hw.grown.block b hb (by intro h; injection h with h; omega);have hlt:∀ {k cs t},u.heap[k]?=some (.cells cs t (0,0))→k<u.heap.size:=fun hq=>(Array.getElem?_eq_some_iff.1 hq).1;exact ⟨hw.below h.low h.hL (by have:=h.size; have:=h.hL; omega),h.hL,ht,kv,h1,h2.heap fun k cs hq hl=>(hk k (hlt hq) hl).trans hq,fun i hi hi'=>(h3 i hi hi').heap fun b hb hs=>hk b hb hs.1⟩
theorem Kb.kid {k:JT} {v:JV} {A':Option Addr} {c':Nat} (h:Kb w0 L K T A2 c2 ks u) (hv:JRep u (KQ K (.slice A2 ks.length c2)) k v)
  {kv:List JV} (h1:kv.length=ks.length) (h2:OwnR u (K+1) 44 5 A2 c2 ks.length (rowsV jvCells kv)) (h3:∀ i (h:i<ks.length) (h':i<kv.length),JRep u (KQ K (.slice A2 ks.length c2)) ks[i] kv[i])
  (ho:OwnR u' (K+1) 44 5 A' c' (ks.length+1) (rowsV jvCells kv++(jvCells v).toList)) (hg:u.grownBy u' (Value.slice A2 ks.length c2).ownBlock)
  (hn:Next u (.slice A2 ks.length c2) (.slice A' (ks.length+1) c')):Kb w0 L K T A' c' (ks++[k]) u':=by
 have hs:=h.size;have hl:=h.hL
 have hS:∀ b,b<u.heap.size→KQ K (.slice A2 ks.length c2) b→KQ K (.slice A2 ks.length c2) b∧KQ K (.slice A' (ks++[k]).length c') b:=fun b hb hs=>⟨hs,hs.1,fun he=>by
   rw [List.length_append] at he
   rcases hn with hn | hn
   ·exact hs.2 (hn.symm.trans he)
   ·have:=hn b he
    omega⟩
 have hstep:∀ j x,JRep u (KQ K (.slice A2 ks.length c2)) j x→JRep u' (KQ K (.slice A' (ks++[k]).length c')) j x:=fun j x hj =>
  ((hj.imp hS).grown hg (fun b hb he=>hb.1.2 he.symm)).imp fun b _ hs=>hs.2
 refine ⟨h.low.grown hg (by omega) (fun k hk=>by have:=(h2.lt k hk).1; omega),h.hL,h.tree.grown hg (fun he=>by have:=(h2.lt K he.symm).1; omega),kv++[v],by simp [h1],by rw [qaT,qbp,List.length_append]; exact ho,fun i hi hi'=>?_⟩
 by_cases hl:i<ks.length
 ·rw [List.getElem_append_left hl,List.getElem_append_left (by omega)];exact hstep _ _ (h3 i hl (by omega))
 ·have e1:i=ks.length:=by simp at hi; omega
  subst e1;rw [List.getElem_append_right (Nat.le_refl _),List.getElem_append_right (by omega)];simp only [Nat.sub_self,h1,List.getElem_cons_zero];exact hstep _ _ hv
theorem Kb.rep (h:Kb w0 L K T A2 c2 ks u):JRep u (fun b=>K+1≤b) (.mk 4 0 [] [] ks) ⟨4,0,[],none,0,0,A2,ks.length,c2⟩:=by
 obtain ⟨kv,h1,h2,h3⟩:=h.kids
 exact .mk ⟨4,0,[],none,0,0,A2,ks.length,c2⟩ [] ks kv rfl (Nat.le_refl _) (RdS.nil _ _ _) rfl h2.cap h1 (qdE h2)
  (fun i hi hi'=>(h3 i hi hi').imp fun b _ hs=>hs.1)
end
def kidsV (A2:Option Addr) (n c2:Nat):JV:=⟨4,0,[],none,0,0,A2,n,c2⟩
theorem sl_jsons4:SlT Tryz.prog 42 44 5 80:=SlT.mk1 (z:=.agg #[.int .i64 0,.int .i64 0,.string ⟨#[]⟩,.slice none 0 0,.slice none 0 0]) Tryz.underlying42 (by kernel_rfl) rfl (by decide)
def wrB (D:Bs) (num:Int) (ks:List (Bs × Bs)):Bs × Int:=if mayB D num ks then (writeV (bundleJ ⟨D,num,ks⟩),0) else ([],1)
set_option maxHeartbeats 8000000 in
theorem jwkwrite_any (D:Bs) (num:Int) (ks:List (Bs × Bs)) (A:Option Addr) (c B:Nat) (w:World) (hr:Rd w B A (rowsV kCell ks)) (hB:B≤w.heap.size) (hD:((bs D).size:Int)≤100000000) (hl:(ks.length:Int)≤9223372036854775807)
  (hk:∀ k ∈ ks,(k.2.length:Int)≤9223372036854775807) (hG:Sh.TabG w) :
  Calls Tryz.prog 6 #[.agg (bC D num A ks.length c)] w fun e w'=>e=.returned (.tuple #[.string (bs (wrB D num ks).1),.int .i64 (wrB D num ks).2])∧Below w.heap.size w w':=by
 have hu:=Tryz.underlying44;have hub:=Tryz.underlying24;have huj:=Tryz.underlying38;obtain ⟨W0,hW0⟩:=eX (w.alloc (.cells (bC D num A ks.length c) 24));have hb0:Below w.heap.size w W0:=by rw [hW0]; exact (Below.refl _ w).alloc (Nat.le_refl _) _
 have HB0:=zY hb0;have HK:=zY (show Blk W0 w.heap.size 24 (bC D num A ks.length c) by rw [hW0]; exact Blk.new _ _ _);have HS0:=zY (show W0.heap.size=w.heap.size+1 by rw [hW0]; simp);have HW0:=zY hW0;have C:=zY (may_any D num ks A c B W0 (hr.below (hb0.mono hB)) (Nat.le_trans hB hb0.size) hD hl hk (hG.below hb0 hG.size));have HR:=zY (hr.below (hb0.mono hB));have HBB:=zY hB;have HMB:=zY (fun (h:mayB D num ks=true)=>qcU (b:=⟨D,num,ks⟩) h);have HWR:=zY (show wrB D num ks=if mayB D num ks then (writeV (bundleJ ⟨D,num,ks⟩),0) else ([],1) from rfl);obtain ⟨m,hm⟩:=eX (mayB D num ks);obtain ⟨R,hR⟩:=eX (wrB D num ks);rw [← hm] at C HMB HWR;rw [← hR] at HWR ⊢;obtain ⟨n,hn⟩:=eX (ks.length);rw [← hn] at hl C HK HW0 ⊢;have HN:=zY hn;clear hW0 hb0 hr hB hD hk hG hm hR hn;go_enter Tryz.func6,Tryz.ntmps6
 go_upto_region 1 with (fail)
 rw [show w.alloc (.cells (bC D num A n c) 24)=W0 from HW0.out.symm];generalize hAV:Value.agg (bC D num A n c)=AV;rw [hAV] at C;go_wp2_with (refine qad (x:=.tmp 1) (cs:=bC D num A n c) HK.out rfl rfl rfl hub rfl qaE ?_);refine qaa C.out ?_;rintro e u1 ⟨rfl,hb1⟩;have HK1:=zY (HK.out.below hb1 HK.out.lt);have HB1:=zY hb1;clear hb1 hAV C
 cases m with
 | false =>
  have HRE:=zY (show R=([],1) from HWR.out);go_wp2_with fail;go_ret2;exact ⟨by rw [HRE.out]; rfl,HB0.out.trans (HB1.out.mono HB0.out.size)⟩
 | true =>
  obtain ⟨hpb,hkx⟩:=HMB.out rfl;have HPB:=zY hpb;have HKX:=zY hkx;have HRE:=zY (show R=(writeV (bundleJ ⟨D,num,ks⟩),0) from HWR.out);have hn8:(n:Int)≤8:=by have h8:ks.length≤8:=hpb.kn; have:=HN.out; omega
  clear hpb hkx hl HMB HWR
  go_upto_region 4 with (first | (refine qac (cells:=jvCells (flatV 4 0 [])) (Blk.new _ _ _) rfl rfl rfl rfl qal rfl (qae _) ?_; intro w9 hb9 hw9))
  obtain ⟨K,hK⟩:=eX (u1.heap.size);rw [← hK] at hb9 hw9 ⊢
  have hKb:Kb W0 (w.heap.size+1) K (kidsV none 0 0) none 0 [] w9 :=
   ⟨HS0.out▸HB1.out.trans ((qaz (hK▸hw9)).mono (Nat.le_trans HB1.out.size (Nat.le_refl _))),by rw [hK,← HS0.out]; exact HB1.out.size,hb9,[],rfl,OwnR.nil _ _ _ _,fun i h _=>by simp at h⟩
  have HKB:=zY hKb;have HLK:=zY (show w.heap.size<K by rw [hK]; exact HK1.out.lt);have HKL:=zY (fun (u:World) (h:Below (w.heap.size+1) W0 u)=>show Blk u w.heap.size 24 (bC D num A n c) from HK.out.below h (Nat.lt_succ_self _));have b2:w9.cell? ⟨w.heap.size,2,none⟩=some (.slice A n c):=(HKL.out _ hKb.low).cell 2;clear hb9 hw9 hK hKb;go_wp2_with fail
  go_loopw [14] (fun x wr=>∃ (i:Nat) (A2:Option Addr) (c2:Nat),i≤n∧x=.int .i64 (i:Int)∧Kb W0 (w.heap.size+1) K (kidsV A2 ((ks.take i).map keyJ).length c2) A2 c2 ((ks.take i).map keyJ) wr) (fun x _=>n - (intOf x).toNat)
  case atStart=>exact ⟨0,none,0,Nat.zero_le _,rfl,HKB.out⟩
  case round =>
   obtain ⟨i,A2,c2,hi,rfl,hkb⟩:=hrel;have HKI:=zY hkb
   by_cases hlt:i<n
   ·have hil:i<ks.length:=by rw [← HN.out]; exact hlt
    have hlt':(i:Int)<(n:Int):=by omega
    obtain ⟨ad,hA,hadb,hcell⟩:=qaO (f:=kCell) (m:=2) (fun _=>rfl) (by decide) (HR.out.below (hkb.low.mono (Nat.le_succ_of_le HBB.out))) hil;subst hA;obtain ⟨X,hX⟩:=eX (ks[i]);rw [← hX] at hcell;have HCL:=zY (show ∀ j u,(kCell X).toList[j]?=some u→wr.cell? ((ad.add (i*2)).add j)=some u from fun j u hu=>hcell j u (by simpa using hu));have HX3:=zY (show X.2.length=32 from (HKX.out X (by rw [hX]; exact List.getElem_mem hil)).1);have HLT:=zY hlt;have HXS:=zY (show (ks.take (i+1)).map keyJ=(ks.take i).map keyJ++[keyJ X] by rw [List.take_succ_eq_append_getElem hil,List.map_append,hX]; rfl);have HJL:=zY (show ((ks.take i).map keyJ).length≤8 by simp; omega);obtain ⟨J,hJ⟩:=eX ((ks.take i).map keyJ);rw [← hJ] at HKI HXS HJL;clear hkb hX hcell hadb hil hlt hJ
    go_upto_region 7 with (first
     | refine qaA (r:=(kCell X).toList) HCL.out rfl rfl rfl huj rfl qbR ?_
     | (refine qac (cells:=kCell X) (Blk.new _ _ _) rfl rfl rfl rfl qbR rfl (qdR X) ?_; intro w5 hb5 hw5))
    have hbw5:Below wr.heap.size wr w5:=qaz hw5;obtain ⟨H,hH⟩:=eX (wr.heap.size);rw [← hH] at hb5 ⊢
    have HNE:=zY (show ∀ k,(Value.slice A2 J.length c2).ownBlock=some k→K+1≤k∧k≠H from fun k hk=>by
     obtain ⟨kv,_,h2,_⟩:=HKI.out.kids;have:=h2.lt k hk;exact ⟨this.1,by omega⟩)
    have HKH:=zY (show K+1≤H by rw [hH]; exact HKI.out.size);have HK5:=zY (HKI.out.new hbw5);have HX5:=zY hb5;have CK:=zY (fun (u:World)=>key_any X.1 X.2 HX3.out u);clear hbw5 hw5 hb5 hH;go_wp2_with fail;have HI0:w5.drew.cell? ⟨K,4,none⟩=some (.slice A2 J.length c2)∧Blk w5.drew H 38 (kCell X):=⟨HK5.out.tree.cell 4,HX5.out⟩;have HJ0:Kb W0 (w.heap.size+1) K (kidsV A2 J.length c2) A2 c2 J w5.drew:=HK5.out.new (Below.refl _ _).drew
    refine qas (fun _=>True) (fun | false=>(fun u=>u.cell? ⟨K,4,none⟩=some (.slice A2 J.length c2)∧Blk u H 38 (kCell X)) | true=>(fun u=>Kb W0 (w.heap.size+1) K (kidsV A2 J.length c2) A2 c2 J u)) (fun | false,i=>i == 7 | true,i=>i == 5 || i == 7)
     [fun z _=>z 0=.pointer (some ⟨K,4,none⟩),
      fun z _=>z 1=.slice A2 J.length c2,
      fun z _=>z 2=.agg (kCell X),
      fun z u=>∃ v,z 3=.agg (jvCells v)∧JRep u (KQ K (.slice A2 J.length c2)) (keyJ X) v,
      fun z u=>∃ (v:JV) (ad:Nat),z 4=.slice (some ⟨ad,0,none⟩) 1 1∧Blk u ad 44 (jvCells v)∧JRep u (KQ K (.slice A2 J.length c2)) (keyJ X) v,
      fun z u=>∃ (A':Option Addr) (c':Nat),z 5=.slice A' (J.length+1) c'∧Kb W0 (w.heap.size+1) K (kidsV A2 J.length c2) A' c' (J++[keyJ X]) u,
      fun z _=>z 6=.pointer (some ⟨K,4,none⟩),
      fun z u=>∃ (A':Option Addr) (c':Nat),Kb W0 (w.heap.size+1) K (kidsV A' (J++[keyJ X]).length c') A' c' (J++[keyJ X]) u]
     [Eq,Eq,Eq,fun u u'=>Below u.heap.size u u',fun u u'=>Below u.heap.size u u',fun u u'=>∃ g:Option Nat,u.grownBy u' g∧∀ k,g=some k→K+1≤k∧k≠H,Eq,fun _ _=>True]
     (fun i k=>(i == 4 && k == 3) || (i == 5 && k == 3) || (i == 5 && k == 4) || (i == 7 && k == 3) || (i == 7 && k == 4) || (i == 7 && k == 5)) [(0,some 18),(1,some 19),(2,some 20),(3,some 21),(4,some 22),(5,some 23),(6,some 24),(7,none)] (by kernel_rfl) (by kernel_rfl) rfl (fun _=>rfl) ?_ ?_ ?_ ?_ ?_ ?_
    ·exact (by first | trivial | assumption)
    ·intro m; cases m; exact HI0; exact HJ0
    ·intro m; cases m
     ·refine ⟨?_,?_,?_,.inr (fun _ _ h h0=>⟨(qb5 h none).cell h0.1 (by simp),h0.2.below h h0.2.lt⟩),.inr (fun _ _ h h0=>⟨(qb5 h none).cell h0.1 (by simp),h0.2.below h h0.2.lt⟩),.inr (fun _ _ h h0=>by obtain ⟨g,hg,hk⟩:=h; exact ⟨hg.cell h0.1 (by intro e; have:K+1≤K:=(hk _ e.symm).1; omega),h0.2.grown hg (by intro e; exact (hk _ e.symm).2 rfl)⟩),?_,.inl rfl,trivial⟩ <;> exact .inr fun _ _ h h0=>h▸h0
     ·refine ⟨?_,?_,?_,.inr (fun _ _ h h0=>h0.new h),.inr (fun _ _ h h0=>h0.new h),.inl rfl,?_,.inl rfl,trivial⟩ <;> exact .inr fun _ _ h h0=>h▸h0
    ·refine ⟨⟨.inl rfl,?_,?_,?_,?_,?_,?_,?_,trivial⟩,⟨?_,.inl rfl,?_,?_,?_,?_,?_,?_,trivial⟩,⟨?_,?_,.inl rfl,?_,?_,?_,?_,?_,trivial⟩,⟨?_,?_,?_,.inl rfl,?_,?_,?_,?_,trivial⟩,⟨?_,?_,?_,.inr (.inl rfl),.inl rfl,?_,?_,?_,trivial⟩,⟨?_,?_,?_,.inr (.inl rfl),.inr (.inl rfl),.inl rfl,?_,?_,trivial⟩,⟨?_,?_,?_,?_,?_,?_,.inl rfl,?_,trivial⟩,⟨?_,?_,?_,.inr (.inl rfl),.inr (.inl rfl),.inr (.inl rfl),?_,.inl rfl,trivial⟩,trivial⟩ <;> first | exact .inr (.inr (.inl rfl)) | exact .inr (.inr (.inr fun _ _ _ _ _ h=>h)) | exact .inr (.inr (.inr fun _ _ _ _ h h0=>by cases h; exact h0))
    ·refine ⟨?_,?_,?_,?_,?_,?_,?_,?_,trivial⟩
     ·refine qab [] (fun _=>rfl) rfl ?_;intro w1 vals hC1 hi0 hf E hE;have hI1:(fun u=>u.cell? ⟨K,4,none⟩=some (.slice A2 J.length c2)∧Blk u H 38 (kCell X)) w1:=hi0 false rfl
      try dsimp only at hI1
      have hJ1:(fun u=>Kb W0 (w.heap.size+1) K (kidsV A2 J.length c2) A2 c2 J u) w1:=hi0 true rfl
      try dsimp only at hJ1
      clear hi0;clear hf;simp only [sP] at hE ⊢;go_wp2;exact .mk (hE _ _ rfl hC1 rfl)
     ·refine qab [(0,some 18)] (fun _=>rfl) rfl ?_;intro w1 vals hC1 hi0 hf E hE;have hI1:(fun u=>u.cell? ⟨K,4,none⟩=some (.slice A2 J.length c2)∧Blk u H 38 (kCell X)) w1:=hi0 false rfl
      try dsimp only at hI1
      have hJ1:(fun u=>Kb W0 (w.heap.size+1) K (kidsV A2 J.length c2) A2 c2 J u) w1:=hi0 true rfl
      try dsimp only at hJ1
      clear hi0;have f0:vals 0=_:=hf 0 rfl
      try dsimp only at f0
      clear hf;obtain ⟨d0,d1⟩:=hI1;clear d1;simp only [sP,f0] at hE ⊢;clear f0;go_wp2;exact .mk (hE _ _ rfl hC1 rfl)
     ·refine qab [] (fun _=>rfl) rfl ?_;intro w1 vals hC1 hi0 hf E hE;have hI1:(fun u=>u.cell? ⟨K,4,none⟩=some (.slice A2 J.length c2)∧Blk u H 38 (kCell X)) w1:=hi0 false rfl
      try dsimp only at hI1
      have hJ1:(fun u=>Kb W0 (w.heap.size+1) K (kidsV A2 J.length c2) A2 c2 J u) w1:=hi0 true rfl
      try dsimp only at hJ1
      clear hi0;clear hf;obtain ⟨d0,d1⟩:=hI1;clear d0;have D1:=zY d1;clear d1;simp only [sP] at hE ⊢;refine qad (cs:=kCell X) D1.out rfl rfl rfl huj rfl qbR ?_;go_wp2_with fail;exact .mk (hE _ _ rfl hC1 rfl)
     ·refine qab [(2,some 20)] (fun _=>rfl) rfl ?_;intro w1 vals hC1 hi0 hf E hE;have hI1:(fun u=>u.cell? ⟨K,4,none⟩=some (.slice A2 J.length c2)∧Blk u H 38 (kCell X)) w1:=hi0 false rfl
      try dsimp only at hI1
      have hJ1:(fun u=>Kb W0 (w.heap.size+1) K (kidsV A2 J.length c2) A2 c2 J u) w1:=hi0 true rfl
      try dsimp only at hJ1
      clear hi0;have f2:vals 2=_:=hf 2 rfl
      try dsimp only at f2
      clear hf;have HJ1:=zY hJ1;clear hJ1;simp only [sP,f2] at hE ⊢;clear f2;go_wp2_with fail;refine qaa (CK.out _) ?_;rintro y w6 ⟨v,rfl,hj,hb⟩;have HJ:=zY hj;have HG:=zY hb;clear hj hb;go_wp2_with fail;exact .mk (hE _ _ ⟨v,rfl,HJ.out.imp fun b _ hb=>⟨by have:=HJ1.out.size; omega,fun he=>by obtain ⟨kv,_,h2,_⟩:=HJ1.out.kids; have:=(h2.lt b he).2; omega⟩⟩ hC1 HG.out)
     ·refine qab [(3,some 21)] (fun _=>rfl) rfl ?_;intro w1 vals hC1 hi0 hf E hE;have hI1:(fun u=>u.cell? ⟨K,4,none⟩=some (.slice A2 J.length c2)∧Blk u H 38 (kCell X)) w1:=hi0 false rfl
      try dsimp only at hI1
      have hJ1:(fun u=>Kb W0 (w.heap.size+1) K (kidsV A2 J.length c2) A2 c2 J u) w1:=hi0 true rfl
      try dsimp only at hJ1
      clear hi0;have f3:(fun z u=>∃ v,z 3=.agg (jvCells v)∧JRep u (KQ K (.slice A2 J.length c2)) (keyJ X) v) vals w1:=hf 3 rfl
      try dsimp only at f3
      clear hf;obtain ⟨v,hx,hj⟩:=f3;have HJ:=zY hj;clear hj;simp only [sP,hx] at hE ⊢;clear hx;unfold jvCells;go_wp2;exact .mk (hE _ _ ⟨v,_,rfl,Blk.new _ _ _,HJ.out.heap fun b hb _=>Below.heap_alloc _ _ _ hb⟩ hC1 ((Below.refl _ _).alloc (Nat.le_refl _) _))
     ·refine qab [(1,some 19),(4,some 22),(3,some 21)] (fun _=>rfl) rfl ?_;intro w1 vals hC1 hi0 hf E hE;have hI1:(fun u=>u.cell? ⟨K,4,none⟩=some (.slice A2 J.length c2)∧Blk u H 38 (kCell X)) w1:=hi0 false rfl
      try dsimp only at hI1
      have hJ1:(fun u=>Kb W0 (w.heap.size+1) K (kidsV A2 J.length c2) A2 c2 J u) w1:=hi0 true rfl
      try dsimp only at hJ1
      clear hi0;have f1:vals 1=_:=hf 1 rfl;have f4:(fun z u=>∃ (v:JV) (ad:Nat),z 4=.slice (some ⟨ad,0,none⟩) 1 1∧Blk u ad 44 (jvCells v)∧JRep u (KQ K (.slice A2 J.length c2)) (keyJ X) v) vals w1:=hf 4 rfl
      try dsimp only at f1 f4
      clear hf;obtain ⟨v,ad,hx,hk,hj⟩:=f4;have HL:=zY hJ1;have HK:=zY hk;have HJ:=zY hj;obtain ⟨kv,hv1,hv2,hv3⟩:=HL.out.kids;have HO:=zY hv2;have HV1:=zY hv1;have HV3:=zY hv3;have hjl:=HJL.out;clear hJ1 hk hj hv1 hv2 hv3;simp only [sP,f1,hx] at hE ⊢;clear f1;clear hx;go_wp2_with (refine qaM (news:=(jvCells v).toList) (m:=1) sl_jsons4 rfl rfl HO.out rfl rfl rfl (Rd.of_blk (l:=(jvCells v).toList) HK.out (HK.out.lt)) (by simp [jvCells,Value.oneCell']) (by unfold maxLen; omega) (by omega) (HL.out.size) ?_; intro A' c' w5 ho hg hn);exact .mk (hE _ _ ⟨A',c',rfl,HL.out.kid HJ.out HV1.out HO.out HV3.out ho hg hn⟩ hC1 ⟨_,hg,HNE.out⟩)
     ·refine qab [(0,some 18),(1,some 19),(2,some 20),(3,some 21),(4,some 22),(5,some 23)] (fun _=>rfl) rfl ?_;intro w1 vals hC1 hi0 hf E hE;have hI1:(fun u=>u.cell? ⟨K,4,none⟩=some (.slice A2 J.length c2)∧Blk u H 38 (kCell X)) w1:=hi0 false rfl
      try dsimp only at hI1
      clear hi0;have f0:vals 0=_:=hf 0 rfl;have f1:vals 1=_:=hf 1 rfl;have f2:vals 2=_:=hf 2 rfl;have f5:(fun z u=>∃ (A':Option Addr) (c':Nat),z 5=.slice A' (J.length+1) c'∧Kb W0 (w.heap.size+1) K (kidsV A2 J.length c2) A' c' (J++[keyJ X]) u) vals w1:=hf 5 rfl
      try dsimp only at f0 f1 f2 f5
      clear hf;simp only [sP,f0,f1,f2] at hE ⊢;clear f0 f1 f2;go_wp2;exact .mk (hE _ _ rfl hC1 rfl)
     ·refine qab [(6,some 24),(5,some 23),(5,some 23),(0,some 18),(1,some 19),(2,some 20),(3,some 21),(4,some 22),(5,some 23)] (fun _=>rfl) rfl ?_;intro w1 vals hC1 hi0 hf E hE;have hI1:(fun u=>u.cell? ⟨K,4,none⟩=some (.slice A2 J.length c2)∧Blk u H 38 (kCell X)) w1:=hi0 false rfl
      try dsimp only at hI1
      clear hi0;have f0:vals 0=_:=hf 0 rfl;have f1:vals 1=_:=hf 1 rfl;have f2:vals 2=_:=hf 2 rfl;have f5:(fun z u=>∃ (A':Option Addr) (c':Nat),z 5=.slice A' (J.length+1) c'∧Kb W0 (w.heap.size+1) K (kidsV A2 J.length c2) A' c' (J++[keyJ X]) u) vals w1:=hf 5 rfl;have f6:vals 6=_:=hf 6 rfl
      try dsimp only at f0 f1 f2 f5 f6
      clear hf;obtain ⟨A',c',hx,hl⟩:=f5;have HL:=zY hl;clear hl;simp only [sP,f0,f1,f2,f6,hx] at hE ⊢;clear f0 f1 f2 f6;clear hx;go_wp2_with (refine qaf (x:=.tmp 24) (i:=4) HL.out.tree rfl rfl rfl rfl (by kernel_rfl) (by simp [jvCells]) rfl ?_; intro w5 hb5 hw5);exact .mk (hE undef _ ⟨A',c',HL.out.put hw5 (by rw [List.length_append]; exact hb5)⟩ hC1 trivial)
    intro w1 vals hC1 hf;have f0:vals 0=_:=hf 0 (by decide) rfl;have f1:vals 1=_:=hf 1 (by decide) rfl;have f2:vals 2=_:=hf 2 (by decide) rfl;have f6:vals 6=_:=hf 6 (by decide) rfl;have f7:(fun z u=>∃ (A':Option Addr) (c':Nat),Kb W0 (w.heap.size+1) K (kidsV A' (J++[keyJ X]).length c') A' c' (J++[keyJ X]) u) vals w1:=hf 7 (by decide) rfl
    try dsimp only at f0 f1 f2 f6 f7
    clear hf;simp only [sP,f0,f1,f2,f6];clear f0 f1 f2 f6;generalize vals 3=x3 at *;generalize vals 4=x4 at *;generalize vals 5=x5 at *;obtain ⟨A',c',hkb7⟩:=f7;have HKB7:=zY hkb7;clear hkb7 HI0 HJ0 hC1 CK;go_wp2_with fail
    go_roundw
    case rel=>exact ⟨i+1,A',c',HLT.out,by go_num,by rw [HXS.out]; exact HKB7.out⟩
    case measure=>have:=HLT.out; simp [intOf]; omega
   ·obtain rfl:i=n:=by omega
    have htk:ks.take i=ks:=List.take_of_length_le (by rw [← HN.out]; exact Nat.le_refl _);rw [htk] at hkb;obtain ⟨KV,hKV⟩:=eX (kidsV A2 (ks.map keyJ).length c2);have hrp:JRep wr (fun x=>x<wr.heap.size) (.mk 4 0 [] [] (ks.map keyJ)) KV:=by rw [hKV]; exact hkb.rep.imp fun b hb _=>hb
    rw [← hKV] at hkb;have HKJ:=zY hkb.tree;have HRP:=zY hrp;have HBX:=zY (show Blk wr w.heap.size 24 (bC D num A i c) from HKL.out _ hkb.low);have HF9:=zY (show Below w.heap.size w wr from HB0.out.trans (hkb.low.mono (Nat.le_succ _)));obtain ⟨T,hT⟩:∃ T,T=writeV (bundleJ ⟨D,num,ks⟩):=⟨_,rfl⟩;have HRT:=zY (show R=(T,0) by rw [hT]; exact HRE.out);have HTX:=zY (qdS D)
    have HWR:=zY (fun (u:World) (v:JV) (h:JRep u (fun b=>b<u.heap.size) (bundleJ ⟨D,num,ks⟩) v)=>show Calls Tryz.prog 17 #[.agg (jvCells v)] u (fun e w'=>e=.returned (.tuple #[.string (bs T),.int .i64 0])∧Below u.heap.size u w') by
     have h2:=jwrite_any (bundleJ ⟨D,num,ks⟩) v u.heap.size u (bundleJ_small HPB.out) h (Nat.le_refl _) (by have:=bundle_len HPB.out; omega);rw [wrE_may HPB.out,← hT] at h2;exact h2)
    clear hkb hrp htk hT hKV HKI HKB HKL HRE;go_wp2_with fail;have HC0:Below wr.heap.size wr wr.drew:=(Below.refl _ _).drew
    refine qas (fun u=>Below wr.heap.size wr u) (fun | false=>(fun _=>True) | true=>(fun _=>True)) (fun | false,_=>false | true,_=>false)
     [fun z u=>(fun v u=>RowAt u 9 3 [.string (bs [100,111,109,97,105,110]),.string (bs [107,101,121,115]),.string (bs [110,117,109,98,101,114])] v) (z 0) u,
      fun z _=>z 1=.pointer (some ⟨w.heap.size,0,none⟩),
      fun z _=>z 2=.string (bs D),
      fun z _=>z 3=.agg (jvCells (flatV 3 0 D)),
      fun z _=>z 4=.agg (jvCells KV),
      fun z _=>z 5=.pointer (some ⟨w.heap.size,1,none⟩),
      fun z _=>z 6=.int .i64 num,
      fun z _=>z 7=.agg (jvCells (flatV 2 num [])),
      fun z u=>(fun v u=>RowAt u 44 3 (rowsV jvCells [flatV 3 0 D,KV,flatV 2 num []]) v) (z 8) u,
      fun z u=>(fun v u=>∃ jv,v=.agg (jvCells jv)∧JRep u (fun b=>b<u.heap.size) (bundleJ ⟨D,num,ks⟩) jv) (z 9) u,
      fun z _=>z 10=.tuple #[.string (bs T),.int .i64 0],
      fun z _=>z 11=.string (bs T),
      fun z _=>z 12=.int .i64 0,
      fun z _=>z 13=.string (bs T),
      fun z _=>z 14=.int .i64 0]
     [fun u u'=>Below u.heap.size u u',Eq,Eq,fun u u'=>Below u.heap.size u u',Eq,Eq,Eq,Eq,fun u u'=>Below u.heap.size u u',Eq,fun u u'=>Below u.heap.size u u',Eq,Eq,Eq,Eq]
     (fun _ _=>false) [(0,some 26),(1,some 27),(2,some 28),(3,some 29),(4,some 30),(5,some 31),(6,some 32),(7,some 33),(8,some 34),(9,some 35),(10,some 36),(11,some 37),(12,some 38),(13,some 2),(14,some 3)] (by kernel_rfl) (by kernel_rfl) rfl (fun _=>rfl) ?_ ?_ ?_ ?_ ?_ ?_
    ·exact HC0
    ·intro m; cases m; exact trivial; exact trivial
    ·intro m; cases m
     ·refine ⟨?_,?_,?_,?_,?_,?_,?_,?_,?_,?_,?_,?_,?_,?_,?_,trivial⟩ <;> first | exact .inr fun _ _ h h0=>h▸h0 | exact .inr fun _ _ _ h=>h
     ·refine ⟨?_,?_,?_,?_,?_,?_,?_,?_,?_,?_,?_,?_,?_,?_,?_,trivial⟩ <;> first | exact .inr fun _ _ h h0=>h▸h0 | exact .inr fun _ _ _ h=>h
    ·refine ⟨⟨.inl rfl,?_,?_,?_,?_,?_,?_,?_,.inr (.inr (.inr (fun _ _ _ _ h h0=>h0.step h))),?_,?_,?_,?_,?_,?_,trivial⟩,⟨?_,.inl rfl,?_,?_,?_,?_,?_,?_,?_,?_,?_,?_,?_,?_,?_,trivial⟩,⟨?_,?_,.inl rfl,?_,?_,?_,?_,?_,?_,?_,?_,?_,?_,?_,?_,trivial⟩,⟨.inr (.inr (.inr (fun _ _ _ _ h h0=>h0.step h))),?_,?_,.inl rfl,?_,?_,?_,?_,?_,?_,?_,?_,?_,?_,?_,trivial⟩,⟨?_,?_,?_,?_,.inl rfl,?_,?_,?_,?_,?_,?_,?_,?_,?_,?_,trivial⟩,⟨?_,?_,?_,?_,?_,.inl rfl,?_,?_,?_,?_,?_,?_,?_,?_,?_,trivial⟩,⟨?_,?_,?_,?_,?_,?_,.inl rfl,?_,?_,?_,?_,?_,?_,?_,?_,trivial⟩,⟨?_,?_,?_,?_,?_,?_,?_,.inl rfl,?_,?_,?_,?_,?_,?_,?_,trivial⟩,⟨.inr (.inr (.inr (fun _ _ _ _ h h0=>h0.step h))),?_,?_,?_,?_,?_,?_,?_,.inl rfl,?_,?_,?_,?_,?_,?_,trivial⟩,⟨?_,?_,?_,?_,?_,?_,?_,?_,?_,.inl rfl,?_,?_,?_,?_,?_,trivial⟩,⟨.inr (.inr (.inr (fun _ _ _ _ h h0=>h0.step h))),?_,?_,?_,?_,?_,?_,?_,.inr (.inr (.inr (fun _ _ _ _ h h0=>h0.step h))),.inr (.inr (.inr (fun _ _ _ _ h h0=>rep_step h0 h))),.inl rfl,?_,?_,?_,?_,trivial⟩,⟨?_,?_,?_,?_,?_,?_,?_,?_,?_,?_,?_,.inl rfl,?_,?_,?_,trivial⟩,⟨?_,?_,?_,?_,?_,?_,?_,?_,?_,?_,?_,?_,.inl rfl,?_,?_,trivial⟩,⟨?_,?_,?_,?_,?_,?_,?_,?_,?_,?_,?_,?_,?_,.inl rfl,?_,trivial⟩,⟨?_,?_,?_,?_,?_,?_,?_,?_,?_,?_,?_,?_,?_,?_,.inl rfl,trivial⟩,trivial⟩ <;> first | exact .inr (.inr (.inl rfl)) | exact .inr (.inr (.inr fun _ _ _ _ _ h=>h)) | exact .inr (.inr (.inr fun _ _ _ _ h h0=>by cases h; exact h0))
    ·refine ⟨?_,?_,?_,?_,?_,?_,?_,?_,?_,?_,?_,?_,?_,?_,?_,trivial⟩
     ·refine qab [] (fun _=>rfl) rfl ?_;intro w1 vals hC1 hi0 hf E hE;clear hi0;clear hf;simp only [sP] at hE ⊢;go_wp2;exact .mk (hE _ _ ⟨_,rfl,Blk.new _ _ _⟩ (hC1.alloc hC1.size _) ((Below.refl _ _).alloc (Nat.le_refl _) _))
     ·refine qab [] (fun _=>rfl) rfl ?_;intro w1 vals hC1 hi0 hf E hE;clear hi0;clear hf;simp only [sP] at hE ⊢;go_wp2;exact .mk (hE _ _ rfl hC1 rfl)
     ·refine qab [(1,some 27)] (fun _=>rfl) rfl ?_;intro w1 vals hC1 hi0 hf E hE;clear hi0;have f1:vals 1=_:=hf 1 rfl
      try dsimp only at f1
      clear hf;simp only [sP,f1] at hE ⊢;clear f1;have d0:=(HBX.out.below hC1 HBX.out.lt).cell 0;simp only [bC,List.getElem?_toArray,List.getElem?_cons_zero] at d0;go_wp2;exact .mk (hE _ _ rfl hC1 rfl)
     ·refine qab [(2,some 28)] (fun _=>rfl) rfl ?_;intro w1 vals hC1 hi0 hf E hE;clear hi0;have f2:vals 2=_:=hf 2 rfl
      try dsimp only at f2
      clear hf;simp only [sP,f2] at hE ⊢;clear f2;go_wp2_with fail;refine qaa (HTX.out _) ?_;rintro e w2 ⟨rfl,hb2⟩;go_wp2_with fail;exact .mk (hE _ _ rfl (hC1.trans (hb2.mono hC1.size)) hb2)
     ·refine qab [] (fun _=>rfl) rfl ?_;intro w1 vals hC1 hi0 hf E hE;clear hi0;clear hf;simp only [sP] at hE ⊢;refine qad (cs:=jvCells KV) (HKJ.out.below hC1 HKJ.out.lt) rfl rfl rfl hu rfl qal ?_;go_wp2_with fail;exact .mk (hE _ _ rfl hC1 rfl)
     ·refine qab [] (fun _=>rfl) rfl ?_;intro w1 vals hC1 hi0 hf E hE;clear hi0;clear hf;simp only [sP] at hE ⊢;go_wp2;exact .mk (hE _ _ rfl hC1 rfl)
     ·refine qab [(5,some 31)] (fun _=>rfl) rfl ?_;intro w1 vals hC1 hi0 hf E hE;clear hi0;have f5:vals 5=_:=hf 5 rfl
      try dsimp only at f5
      clear hf;simp only [sP,f5] at hE ⊢;clear f5;have d0:=(HBX.out.below hC1 HBX.out.lt).cell 1;simp only [bC,List.getElem?_toArray,List.getElem?_cons_zero,List.getElem?_cons_succ] at d0;go_wp2;exact .mk (hE _ _ rfl hC1 rfl)
     ·refine qab [(6,some 32)] (fun _=>rfl) rfl ?_;intro w1 vals hC1 hi0 hf E hE;clear hi0;have f6:vals 6=_:=hf 6 rfl
      try dsimp only at f6
      clear hf;simp only [sP,f6] at hE ⊢;clear f6;go_wp2;exact .mk (hE _ _ rfl hC1 rfl)
     ·refine qab [(3,some 29),(4,some 30),(7,some 33)] (fun _=>rfl) rfl ?_;intro w1 vals hC1 hi0 hf E hE;clear hi0;have f3:vals 3=_:=hf 3 rfl;have f4:vals 4=_:=hf 4 rfl;have f7:vals 7=_:=hf 7 rfl
      try dsimp only at f3 f4 f7
      clear hf;simp only [sP,f3,f4,f7] at hE ⊢;clear f3 f4 f7;unfold jvCells flatV;go_wp2;exact .mk (hE _ _ ⟨_,rfl,Blk.new _ _ _⟩ (hC1.alloc hC1.size _) ((Below.refl _ _).alloc (Nat.le_refl _) _))
     ·refine qab [(0,some 26),(8,some 34)] (fun _=>rfl) rfl ?_;intro w1 vals hC1 hi0 hf E hE;clear hi0;have f0:(fun v u=>RowAt u 9 3 [.string (bs [100,111,109,97,105,110]),.string (bs [107,101,121,115]),.string (bs [110,117,109,98,101,114])] v) (vals 0) w1:=hf 0 rfl;have f8:(fun v u=>RowAt u 44 3 (rowsV jvCells [flatV 3 0 D,KV,flatV 2 num []]) v) (vals 8) w1:=hf 8 rfl
      try dsimp only at f0 f8
      clear hf;obtain ⟨g0,hx0,hg0⟩:=f0;obtain ⟨g8,hx8,hg8⟩:=f8;simp only [sP,hx0,hx8] at hE ⊢;clear hx0 hx8;go_wp2;exact .mk (hE _ _ ⟨_,rfl,bundle_rep ⟨D,num,ks⟩ KV hg0 hg8 ((HRP.out.under hC1).imp fun b _ h=>Nat.lt_of_lt_of_le h hC1.size)⟩ hC1 rfl)
     ·refine qab [(9,some 35),(3,some 29)] (fun _=>rfl) rfl ?_;intro w1 vals hC1 hi0 hf E hE;clear hi0;have f3:vals 3=_:=hf 3 rfl;have f9:(fun v u=>∃ jv,v=.agg (jvCells jv)∧JRep u (fun b=>b<u.heap.size) (bundleJ ⟨D,num,ks⟩) jv) (vals 9) w1:=hf 9 rfl
      try dsimp only at f3 f9
      clear hf;obtain ⟨jv,hx9,hj9⟩:=f9;simp only [sP,f3,hx9] at hE ⊢;clear f3;clear hx9;go_wp2_with fail;refine qaa (HWR.out _ _ hj9) ?_;rintro e w2 ⟨rfl,hb2⟩;go_wp2_with fail;exact .mk (hE _ _ rfl (hC1.trans (hb2.mono hC1.size)) hb2)
     ·refine qab [(10,some 36)] (fun _=>rfl) rfl ?_;intro w1 vals hC1 hi0 hf E hE;clear hi0;have f10:vals 10=_:=hf 10 rfl
      try dsimp only at f10
      clear hf;simp only [sP,f10] at hE ⊢;clear f10;go_wp2;exact .mk (hE _ _ rfl hC1 rfl)
     ·refine qab [(10,some 36)] (fun _=>rfl) rfl ?_;intro w1 vals hC1 hi0 hf E hE;clear hi0;have f10:vals 10=_:=hf 10 rfl
      try dsimp only at f10
      clear hf;simp only [sP,f10] at hE ⊢;clear f10;go_wp2;exact .mk (hE _ _ rfl hC1 rfl)
     ·refine qab [(11,some 37),(10,some 36),(0,some 26),(1,some 27),(2,some 28),(3,some 29),(4,some 30),(5,some 31),(6,some 32),(7,some 33),(8,some 34),(9,some 35),(10,some 36),(11,some 37),(12,some 38)] (fun _=>rfl) rfl ?_;intro w1 vals hC1 hi0 hf E hE;clear hi0;have f0:(fun v u=>RowAt u 9 3 [.string (bs [100,111,109,97,105,110]),.string (bs [107,101,121,115]),.string (bs [110,117,109,98,101,114])] v) (vals 0) w1:=hf 0 rfl;have f1:vals 1=_:=hf 1 rfl;have f2:vals 2=_:=hf 2 rfl;have f3:vals 3=_:=hf 3 rfl;have f4:vals 4=_:=hf 4 rfl;have f5:vals 5=_:=hf 5 rfl;have f6:vals 6=_:=hf 6 rfl;have f7:vals 7=_:=hf 7 rfl;have f8:(fun v u=>RowAt u 44 3 (rowsV jvCells [flatV 3 0 D,KV,flatV 2 num []]) v) (vals 8) w1:=hf 8 rfl;have f9:(fun v u=>∃ jv,v=.agg (jvCells jv)∧JRep u (fun b=>b<u.heap.size) (bundleJ ⟨D,num,ks⟩) jv) (vals 9) w1:=hf 9 rfl;have f10:vals 10=_:=hf 10 rfl;have f11:vals 11=_:=hf 11 rfl;have f12:vals 12=_:=hf 12 rfl
      try dsimp only at f0 f1 f2 f3 f4 f5 f6 f7 f8 f9 f10 f11 f12
      clear hf;simp only [sP,f1,f2,f3,f4,f5,f6,f7,f10,f11,f12] at hE ⊢;clear f1 f2 f3 f4 f5 f6 f7 f10 f11 f12;go_wp2;exact .mk (hE _ _ rfl hC1 rfl)
     ·refine qab [(12,some 38),(13,some 2),(0,some 26),(1,some 27),(2,some 28),(3,some 29),(4,some 30),(5,some 31),(6,some 32),(7,some 33),(8,some 34),(9,some 35),(10,some 36),(11,some 37),(12,some 38),(13,some 2)] (fun _=>rfl) rfl ?_;intro w1 vals hC1 hi0 hf E hE;clear hi0;have f0:(fun v u=>RowAt u 9 3 [.string (bs [100,111,109,97,105,110]),.string (bs [107,101,121,115]),.string (bs [110,117,109,98,101,114])] v) (vals 0) w1:=hf 0 rfl;have f1:vals 1=_:=hf 1 rfl;have f2:vals 2=_:=hf 2 rfl;have f3:vals 3=_:=hf 3 rfl;have f4:vals 4=_:=hf 4 rfl;have f5:vals 5=_:=hf 5 rfl;have f6:vals 6=_:=hf 6 rfl;have f7:vals 7=_:=hf 7 rfl;have f8:(fun v u=>RowAt u 44 3 (rowsV jvCells [flatV 3 0 D,KV,flatV 2 num []]) v) (vals 8) w1:=hf 8 rfl;have f9:(fun v u=>∃ jv,v=.agg (jvCells jv)∧JRep u (fun b=>b<u.heap.size) (bundleJ ⟨D,num,ks⟩) jv) (vals 9) w1:=hf 9 rfl;have f10:vals 10=_:=hf 10 rfl;have f11:vals 11=_:=hf 11 rfl;have f12:vals 12=_:=hf 12 rfl;have f13:vals 13=_:=hf 13 rfl
      try dsimp only at f0 f1 f2 f3 f4 f5 f6 f7 f8 f9 f10 f11 f12 f13
      clear hf;simp only [sP,f1,f2,f3,f4,f5,f6,f7,f10,f11,f12,f13] at hE ⊢;clear f1 f2 f3 f4 f5 f6 f7 f10 f11 f12 f13;go_wp2;exact .mk (hE _ _ rfl hC1 rfl)
    intro w1 vals hC1 hf;have f0:(fun v u=>RowAt u 9 3 [.string (bs [100,111,109,97,105,110]),.string (bs [107,101,121,115]),.string (bs [110,117,109,98,101,114])] v) (vals 0) w1:=hf 0 (by decide) rfl;have f1:vals 1=_:=hf 1 (by decide) rfl;have f2:vals 2=_:=hf 2 (by decide) rfl;have f3:vals 3=_:=hf 3 (by decide) rfl;have f4:vals 4=_:=hf 4 (by decide) rfl;have f5:vals 5=_:=hf 5 (by decide) rfl;have f6:vals 6=_:=hf 6 (by decide) rfl;have f7:vals 7=_:=hf 7 (by decide) rfl;have f8:(fun v u=>RowAt u 44 3 (rowsV jvCells [flatV 3 0 D,KV,flatV 2 num []]) v) (vals 8) w1:=hf 8 (by decide) rfl;have f9:(fun v u=>∃ jv,v=.agg (jvCells jv)∧JRep u (fun b=>b<u.heap.size) (bundleJ ⟨D,num,ks⟩) jv) (vals 9) w1:=hf 9 (by decide) rfl;have f10:vals 10=_:=hf 10 (by decide) rfl;have f11:vals 11=_:=hf 11 (by decide) rfl;have f12:vals 12=_:=hf 12 (by decide) rfl;have f13:vals 13=_:=hf 13 (by decide) rfl;have f14:vals 14=_:=hf 14 (by decide) rfl
    try dsimp only at f0 f1 f2 f3 f4 f5 f6 f7 f8 f9 f10 f11 f12 f13 f14
    clear hf;simp only [sP,f1,f2,f3,f4,f5,f6,f7,f10,f11,f12,f13,f14];clear f1 f2 f3 f4 f5 f6 f7 f10 f11 f12 f13 f14;generalize vals 0=x0 at *;generalize vals 8=x8 at *;generalize vals 9=x9 at *;have HC9:=zY hC1;clear hC1 HC0;go_wp2_with fail;go_ret2;exact ⟨by rw [HRT.out]; rfl,HF9.out.trans (HC9.out.mono HF9.out.size)⟩
structure Kr (w0:World) (K:Nat) (D:Bs) (num:Int) (A1:Option Addr) (c1:Nat) (ks:List (Bs × Bs)) (u:World):Prop where
 low:Below K w0 u
 box:Blk u K 24 (bC D num A1 ks.length c1)
 row:OwnR u (K+1) 38 2 A1 c1 ks.length (rowsV kCell ks)
section
variable {w0:World} {K:Nat} {D:Bs} {num:Int} {A1:Option Addr} {c1:Nat} {ks:List (Bs × Bs)} {u u':World}
theorem Kr.new (h:Kr w0 K D num A1 c1 ks u) (hb:Below u.heap.size u u'):Kr w0 K D num A1 c1 ks u' :=
 ⟨h.low.trans (hb.mono (by have:=h.box.lt; omega)),h.box.below hb h.box.lt,h.row.below hb⟩
end
def keyOfJ (j:JT):Bs × Bs:=(textJ (getJ j [107,105,100]),decB (textJ (getJ j [120])))
theorem read1_any (kid x:Bs) (hx:x.length≤100000) (w0:World) (K:Nat) (D:Bs) (num:Int) (A1:Option Addr) (c1:Nat) (ks:List (Bs × Bs)) (hl:ks.length≤100000) (w:World) (hk:Kr w0 K D num A1 c1 ks w) :
  Calls Tryz.prog 23 #[.string (bs kid),.string (bs x),.pointer (some ⟨K,0,none⟩)] w fun e w'=>e=.returned (.tuple #[])∧∃ A' c',Kr w0 K D num A' c' (ks++[(kid,decB x)]) w':=by
 have CD:=zY (decode_any x hx w);have HK:=zY hk;obtain ⟨n,hn⟩:=eX (ks.length);have hn1:(n:Int)≤100000:=by omega
 have HN:=zY hn;have hus:=Tryz.underlying9;have hub8:=Tryz.underlying40;have hu8:=Tryz.underlying5;obtain ⟨b,hb⟩:=eX (decB x);rw [← hb] at CD ⊢;obtain ⟨de,hde⟩:=eX (decE x);rw [← hde] at CD;clear hk hl hx hb hde hn;go_enter Tryz.func23,Tryz.ntmps23;go_wp2_with fail;refine qaa CD.out ?_;rintro e w2 ⟨A2,c2,rfl,hc2,hr2,hb2⟩;have HK2:=zY (HK.out.new hb2);have HR2:=zY hr2;have a2:w2.cell? ⟨K,2,none⟩=some (.slice A1 n c1):=by rw [HN.out]; exact HK2.out.box.cell 2
 have HRW:=zY (show OwnR w2 (K+1) 38 2 A1 c1 n (rowsV kCell ks) by rw [HN.out]; exact HK2.out.row);have HKB:=zY (show Blk w2 K 24 (bC D num A1 n c1) by rw [HN.out]; exact HK2.out.box);clear hc2 hr2 hb2
 go_wp2_with (first
  | refine qbt (l:=b) HR2.out hub8 hu8 hus rfl rfl rfl ?_
  | (refine qaP (ys:=[.string (bs kid),.string (bs b)]) sl_jwks rfl rfl HRW.out rfl rfl rfl rfl (by simp [Value.oneCell']) (by unfold maxLen; omega) (by omega) (HK2.out.box.lt) ?_; intro A5 c5 w5 ho hg hn5; have HB5:=zY (HKB.out.grown hg (fun he=>by have:=(HRW.out.lt K he.symm).1; omega)))
  | (refine qaf (x:=.tmp 20) (i:=2) HB5.out rfl rfl rfl rfl (by kernel_rfl) (by simp [bC]) rfl ?_; intro w6 hb6 hw6))
 go_end0
 refine ⟨rfl,A5,c5,⟨hw6.below (HK2.out.low.grown hg (by have:=HK2.out.box.lt; omega) (fun k hk=>by have:=(HRW.out.lt k hk).1; omega)) (Nat.le_refl _) (by have:=HB5.out.lt; omega),?_,?_⟩⟩
 ·rw [List.length_append,← HN.out];exact hb6
 ·have ho2:OwnR w5 (K+1) 38 2 A5 c5 (ks++[(kid,b)]).length (rowsV kCell (ks++[(kid,b)])):=by rw [qaT,qbp,List.length_append,← HN.out]; exact ho
  exact ho2.heap fun k cs hq hl=>(hw6.grown.block k (Array.getElem?_eq_some_iff.1 hq).1 (by intro h; injection h with h; omega)).trans hq
theorem each_any (j:JT) (v:JV) (M:Nat) (hM:4≤M) (hM2:M≤100000) (hok:OkJ M j) (w0:World) (K:Nat) (hK:K≤w0.heap.size) (D:Bs) (num:Int) (w:World) (hj:JRep w0 (fun b=>b<K) j v) (hk:Kr w0 K D num none 0 [] w) :
  Calls Tryz.prog 22 #[.agg (jvCells v),.func (.func 23) #[] #[.pointer (some ⟨K,0,none⟩)]] w fun e w'=>e=.returned (.tuple #[])∧∃ A' c',Kr w0 K D num A' c' ((kidsJ j).map keyOfJ) w':=by
 have hu:=Tryz.underlying44;have eg:∀ args w,(callFunc 23 args).run Tryz.prog w=.ok (.enter 23 args) w:=enters_of Tryz.func23 (by kernel_rfl) rfl;obtain ⟨ns,ks,kv,rfl,h1,h1c,hrn,h2,h2c,hkv,hrk,hkids⟩:=hj.inv;obtain ⟨W1,hW1⟩:=eX (w.alloc (.cells (jvCells v) 44));have hb1:Below w.heap.size w W1:=by rw [hW1]; exact (Below.refl _ w).alloc (Nat.le_refl _) _
 have HK1:=zY (show Blk W1 w.heap.size 44 (jvCells v) by rw [hW1]; exact Blk.new _ _ _);have HKR:=zY (hk.new hb1);have HW1:=zY hW1;obtain ⟨n,hn⟩:=eX (ks.length);have HN:=zY hn;have HOK:=zY (fun (x:JT) (hx:x ∈ ks)=>hok.kid (x:=x) hx);have hn9:(n:Int)≤4096:=by have h:=hok.counts; have h2:(kidsJ (.mk v.k v.n v.t ns ks)).length=ks.length:=rfl; omega
 have HKD:=zY (fun (u:World) (h:Below K w0 u)=>show ∀ (i:Nat) (hi:i<ks.length) (hi':i<kv.length),JRep u (fun b=>b<K) ks[i] kv[i] from fun i hi hi'=>(hkids i hi hi').heap fun b _ hb=>h.block b hb);have HRK:=zY (fun (u:World) (h:Below K w0 u)=>show Rd u K v.kA (rowsV jvCells kv) from (hrk.rd (B:=K) fun b _ hb=>hb).below h);have HKV:=zY hkv;have HM:=zY (show 4≤M∧M≤100000 from ⟨hM,hM2⟩);have a4:W1.cell? ⟨w.heap.size,4,none⟩=some (.slice v.kA n v.kc):=by rw [hn,← h2]; exact HK1.out.cell 4
 show Calls _ _ _ w fun e w'=>e=.returned (.tuple #[])∧∃ A' c',Kr w0 K D num A' c' (ks.map keyOfJ) w';clear hW1 hb1 hj hrn hrk hkids h1 h1c h2 h2c hn hkv hk hok hM hM2 hK;go_enter Tryz.func22,Tryz.ntmps22
 go_upto_region 1 with (fail)
 rw [show w.alloc (.cells (jvCells v) 44)=W1 from HW1.out.symm];generalize Value.agg (jvCells v)=AV;go_wp2_with fail
 go_loopw [13] (fun x wr=>∃ (i:Nat) (A1:Option Addr) (c1:Nat),i≤n∧x=.int .i64 (i:Int)∧Kr w0 K D num A1 c1 ((ks.take i).map keyOfJ) wr) (fun x _=>n - (intOf x).toNat)
 case atStart=>exact ⟨0,none,0,Nat.zero_le _,rfl,HKR.out⟩
 case round =>
  obtain ⟨i,A1,c1,hi,rfl,hkr⟩:=hrel;have HKI:=zY hkr
  by_cases hlt:i<n
  ·have hil:i<ks.length:=by rw [← HN.out]; exact hlt
   have hilv:i<kv.length:=by rw [HKV.out]; exact hil
   have hlt':(i:Int)<(n:Int):=by omega
   obtain ⟨ad,hA,hadb,hcell⟩:=qaO (f:=jvCells) (m:=5) (fun _=>rfl) (by decide) (HRK.out wr hkr.low) hilv;obtain ⟨Y,hY⟩:=eX (kv[i]);obtain ⟨X,hX⟩:=eX (ks[i]);have HJX:=zY (fun (u:World) (h:Below K w0 u)=>show JRep u (fun b=>b<K) X Y by rw [hX,hY]; exact HKD.out u h i hil hilv);have HOX:=zY (show OkJ M X from HOK.out X (by rw [hX]; exact List.getElem_mem hil));rw [← hY] at hcell;have HCL:=zY (show ∀ j u,(jvCells Y).toList[j]?=some u→wr.cell? ((ad.add (i*5)).add j)=some u from fun j u hu=>hcell j u (by simpa using hu));have HXS:=zY (show (ks.take (i+1)).map keyOfJ=(ks.take i).map keyOfJ++[keyOfJ X] by rw [List.take_succ_eq_append_getElem hil,List.map_append,hX]; rfl);have HLL:=zY (show ((ks.take i).map keyOfJ).length≤4096 by simp; omega);obtain ⟨L,hL⟩:=eX ((ks.take i).map keyOfJ);rw [← hL] at HKI HXS HLL;have HLT:=zY hlt;have HAE:=zY hA;rw [hA];have HGY:=zY (fun (x:Bs) (u:World) (h:Below K w0 u)=>get_any X Y x (fun b=>b<K) u (HJX.out u h) (qbe (HJX.out u h) HOX.out).1 (qbe (HJX.out u h) HOX.out).2);clear hcell hY hX hL hil hilv hadb hA hkr hlt
   go_upto_region 4 with (first
    | refine qaA (r:=(jvCells Y).toList) HCL.out rfl rfl rfl hu rfl qal ?_
    | (refine qac (cells:=jvCells Y) (Blk.new _ _ _) rfl rfl rfl rfl qal rfl (qae _) ?_; intro w5 hb5 hw5))
   obtain ⟨H5,hH5⟩:=eX (wr.heap.size);have hbw5:Below wr.heap.size wr w5:=qaz hw5;have HK5:=zY (HKI.out.new hbw5);rw [← hH5] at hb5 ⊢;have HX5:=zY hb5;clear hbw5 hb5 hw5 hH5;go_wp2_with (refine qad (x:=.tmp 5) (cs:=jvCells Y) HX5.out rfl rfl rfl hu rfl qal ?_);refine qaa (HGY.out [107,105,100] w5 HK5.out.low) ?_;rintro e w6 ⟨v1,b1,rfl,hj1,hb6⟩;have HK6:=zY (HK5.out.new hb6);have HX6:=zY (HX5.out.below hb6 HX5.out.lt);have HT1:=zY (show bs v1.t=bs (textJ (getJ X [107,105,100])) by rw [(qbE hj1).1]);clear hj1 hb6
   go_upto_region 5 with (refine qac (cells:=jvCells v1) (Blk.new _ _ _) rfl rfl rfl rfl qal rfl (qae _) ?_; intro w7 hb7 hw7)
   obtain ⟨H7,hH7⟩:=eX (w6.heap.size);have hbw7:Below w6.heap.size w6 w7:=qaz hw7;have HK7:=zY (HK6.out.new hbw7);have HX7:=zY (HX6.out.below hbw7 HX6.out.lt);rw [← hH7] at hb7 ⊢;have HV7:=zY hb7;clear hbw7 hb7 hw7 hH7;go_wp2_with (refine qad (x:=.tmp 5) (cs:=jvCells Y) HX7.out rfl rfl rfl hu rfl qal ?_);refine qaa (HGY.out [120] w7 HK7.out.low) ?_;rintro e w8 ⟨v2,b2,rfl,hj2,hb8⟩;have HK8:=zY (HK7.out.new hb8);have HV8:=zY (HV7.out.below hb8 HV7.out.lt);have HT2:=zY (show bs v2.t=bs (textJ (getJ X [120])) by rw [(qbE hj2).1]);clear hj2 hb8
   go_upto_region 6 with (refine qac (cells:=jvCells v2) (Blk.new _ _ _) rfl rfl rfl rfl qal rfl (qae _) ?_; intro w9 hb9 hw9)
   obtain ⟨H9,hH9⟩:=eX (w8.heap.size);have hbw9:Below w8.heap.size w8 w9:=qaz hw9;have HK9:=zY (HK8.out.new hbw9);have HV9:=HV8.out.below hbw9 HV8.out.lt;rw [← hH9] at hb9 ⊢;have c7:w9.cell? ⟨H7,2,none⟩=some (.string (bs (textJ (getJ X [107,105,100])))):=by rw [← HT1.out]; exact HV9.cell 2
   have c9:w9.cell? ⟨H9,2,none⟩=some (.string (bs (textJ (getJ X [120])))):=by rw [← HT2.out]; exact hb9.cell 2
   have CR:=zY (read1_any (textJ (getJ X [107,105,100])) (textJ (getJ X [120])) (by have:=((HOX.out.get HM.out.1 [120]).text); have:=HM.out.2; omega) w0 K D num A1 c1 L (by have:=HLL.out; omega) w9 HK9.out);obtain ⟨T1,hT1⟩:=eX (textJ (getJ X [107,105,100]));obtain ⟨T2,hT2⟩:=eX (textJ (getJ X [120]));have HKX:=zY (show keyOfJ X=(T1,decB T2) by rw [hT1,hT2]; rfl);rw [← hT1] at c7 CR;rw [← hT2] at c9 CR;clear HV9 hbw9 hb9 hw9 hH9 hT1 hT2;go_wp2_with (go_at_call 23; refine qaa CR.out ?_; rintro e wz ⟨rfl,A5,c5,hkz⟩; have HKZ:=zY hkz; clear hkz)
   go_roundw
   case rel=>exact ⟨i+1,A5,c5,HLT.out,by go_num,by rw [HXS.out,HKX.out]; exact HKZ.out⟩
   case measure=>have:=HLT.out; simp [intOf]; omega
  ·obtain rfl:i=n:=by omega
   have HTK:=zY (show ks.take i=ks from List.take_of_length_le (by rw [← HN.out]; exact Nat.le_refl _));rw [HTK.out] at HKI;clear hkr;go_wp2_with fail
   go_end0
   exact ⟨rfl,A1,c1,HKI.out⟩
end Go.Proofs.YtlkikjeccamheaaGreatDoor.Js
namespace Go.Proofs.YtlkikjeccamheaaGreatDoor.Js
set_option linter.unusedSimpArgs false
set_option linter.unusedVariables false
set_option maxRecDepth 100000
set_option maxHeartbeats 4000000
theorem quoteC_le (c:UInt8):(quoteC c).length≤6:=by
 unfold quoteC
 split
 ·simp
 split <;> simp
theorem quote_le (s:Bs):(quote s).length≤6*s.length+2:=by
 have h:∀ l:Bs,(l.flatMap quoteC).length≤6*l.length:=by
  intro l
  induction l with
  | nil=>simp
  | cons c r ih =>
   have:=quoteC_le c;rw [List.flatMap_cons,List.length_append,List.length_cons];omega
 have:=h s;unfold quote;simp only [List.length_cons,List.length_append,List.length_nil];omega
theorem digB_le:∀ f n:Nat,(digB f n).length≤f
 | 0,n=>by simp [digB]
 | f+1,n=>by
  have:=digB_le f (n/10);unfold digB
  split <;> simp; omega
theorem intB_le (n:Int):(intB n).length≤17:=by
 have:=digB_le 16 n.natAbs;unfold intB
 split <;> simp <;> omega
theorem qdo:∀ (n:Nat) (acc r:Bs) {s r':Bs},strA n acc r=some (s,r')→s.length+r'.length+1≤acc.length+r.length
 | 0,acc,r,s,r',h=>by simp [strA] at h
 | n+1,acc,[],s,r',h=>by simp [strA] at h
 | n+1,acc,c :: r,s,r',h=>by
  unfold strA at h
  split at h
  ·simp at h
  ·split at h
   ·injection h with h; injection h with h1 h2; subst h1 h2; simp; omega
   ·split at h
    ·split at h
     ·rename_i b r1 he
      have h1:=qdh he;have h2:=qdo n _ _ h;simp at h2 ⊢; omega
     ·simp at h
    ·have h2:=qdo n _ _ h;simp at h2 ⊢; omega
theorem textP_len2 {r s r':Bs} (h:textP r=some (s,r')):s.length+r'.length+2≤r.length:=by
 unfold textP at h
 split at h
 ·have h1:=qdo _ _ _ h
  cases r with
  | nil=>simp [strA] at h
  | cons c l=>simp at h1 ⊢; omega
 ·simp at h
theorem qcu {d:Nat} {m:Bool} (hv:∀ {r v r'},valueP d r=.ok (v,r')→(writeV v).length+20*r'.length≤20*r.length):∀ (n:Nat) {ns ns':List Bs} {ks ks':List JT} {r r':Bs},listL (valueP d) m n ns ks r=.ok (ns',ks',r') →
  (m=true→ns.length=ks.length)→(m=true→ns'.length=ks'.length)∧(itemsV m (if m then ns' else []) ks' true).length+20*r'.length≤(itemsV m (if m then ns else []) ks true).length+20*r.length
 | 0,ns,ns',ks,ks',r,r',h,hl=>by rw [listL] at h; cases h
 | n+1,ns,ns',ks,ks',r,r',h,hl=>by
  have hsl:=qbY (endC m) r
  rcases hs:signP (endC m) r with ⟨b,r1⟩
  rw [hs] at hsl;dsimp only at hsl
  cases b with
  | true =>
   rw [qbL hs] at h
   injection h with h
   injection h with h1 h
   injection h with h2 h3
   subst h1 h2 h3;exact ⟨hl,by omega⟩
  | false =>
   rw [qbj hs] at h;unfold moreK at h
   split at h
   ·cases h
   ·rename_i x k r4 hc
    unfold kidK at hc
    split at hc
    ·cases hc
    ·rename_i y r3 hn
     split at hc
     ·cases hc
     ·rename_i k' r4' hv'
      injection hc with hc
      injection hc with e1 hc
      injection hc with e2 e3
      subst e1 e2 e3;have hw:=hv hv';unfold nameK at hn
      split at hn
      ·cases hn
      ·rename_i r2 hcm
       have l2:r2.length+(if ks.isEmpty then 0 else 1)≤r1.length:=by
        unfold commaP at hcm
        split at hcm
        ·rename_i he
         injection hcm with hcm
         subst hcm;rw [he];simp
        ·rename_i he
         rw [if_neg he];unfold mustP at hcm
         split at hcm
         ·rename_i hlk
          injection hcm with hcm
          subst hcm;have h1:=qaG (skip r1).tail;have h2:=qaG r1;have h3:(skip r1)≠[]:=fun h=>by rw [h] at hlk; exact absurd hlk (by decide)
          have h4:=List.length_pos_iff.2 h3;simp only [List.length_tail] at h1;omega
         ·cases hcm
       cases m with
       | false =>
        unfold keyP at hn;rw [if_neg (by decide)] at hn
        injection hn with hn
        injection hn with e1 e2
        subst e1 e2;obtain ⟨h1,h2⟩:=qcu hv n h (fun h=>by cases h);refine ⟨h1,?_⟩;have h3:=qbk false ks [] k' [] true (fun h=>by cases h);simp only [Bool.false_eq_true,if_false,Bool.true_and,List.nil_append] at h3 h2 ⊢;rw [h3,List.length_append,List.length_append] at h2;have h4:(if ks.isEmpty=true then ([]:Bs) else [44]).length≤(if ks.isEmpty then 0 else 1):=by split <;> simp
        have h5:(if ks.isEmpty=true then 0 else 1)≤1:=by split <;> omega
        omega
       | true =>
        unfold keyP at hn;rw [if_pos rfl] at hn;unfold nameP at hn
        split at hn
        ·cases hn
        ·rename_i t r5 ht
         have ht2:=textP_len2 ht
         split at hn
         ·cases hn
         ·split at hn
          ·cases hn
          ·rename_i r6 hm
           injection hn with hn
           injection hn with e1 e2
           subst e1 e2;have hm2:=qb1 hm;obtain ⟨h1,h2⟩:=qcu hv n h (fun _=>by simp [hl rfl]);refine ⟨h1,?_⟩;have h3:=qbk true ks ns k' t true hl;simp only [if_true,Bool.true_and] at h3 h2 ⊢;rw [h3,List.length_append,List.length_append,List.length_append,List.length_append] at h2;have h4:(if ks.isEmpty=true then ([]:Bs) else [44]).length≤(if ks.isEmpty then 0 else 1):=by split <;> simp
           have h5:(if ks.isEmpty=true then 0 else 1)≤1:=by split <;> omega
           have h6:=quote_le t;simp only [List.length_cons,List.length_nil] at h2;omega
theorem qc6:∀ (d:Nat) {r:Bs} {v:JT} {r':Bs},valueP d r=.ok (v,r')→(writeV v).length+20*r'.length≤20*r.length:=by
 have hraw:∀ {lp:Bs→Except Int (JT × Bs)},(∀ {r v r'},lp r=.ok (v,r')→r≠[]→(writeV v).length+20*r'.length≤20*r.length)→∀ {r v r'},rawP lp r=.ok (v,r')→(writeV v).length+20*r'.length≤20*r.length:=by
  intro lp hl r v r' h;have hlen:r'.length<r.length→(writeV v).length≤20→(writeV v).length+20*r'.length≤20*r.length:=fun h1 h2=>by omega
  unfold rawP at h
  have hw:∀ {w:Bs} {v0:JT},w≠[]→(writeV v0).length≤20→wordR w r v0=.ok (v,r')→(writeV v).length+20*r'.length≤20*r.length:=by
   intro w v0 h0 h1 h2;have h3:=qcx h0 h2;unfold wordR at h2
   split at h2
   ·cases h2
   ·injection h2 with h2
    injection h2 with e1 e2
    subst e1;exact hlen h3 h1
  split at h
  ·exact hw (by simp) (by decide) h
  split at h
  ·exact hw (by simp) (by decide) h
  split at h
  ·exact hw (by simp) (by decide) h
  split at h
  ·unfold optR at h
   split at h
   ·cases h
   ·rename_i t r0 ht
    injection h with h
    injection h with e1 e2
    subst e1 e2;have h1:=textP_len2 ht;have h2:=quote_le t;have h3:writeV (jtext t)=quote t:=rfl;rw [h3];omega
  split at h
  ·rename_i hq
   exact hl h (by rintro rfl; simp [look] at hq)
  ·unfold optR at h
   split at h
   ·cases h
   ·rename_i t r0 ht
    injection h with h
    injection h with e1 e2
    subst e1 e2;have h1:=numP_len ht;have h2:=intB_le t;have h3:writeV (jint t)=intB t:=rfl;rw [h3];omega
 have hskip:∀ {lp:Bs→Except Int (JT × Bs)} {r v r'},(∀ {v r'},rawP lp (skip r)=.ok (v,r')→(writeV v).length+20*r'.length≤20*(skip r).length)→skipR (rawP lp (skip r))=.ok (v,r')→(writeV v).length+20*r'.length≤20*r.length:=by
  intro lp r v r' h h2;obtain ⟨r0,h3,rfl⟩:=qbD h2;have h4:=h h3;have h5:=qaG r;have h6:=qaG r0;omega
 intro d
 induction d with
 | zero =>
  intro r v r' h;exact hskip (lp:=fun _=>.error 9) (fun h=>hraw (lp:=fun _=>.error 9) (fun h _=>by cases h) h) h
 | succ d ih =>
  intro r v r' h;refine hskip (lp:=listP (valueP d)) (fun h=>hraw (lp:=listP (valueP d)) (fun {r v r'} h hr=>?_) h) h;rw [qbK] at h;unfold lres at h
  split at h
  ·cases h
  ·rename_i ns ks r2 hc
   injection h with h
   injection h with h1 h2
   subst h1 h2;obtain ⟨h3,h4⟩:=qcu ih _ hc (fun _=>rfl);have h5:itemsV (isMap r) (if isMap r=true then [] else []) [] true=[]:=by simp [itemsV]
   rw [h5] at h4;have hs:=qaG r.tail;have hr0:=List.length_pos_iff.2 hr;simp only [List.length_tail,List.length_nil] at hs h4;rw [writeV]
   cases hm:isMap r with
   | true =>
    rw [hm] at h4;simp [kindV] at h4 ⊢;omega
   | false =>
    rw [hm] at h4
    have hns:∀ ns ns2 f,itemsV false ns ks f=itemsV false ns2 ks f:=by
     clear h4 h3 hc
     induction ks with
     | nil=>intro ns ns2 f; simp [itemsV]
     | cons k l ihk=>intro ns ns2 f; rw [itemsV,itemsV,ihk ns.tail ns2.tail]; simp
    simp [kindV] at h4 ⊢;rw [hns ns []];omega
theorem qby {s:Bs} {j:JT} (h:readP s=.ok j):(writeV j).length≤40000:=by
 unfold readP at h
 split at h
 ·cases h
 ·split at h
  ·cases h
  ·rename_i hv
   injection h with h
   subst h;have:=qc6 6 hv;omega
  ·cases h
end Go.Proofs.YtlkikjeccamheaaGreatDoor.Js
namespace Go.Proofs.YtlkikjeccamheaaGreatDoor.Js
set_option linter.unusedSimpArgs false
set_option linter.unusedVariables false
set_option maxRecDepth 100000
set_option maxHeartbeats 4000000
open Go.RowKit
def zBD:BD:=⟨[],0,[]⟩
def bdOf (j:JT):BD:=⟨textJ (getJ j [100,111,109,97,105,110]),numJ (getJ j [110,117,109,98,101,114]),(kidsJ (getJ j [107,101,121,115])).map keyOfJ⟩
def sureB (b:BD) (s:Bs):Bool:=mayB b.dom b.num b.keys && decide (writeV (bundleJ b)=s)
def readK (s:Bs):BD × Int:=match readP s with
 | .error _=>(zBD,if 2000<s.length then 4 else 13)
 | .ok j=>if sureB (bdOf j) s then (bdOf j,0) else (zBD,13)
def RdkPost (s:Bs) (w:World) (e:Ending) (w':World):Prop :=
 ∃ (A:Option Addr) (c:Nat),e=.returned (.tuple #[.agg (bC (readK s).1.dom (readK s).1.num A (readK s).1.keys.length c),.int .i64 (readK s).2])∧RdS w' (fun b=>w.heap.size≤b) A (rowsV kCell (readK s).1.keys)∧Below w.heap.size w w'
theorem qdz {s:Bs} (h:2000<s.length):∃ e,readP s=.error e:=by
 unfold readP;rw [if_pos h];exact ⟨_,rfl⟩
theorem decS_len:∀ (s:Bs) (n w:Nat) (b:Bs),decS n w s=some b→b.length≤s.length
 | [],n,w,b,h=>by
  unfold decS at h
  split at h
  ·cases h
  ·injection h with h
   rw [← h];exact Nat.le_refl _
 | c :: r,n,w,b,h=>by
  unfold decS at h
  split at h
  ·cases h
  ·split at h
   ·exact Nat.le_succ_of_le (decS_len r _ _ b h)
   ·obtain ⟨b2,h2,rfl⟩:=Option.map_eq_some_iff.1 h;have:=decS_len r _ _ b2 h2;simp;exact this
theorem decB_len (s:Bs):(decB s).length≤s.length:=by
 unfold decB dec
 cases h:decS 0 0 s with
 | none=>simp
 | some b=>exact decS_len s 0 0 b h
theorem RdkPost.zero {s:Bs} {w w':World} {k:Int} (h:readK s=(zBD,k)) (hb:Below w.heap.size w w'):RdkPost s w (.returned (.tuple #[.agg zB,.int .i64 k])) w':=by
 refine ⟨none,0,?_,?_,hb⟩
 ·rw [h];rfl
 ·rw [h];exact RdS.nil _ _ _
set_option maxHeartbeats 8000000 in
theorem jwkread_any (s:Bs) (w:World) (hs:(s.length:Int)≤9223372036854775807) (hG:Sh.TabG w) :
  Calls Tryz.prog 9 #[.string (bs s)] w (RdkPost s w):=by
 have hu:=Tryz.underlying44;have hub:=Tryz.underlying24;have hmf:∀ (fn:Fn) (first cap:Array Value) (u:World),(Instr.makeFunc fn first cap).run Tryz.prog u=.ok (.func fn first cap) u:=fun _ _ _ _=>rfl;obtain ⟨n,hn⟩:=eX (s.length);have hsz:((bs s).size:Int)=(n:Int):=by rw [qay,hn]
 obtain ⟨W0,hW0⟩:=eX (w.alloc (.cells zB 24));have hb0:Below w.heap.size w W0:=by rw [hW0]; exact (Below.refl _ w).alloc (Nat.le_refl _) _
 have HB0:=zY hb0;have HZ0:=zY (show Blk W0 w.heap.size 24 zB by rw [hW0]; exact Blk.new _ _ _);have HS0:=zY (show W0.heap.size=w.heap.size+1 by rw [hW0]; simp);have HW0:=zY hW0;have HN:=zY hn;have HGT:=zY (fun (u:World) (h:Below w.heap.size w u)=>show Sh.TabG u from hG.below h hG.size)
 have CJ:=zY (show Calls Tryz.prog 20 #[.string (bs s)] W0 fun x w'=>∃ v:JV,x=.returned (.tuple #[.agg (jvCells v),.int .i64 (errE (readP s))])∧Below W0.heap.size W0 w' ∧
   (∀ j,readP s=.ok j→JRep w' (fun b=>W0.heap.size≤b) j v)∧(∀ e,readP s=.error e→v=zJV) from jread_any (bs s) W0)
 have HZR:=zY (fun (k:Int) (h:readK s=(zBD,k)) (u u5:World) (hb:Below w.heap.size w u) (hw5:Wrote w.heap.size u u5)=>show RdkPost s w (.returned (.tuple #[.agg zB,.int .i64 k])) u5 from
  RdkPost.zero h (hw5.below hb (Nat.le_refl _) hb.size))
 have hn1:(n:Int)≤9223372036854775807:=by omega
 clear hW0 hb0 hG hs hn;go_enter Tryz.func9,Tryz.ntmps9
 go_upto_region 1 with (fail)
 rw [show w.alloc (.cells #[.string ⟨#[]⟩,.int .i64 0,.slice none 0 0] 24)=W0 from HW0.out.symm]
 by_cases hl:2000<n
 ·have hl':(2000:Int)<(n:Int):=by omega
  have HRK:=zY (show readK s=(zBD,4) by
   obtain ⟨e,he⟩:=qdz (s:=s) (by rw [← HN.out]; exact hl);rw [readK,he,if_pos (by rw [← HN.out]; exact hl)])
  clear hl;go_wp2_with (refine qac (x:=.tmp 2) (cells:=zB) HZ0.out rfl rfl rfl rfl qaE rfl (by simp [zB,Value.oneCell']) ?_; intro w5 hb5 hw5);refine bodyPost_ret (qai (P:=Tryz.prog) rfl rfl hb5 hub rfl qaE) rfl ?_;exact HZR.out 4 HRK.out W0 w5 HB0.out hw5
 ·have hl':¬ (2000:Int)<(n:Int):=by omega
  have HNL:=zY (show ¬ 2000<s.length by rw [← HN.out]; exact hl);clear hl;go_wp2_with fail;refine qaa CJ.out ?_;rintro e w1 ⟨v,rfl,hb1,hj1,hz1⟩;have HB1:=zY (HB0.out.trans (hb1.mono HB0.out.size));have HZ1:=zY (HZ0.out.below hb1 HZ0.out.lt);have HJ1:=zY hj1;clear hb1 hj1 hz1
  go_upto_region 4 with (refine qac (cells:=jvCells v) (Blk.new _ _ _) rfl rfl rfl rfl qal rfl (qae _) ?_; intro w2 hb2 hw2)
  obtain ⟨H4,hH4⟩:=eX (w1.heap.size);have hbw2:Below w1.heap.size w1 w2:=qaz hw2;rw [← hH4] at hb2 ⊢;have HV2:=zY hb2;have HZ2:=zY (HZ1.out.below hbw2 HZ1.out.lt);have HB2:=zY (HB1.out.trans (hbw2.mono HB1.out.size));have HJ2:=zY (fun (j:JT) (h:readP s=.ok j)=>show JRep w2 (fun b=>W0.heap.size≤b) j v from (HJ1.out j h).heap fun b hb _=>hbw2.block b hb);clear hbw2 hb2 hw2 hH4
  cases hq:readP s with
  | error e0 =>
   have HNE:=zY (show e0≠0 from by
    unfold readP at hq;rw [if_neg HNL.out] at hq
    split at hq
    ·rename_i e1 he
     injection hq with hq
     rw [← hq];exact qbI 6 he
    ·cases hq
    ·injection hq with hq
     omega)
   have hne:((errE (Except.error (α:=JT) e0)) != 0)=true:=by
    have:=HNE.out
    simpa [errE] using this
   have HRK:=zY (show readK s=(zBD,13) by rw [readK,hq,if_neg HNL.out]);clear hq;go_wp2_with (refine qac (x:=.tmp 2) (cells:=zB) HZ2.out rfl rfl rfl rfl qaE rfl (by simp [zB,Value.oneCell']) ?_; intro w5 hb5 hw5);refine bodyPost_ret (qai (P:=Tryz.prog) rfl rfl hb5 hub rfl qaE) rfl ?_;exact HZR.out 13 HRK.out w2 w5 HB2.out hw5
  | ok j =>
   have HJ3:=zY (HJ2.out j hq);have HOK:=zY (show OkJ 40000 j from ⟨⟨_,qcp hq⟩,qby hq,qco hq⟩);have HRK:=zY (show readK s=if sureB (bdOf j) s then (bdOf j,0) else (zBD,13) by rw [readK,hq]);have HGY:=zY (fun (x:Bs) (u:World) (h:JRep u (fun b=>W0.heap.size≤b) j v)=>get_any j v x (fun b=>W0.heap.size≤b) u h (qbe h HOK.out).1 (qbe h HOK.out).2);clear hq;have he0:(errE (Except.ok (ε:=Int) j) != 0)=false:=rfl
   go_upto_region 6 with (fail)
   go_wp2_with (refine qad (x:=.tmp 4) (cs:=jvCells v) HV2.out rfl rfl rfl hu rfl qal ?_);refine qaa (HGY.out [100,111,109,97,105,110] w2 HJ3.out) ?_;rintro e w3 ⟨v1,b1,rfl,hj1,hb3⟩;have HB3:=zY (HB2.out.trans (hb3.mono HB2.out.size));have HV3:=zY (HV2.out.below hb3 HV2.out.lt);have HZ3:=zY (HZ2.out.below hb3 HZ2.out.lt);have HR3:=zY (HJ3.out.heap fun b hb _=>hb3.block b hb);have HT1:=zY (show v1.t=textJ (getJ j [100,111,109,97,105,110]) from (qbE hj1).1.symm);clear hj1 hb3
   go_upto_region 7 with (refine qac (cells:=jvCells v1) (Blk.new _ _ _) rfl rfl rfl rfl qal rfl (qae _) ?_; intro w4 hb4 hw4)
   obtain ⟨H6,hH6⟩:=eX (w3.heap.size);have hbw4:Below w3.heap.size w3 w4:=qaz hw4;rw [← hH6] at hb4 ⊢;have HD4:=zY hb4;have HB4:=zY (HB3.out.trans (hbw4.mono HB3.out.size));have HV4:=zY (HV3.out.below hbw4 HV3.out.lt);have HZ4:=zY (HZ3.out.below hbw4 HZ3.out.lt);have HR4:=zY (HR3.out.heap fun b hb _=>hbw4.block b hb);clear hbw4 hb4 hw4 hH6;go_wp2_with (refine qad (x:=.tmp 4) (cs:=jvCells v) HV4.out rfl rfl rfl hu rfl qal ?_);refine qaa (HGY.out [110,117,109,98,101,114] w4 HR4.out) ?_;rintro e w5 ⟨v2,b2,rfl,hj2,hb5⟩;have HB5:=zY (HB4.out.trans (hb5.mono HB4.out.size));have HV5:=zY (HV4.out.below hb5 HV4.out.lt);have HZ5:=zY (HZ4.out.below hb5 HZ4.out.lt);have HD5:=zY (HD4.out.below hb5 HD4.out.lt);have HR5:=zY (HR4.out.heap fun b hb _=>hb5.block b hb);have HT2:=zY (show v2.n=numJ (getJ j [110,117,109,98,101,114]) from (qbE hj2).2.symm);clear hj2 hb5
   go_upto_region 8 with (refine qac (cells:=jvCells v2) (Blk.new _ _ _) rfl rfl rfl rfl qal rfl (qae _) ?_; intro w6 hb6 hw6)
   obtain ⟨H8,hH8⟩:=eX (w5.heap.size);have hbw6:Below w5.heap.size w5 w6:=qaz hw6;rw [← hH8] at hb6 ⊢;have HN6:=zY hb6;have HB6:=zY (HB5.out.trans (hbw6.mono HB5.out.size));have HV6:=zY (HV5.out.below hbw6 HV5.out.lt);have HZ6:=zY (HZ5.out.below hbw6 HZ5.out.lt);have HD6:=zY (HD5.out.below hbw6 HD5.out.lt);have HR6:=zY (HR5.out.heap fun b hb _=>hbw6.block b hb);clear hbw6 hb6 hw6 hH8;go_wp2_with (refine qad (x:=.tmp 4) (cs:=jvCells v) HV6.out rfl rfl rfl hu rfl qal ?_);refine qaa (HGY.out [107,101,121,115] w6 HR6.out) ?_;rintro e w7 ⟨v3,b3,rfl,hj3,hb7⟩;have HB7:=zY (HB6.out.trans (hb7.mono HB6.out.size));have HZ7:=zY (HZ6.out.below hb7 HZ6.out.lt);have HD7:=zY (HD6.out.below hb7 HD6.out.lt);have HN7:=zY (HN6.out.below hb7 HN6.out.lt);have HJ7:=zY hj3;clear hj3 hb7
   go_upto_region 9 with (refine qac (cells:=jvCells v3) (Blk.new _ _ _) rfl rfl rfl rfl qal rfl (qae _) ?_; intro w8 hb8 hw8)
   obtain ⟨H10,hH10⟩:=eX (w7.heap.size);have hbw8:Below w7.heap.size w7 w8:=qaz hw8;rw [← hH10] at hb8 ⊢;have HK8:=zY hb8;have HB8:=zY (HB7.out.trans (hbw8.mono HB7.out.size));have HZ8:=zY (HZ7.out.below hbw8 HZ7.out.lt);have HJ8:=zY (HJ7.out.heap fun b hb _=>hbw8.block b hb);have d6:w8.cell? ⟨H6,2,none⟩=some (.string (bs (textJ (getJ j [100,111,109,97,105,110])))):=by rw [← HT1.out]; exact (HD7.out.below hbw8 HD7.out.lt).cell 2
   have d8:w8.cell? ⟨H8,1,none⟩=some (.int .i64 (numJ (getJ j [110,117,109,98,101,114]))):=by rw [← HT2.out]; exact (HN7.out.below hbw8 HN7.out.lt).cell 1
   clear hbw8 hb8 hw8 hH10;obtain ⟨D,hD⟩:=eX (textJ (getJ j [100,111,109,97,105,110]));obtain ⟨num,hnum⟩:=eX (numJ (getJ j [110,117,109,98,101,114]));obtain ⟨JK,hJK⟩:=eX (getJ j [107,101,121,115]);have HOJ:=zY (show OkJ 40000 JK by rw [hJK]; exact HOK.out.get (by decide) _);have HBD:=zY (show bdOf j=⟨D,num,(kidsJ JK).map keyOfJ⟩ by rw [hD,hnum,hJK]; rfl);have HDL:=zY (show D.length≤40000 by rw [hD]; exact (HOK.out.get (by decide) _).text);rw [← hD] at d6;rw [← hnum] at d8;rw [← hJK] at HJ8;clear hD hnum hJK
   go_upto_region 10 with (refine qac (cells:=bC D num none 0 0) (Blk.new _ _ _) rfl rfl rfl rfl qaE rfl (by simp [bC,Value.oneCell']) ?_; intro w9 hb9 hw9)
   obtain ⟨K,hK⟩:=eX (w8.heap.size);have hbw9:Below w8.heap.size w8 w9:=qaz hw9;rw [← hK] at hb9 hbw9 ⊢;have HK9:=zY (HK8.out.below hbw9 (by rw [hK]; exact HK8.out.lt));have HB9:=zY (HB8.out.trans (hbw9.mono (by rw [hK]; exact HB8.out.size)));have HZ9:=zY (HZ8.out.below hbw9 (by rw [hK]; exact HZ8.out.lt));have HJ9:=zY (show JRep w9 (fun b=>b<K) JK v3 from (HJ8.out.imp (S':=fun b=>b<K) fun b hb _=>by rw [hK]; exact hb).heap fun b hb hlt=>hbw9.block b hlt);have HKR:=zY (show Kr w9 K D num none 0 [] w9 from ⟨Below.refl _ _,hb9,OwnR.nil _ _ _ _⟩);have HWK:=zY (show w.heap.size+1≤K by rw [hK,← HS0.out]; have:=HZ8.out.lt; have:=HS0.out; omega);have HHK:=zY (show K<w9.heap.size from hb9.lt);clear hb9 hw9 hbw9 hK d6 d8;have CE:=zY (each_any JK v3 40000 (by decide) (by decide) HOJ.out w9 K (Nat.le_of_lt HHK.out) D num w9 HJ9.out HKR.out)
   go_upto_region 11 with (first
    | refine qad (x:=.tmp 10) (cs:=jvCells v3) HK9.out rfl rfl rfl hu rfl qal ?_
    | (go_at_call 22; refine qaa CE.out ?_; rintro e w10 ⟨rfl,A',c',hkr⟩; have HKA:=zY hkr; clear hkr))
   obtain ⟨L,hL⟩:=eX ((kidsJ JK).map keyOfJ);have HLL:=zY (show L.length≤4096 by rw [hL,List.length_map]; exact HOJ.out.counts)
   have HLX:=zY (show ∀ k ∈ L,(k.2.length:Int)≤9223372036854775807 from fun k hk=>by
    rw [hL] at hk;obtain ⟨x,hx,rfl⟩:=List.mem_map.1 hk;have h1:=decB_len (textJ (getJ x [120]));have h2:=((HOJ.out.kid hx).get (by decide) [120]).text;show ((decB (textJ (getJ x [120]))).length:Int)≤_
    omega)
   rw [← hL] at HKA HBD;clear hL;have HBA:=zY (HB9.out.trans (HKA.out.low.mono (by have:=HWK.out; omega)));have HZA:=zY (HZ9.out.below HKA.out.low (by have:=HWK.out; omega));have CW:=zY (jwkwrite_any D num L A' c' w10.heap.size w10 (HKA.out.row.row.rd) (Nat.le_refl _) (by rw [qay]; have:=HDL.out; omega) (by have:=HLL.out; omega) HLX.out (HGT.out _ HBA.out));have HWD:=zY (show wrB D num L=if mayB D num L then (writeV (bundleJ ⟨D,num,L⟩),0) else ([],1) from rfl);have HSU:=zY (show sureB (bdOf j) s=(mayB D num L && decide (writeV (bundleJ ⟨D,num,L⟩)=s)) by rw [HBD.out]; rfl);obtain ⟨R,hR⟩:=eX (wrB D num L);obtain ⟨m,hm⟩:=eX (mayB D num L);obtain ⟨T,hT⟩:∃ T,T=writeV (bundleJ ⟨D,num,L⟩):=⟨_,rfl⟩;rw [← hR] at CW HWD;rw [← hm] at HWD HSU;rw [← hT] at HWD HSU;have HKB:=zY (show Blk w10 K 24 (bC D num A' L.length c') from HKA.out.box);clear hR hm hT;go_wp2_with (refine qad (x:=.tmp 12) (cs:=bC D num A' L.length c') HKB.out rfl rfl rfl hub rfl qaE ?_);refine qaa CW.out ?_;rintro e w11 ⟨rfl,hb11⟩;have HBB:=zY (HBA.out.trans (hb11.mono HBA.out.size));have HZB:=zY (HZA.out.below hb11 HZA.out.lt);have HKC:=zY (HKB.out.below hb11 HKB.out.lt);have HRW:=zY (HKA.out.row.below hb11);clear hb11;have hzero:readK s=(zBD,13)→∀ w5,Wrote w.heap.size w11 w5→RdkPost s w (.returned (.tuple #[.agg zB,.int .i64 13])) w5:=fun h w5 hw5=>HZR.out 13 h w11 w5 HBB.out hw5;have HZERO:=zY hzero;clear hzero
   cases m with
   | false =>
    obtain rfl:R=([],1):=HWD.out;have HRZ:=zY (show readK s=(zBD,13) by rw [HRK.out,HSU.out]; rfl);go_wp2_with (refine qac (x:=.tmp 2) (cells:=zB) HZB.out rfl rfl rfl rfl qaE rfl (by simp [zB,Value.oneCell']) ?_; intro w5 hb5 hw5);refine bodyPost_ret (qai (P:=Tryz.prog) rfl rfl hb5 hub rfl qaE) rfl ?_;exact HZERO.out HRZ.out w5 hw5
   | true =>
    obtain rfl:R=(T,0):=HWD.out
    by_cases hq:T=s
    ·have hq':((bs T).toList == (bs s).toList)=true:=by rw [qat,qat]; simpa using hq
     have HRZ:=zY (show readK s=(bdOf j,0) by rw [HRK.out,HSU.out,decide_eq_true hq]; rfl);clear hq
     go_wp2_with (first
      | refine qad (x:=.tmp 12) (cs:=bC D num A' L.length c') HKC.out rfl rfl rfl hub rfl qaE ?_
      | (refine qac (x:=.tmp 2) (cells:=bC D num A' L.length c') HZB.out rfl rfl rfl rfl qaE rfl (by simp [bC,Value.oneCell']) ?_; intro w5 hb5 hw5))
     refine bodyPost_ret (qai (P:=Tryz.prog) rfl rfl hb5 hub rfl qaE) rfl ?_;refine ⟨A',c',?_,?_,hw5.below HBB.out (Nat.le_refl _) HBB.out.size⟩
     ·rw [HRZ.out,HBD.out];rfl
     ·rw [HRZ.out,HBD.out];exact ((qdE HRW.out).heap fun b hb hs=>hw5.grown.block b hb (by intro h; injection h with h; have:=HWK.out; omega)).imp fun b _ hb=>by have:=HWK.out; omega
    ·have hq':((bs T).toList == (bs s).toList)=false:=by rw [qat,qat]; simpa using hq
     have HRZ:=zY (show readK s=(zBD,13) by rw [HRK.out,HSU.out,decide_eq_false hq]; rfl);clear hq;go_wp2_with (refine qac (x:=.tmp 2) (cells:=zB) HZB.out rfl rfl rfl rfl qaE rfl (by simp [zB,Value.oneCell']) ?_; intro w5 hb5 hw5);refine bodyPost_ret (qai (P:=Tryz.prog) rfl rfl hb5 hub rfl qaE) rfl ?_;exact HZERO.out HRZ.out w5 hw5
theorem rin_any (c:UInt8) (s:Bs) (hs:s.length≤100000) (w:World):Calls Tryz.prog 39 #[.int .u8 ((c.toNat:Nat):Int),.string (bs s)] w fun e w'=>e=.returned (.bool (decide (c ∈ s)))∧w'=w:=by
 obtain ⟨n,hn⟩:=eX (s.length);have hsz:((bs s).size:Int)=(n:Int):=by rw [qay,hn]
 have hs':(n:Int)≤100000:=by omega
 have HN:=zY hn;have HSZ:=zY (qay s);obtain ⟨z,hz⟩:∃ z:Int,z=((c.toNat:Nat):Int):=⟨_,rfl⟩;rw [← hz];have HZ:=zY hz;clear hn hz;go_enter Tryz.func39,Tryz.ntmps39;go_wp2_with fail
 go_loop [5] (fun i=>∃ k:Nat,k≤n∧i=.int .i64 k∧c ∉ s.take k) (fun i=>n - (intOf i).toNat)
 case atStart=>exact ⟨0,Nat.zero_le _,rfl,by simp⟩
 case round =>
  obtain ⟨k,hk,rfl,hno⟩:=hrel;have HNO:=zY hno;clear hno
  by_cases hlt:k<n
  ·have hks:k<s.length:=by rw [← HN.out]; exact hlt
   have hkb:k<(bs s).size:=by rw [HSZ.out]; exact hks
   have hlt':(k:Int)<(n:Int):=by omega
   obtain ⟨x,hx⟩:∃ x:Int,x=(((bs s)[k]'hkb).toNat:Int):=⟨_,rfl⟩;have HX:=zY (show x=((s[k].toNat:Nat):Int) by rw [hx]; rfl)
   by_cases he:x=z
   ·have HIN:=zY (show c ∈ s by
     have h1:s[k].toNat=c.toNat:=by have:=HX.out; have:=HZ.out; omega
     have h2:s[k]=c:=UInt8.toNat.inj h1;rw [← h2];exact List.getElem_mem hks)
    have hxz:(x == z)=true:=by simpa using he
    have HLT:=zY hlt;clear he;go_wp2_with fail;go_ret;exact ⟨by rw [decide_eq_true HIN.out]; rfl,rfl⟩
   ·have HNX:=zY (show c ∉ s.take (k+1) by
     rw [List.take_succ_eq_append_getElem hks,List.mem_append];rintro (h1 | h1)
     ·exact HNO.out h1
     ·have h2:c=s[k]:=List.mem_singleton.1 h1;exact he (by rw [HX.out,HZ.out,h2]))
    have hxz:(x == z)=false:=by simpa using he
    have HLT:=zY hlt;clear he;go_wp2_with fail
    go_round
    case rel=>exact ⟨k+1,HLT.out,by go_num,HNX.out⟩
    case measure=>have:=HLT.out; simp [intOf]; omega
  ·obtain rfl:k=n:=by omega
   have HF:=zY (show c ∉ s by
    have h:=HNO.out
    rwa [HN.out,List.take_length] at h)
   go_wp2_with fail;go_ret;exact ⟨by rw [decide_eq_false HF.out]; rfl,rfl⟩
def of9 (s t:Bs) (m:Nat):Bool:=s.all (fun c=>decide (c ∈ t)) && (decide (1≤s.length) && decide (s.length≤m))
theorem rof_any (s t:Bs) (m:Nat) (hs:s.length≤100000) (ht:t.length≤100000) (hm:(m:Int)≤100000) (w:World):Calls Tryz.prog 38 #[.string (bs s),.string (bs t),.int .i64 (m:Int)] w fun e w'=>e=.returned (.bool (of9 s t m))∧w'=w:=by
 obtain ⟨n,hn⟩:=eX (s.length);have hsz:((bs s).size:Int)=(n:Int):=by rw [qay,hn]
 have hs':(n:Int)≤100000:=by omega
 have HN:=zY hn;have HSZ:=zY (qay s);have C:=zY (fun (c:UInt8)=>rin_any c t ht w);obtain ⟨r,hr⟩:=eX (of9 s t m);rw [← hr];have HR:=zY hr;clear hn hr hs ht;go_enter Tryz.func38,Tryz.ntmps38;go_wp2_with fail
 go_loop [7] (fun i=>∃ k:Nat,k≤n∧i=.int .i64 k∧(s.take k).all (fun c=>decide (c ∈ t))=true) (fun i=>n - (intOf i).toNat)
 case atStart=>exact ⟨0,Nat.zero_le _,rfl,by simp⟩
 case round =>
  obtain ⟨k,hk,rfl,hok⟩:=hrel;have HOK:=zY hok;clear hok
  by_cases hlt:k<n
  ·have hks:k<s.length:=by rw [← HN.out]; exact hlt
   have hkb:k<(bs s).size:=by rw [HSZ.out]; exact hks
   have hlt':(k:Int)<(n:Int):=by omega
   obtain ⟨x,hx⟩:∃ x:UInt8,x=s[k]:=⟨_,rfl⟩;have hxv:(((bs s)[k]'hkb).toNat:Int)=((x.toNat:Nat):Int):=by rw [hx]; rfl
   obtain ⟨b,hb⟩:=eX (decide (x ∈ t));have CX:=zY (C.out x);rw [← hb] at CX
   have HST:=zY (show (s.take (k+1)).all (fun c=>decide (c ∈ t))=b by
    rw [List.take_succ_eq_append_getElem hks,List.all_append,HOK.out,hb,hx];simp only [List.all_cons,List.all_nil,Bool.and_true,Bool.true_and]
    rfl)
   have HSF:=zY (show b=false→r=false from fun h=>by
    rw [HR.out,of9]
    have:s.all (fun c=>decide (c ∈ t))=false:=by
     rw [List.all_eq_false];exact ⟨s[k],List.getElem_mem hks,by rw [← hx,← hb,h]; simp⟩
    rw [this]
    rfl)
   have HLT:=zY hlt;clear hx hb;go_wp2_with fail;refine qaa CX.out ?_;rintro e w' ⟨rfl,rfl⟩
   cases b with
   | true =>
    go_wp2_with fail
    go_round
    case rel=>exact ⟨k+1,HLT.out,by go_num,HST.out⟩
    case measure=>have:=HLT.out; simp [intOf]; omega
   | false =>
    have HRF:=zY (HSF.out rfl);go_wp2_with fail;go_ret;exact ⟨by rw [HRF.out]; rfl,rfl⟩
  ·obtain rfl:k=n:=by omega
   have HRE:=zY (show r=(decide (1≤k) && decide (k≤m)) by
    have h:=HOK.out;rw [HN.out,List.take_length] at h;rw [HR.out,of9,h,HN.out]
    rfl)
   by_cases h1:(1:Int)≤(k:Int)
   ·have d1:decide ((1:Int)≤(k:Int))=true:=by simpa using h1
    have D2:=zY (show decide (1≤k)=true by simp; omega);go_wp2_with fail;go_ret;exact ⟨by rw [HRE.out,D2.out]; rfl,rfl⟩
   ·have d1:decide ((1:Int)≤(k:Int))=false:=by simpa using h1
    have D2:=zY (show decide (1≤k)=false by simp; omega);go_wp2_with fail;go_ret;exact ⟨by rw [HRE.out,D2.out]; rfl,rfl⟩
def domC:Bs:=[97,98,99,100,101,102,103,104,105,106,107,108,109,110,111,112,113,114,115,116,117,118,119,120,121,122,48,49,50,51,52,53,54,55,56,57,46,45]
theorem innerC_eq (c:UInt8):innerC c=decide (c ∈ domC):=by
 have key:∀ x:Fin 256,innerC (UInt8.ofNat x.1)=decide (UInt8.ofNat x.1 ∈ domC):=by decide +kernel
 have:=key ⟨c.toNat,c.toNat_lt⟩
 simpa using this
theorem drop_eq {p:UInt8→Bool} {l:Bs}:l.dropWhile p=l↔∀ h:0<l.length,p (l[0])=false:=by
 cases l with
 | nil=>simp
 | cons a r =>
  rw [List.dropWhile_cons]
  constructor
  ·intro h _
   cases hp:p a with
   | false=>simpa using hp
   | true =>
    rw [hp,if_pos rfl] at h;have:=congrArg List.length h;have h2:=(List.dropWhile_sublist p (l:=r)).length_le;simp at this;omega
  ·intro h;have:=h (by simp);simp at this;rw [if_neg (by simp [this])]
theorem trim_eq (s cs:Bs) (h0:0<s.length):(Lib.trimS s cs=s)↔(s[0] ∉ cs∧s[s.length - 1] ∉ cs):=by
 have hl:s.reverse.length=s.length:=List.length_reverse;have hlast:s.reverse[0]'(by omega)=s[s.length - 1]:=by rw [List.getElem_reverse]; congr 1
 have hD:∀ l:Bs,l.dropWhile (cs.contains ·)=l↔∀ h:0<l.length,l[0] ∉ cs:=fun l=>by
  rw [drop_eq]
  constructor
  ·intro h h1;have:=h h1
   simpa using this
  ·intro h h1
   simpa using h h1
 unfold Lib.trimS Lib.trimLeftS Lib.trimRightS
 constructor
 ·intro h;have e1:=congrArg List.length h;have e2:=(List.dropWhile_sublist (cs.contains ·) (l:=(s.reverse.dropWhile (cs.contains ·)).reverse)).length_le;have e3:=(List.dropWhile_sublist (cs.contains ·) (l:=s.reverse)).length_le;rw [List.length_reverse] at e2;have e4:s.reverse.dropWhile (cs.contains ·)=s.reverse:=(List.dropWhile_sublist _).eq_of_length (by omega);rw [e4,List.reverse_reverse] at h;refine ⟨(hD s).1 h h0,?_⟩;rw [← hlast];exact (hD s.reverse).1 e4 (by omega)
 ·rintro ⟨h1,h2⟩;rw [(hD s.reverse).2 (fun h=>by rw [hlast]; exact h2),List.reverse_reverse];exact (hD s).2 fun _=>h1
theorem of9_dom (s:Bs):of9 s domC 16=(decide (s.length≤16) && allD s):=by
 unfold of9 allD;rw [show (fun c:UInt8=>decide (c ∈ domC))=innerC from funext fun c=>(innerC_eq c).symm]
 cases hq:s.all innerC with
 | false=>simp
 | true =>
  cases s with
  | nil=>simp
  | cons a r=>simp
theorem rdom_any (s:Bs) (hs:s.length≤100000) (w:World):Calls Tryz.prog 19 #[.string (bs s)] w fun e w'=>e=.returned (.bool (domB s))∧w'=w:=by
 have CO:=zY (show Calls Tryz.prog 38 #[.string (bs s),.string ⟨#[97,98,99,100,101,102,103,104,105,106,107,108,109,110,111,112,113,114,115,116,117,118,119,120,121,122,48,49,50,51,52,53,54,55,56,57,46,45]⟩,.int .i64 16] w fun e w'=>e=.returned (.bool (of9 s domC 16))∧w'=w from rof_any s domC 16 hs (by decide) (by decide) w);have CI:=zY (fun (c:UInt8)=>show Calls Tryz.prog 39 #[.int .u8 ((c.toNat:Nat):Int),.string ⟨#[46,45]⟩] w fun e w'=>e=.returned (.bool (decide (c ∈ ([46,45]:Bs))))∧w'=w from rin_any c [46,45] (by decide) w);obtain ⟨r,hr⟩:=eX (domB s);rw [← hr];have hr2:r=(of9 s domC 16 && decide (trimD s=s)):=by rw [hr,domB,of9_dom,Bool.and_assoc]
 have HLE:=zY (show of9 s domC 16=true→0<s.length from fun h=>by
  unfold of9 at h;simp only [Bool.and_eq_true,decide_eq_true_eq] at h
  omega)
 obtain ⟨b,hb⟩:=eX (of9 s domC 16);rw [← hb] at CO hr2 HLE;have HR:=zY hr2;clear hr hr2 hb;have hsz:((bs s).size:Int)=(s.length:Int):=by rw [qay]
 have hsn:(s.length:Int)≤100000:=by omega
 have HSZ:=zY (qay s);go_enter Tryz.func19,Tryz.ntmps19;go_wp2_with fail;refine qaa CO.out ?_;rintro e w' ⟨rfl,rfl⟩
 cases b with
 | false =>
  have HRF:=zY (show r=false from HR.out);go_wp2_with fail;go_ret;exact ⟨by rw [HRF.out]; rfl,rfl⟩
 | true =>
  have h0:=HLE.out rfl;have h0':0<(s.length:Int):=by omega
  obtain ⟨x,hx⟩:∃ x:UInt8,x=s[0]:=⟨_,rfl⟩;obtain ⟨y,hy⟩:∃ y:UInt8,y=s[s.length - 1]:=⟨_,rfl⟩;have hk0:0<(bs s).size:=by rw [HSZ.out]; exact h0
  have hk1:s.length - 1<(bs s).size:=by rw [HSZ.out]; omega
  have hxv:(((bs s)[0]'hk0).toNat:Int)=((x.toNat:Nat):Int):=by rw [hx]; rfl
  have hyv:(((bs s)[s.length - 1]'hk1).toNat:Int)=((y.toNat:Nat):Int):=by rw [hy]; rfl
  have HRE:=zY (show r=(!decide (x ∈ ([46,45]:Bs)) && !decide (y ∈ ([46,45]:Bs))) by
   rw [HR.out,Bool.true_and];unfold trimD;have h:=trim_eq s [46,45] h0;rw [← hx,← hy] at h
   by_cases h1:x ∈ ([46,45]:Bs) <;> by_cases h2:y ∈ ([46,45]:Bs) <;> simp only [h1,h2,decide_true,decide_false,Bool.not_true,Bool.not_false,Bool.and_true,Bool.and_false] <;> (first | exact decide_eq_true (h.2 ⟨h1,h2⟩) | exact decide_eq_false (fun he=>absurd h1 (h.1 he).1) | exact decide_eq_false (fun he=>absurd h2 (h.1 he).2)))
  clear hx hy;obtain ⟨p,hp⟩:=eX (decide (x ∈ ([46,45]:Bs)));obtain ⟨q,hq⟩:=eX (decide (y ∈ ([46,45]:Bs)));have CX:=zY (CI.out x);have CY:=zY (CI.out y);rw [← hp] at CX HRE;rw [← hq] at CY HRE;clear hp hq CI;go_wp2_with fail;refine qaa CX.out ?_;rintro e w' ⟨rfl,rfl⟩;go_wp2_with fail;refine qaa CY.out ?_;rintro e w' ⟨rfl,rfl⟩
  cases p <;> go_wp2_with fail
  all_goals go_ret
  all_goals exact ⟨by rw [HRE.out]; rfl,rfl⟩
theorem qca {B:Nat} {a w:World} (h:Below B a w) (n:Nat):Below B a (w.drewN n):=⟨h.os,h.tape,h.output,h.size,h.block⟩
set_option maxHeartbeats 8000000 in
theorem rmay_any (D:Bs) (num:Int) (ks:List (Bs × Bs)) (A:Option Addr) (c B:Nat) (w:World) (hr:Rd w B A (rowsV kCell ks)) (hB:B≤w.heap.size) (hD:D.length≤100000) (hl:(ks.length:Int)≤9223372036854775807)
  (hk:∀ k ∈ ks,(k.2.length:Int)≤9223372036854775807) :
  Calls Tryz.prog 7 #[.agg (bC D num A ks.length c)] w fun e w'=>e=.returned (.bool (mayB D num ks))∧Below w.heap.size w w':=by
 obtain ⟨r,hrr⟩:=eX (mayB D num ks);rw [← hrr];have HRR:=zY hrr;clear hrr;obtain ⟨n,hn⟩:=eX (ks.length);rw [← hn] at hl ⊢;have HN:=zY hn;obtain ⟨W0,hW0⟩:=eX (w.alloc (.cells (bC D num A n c) 24));have hb0:Below w.heap.size w W0:=by rw [hW0]; exact (Below.refl _ w).alloc (Nat.le_refl _) _
 have HB0:=zY hb0;have HK:=zY (show Blk W0 w.heap.size 24 (bC D num A n c) by rw [hW0]; exact Blk.new _ _ _);have HW0:=zY hW0;have HR:=zY (hr.below (hb0.mono hB));have HBB:=zY hB;have HKX:=zY hk;have HHD:=zY (show headOk D num ks=(domB D && decide (0≤num) && decide (num≤1099511627776) && decide (n≤8)) by rw [hn]; rfl);have C:=zY (rdom_any D hD W0);obtain ⟨d,hd⟩:=eX (domB D);rw [← hd] at C HHD;have a0:W0.cell? ⟨w.heap.size,0,none⟩=some (.string (bs D)):=HK.out.cell 0;have a1:W0.cell? ⟨w.heap.size,1,none⟩=some (.int .i64 num):=HK.out.cell 1;have a2:W0.cell? ⟨w.heap.size,2,none⟩=some (.slice A n c):=HK.out.cell 2;clear hW0 hn hr hB hk hD hd hb0;go_enter Tryz.func7,Tryz.ntmps7
 go_upto_region 1 with (fail)
 rw [show w.alloc (.cells (bC D num A n c) 24)=W0 from HW0.out.symm];generalize Value.agg (bC D num A n c)=AV;go_wp2_with fail;refine qaa C.out ?_;rintro e W0 ⟨rfl,rfl⟩
 cases d with
 | false =>
  have HNO:=zY (qb2 (HHD.out.trans (by rfl)));go_wp2_with fail;go_ret;exact ⟨by rw [HRR.out,HNO.out]; rfl,HB0.out⟩
 | true =>
  by_cases hn0:num<0
  ·have HNO:=zY (qb2 (HHD.out.trans (by rw [decide_eq_false (show ¬ (0≤num) by omega)]; rfl)));go_wp2_with fail;go_ret;exact ⟨by rw [HRR.out,HNO.out]; rfl,HB0.out⟩
  by_cases hn1:1099511627776<num
  ·have HNO:=zY (qb2 (HHD.out.trans (by rw [decide_eq_false (show ¬ (num≤1099511627776) by omega)]; simp)));go_wp2_with fail;go_ret;exact ⟨by rw [HRR.out,HNO.out]; rfl,HB0.out⟩
  by_cases hn8:8<(n:Int)
  ·have HNO:=zY (qb2 (HHD.out.trans (by rw [decide_eq_false (show ¬ (n≤8) by omega)]; simp)));go_wp2_with fail;go_ret;exact ⟨by rw [HRR.out,HNO.out]; rfl,HB0.out⟩
  have HHO:=zY (show mayB D num ks=keysOk [] ks by
   unfold mayB;rw [HHD.out,decide_eq_true (show 0≤num by omega),decide_eq_true (show num≤1099511627776 by omega),decide_eq_true (show n≤8 by omega)]
   rfl)
  have hn8':(n:Int)≤8:=by omega
  clear hl
  go_upto_region 4 with (fail)
  clear hn0 hn1 hn8 a0 a1;go_wp2_with fail
  go_loopw [4] (fun x wr=>∃ i:Nat,i≤n∧x=.int .i64 (i:Int)∧keysTo ks i∧Below W0.heap.size W0 wr) (fun x _=>n - (intOf x).toNat)
  case atStart=>exact ⟨0,Nat.zero_le _,rfl,qdN ks,Below.refl _ _⟩
  case round =>
   obtain ⟨i,hi,rfl,hto,hbw⟩:=hrel;have HTO:=zY hto;have HBW:=zY hbw;have a2:wr.cell? ⟨w.heap.size,2,none⟩=some (.slice A n c):=(HK.out.below hbw HK.out.lt).cell 2;clear hto hbw
   by_cases hlt:i<n
   ·have huj:=Tryz.underlying38;have hil:i<ks.length:=by rw [← HN.out]; exact hlt
    have hlt':(i:Int)<(n:Int):=by omega
    obtain ⟨ad,hA,hadb,hcell⟩:=qaO (f:=kCell) (m:=2) (fun _=>rfl) (by decide) (HR.out.below (HBW.out.mono (Nat.le_trans HBB.out HB0.out.size))) hil;subst hA;obtain ⟨X,hX⟩:=eX (ks[i]);rw [← hX] at hcell;have HCL:=zY (show ∀ j u,(kCell X).toList[j]?=some u→wr.cell? ((ad.add (i*2)).add j)=some u from fun j u hu=>hcell j u (by simpa using hu));have HKL:=zY (HKX.out X (by rw [hX]; exact List.getElem_mem hil));have HLT:=zY hlt
    have HNK:=zY (fun (hno:X.2.length=32→X.1=nameL X.2→X.1 ∈ (ks.take i).map (·.1))=>show mayB D num ks=false by
     rw [HHO.out];exact keysTo_no HTO.out hil (by rw [← hX]; exact hno))
    have HYK:=zY (fun (h1:X.2.length=32) (h2:X.1=nameL X.2) (h3:X.1 ∉ (ks.take i).map (·.1))=>show keysTo ks (i+1) from
     qdO HTO.out hil (by rw [← hX]; exact h1) (by rw [← hX]; exact h2) (by rw [← hX]; exact h3))
    clear hX hcell hadb hil hlt
    go_upto_region 8 with (first
     | refine qaA (r:=(kCell X).toList) HCL.out rfl rfl rfl huj rfl qbR ?_
     | (refine qac (cells:=kCell X) (Blk.new _ _ _) rfl rfl rfl rfl qbR rfl (qdR X) ?_; intro w5 hb5 hw5))
    have hbw5:Below wr.heap.size wr w5:=qaz hw5;obtain ⟨H,hH⟩:=eX (wr.heap.size);rw [← hH] at hb5 ⊢;have HK5:=zY hb5;have HB5:=zY (HBW.out.trans (hbw5.mono HBW.out.size));have hc1:w5.cell? ⟨H,1,none⟩=some (.string (bs X.2)):=hb5.cell 1;have hs0:((bs X.2).size:Int)=(X.2.length:Int):=by rw [qay]
    have HHW:=zY (show W0.heap.size≤H by rw [hH]; exact HBW.out.size);clear hb5 hw5 hbw5 a2 hH
    by_cases h32:X.2.length=32
    ·have HS32:=zY (show (bs X.2).size=32 by rw [qay,h32]);have HSZ:=zY (show ((bs X.2).size:Int)=32 by rw [hs0,h32]; rfl)
     have HNA:=zY (show ∀ A c u,Rd u u.heap.size A (bytesV X.2)→32≤c→Calls Tryz.prog 14 #[.slice A 32 c] u (fun e w'=>e=.returned (.string (bs (nameL X.2)))∧Below u.heap.size u w') from
      fun A c u h1 h2=>by have h:=rname_any X.2 (by omega) A c u h1 (by omega) (qdY X.2); rw [h32] at h; exact h)
     have hus:=Tryz.underlying9;have hub8:=Tryz.underlying40;have hu8:=Tryz.underlying5;have HC0:Below w5.heap.size w5 w5.drew:=(Below.refl _ _).drew;have H32:=zY h32;clear hs0 h32 hc1;obtain ⟨q,hq⟩:=eX (decide (X.1=nameL X.2));have HQ:=zY (show ((bs X.1).toList == (bs (nameL X.2)).toList)=q by rw [qat,qat,hq]; by_cases h:X.1=nameL X.2 <;> simp [h]);have HQQ:=zY hq;clear hq
     refine qas (fun u=>Below w5.heap.size w5 u) (fun | false=>(fun _=>True) | true=>(fun _=>True)) (fun | false,_=>false | true,_=>false)
      [fun z _=>z 0=.pointer (some ⟨H,1,none⟩),
       fun z _=>z 1=.string (bs X.2),
       fun z _=>z 2=.int .i64 32,
       fun z _=>z 3=.bool false,
       fun z _=>z 4=.bool false,
       fun z _=>z 5=.pointer (some ⟨H,0,none⟩),
       fun z _=>z 6=.string (bs X.1),
       fun z _=>z 7=.pointer (some ⟨H,1,none⟩),
       fun z _=>z 8=.string (bs X.2),
       fun z u=>(fun v u=>BytFrom u 0 32 X.2 v) (z 9) u,
       fun z _=>z 10=.string (bs (nameL X.2)),
       fun z _=>z 11=.bool (!q),
       fun z _=>z 12=.bool (!q)]
      [Eq,Eq,Eq,Eq,Eq,Eq,Eq,Eq,Eq,fun u u'=>Below u.heap.size u u',fun u u'=>Below u.heap.size u u',Eq,Eq]
      (fun _ _=>false) [(0,some 40),(1,some 41),(2,some 42),(3,some 43),(4,some 44),(5,some 45),(6,some 46),(7,some 47),(8,some 48),(9,some 49),(10,some 50),(11,some 51),(12,some 52)] (by kernel_rfl) (by kernel_rfl) rfl (fun _=>rfl) ?_ ?_ ?_ ?_ ?_ ?_
     ·exact HC0
     ·intro m; cases m; exact trivial; exact trivial
     ·intro m; cases m
      ·refine ⟨?_,?_,?_,?_,?_,?_,?_,?_,?_,?_,?_,?_,?_,trivial⟩ <;> first | exact .inr fun _ _ h h0=>h▸h0 | exact .inr fun _ _ _ h=>h
      ·refine ⟨?_,?_,?_,?_,?_,?_,?_,?_,?_,?_,?_,?_,?_,trivial⟩ <;> first | exact .inr fun _ _ h h0=>h▸h0 | exact .inr fun _ _ _ h=>h
     ·refine ⟨⟨.inl rfl,?_,?_,?_,?_,?_,?_,?_,?_,?_,?_,?_,?_,trivial⟩,⟨?_,.inl rfl,?_,?_,?_,?_,?_,?_,?_,?_,?_,?_,?_,trivial⟩,⟨?_,?_,.inl rfl,?_,?_,?_,?_,?_,?_,?_,?_,?_,?_,trivial⟩,⟨?_,?_,?_,.inl rfl,?_,?_,?_,?_,?_,?_,?_,?_,?_,trivial⟩,⟨?_,?_,?_,?_,.inl rfl,?_,?_,?_,?_,?_,?_,?_,?_,trivial⟩,⟨?_,?_,?_,?_,?_,.inl rfl,?_,?_,?_,?_,?_,?_,?_,trivial⟩,⟨?_,?_,?_,?_,?_,?_,.inl rfl,?_,?_,?_,?_,?_,?_,trivial⟩,⟨?_,?_,?_,?_,?_,?_,?_,.inl rfl,?_,?_,?_,?_,?_,trivial⟩,⟨?_,?_,?_,?_,?_,?_,?_,?_,.inl rfl,?_,?_,?_,?_,trivial⟩,⟨?_,?_,?_,?_,?_,?_,?_,?_,?_,.inl rfl,?_,?_,?_,trivial⟩,⟨?_,?_,?_,?_,?_,?_,?_,?_,?_,.inr (.inr (.inr (fun _ _ _ _ h h0=>h0.step h))),.inl rfl,?_,?_,trivial⟩,⟨?_,?_,?_,?_,?_,?_,?_,?_,?_,?_,?_,.inl rfl,?_,trivial⟩,⟨?_,?_,?_,?_,?_,?_,?_,?_,?_,?_,?_,?_,.inl rfl,trivial⟩,trivial⟩ <;> first | exact .inr (.inr (.inl rfl)) | exact .inr (.inr (.inr fun _ _ _ _ _ h=>h)) | exact .inr (.inr (.inr fun _ _ _ _ h h0=>by cases h; exact h0))
     ·refine ⟨?_,?_,?_,?_,?_,?_,?_,?_,?_,?_,?_,?_,?_,trivial⟩
      ·refine qab [] (fun _=>rfl) rfl ?_;intro w1 vals hC1 hi0 hf E hE;clear hi0;clear hf;simp only [sP] at hE ⊢;go_wp2;exact .mk (hE _ _ rfl hC1 rfl)
      ·refine qab [(0,some 40)] (fun _=>rfl) rfl ?_;intro w1 vals hC1 hi0 hf E hE;clear hi0;have f0:vals 0=_:=hf 0 rfl
       try dsimp only at f0
       clear hf;simp only [sP,f0] at hE ⊢;clear f0;have d0:=(HK5.out.below hC1 HK5.out.lt).cell 1;simp only [kCell,List.getElem?_toArray,List.getElem?_cons_zero,List.getElem?_cons_succ] at d0;go_wp2;exact .mk (hE _ _ rfl hC1 rfl)
      ·refine qab [(1,some 41)] (fun _=>rfl) rfl ?_;intro w1 vals hC1 hi0 hf E hE;clear hi0;have f1:vals 1=_:=hf 1 rfl
       try dsimp only at f1
       clear hf;simp only [sP,f1] at hE ⊢;clear f1;have hsz:=HSZ.out;go_wp2;exact .mk (hE _ _ rfl hC1 rfl)
      ·refine qab [(2,some 42)] (fun _=>rfl) rfl ?_;intro w1 vals hC1 hi0 hf E hE;clear hi0;have f2:vals 2=_:=hf 2 rfl
       try dsimp only at f2
       clear hf;simp only [sP,f2] at hE ⊢;clear f2;go_wp2;exact .mk (hE _ _ rfl hC1 rfl)
      ·refine qab [(3,some 43)] (fun _=>rfl) rfl ?_;intro w1 vals hC1 hi0 hf E hE;clear hi0;have f3:vals 3=_:=hf 3 rfl
       try dsimp only at f3
       clear hf;simp only [sP,f3] at hE ⊢;clear f3;go_wp2;exact .mk (hE _ _ rfl hC1 rfl)
      ·refine qao [(4,some 44)] (fun _=>rfl) 4 44 false rfl rfl ?_ ?_
       ·intro w1 vals hC1 hi0 hf hy E hE;dsimp only at hE ⊢;clear hi0;have f4:vals 4=_:=hf 4 rfl
        try dsimp only at f4
        clear hf;clear hy;simp only [sP,f4] at hE ⊢;clear f4;go_wp2;exact .mk (hE _ _ rfl hC1 rfl)
       ·intro w1 vals hC1 hi0 hf hy;clear hi0;have f4:vals 4=_:=hf 4 rfl
        try dsimp only at f4
        clear hf;exact absurd (by simp only [sP,f4]; rfl) hy
      ·refine qao [(5,some 45),(4,some 44)] (fun _=>rfl) 4 44 false rfl rfl ?_ ?_
       ·intro w1 vals hC1 hi0 hf hy E hE;dsimp only at hE ⊢;clear hi0;have f4:vals 4=_:=hf 4 rfl;have f5:vals 5=_:=hf 5 rfl
        try dsimp only at f4 f5
        clear hf;clear hy;simp only [sP,f4,f5] at hE ⊢;clear f4 f5;have d0:=(HK5.out.below hC1 HK5.out.lt).cell 0;simp only [kCell,List.getElem?_toArray,List.getElem?_cons_zero,List.getElem?_cons_succ] at d0;go_wp2;exact .mk (hE _ _ rfl hC1 rfl)
       ·intro w1 vals hC1 hi0 hf hy;clear hi0;have f4:vals 4=_:=hf 4 rfl;have f5:vals 5=_:=hf 5 rfl
        try dsimp only at f4 f5
        clear hf;exact absurd (by simp only [sP,f4]; rfl) hy
      ·refine qao [(4,some 44)] (fun _=>rfl) 4 44 false rfl rfl ?_ ?_
       ·intro w1 vals hC1 hi0 hf hy E hE;dsimp only at hE ⊢;clear hi0;have f4:vals 4=_:=hf 4 rfl
        try dsimp only at f4
        clear hf;clear hy;simp only [sP,f4] at hE ⊢;clear f4;go_wp2;exact .mk (hE _ _ rfl hC1 rfl)
       ·intro w1 vals hC1 hi0 hf hy;clear hi0;have f4:vals 4=_:=hf 4 rfl
        try dsimp only at f4
        clear hf;exact absurd (by simp only [sP,f4]; rfl) hy
      ·refine qao [(7,some 47),(4,some 44)] (fun _=>rfl) 4 44 false rfl rfl ?_ ?_
       ·intro w1 vals hC1 hi0 hf hy E hE;dsimp only at hE ⊢;clear hi0;have f4:vals 4=_:=hf 4 rfl;have f7:vals 7=_:=hf 7 rfl
        try dsimp only at f4 f7
        clear hf;clear hy;simp only [sP,f4,f7] at hE ⊢;clear f4 f7;have d0:=(HK5.out.below hC1 HK5.out.lt).cell 1;simp only [kCell,List.getElem?_toArray,List.getElem?_cons_zero,List.getElem?_cons_succ] at d0;go_wp2;exact .mk (hE _ _ rfl hC1 rfl)
       ·intro w1 vals hC1 hi0 hf hy;clear hi0;have f4:vals 4=_:=hf 4 rfl;have f7:vals 7=_:=hf 7 rfl
        try dsimp only at f4 f7
        clear hf;exact absurd (by simp only [sP,f4]; rfl) hy
      ·refine qao [(8,some 48),(4,some 44)] (fun _=>rfl) 4 44 false rfl rfl ?_ ?_
       ·intro w1 vals hC1 hi0 hf hy E hE;dsimp only at hE ⊢;clear hi0;have f4:vals 4=_:=hf 4 rfl;have f8:vals 8=_:=hf 8 rfl
        try dsimp only at f4 f8
        clear hf;clear hy;simp only [sP,f4,f8] at hE ⊢;clear f4 f8;refine qaW (s:=bs X.2) hus hub8 hu8 rfl rfl rfl (by rw [HS32.out]; decide) ?_;intro c7 w7 hr7 hc7 hm7 hb7;rw [HS32.out] at hc7 ⊢;go_wp2_with fail;exact .mk (hE _ _ ⟨_,c7,rfl,hc7,hm7,Nat.zero_le _,hr7⟩ (hC1.trans (hb7.mono hC1.size)) hb7)
       ·intro w1 vals hC1 hi0 hf hy;clear hi0;have f4:vals 4=_:=hf 4 rfl;have f8:vals 8=_:=hf 8 rfl
        try dsimp only at f4 f8
        clear hf;exact absurd (by simp only [sP,f4]; rfl) hy
      ·refine qao [(9,some 49),(4,some 44),(4,some 44)] (fun _=>rfl) 4 44 false rfl rfl ?_ ?_
       ·intro w1 vals hC1 hi0 hf hy E hE;dsimp only at hE ⊢;clear hi0;have f4:vals 4=_:=hf 4 rfl;have f9:(fun v u=>BytFrom u 0 32 X.2 v) (vals 9) w1:=hf 9 rfl
        try dsimp only at f4 f9
        clear hf;clear hy;obtain ⟨g9,c9,hx9,hc9,hm9,hl9,hr9⟩:=f9;simp only [sP,f4,hx9] at hE ⊢;clear f4;clear hx9;go_wp2_with fail;refine qaa (HNA.out _ c9 _ hr9 hc9) ?_;rintro e w2 ⟨rfl,hb2⟩;go_wp2_with fail;exact .mk (hE _ _ rfl (hC1.trans (hb2.mono hC1.size)) hb2)
       ·intro w1 vals hC1 hi0 hf hy;clear hi0;have f4:vals 4=_:=hf 4 rfl;have f9:(fun v u=>BytFrom u 0 32 X.2 v) (vals 9) w1:=hf 9 rfl
        try dsimp only at f4 f9
        clear hf;exact absurd (by simp only [sP,f4]; rfl) hy
      ·refine qao [(6,some 46),(10,some 50),(4,some 44)] (fun _=>rfl) 4 44 false rfl rfl ?_ ?_
       ·intro w1 vals hC1 hi0 hf hy E hE;dsimp only at hE ⊢;clear hi0;have f4:vals 4=_:=hf 4 rfl;have f6:vals 6=_:=hf 6 rfl;have f10:vals 10=_:=hf 10 rfl
        try dsimp only at f4 f6 f10
        clear hf;clear hy;simp only [sP,f4,f6,f10] at hE ⊢;clear f4 f6 f10;have hq:=HQ.out;go_wp2;exact .mk (hE _ _ rfl hC1 rfl)
       ·intro w1 vals hC1 hi0 hf hy;clear hi0;have f4:vals 4=_:=hf 4 rfl;have f6:vals 6=_:=hf 6 rfl;have f10:vals 10=_:=hf 10 rfl
        try dsimp only at f4 f6 f10
        clear hf;exact absurd (by simp only [sP,f4]; rfl) hy
      ·refine qab [(4,some 44),(11,some 51)] (fun _=>rfl) rfl ?_;intro w1 vals hC1 hi0 hf E hE;clear hi0;have f4:vals 4=_:=hf 4 rfl;have f11:vals 11=_:=hf 11 rfl
       try dsimp only at f4 f11
       clear hf;simp only [sP,f4,f11] at hE ⊢;clear f4 f11;go_wp2;exact .mk (hE _ _ rfl hC1 rfl)
     intro w1 vals hC1 hf;have f0:vals 0=_:=hf 0 (by decide) rfl;have f1:vals 1=_:=hf 1 (by decide) rfl;have f2:vals 2=_:=hf 2 (by decide) rfl;have f3:vals 3=_:=hf 3 (by decide) rfl;have f4:vals 4=_:=hf 4 (by decide) rfl;have f5:vals 5=_:=hf 5 (by decide) rfl;have f6:vals 6=_:=hf 6 (by decide) rfl;have f7:vals 7=_:=hf 7 (by decide) rfl;have f8:vals 8=_:=hf 8 (by decide) rfl;have f9:(fun v u=>BytFrom u 0 32 X.2 v) (vals 9) w1:=hf 9 (by decide) rfl;have f10:vals 10=_:=hf 10 (by decide) rfl;have f11:vals 11=_:=hf 11 (by decide) rfl;have f12:vals 12=_:=hf 12 (by decide) rfl
     try dsimp only at f0 f1 f2 f3 f4 f5 f6 f7 f8 f9 f10 f11 f12
     clear hf;simp only [sP,f0,f1,f2,f3,f4,f5,f6,f7,f8,f10,f11,f12];clear f0 f1 f2 f3 f4 f5 f6 f7 f8 f10 f11 f12;generalize vals 9=x9 at *;have HB6:=zY (HB5.out.trans (hC1.mono HB5.out.size));have HK6:=zY (HK5.out.below hC1 HK5.out.lt);clear hC1 HC0
     cases q with
     | false =>
      have HNO:=zY (HNK.out fun _ h=>absurd h (of_decide_eq_false HQQ.out.symm));go_wp2_with fail;go_ret;exact ⟨by rw [HRR.out,HNO.out]; rfl,HB0.out.trans (HB6.out.mono HB0.out.size)⟩
     | true =>
      have HKN:=zY (show X.1=nameL X.2 from of_decide_eq_true HQQ.out.symm);go_wp2_with fail
      go_loopw [6] (fun x wq=>∃ j:Nat,j≤i∧x=.int .i64 (j:Int)∧X.1 ∉ (ks.take j).map (·.1)∧Below w1.heap.size w1 wq) (fun x _=>i - (intOf x).toNat)
      case atStart=>exact ⟨0,Nat.zero_le _,rfl,by simp,Below.refl _ _⟩
      case round =>
       obtain ⟨j,hj,rfl,hno,hbq⟩:=hrel;have HNJ:=zY hno;have HBQ:=zY hbq;have HBX:=zY (HB6.out.trans (hbq.mono HB6.out.size));have b2:wr.cell? ⟨w.heap.size,2,none⟩=some (.slice (some ad) n c):=(HK.out.below HBX.out HK.out.lt).cell 2;have b0:wr.cell? ⟨H,0,none⟩=some (.string (bs X.1)):=(HK6.out.below hbq HK6.out.lt).cell 0;clear hno hbq
       by_cases hlj:j<i
       ·have hjl:j<ks.length:=by have:=HN.out; have:=HLT.out; omega
        have hlj':(j:Int)<(i:Int):=by omega
        have hjn:(j:Int)<(n:Int):=by have:=HLT.out; omega
        obtain ⟨ad2,hA2,-,hcell2⟩:=qaO (f:=kCell) (m:=2) (fun _=>rfl) (by decide) (HR.out.below (HBX.out.mono (Nat.le_trans HBB.out HB0.out.size))) hjl
        injection hA2 with hA2
        subst hA2;obtain ⟨Y,hY⟩:=eX (ks[j]);rw [← hY] at hcell2;have c0:wr.cell? (ad.add (j*2))=some (.string (bs Y.1)):=hcell2 0 _ rfl;have HLJ:=zY hlj
        by_cases hq:Y.1=X.1
        ·have hq':((bs Y.1).toList == (bs X.1).toList)=true:=by rw [qat,qat]; simpa using hq
         have HNO:=zY (HNK.out fun _ _=>List.mem_map.2 ⟨Y,by
          rw [hY];exact List.mem_take_iff_getElem.2 ⟨j,by omega,rfl⟩,hq⟩)
         clear hY hcell2 hjl hlj hq;go_wp2_with fail
         go_quiet (fail)
         go_wp2_with fail;go_ret;exact ⟨by rw [HRR.out,HNO.out]; rfl,qca (HB0.out.trans (HBX.out.mono HB0.out.size)) _⟩
        ·have hq':((bs Y.1).toList == (bs X.1).toList)=false:=by rw [qat,qat]; simpa using hq
         have HN2:=zY (show X.1 ∉ (ks.take (j+1)).map (·.1) by
          rw [List.take_succ_eq_append_getElem hjl,List.map_append,List.mem_append];rintro (h1 | h1)
          ·exact HNJ.out h1
          ·have h2:X.1=ks[j].1:=List.mem_singleton.1 h1;exact hq (by rw [hY,h2]))
         clear hY hcell2 hjl hlj hq;go_wp2_with fail
         go_quiet (fail)
         go_wp2_with fail
         go_roundw
         case rel=>exact ⟨j+1,HLJ.out,by go_num,HN2.out,qca HBQ.out _⟩
         case measure=>have:=HLJ.out; simp [intOf]; omega
       ·obtain rfl:j=i:=by omega
        have HTO2:=zY (HYK.out H32.out HKN.out HNJ.out);clear hlj;go_wp2_with fail
        go_roundw
        case rel=>exact ⟨j+1,HLT.out,by go_num,HTO2.out,HBX.out⟩
        case measure=>have:=HLT.out; simp [intOf]; omega
    ·have h32':¬ ((bs X.2).size:Int)=32:=by omega
     have HNO:=zY (HNK.out fun h=>absurd h h32);clear hs0 h32
     go_quiet (fail)
     go_wp2_with fail;go_ret;exact ⟨by rw [HRR.out,HNO.out]; rfl,qca (HB0.out.trans (HB5.out.mono HB0.out.size)) _⟩
   ·obtain rfl:i=n:=by omega
    have HYS:=zY (show mayB D num ks=true by rw [HHO.out]; exact keysTo_all HTO.out HN.out);go_wp2_with fail;go_ret;exact ⟨by rw [HRR.out,HYS.out]; rfl,HB0.out.trans (HBW.out.mono HB0.out.size)⟩
theorem dg_val {r:Nat} (h:r≤9):(((dg r).toNat:Nat):Int)=48+(r:Int):=by
 have key:∀ q:Fin 10,(dg q.1).toNat=48+q.1:=by decide
 have:=key ⟨r,by omega⟩;have h2:(dg r).toNat=48+r:=this;omega
theorem digB_more {f m:Nat} (h:¬ m<10):digB (f+1) m=digB f (m/10)++[dg (m%10)]:=by rw [digB,if_neg h]
theorem digB_last {f m:Nat} (h:m<10):digB (f+1) m=[dg m]:=by rw [digB,if_pos h]
theorem qdA (N:Nat) (hN:(N:Int)≤1000000000000000) (w:World) :
  Calls Tryz.prog 26 #[.int .i64 (N:Int)] w fun x w'=>x=.returned (.string (bs (digB 16 N)))∧Below w.heap.size w w':=by
 have HN:=zY hN;have h0:¬ (N:Int)<0:=by omega
 go_enter Tryz.func26,Tryz.ntmps26;go_wp2_with fail
 go_loopw [0,3] (fun x s wr=>∃ (m f:Nat) (tl:Bs),x=.int .i64 (m:Int)∧s=.string (bs tl)∧digB (f+1) m++tl=digB 16 N∧m<10^(f+1)∧m≤N∧tl.length+f=15∧Below w.heap.size w wr) (fun x _ _=>(intOf x).toNat)
 case atStart=>exact ⟨N,15,[],rfl,rfl,by simp,by omega,Nat.le_refl _,rfl,Below.refl _ _⟩
 case round =>
  obtain ⟨m,f,tl,rfl,rfl,hd,hm,hmN,hl,hbel⟩:=hrel;have HD:=zY hd;have HM:=zY hm;have HB:=zY hbel;have HMN:=zY hmN;have HL:=zY hl;have hm9:(m:Int)≤1000000000000000:=by omega
  clear hd hm hbel hmN hl h0
  by_cases hlt:9<m
  ·have hlt':(9:Int)<(m:Int):=by omega
   have HLT:=zY hlt;obtain ⟨r,hr⟩:=eX (m%10);obtain ⟨q,hq⟩:=eX (m/10);have e1:(m:Int).tmod 10=(r:Int):=by rw [Int.tmod_eq_emod_of_nonneg (by omega),hr]; omega
   have e2:(m:Int).tdiv 10=(q:Int):=by rw [Int.tdiv_eq_ediv_of_nonneg (by omega),hq]; omega
   have hr9:(r:Int)≤9:=by omega
   have hq9:(q:Int)≤1000000000000000:=by omega
   have hrw:Rd (wr.alloc (.cells #[.int .u8 (48+(r:Int))] 5)) (wr.heap.size+1) (some ⟨wr.heap.size,0,none⟩) (bytesV [dg r]):=by
    rw [show bytesV [dg r]=[Value.int .u8 (48+(r:Int))] by simp [bytesV]; exact congrArg (Value.int IntKind.u8) (dg_val (r:=r) (by omega))];exact Rd.of_blk (l:=[.int .u8 (48+(r:Int))]) (Blk.new _ _ _) (by omega)
   have hconv:(convert 40 9 (.slice (some ⟨wr.heap.size,0,none⟩) 1 1)).run Tryz.prog (wr.alloc (.cells #[.int .u8 (48+(r:Int))] 5))=.ok (.string (bs [dg r])) (wr.alloc (.cells #[.int .u8 (48+(r:Int))] 5)):=qbJ (P:=Tryz.prog) Tryz.underlying40 Tryz.underlying5 Tryz.underlying9 hrw 1;have HRQ:=zY (show r=m%10∧q=m/10 from ⟨hr,hq⟩);have hts:¬ 9223372036854775807<(bs [dg r]).size+(bs tl).size:=by rw [qay,qay]; have:=HL.out; simp; omega
   clear hr hq hrw hlt;go_wp2_with fail
   go_roundw
   case rel =>
    have h1:=HLT.out;have h2:=HM.out;have h3:=HL.out;have h4:=HRQ.out;have h5:=HMN.out
    cases f with
    | zero=>exact absurd h2 (by omega)
    | succ f =>
     have h6:10^(f+1+1)=10^(f+1)*10:=Nat.pow_succ 10 (f+1);refine ⟨q,f,dg r :: tl,rfl,congrArg Value.string (qbA [dg r] tl),?_,by omega,by omega,by simp; omega,HB.out.alloc HB.out.size _⟩;have h7:=HD.out;rw [digB_more (by omega)] at h7;rw [← h7,h4.1,h4.2];simp
   case measure=>have:=HLT.out; have:=HRQ.out; simp [intOf]; omega
  ·have hlt':¬ (9:Int)<(m:Int):=by omega
   have hmm:(m:Int)≤9:=by omega
   have hrw:Rd (wr.alloc (.cells #[.int .u8 (48+(m:Int))] 5)) (wr.heap.size+1) (some ⟨wr.heap.size,0,none⟩) (bytesV [dg m]):=by
    rw [show bytesV [dg m]=[Value.int .u8 (48+(m:Int))] by simp [bytesV]; exact congrArg (Value.int IntKind.u8) (dg_val (r:=m) (by omega))];exact Rd.of_blk (l:=[.int .u8 (48+(m:Int))]) (Blk.new _ _ _) (by omega)
   have hconv:(convert 40 9 (.slice (some ⟨wr.heap.size,0,none⟩) 1 1)).run Tryz.prog (wr.alloc (.cells #[.int .u8 (48+(m:Int))] 5))=.ok (.string (bs [dg m])) (wr.alloc (.cells #[.int .u8 (48+(m:Int))] 5)):=qbJ (P:=Tryz.prog) Tryz.underlying40 Tryz.underlying5 Tryz.underlying9 hrw 1;have hts:¬ 9223372036854775807<(bs [dg m]).size+(bs tl).size:=by rw [qay,qay]; have:=HL.out; simp; omega
   have HLT:=zY (show m<10 by omega);clear hrw hlt;go_wp2_with fail;go_ret;refine ⟨?_,HB.out.alloc HB.out.size _⟩;have h7:=HD.out;rw [digB_last HLT.out] at h7;rw [← h7];exact congrArg (fun q=>Ending.returned (Value.string q)) (qbA [dg m] tl)
theorem rdigits_any (n:Int) (h1:-1000000000000000≤n) (h2:n≤1000000000000000) (w:World) :
  Calls Tryz.prog 26 #[.int .i64 n] w fun x w'=>x=.returned (.string (bs (intB n)))∧Below w.heap.size w w':=by
 by_cases hn:n<0
 ·obtain ⟨N,hN⟩:∃ N:Nat,N=n.natAbs:=⟨_,rfl⟩;have e1:-n=(N:Int):=by omega
  have HE:=zY (show bs [45]++bs (digB 16 N)=bs (intB n) by rw [qbA,intB,if_pos hn,hN]; rfl);have CD:=zY (qdA N (by omega) w)
  have hsz:¬ 9223372036854775807<1+(bs (digB 16 N)).size:=by
   have:∀ f n:Nat,(digB f n).length≤f:=by
    intro f
    induction f with
    | zero=>intro n; simp [digB]
    | succ f ih =>
     intro n;have:=ih (n/10);unfold digB
     split <;> simp; omega
   have:=this 16 N;rw [qay];omega
  clear hN;go_enter Tryz.func26,Tryz.ntmps26;go_wp2_with fail;refine qaa CD.out ?_;rintro e w1 ⟨rfl,hb⟩;have HB:=zY hb;clear hb;go_wp2_with fail;go_ret;exact ⟨congrArg (fun q=>Ending.returned (Value.string q)) HE.out,HB.out⟩
 ·obtain ⟨N,rfl⟩:∃ N:Nat,n=(N:Int):=⟨n.toNat,by omega⟩;have e:intB (N:Int)=digB 16 N:=by rw [intB,if_neg hn]; rfl
  rw [e];exact qdA N h2 w
end Go.Proofs.YtlkikjeccamheaaGreatDoor.Js
