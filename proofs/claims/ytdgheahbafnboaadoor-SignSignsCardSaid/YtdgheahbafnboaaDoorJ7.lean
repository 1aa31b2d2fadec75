/-
  Joined texts: Of64 TopZ Sec Fc Rfa Ft Rmu Rpu.
-/
import Derived.Test.YtdgheahbafnboaaDoorJ6
import Derived.Test.YtdgheahbafnboaaDoorJ3
import Derived.Test.YtdgheahbafnboaaDoorJ4
import Derived.Test.YtdgheahbafnboaaDoorJ2
/-
  Walk: the reference's Of, of 64 bits.
-/
namespace Go.Proofs.YtdgheahbafnboaaDoor.Sh
set_option linter.unusedSimpArgs false
set_option linter.unusedVariables false
open Go.RowKit
set_option maxRecDepth 100000 in
set_option maxHeartbeats 4000000 in
theorem of64_any (w:World):Calls Tryd.prog 76 #[.int .i64 64] w (OfPost F64 w):=by
 have hu:=Tryd.underlying101;obtain ⟨g0,hg0⟩:∃ x,x=w.heap.size:=⟨_,rfl⟩;go_enter Tryd.func76,Tryd.ntmps76;go_wp2_with fail;obtain ⟨gh,hgh⟩:∃ x,x=w.heap.size+1+1+1+1+1:=⟨_,rfl⟩;obtain ⟨ga,hga⟩:∃ x,x=w.heap.size+1:=⟨_,rfl⟩;obtain ⟨gb,hgb⟩:∃ x,x=w.heap.size+1+1:=⟨_,rfl⟩;obtain ⟨gc,hgc⟩:∃ x,x=w.heap.size+1+1+1:=⟨_,rfl⟩;obtain ⟨gd,hgd⟩:∃ x,x=w.heap.size+1+1+1+1:=⟨_,rfl⟩;have hd:ga≠gh∧gb≠gh∧gc≠gh∧gd≠gh:=by omega
 have hlt:g0<gh∧g0<ga∧g0<gb∧g0<gc∧g0<gd:=by omega
 refine calls_then (primes_any _) ?_;rintro e wp ⟨P,pc,rfl,hown,hbel⟩;have B0:=(((((((Blk.newAt (n:=w.heap.size) (t:=101) (cs:=zH) (by simp)).alloc _).alloc _).alloc _).alloc _).alloc _)).below hbel (by simp <;> omega);have Bh:=((Blk.newAt (n:=w.heap.size+1+1+1+1+1) (t:=101) (cs:=#[.int .i64 64,.int .i64 80,.slice (some ⟨w.heap.size+1,0,none⟩) 3 3,.slice (some ⟨w.heap.size+1+1,0,none⟩) 3 3,.slice (some ⟨w.heap.size+1+1+1,0,none⟩) 3 3,.slice (some ⟨w.heap.size+1+1+1+1,0,none⟩) 3 3,.slice none 0 0,.slice none 0 0]) (by simp))).below hbel (by simp <;> omega);have Ba:=((((((Blk.newAt (n:=w.heap.size+1) (t:=3) (cs:=(tri F64.s0).toArray) (by simp)).alloc _).alloc _).alloc _).alloc _)).below hbel (by simp <;> omega);have Bb:=(((((Blk.newAt (n:=w.heap.size+1+1) (t:=3) (cs:=(tri F64.s1).toArray) (by simp)).alloc _).alloc _).alloc _)).below hbel (by simp <;> omega);have Bc:=((((Blk.newAt (n:=w.heap.size+1+1+1) (t:=3) (cs:=(tri F64.t0).toArray) (by simp)).alloc _).alloc _)).below hbel (by simp <;> omega);have Bd:=(((Blk.newAt (n:=w.heap.size+1+1+1+1) (t:=3) (cs:=(tri F64.t1).toArray) (by simp)).alloc _)).below hbel (by simp <;> omega);have hbl:=(((((((below_new w _).alloc (by simp; try omega) _).alloc (by simp; try omega) _).alloc (by simp; try omega) _).alloc (by simp; try omega) _).alloc (by simp; try omega) _):Below w.heap.size w _).trans (hbel.mono (by simp <;> omega));have hown':=hown.mono (show w.heap.size≤_ by simp <;> omega);rw [← hgh,← hgd,← hgc,← hgb,← hga] at Bh ⊢;rw [← hg0] at B0 hbl hown' ⊢;rw [← hga] at Ba;rw [← hgb] at Bb;rw [← hgc] at Bc;rw [← hgd] at Bd;obtain ⟨gp,rfl,hgp1,hgp2⟩:=hown'.ptr (by decide);have hpc:=hown'.le_cap
 have hst0:OfSt w ⟨g0,gh,ga,gb,gc,gd⟩ F64 zH (.slice (some ⟨gp,0,none⟩) 80 pc) (csV 64 80 ga gb gc gd (.slice none 0 0) (.slice none 0 0)) (.slice none 0 0) ((kL F64).take 0) (.slice none 0 0) [] wp :=
  ⟨hbl,B0,Bh,Ba,Bb,Bc,Bd,hown',OwnX.nil _ _ _ _,OwnX.nil _ _ _ _,.inl rfl,hlt.1⟩
 have HD:=zY hd;have HLT:=zY hlt;have HG0:=zY hg0;have HST0:=zY hst0;clear B0 Bh Ba Bb Bc Bd hbl hown' hown hbel hd hlt hgp1 hgp2 hgh hga hgb hgc hgd hg0 hst0;go_wp2_with fail
 go_loopw [5] (fun i wr=>∃ (n:Nat) (A:Option Addr) (c:Nat),n≤80∧i=.int .i64 n∧OfSt w ⟨g0,gh,ga,gb,gc,gd⟩ F64 zH (.slice (some ⟨gp,0,none⟩) 80 pc) (csV 64 80 ga gb gc gd (.slice A n c) (.slice none 0 0)) (.slice A n c) ((kL F64).take n) (.slice none 0 0) [] wr) (fun i _=>80 - (intOf i).toNat)
 case atStart=>exact ⟨0,none,0,by omega,rfl,HST0.out⟩
 case round =>
  clear HST0;obtain ⟨n,A,c,hn,rfl,hst⟩:=hrel;have d1:=hst.h.cell 1;simp [csV,hC] at d1
  by_cases hnl:n<80
  ·have hnl':(n:Int)<80:=by omega
   obtain ⟨L,hL⟩:∃ L,L=(kL F64).take n:=⟨_,rfl⟩;have hLl:L.length=n:=by rw [hL,List.length_take,kL_length,show F64.many=80 from rfl]; omega
   obtain ⟨pn,hpn⟩:∃ x,x=primes80.getD n 0:=⟨_,rfl⟩;have hpl:pn<65536:=by rw [hpn]; exact prime_lt n (by omega)
   have hrt:rootN pn 3=stepsN.getD n 0:=by rw [hpn]; exact rootN3 n (by omega)
   obtain ⟨rt,hrt2⟩:∃ x,x=rootN pn 3:=⟨_,rfl⟩;have hrl:rt<18446744073709551616:=by rw [hrt2,rootN]; exact Nat.mod_lt _ (by decide)
   obtain ⟨kn,hkn⟩:∃ x,x=rt/2^(64 - 64)%2^64:=⟨_,rfl⟩
   have hnx:(kL F64).take (n+1)=L++[kn]:=by
    rw [hkn,hrt2,hrt,hL];exact kL_take F64 n hnl
   have ep:(wordsV .i64 primes80)[n]?=some (.int .i64 (pn:Int)):=by rw [hpn]; exact wordsV_at (show n<80 by omega)
   rw [← hL] at hst;have HL:=zY hLl;have HPL:=zY hpl;have HRT:=zY hrt2;have HRL:=zY hrl;have HKN:=zY hkn;have HNX:=zY hnx;have EP:=zY ep;have hn80:n<80:=by omega
   have HC0:=hst.drew;have HST1:=zY hst;clear hL hLl hpn hpl hrt hrt2 hrl hkn hnx ep hst;go_wp2_with fail;clear HST1 d1;refine wp_region_tail2 (fun u=>OfSt w ⟨g0,gh,ga,gb,gc,gd⟩ F64 zH (.slice (some ⟨gp,0,none⟩) 80 pc) (csV 64 80 ga gb gc gd (.slice A n c) (.slice none 0 0)) (.slice A n c) L (.slice none 0 0) [] u) (fun i=>i == 0 || i == 1) 9 10 [(0,some 26),(1,some 27),(2,some 28),(3,some 29),(4,some 30),(5,some 31),(6,some 32),(7,some 33),(8,some 34),(9,some 35),(10,some 36),(11,some 37),(12,none)] (by kernel_rfl) (by kernel_rfl) (by decide) (by kernel_rfl) (fun _=>rfl) HC0 (fun _ _ hb h=>h.next hb) (by decide) ?_;apply DetR.next
   ·apply detStepR_pure [];exact fun _=>rfl;rfl;rintro vals - w1 hC1 E hE;simp only [sP] at hE ⊢;go_wp2;exact .mk hE
   apply DetR.next
   ·apply detStepR_pure [(0,some 26)];exact fun _=>rfl;rfl;rintro vals ⟨-,f0⟩ w1 hC1 E hE;have d0:=hC1.h.cell 6;simp [csV,hC] at d0;simp only [sP,f0] at hE ⊢;clear f0;go_wp2;exact .mk hE
   apply DetR.next
   ·apply detStepR_of;apply dP [];exact fun _=>rfl;rfl;intro vals vq w1 hC1 E hE;clear vq;simp only [sP] at hE ⊢;refine wpList_get_box hC1.h rfl rfl rfl hu rfl h_size ?_;go_wp2_with fail;exact .mk (hE _ hC1)
   apply DetR.next
   ·apply detStepR_of;apply dP [];exact fun _=>rfl;rfl;intro vals vq w1 hC1 E hE;clear vq;simp only [sP] at hE ⊢;go_wp2;exact .mk (hE _ hC1)
   apply DetR.next
   ·apply detStepR_of;apply dP [];exact fun _=>rfl;rfl;intro vals vq w1 hC1 E hE;clear vq;simp only [sP] at hE ⊢;go_wp2;exact .mk (hE _ hC1)
   apply DetR.next
   ·apply detStepR_of;apply dP [(3,some 29),(4,some 30)];exact fun _=>rfl;rfl;intro vals vq w1 hC1 E hE;have f3:=vq.1.2;have f4:=vq.2;clear vq;simp only [sP,f3,f4] at hE ⊢;clear f3 f4;go_wp2;exact .mk (hE _ hC1)
   apply DetR.next
   ·apply detStepR_of;apply dP [(5,some 31)];exact fun _=>rfl;rfl;intro vals vq w1 hC1 E hE;have f5:=vq.2;clear vq;have d0:=hC1.p.atN EP.out;simp only [sP,f5] at hE ⊢;clear f5;go_wp2;exact .mk (hE _ hC1)
   apply DetR.next
   ·apply detStepR_of;apply dP [(6,some 32)];exact fun _=>rfl;rfl;intro vals vq w1 hC1 E hE;have f6:=vq.2;clear vq;simp only [sP,f6] at hE ⊢;clear f6;go_wp2_with fail;refine calls_then (root3_any pn _ HPL.out) ?_;rintro e w2 ⟨rfl,hb2⟩;rw [← HRT.out];go_wp2_with fail;exact .mk (hE _ (hC1.next hb2))
   apply DetR.next
   ·apply detStepR_of;apply dP [(2,some 28),(7,some 33),(7,some 33)];exact fun _=>rfl;rfl;intro vals vq w1 hC1 E hE;have f2:=vq.1.1.1.1.1.2;have f7:=vq.2;clear vq;simp only [sP,f2,f7] at hE ⊢;clear f2 f7;go_wp2_with fail;refine calls_then (top_any 64 80 _ _ _ _ _ _ _ (.inr rfl) rt HRL.out) ?_;rintro e w2 ⟨rfl,hb2⟩;rw [← HKN.out];go_wp2_with fail;exact .mk (hE _ (hC1.next hb2))
   apply DetR.done;rintro vals ⟨⟨⟨⟨⟨⟨⟨⟨⟨-,f0⟩,f1⟩,f2⟩,f3⟩,f4⟩,f5⟩,f6⟩,f7⟩,f8⟩ w1 hC1;refine tail_step2 [(8,some 34)] (fun _=>rfl) rfl ?_;intro E hE;simp only [sP,f8] at hE ⊢;go_wp2;refine .mk (hE _ _ (fun _=>below_new _ _) ?_);clear hE E;generalize hval:upd _ 9 _=vals9;replace f0:=uP hval (by decide) f0;replace f1:=uP hval (by decide) f1;replace f2:=uP hval (by decide) f2;replace f3:=uP hval (by decide) f3;replace f4:=uP hval (by decide) f4;replace f5:=uP hval (by decide) f5;replace f6:=uP hval (by decide) f6;replace f7:=uP hval (by decide) f7;replace f8:=uP hval (by decide) f8;have f9:=(congrFun hval 9).symm.trans (upd_self _ _ _);clear hval;refine tail_step2 [(1,some 27),(9,some 35),(8,some 34)] (fun _=>rfl) rfl ?_;intro E hE;simp only [sP,f1,f8,f9] at hE ⊢;refine wpList_append_one sl_u64 rfl rfl (show OwnX w1 g0 36 1 (.slice A n c) n (wordsV .u64 L) by have:=hC1.k; rwa [HL.out] at this) rfl rfl rfl rfl (by unfold maxLen; omega) (by omega) (by have:=hC1.res.lt; dsimp only at this; omega) ?_;intro A6 c6 w6 hown6 hg6 hn6;have hap:=hC1.appK (v':=.slice A6 (n+1) c6) (x:=kn) (by rw [HL.out]; exact hown6) hg6 (rfl);have HAP:=zY hap;clear hap hown6 hg6 hn6;go_wp2_with fail;refine .mk (hE _ _ (fun h=>absurd h (by decide)) ?_);clear hE E;generalize hval:upd _ 10 _=vals10;replace f0:=uP hval (by decide) f0;replace f1:=uP hval (by decide) f1;replace f2:=uP hval (by decide) f2;replace f3:=uP hval (by decide) f3;replace f4:=uP hval (by decide) f4;replace f5:=uP hval (by decide) f5;replace f6:=uP hval (by decide) f6;replace f7:=uP hval (by decide) f7;replace f8:=uP hval (by decide) f8;replace f9:=uP hval (by decide) f9;have f10:=(congrFun hval 10).symm.trans (upd_self _ _ _);clear hval;refine tail_step2 [(0,some 26),(1,some 27),(2,some 28),(3,some 29),(4,some 30),(5,some 31),(6,some 32),(7,some 33),(8,some 34),(9,some 35),(10,some 36)] (fun _=>rfl) rfl ?_;intro E hE;simp only [sP,f0,f1,f2,f3,f4,f5,f6,f7,f8,f9,f10] at hE ⊢;go_wp2;refine .mk (hE _ _ (fun h=>absurd h (by decide)) ?_);clear hE E;generalize hval:upd _ 11 _=vals11;replace f0:=uP hval (by decide) f0;replace f1:=uP hval (by decide) f1;replace f2:=uP hval (by decide) f2;replace f3:=uP hval (by decide) f3;replace f4:=uP hval (by decide) f4;replace f5:=uP hval (by decide) f5;replace f6:=uP hval (by decide) f6;replace f7:=uP hval (by decide) f7;replace f8:=uP hval (by decide) f8;replace f9:=uP hval (by decide) f9;replace f10:=uP hval (by decide) f10;have f11:=(congrFun hval 11).symm.trans (upd_self _ _ _);clear hval;refine tail_step2 [(11,some 37),(10,some 36),(10,some 36),(0,some 26),(1,some 27),(2,some 28),(3,some 29),(4,some 30),(5,some 31),(6,some 32),(7,some 33),(8,some 34),(9,some 35),(10,some 36)] (fun _=>rfl) rfl ?_;intro E hE;simp only [sP,f0,f1,f2,f3,f4,f5,f6,f7,f8,f9,f10,f11] at hE ⊢;refine wpList_put_cell (i:=6) (v:=.slice A6 (n+1) c6) HAP.out.h rfl rfl rfl rfl slu_size (show 6<8 by decide) rfl ?_;intro w7 hb7 hw7;have HFIN:=zY (HAP.out.put hw7 hb7 HD.out);clear hb7 hw7;go_wp2_with fail;refine .mk (hE undef _ (fun h=>absurd h (by decide)) ?_);clear hE E;generalize hval:upd _ 12 _=vals12;replace f0:=uP hval (by decide) f0;replace f1:=uP hval (by decide) f1;replace f2:=uP hval (by decide) f2;replace f3:=uP hval (by decide) f3;replace f4:=uP hval (by decide) f4;replace f5:=uP hval (by decide) f5;replace f6:=uP hval (by decide) f6;replace f7:=uP hval (by decide) f7;replace f8:=uP hval (by decide) f8;replace f9:=uP hval (by decide) f9;replace f10:=uP hval (by decide) f10;replace f11:=uP hval (by decide) f11;have f12:=(congrFun hval 12).symm.trans (upd_self _ _ _);clear hval;refine tail_end2 ?_;simp only [sP,f0,f1,f2,f3,f4,f5,f6,f7,f8,f9,f10,f11,f12];clear f0 f1 f2 f3 f4 f5 f6 f7 f8 f9 f10 f11 f12;clear HC0 HAP hC1;go_wp2_with fail;refine ⟨⟨n+1,A6,c6,by omega,by go_num,?_⟩,by simp [intOf]; omega⟩;rw [HNX.out];exact HFIN.out
  ·obtain rfl:n=80:=by omega
   rw [List.take_of_length_le (by rw [kL_length]; exact Nat.le_refl _)] at hst;obtain ⟨gk,rfl,hk1,hk2⟩:=(show OwnX wr g0 36 1 (.slice A 80 c) 80 (wordsV .u64 (kL F64)) by have:=hst.k; rwa [kL_length] at this).ptr (by decide)
   have hck:80≤c:=by
    have ho:OwnX wr g0 36 1 (.slice (some ⟨gk,0,none⟩) 80 c) 80 (wordsV .u64 (kL F64)):=by have:=hst.k; rwa [kL_length] at this
    exact ho.le_cap
   have hst1:OfSt w ⟨g0,gh,ga,gb,gc,gd⟩ F64 zH (.slice (some ⟨gp,0,none⟩) 80 pc) (csV 64 80 ga gb gc gd (.slice (some ⟨gk,0,none⟩) 80 c) (.slice none 0 0)) (.slice (some ⟨gk,0,none⟩) 80 c) (kL F64) (.slice none 0 0) ((s8L (startS F64)).take 0) wr:=hst;have HST0:=zY hst1;have HK1:=zY hk1;clear hst hst1 hk1 hk2;obtain ⟨ck,rfl⟩:∃ ck,ck=c:=⟨_,rfl⟩;go_wp2_with fail;clear d1;obtain ⟨wo,rfl⟩:∃ wo:World,wo=wr:=⟨_,rfl⟩
   go_loopw [6] (fun i wr=>∃ (n:Nat) (A:Option Addr) (c:Nat),n≤8∧i=.int .i64 n∧OfSt w ⟨g0,gh,ga,gb,gc,gd⟩ F64 zH (.slice (some ⟨gp,0,none⟩) 80 pc) (csV 64 80 ga gb gc gd (.slice (some ⟨gk,0,none⟩) 80 ck) (.slice A n c)) (.slice (some ⟨gk,0,none⟩) 80 ck) (kL F64) (.slice A n c) ((s8L (startS F64)).take n) wr) (fun i _=>8 - (intOf i).toNat)
   case atStart=>exact ⟨0,none,0,by omega,rfl,HST0.out⟩
   case round =>
    clear HST0;obtain ⟨n,A,c,hn,rfl,hst⟩:=hrel
    by_cases hnl:n<8
    ·have hnl':(n:Int)<8:=by omega
     obtain ⟨L,hL⟩:∃ L,L=(s8L (startS F64)).take n:=⟨_,rfl⟩;have hLl:L.length=n:=by rw [hL,List.length_take,show (s8L (startS F64)).length=8 from rfl]; omega
     obtain ⟨pn,hpn⟩:∃ x,x=primes80.getD n 0:=⟨_,rfl⟩;have hpl:pn<65536:=by rw [hpn]; exact prime_lt n (by omega)
     have hrt:rootN pn 2=firstN.getD n 0:=by rw [hpn]; exact rootN2 n hnl
     obtain ⟨rt,hrt2⟩:∃ x,x=rootN pn 2:=⟨_,rfl⟩;have hrl:rt<18446744073709551616:=by rw [hrt2,rootN]; exact Nat.mod_lt _ (by decide)
     obtain ⟨kn,hkn⟩:∃ x,x=rt/2^(64 - 64)%2^64:=⟨_,rfl⟩
     have hnx:(s8L (startS F64)).take (n+1)=L++[kn]:=by
      rw [hkn,hrt2,hrt,hL];exact start_take F64 n hnl
     have ep:(wordsV .i64 primes80)[n]?=some (.int .i64 (pn:Int)):=by rw [hpn]; exact wordsV_at (show n<80 by omega)
     rw [← hL] at hst;have HL:=zY hLl;have HPL:=zY hpl;have HRT:=zY hrt2;have HRL:=zY hrl;have HKN:=zY hkn;have HNX:=zY hnx;have EP:=zY ep;have hn80:n<80:=by omega
     have HC0:=hst.drew;have HST1:=zY hst;clear hL hLl hpn hpl hrt hrt2 hrl hkn hnx ep hst;go_wp2_with fail;clear HST1;refine wp_region_tail2 (fun u=>OfSt w ⟨g0,gh,ga,gb,gc,gd⟩ F64 zH (.slice (some ⟨gp,0,none⟩) 80 pc) (csV 64 80 ga gb gc gd (.slice (some ⟨gk,0,none⟩) 80 ck) (.slice A n c)) (.slice (some ⟨gk,0,none⟩) 80 ck) (kL F64) (.slice A n c) L u) (fun i=>i == 0 || i == 1) 9 10 [(0,some 42),(1,some 43),(2,some 44),(3,some 45),(4,some 46),(5,some 47),(6,some 48),(7,some 49),(8,some 50),(9,some 51),(10,some 52),(11,some 53),(12,none)] (by kernel_rfl) (by kernel_rfl) (by decide) (by kernel_rfl) (fun _=>rfl) HC0 (fun _ _ hb h=>h.next hb) (by decide) ?_;apply DetR.next
     ·apply detStepR_pure [];exact fun _=>rfl;rfl;rintro vals - w1 hC1 E hE;simp only [sP] at hE ⊢;go_wp2;exact .mk hE
     apply DetR.next
     ·apply detStepR_pure [(0,some 42)];exact fun _=>rfl;rfl;rintro vals ⟨-,f0⟩ w1 hC1 E hE;have d0:=hC1.h.cell 7;simp [csV,hC] at d0;simp only [sP,f0] at hE ⊢;clear f0;go_wp2;exact .mk hE
     apply DetR.next
     ·apply detStepR_of;apply dP [];exact fun _=>rfl;rfl;intro vals vq w1 hC1 E hE;clear vq;simp only [sP] at hE ⊢;refine wpList_get_box hC1.h rfl rfl rfl hu rfl h_size ?_;go_wp2_with fail;exact .mk (hE _ hC1)
     apply DetR.next
     ·apply detStepR_of;apply dP [];exact fun _=>rfl;rfl;intro vals vq w1 hC1 E hE;clear vq;simp only [sP] at hE ⊢;go_wp2;exact .mk (hE _ hC1)
     apply DetR.next
     ·apply detStepR_of;apply dP [];exact fun _=>rfl;rfl;intro vals vq w1 hC1 E hE;clear vq;simp only [sP] at hE ⊢;go_wp2;exact .mk (hE _ hC1)
     apply DetR.next
     ·apply detStepR_of;apply dP [(3,some 45),(4,some 46)];exact fun _=>rfl;rfl;intro vals vq w1 hC1 E hE;have f3:=vq.1.2;have f4:=vq.2;clear vq;simp only [sP,f3,f4] at hE ⊢;clear f3 f4;go_wp2;exact .mk (hE _ hC1)
     apply DetR.next
     ·apply detStepR_of;apply dP [(5,some 47)];exact fun _=>rfl;rfl;intro vals vq w1 hC1 E hE;have f5:=vq.2;clear vq;have d0:=hC1.p.atN EP.out;simp only [sP,f5] at hE ⊢;clear f5;go_wp2;exact .mk (hE _ hC1)
     apply DetR.next
     ·apply detStepR_of;apply dP [(6,some 48)];exact fun _=>rfl;rfl;intro vals vq w1 hC1 E hE;have f6:=vq.2;clear vq;simp only [sP,f6] at hE ⊢;clear f6;go_wp2_with fail;refine calls_then (root2_any pn _ HPL.out) ?_;rintro e w2 ⟨rfl,hb2⟩;rw [← HRT.out];go_wp2_with fail;exact .mk (hE _ (hC1.next hb2))
     apply DetR.next
     ·apply detStepR_of;apply dP [(2,some 44),(7,some 49),(7,some 49)];exact fun _=>rfl;rfl;intro vals vq w1 hC1 E hE;have f2:=vq.1.1.1.1.1.2;have f7:=vq.2;clear vq;simp only [sP,f2,f7] at hE ⊢;clear f2 f7;go_wp2_with fail;refine calls_then (top_any 64 80 _ _ _ _ _ _ _ (.inr rfl) rt HRL.out) ?_;rintro e w2 ⟨rfl,hb2⟩;rw [← HKN.out];go_wp2_with fail;exact .mk (hE _ (hC1.next hb2))
     apply DetR.done;rintro vals ⟨⟨⟨⟨⟨⟨⟨⟨⟨-,f0⟩,f1⟩,f2⟩,f3⟩,f4⟩,f5⟩,f6⟩,f7⟩,f8⟩ w1 hC1;refine tail_step2 [(8,some 50)] (fun _=>rfl) rfl ?_;intro E hE;simp only [sP,f8] at hE ⊢;go_wp2;refine .mk (hE _ _ (fun _=>below_new _ _) ?_);clear hE E;generalize hval:upd _ 9 _=vals9;replace f0:=uP hval (by decide) f0;replace f1:=uP hval (by decide) f1;replace f2:=uP hval (by decide) f2;replace f3:=uP hval (by decide) f3;replace f4:=uP hval (by decide) f4;replace f5:=uP hval (by decide) f5;replace f6:=uP hval (by decide) f6;replace f7:=uP hval (by decide) f7;replace f8:=uP hval (by decide) f8;have f9:=(congrFun hval 9).symm.trans (upd_self _ _ _);clear hval;refine tail_step2 [(1,some 43),(9,some 51),(8,some 50)] (fun _=>rfl) rfl ?_;intro E hE;simp only [sP,f1,f8,f9] at hE ⊢;refine wpList_append_one sl_u64 rfl rfl (show OwnX w1 g0 36 1 (.slice A n c) n (wordsV .u64 L) by have:=hC1.f; rwa [HL.out] at this) rfl rfl rfl rfl (by unfold maxLen; omega) (by omega) (by have:=hC1.res.lt; dsimp only at this; omega) ?_;intro A6 c6 w6 hown6 hg6 hn6;have hap:=hC1.appF (v':=.slice A6 (n+1) c6) (x:=kn) (by rw [HL.out]; exact hown6) hg6 (hn6);have HAP:=zY hap;clear hap hown6 hg6 hn6;go_wp2_with fail;refine .mk (hE _ _ (fun h=>absurd h (by decide)) ?_);clear hE E;generalize hval:upd _ 10 _=vals10;replace f0:=uP hval (by decide) f0;replace f1:=uP hval (by decide) f1;replace f2:=uP hval (by decide) f2;replace f3:=uP hval (by decide) f3;replace f4:=uP hval (by decide) f4;replace f5:=uP hval (by decide) f5;replace f6:=uP hval (by decide) f6;replace f7:=uP hval (by decide) f7;replace f8:=uP hval (by decide) f8;replace f9:=uP hval (by decide) f9;have f10:=(congrFun hval 10).symm.trans (upd_self _ _ _);clear hval;refine tail_step2 [(0,some 42),(1,some 43),(2,some 44),(3,some 45),(4,some 46),(5,some 47),(6,some 48),(7,some 49),(8,some 50),(9,some 51),(10,some 52)] (fun _=>rfl) rfl ?_;intro E hE;simp only [sP,f0,f1,f2,f3,f4,f5,f6,f7,f8,f9,f10] at hE ⊢;go_wp2;refine .mk (hE _ _ (fun h=>absurd h (by decide)) ?_);clear hE E;generalize hval:upd _ 11 _=vals11;replace f0:=uP hval (by decide) f0;replace f1:=uP hval (by decide) f1;replace f2:=uP hval (by decide) f2;replace f3:=uP hval (by decide) f3;replace f4:=uP hval (by decide) f4;replace f5:=uP hval (by decide) f5;replace f6:=uP hval (by decide) f6;replace f7:=uP hval (by decide) f7;replace f8:=uP hval (by decide) f8;replace f9:=uP hval (by decide) f9;replace f10:=uP hval (by decide) f10;have f11:=(congrFun hval 11).symm.trans (upd_self _ _ _);clear hval;refine tail_step2 [(11,some 53),(10,some 52),(10,some 52),(0,some 42),(1,some 43),(2,some 44),(3,some 45),(4,some 46),(5,some 47),(6,some 48),(7,some 49),(8,some 50),(9,some 51),(10,some 52)] (fun _=>rfl) rfl ?_;intro E hE;simp only [sP,f0,f1,f2,f3,f4,f5,f6,f7,f8,f9,f10,f11] at hE ⊢;refine wpList_put_cell (i:=7) (v:=.slice A6 (n+1) c6) HAP.out.h rfl rfl rfl rfl slu_size (show 7<8 by decide) rfl ?_;intro w7 hb7 hw7;have HFIN:=zY (HAP.out.put hw7 hb7 HD.out);clear hb7 hw7;go_wp2_with fail;refine .mk (hE undef _ (fun h=>absurd h (by decide)) ?_);clear hE E;generalize hval:upd _ 12 _=vals12;replace f0:=uP hval (by decide) f0;replace f1:=uP hval (by decide) f1;replace f2:=uP hval (by decide) f2;replace f3:=uP hval (by decide) f3;replace f4:=uP hval (by decide) f4;replace f5:=uP hval (by decide) f5;replace f6:=uP hval (by decide) f6;replace f7:=uP hval (by decide) f7;replace f8:=uP hval (by decide) f8;replace f9:=uP hval (by decide) f9;replace f10:=uP hval (by decide) f10;replace f11:=uP hval (by decide) f11;have f12:=(congrFun hval 12).symm.trans (upd_self _ _ _);clear hval;refine tail_end2 ?_;simp only [sP,f0,f1,f2,f3,f4,f5,f6,f7,f8,f9,f10,f11,f12];clear f0 f1 f2 f3 f4 f5 f6 f7 f8 f9 f10 f11 f12;clear HC0 HAP hC1;go_wp2_with fail;refine ⟨⟨n+1,A6,c6,by omega,by go_num,?_⟩,by simp [intOf]; omega⟩;rw [HNX.out];exact HFIN.out
    ·obtain rfl:n=8:=by omega
     rw [show (s8L (startS F64)).take 8=s8L (startS F64) from rfl] at hst;obtain ⟨gz,rfl,hz1,hz2⟩:=(show OwnX wr g0 36 1 (.slice A 8 c) 8 (wordsV .u64 (s8L (startS F64))) from hst.f).ptr (by decide);have hcz:8≤c:=(show OwnX wr g0 36 1 (.slice (some ⟨gz,0,none⟩) 8 c) 8 (wordsV .u64 (s8L (startS F64))) from hst.f).le_cap;have HST2:=zY hst;clear hz1 hz2 hst
     go_wp2_with (first
      | (refine wpList_get_box (x:=.tmp 3) HST2.out.h rfl rfl rfl hu rfl h_size ?_)
      | (refine wpList_put_box (x:=.tmp 2) (cells:=csV 64 80 ga gb gc gd (.slice (some ⟨gk,0,none⟩) 80 ck) (.slice (some ⟨gz,0,none⟩) 8 c)) HST2.out.res rfl rfl rfl rfl h_size rfl (by simp [csV,hC,Value.oneCell']) ?_; intro w5 hb5 hw5))
     refine bodyPost_ret (results_box (P:=Tryd.prog) rfl rfl hb5 hu rfl h_size) rfl ?_;have h2:=HST2.out;have hdl:=HLT.out;refine ⟨⟨⟨ga,0,none⟩,⟨gb,0,none⟩,⟨gc,0,none⟩,⟨gd,0,none⟩,⟨gk,0,none⟩,⟨gz,0,none⟩,3,3,3,3,ck,c⟩,rfl,?_,?_⟩
     ·have k1:=hw5.blk h2.a (by dsimp only; omega);have k2:=hw5.blk h2.b (by dsimp only; omega);have k3:=hw5.blk h2.c (by dsimp only; omega);have k4:=hw5.blk h2.d (by dsimp only; omega);have k5:=hw5.own h2.k (own_ne_blk h2.k h2.res (by decide));have k6:=hw5.own h2.f (own_ne_blk h2.f h2.res (by decide));exact ⟨Rd.of_blk k1 k1.lt,Rd.of_blk k2 k2.lt,Rd.of_blk k3 k3.lt,Rd.of_blk k4 k4.lt,Rd.of_own (n:=80) (by rw [kL_length] at k5; exact k5) (Nat.le_refl _),Rd.of_own (n:=8) k6 (Nat.le_refl _),Nat.le_refl _,Nat.le_refl _,Nat.le_refl _,Nat.le_refl _,hck,hcz⟩
     ·rw [← HG0.out];exact hw5.below h2.bel (Nat.le_refl _) (by have:=h2.res.lt; dsimp only at this; omega)
end Go.Proofs.YtdgheahbafnboaaDoor.Sh
/-
  Walk: the reference's digest of 64 bytes as it is called; it may be written to.
-/
namespace Go.Proofs.YtdgheahbafnboaaDoor.Sh
set_option linter.unusedSimpArgs false
set_option linter.unusedVariables false
open Go.RowKit
set_option maxRecDepth 100000 in
set_option maxHeartbeats 2000000 in
theorem r512z_any (data:List UInt8) (A:Option Addr) (c B:Nat) (w:World) (hr:Rd w B A (bytesV data)) (hB:B≤w.heap.size) (hl:data.length≤1000) (hc:data.length≤c) :
  Calls Tryd.prog 47 #[.slice A data.length c] w (HSumPostZ F64 64 data w):=by
 have HR:=zY hr;have hu:=Tryd.underlying101;clear hr;go_enter Tryd.func47,Tryd.ntmps47;go_wp2_with fail;refine calls_then (of64_any w) ?_;rintro e w1 ⟨p,rfl,hok,hb1⟩;have HOK:=zY hok;have HB1:=zY hb1;clear hok hb1
 go_wp2_with (first
  | (refine wpList_put_box (x:=.tmp 3) (cells:=hv F64 p) (Blk.new w1 101 zH) rfl rfl rfl rfl h_size rfl (by simp [hv,hC,Value.oneCell']) ?_; intro w2 hb2 hw2; have HB2:=zY hb2; have HW2:=zY hw2; clear hb2 hw2)
  | (refine wpList_get_box (x:=.tmp 3) HB2.out rfl rfl rfl hu rfl h_size ?_))
 have hbel:Below w1.heap.size w1 w2:=HW2.out.below (below_new _ _) (Nat.le_refl _) (by simp);have hsz:w1.heap.size+1=w2.heap.size:=by rw [HW2.out.size]; simp
 refine calls_then (hsum64z_any p data A c w1.heap.size w2 (HOK.out.below hbel) (((HR.out.mono hB).below HB1.out).mono HB1.out.size |>.below hbel) (by omega) hl hc) ?_;rintro e w3 ⟨A3,c3,rfl,ho3,hb3⟩;have HO3:=zY ho3;have HB3:=zY hb3;have HBEL:=zY hbel;have HSZ:=zY hsz;clear ho3 hb3 hbel hsz;go_wp2_with fail;go_ret;exact ⟨A3,c3,rfl,ownZ_mono HO3.out (by have:=HB1.out.size; have:=HSZ.out; omega),HB1.out.trans ((HBEL.out.mono HB1.out.size).trans (HB3.out.mono (by have:=HB1.out.size; have:=HSZ.out; omega)))⟩
end Go.Proofs.YtdgheahbafnboaaDoor.Sh
/-
  Walk: the reference's Secret.
-/
namespace Go.Proofs.YtdgheahbafnboaaDoor
set_option linter.unusedSimpArgs false
set_option linter.unusedVariables false
open Go.RowKit
set_option maxRecDepth 100000 in
set_option maxHeartbeats 4000000 in
theorem rsecret_any (data:List UInt8) (A:Option Addr) (c:Nat) (w:World) (hr:Rd w w.heap.size A (bytesV data)) (hl:data.length≤1000) (hc:data.length≤c) :
  Calls Tryd.prog 23 #[.slice A data.length c] w (SecPost (secL data) w):=by
 have hs:=Sh.r512z_any data A c w.heap.size w hr (Nat.le_refl _) hl hc;obtain ⟨n,hn⟩:∃ n,n=data.length:=⟨_,rfl⟩;rw [← hn] at hs ⊢;have HS:=zY hs;have hn63:(n:Int)≤1000:=by omega
 clear hr hs hl hc hn;go_enter Tryd.func23,Tryd.ntmps23;go_wp2_with fail;refine calls_then HS.out ?_;rintro e w1 ⟨A1,c1,rfl,ho,hb⟩;have hcap:=own_cap ho.x;obtain ⟨g,ys,rfl,hg,_,hblk⟩:=ho.blk (by decide)
 have hlen:(secD data).length=64:=by
  have h:=ho.1;rw [bytesV_length] at h;rw [secD,digs,List.length_map,h]
 rw [← bnV_digs'] at hblk;obtain ⟨L,hL⟩:∃ L,L=secD data:=⟨_,rfl⟩;have hdg:Dg L:=by rw [hL]; exact digs_dg _
 rw [← hL] at hlen;have hst:SecW w g ys L w1:=⟨hb,by rw [hL]; exact hblk,hg⟩;have hkl:secL data=clampL L:=by rw [hL]; rfl
 obtain ⟨x,hx⟩:∃ x,x=L.getD 0 0:=⟨_,rfl⟩;obtain ⟨y,hy⟩:∃ y,y=L.getD 31 0:=⟨_,rfl⟩;have hxl:x<256:=by rw [hx]; exact dg_getD hdg 0
 have hyl:y<256:=by rw [hy]; exact dg_getD hdg 31
 obtain ⟨r,hrr⟩:∃ r,r=x%8:=⟨_,rfl⟩;obtain ⟨s,hss⟩:∃ s,s=x - x%8:=⟨_,rfl⟩;obtain ⟨t,ht⟩:∃ t,t=y%64:=⟨_,rfl⟩;obtain ⟨z,hz⟩:∃ z,z=y%64+64:=⟨_,rfl⟩;have hri:(x:Int)%8=(r:Int):=by omega
 have hsi:(x:Int) - (r:Int)=(s:Int):=by omega
 have hti:(y:Int)%64=(t:Int):=by omega
 have hzi:(t:Int)+64=(z:Int):=by omega
 have hxl':(x:Int)<256:=by omega
 have hsl':(s:Int)<256:=by omega
 have hyl':(y:Int)<256:=by omega
 have hzl':(z:Int)<256:=by omega
 have hkl2:secL data=(L.set 0 s).set 31 z:=by rw [hkl,clampL,← hx,← hy,← hss,← hz]
 have d0:∀ u,SecW w g ys L u→u.cell? ⟨g,0,none⟩=some (.int .u8 (x:Int)):=fun u h=>by rw [h.x.cell,sec_cell (by omega),hx]
 have d1:∀ u,SecW w g ys (L.set 0 s) u→u.cell? ⟨g,31,none⟩=some (.int .u8 (y:Int)):=fun u h=>by
  rw [h.x.cell,sec_cell (by rw [List.length_set]; omega),List.getD_eq_getElem?_getD,List.getElem?_set_ne (by decide),← List.getD_eq_getElem?_getD,hy]
 have D0:=zY d0;have D1:=zY d1;have HLEN:=zY hlen;have HKL:=zY hkl2;have hc64:64≤c1:=hcap.1;have hc63:c1≤9223372036854775807:=hcap.2;have HST:=zY hst;clear d0 d1 hst hkl hkl2 hx hy hrr hss ht hz hL hdg hlen ho hb hg hblk hxl hyl hcap;go_wp2_with fail;have HC0:=HST.out.drew;clear HST;refine wp_region_det (fun u=>SecW w g ys L u) (fun u=>SecW w g ys (L.set 0 s) u) [(0,some 7),(1,some 8),(2,some 9),(3,some 10),(4,some 11),(5,some 12),(6,some 13),(7,some 14),(8,some 15),(9,some 16),(10,none)] (by kernel_rfl) (by kernel_rfl) (by decide) (by kernel_rfl) (fun _=>rfl) HC0 ?_;apply DetL.next
 ·apply dP [];exact fun _=>rfl;rfl;rintro vals - w1 hC1 E hE;simp only [sP] at hE ⊢;go_wp2;exact .mk (hE _ hC1)
 apply DetL.next
 ·apply dP [];exact fun _=>rfl;rfl;rintro vals ⟨-,-⟩ w1 hC1 E hE;simp only [sP] at hE ⊢;go_wp2;exact .mk (hE _ hC1)
 apply DetL.next
 ·apply dP [(1,some 8)];exact fun _=>rfl;rfl;rintro vals ⟨⟨-,-⟩,f1⟩ w1 hC1 E hE;simp only [sP,f1] at hE ⊢;clear f1;go_wp2;exact .mk (hE _ hC1)
 apply DetL.next
 ·apply dP [(2,some 9)];exact fun _=>rfl;rfl;intro vals vq w1 hC1 E hE;have f2:=vq.2;clear vq;have d0:=D0.out _ hC1;simp only [sP,f2] at hE ⊢;clear f2;go_wp2;exact .mk (hE _ hC1)
 apply DetL.next
 ·apply dP [];exact fun _=>rfl;rfl;intro vals vq w1 hC1 E hE;clear vq;simp only [sP] at hE ⊢;go_wp2;exact .mk (hE _ hC1)
 apply DetL.next
 ·apply dP [(4,some 11)];exact fun _=>rfl;rfl;intro vals vq w1 hC1 E hE;have f4:=vq.2;clear vq;simp only [sP,f4] at hE ⊢;clear f4;go_wp2;exact .mk (hE _ hC1)
 apply DetL.next
 ·apply dP [(5,some 12)];exact fun _=>rfl;rfl;intro vals vq w1 hC1 E hE;have f5:=vq.2;clear vq;have d0:=D0.out _ hC1;simp only [sP,f5] at hE ⊢;clear f5;go_wp2;exact .mk (hE _ hC1)
 apply DetL.next
 ·apply dP [(6,some 13)];exact fun _=>rfl;rfl;intro vals vq w1 hC1 E hE;have f6:=vq.2;clear vq;simp only [sP,f6] at hE ⊢;clear f6;go_wp2;exact .mk (hE _ hC1)
 apply DetL.next
 ·apply dP [(3,some 10),(7,some 14)];exact fun _=>rfl;rfl;intro vals vq w1 hC1 E hE;have f3:=vq.1.1.1.1.2;have f7:=vq.2;clear vq;simp only [sP,f3,f7] at hE ⊢;clear f3 f7;go_wp2;exact .mk (hE _ hC1)
 apply DetL.next
 ·apply dP [(0,some 7),(0,some 7),(1,some 8),(2,some 9),(3,some 10),(4,some 11),(5,some 12),(6,some 13),(7,some 14),(8,some 15)];exact fun _=>rfl;rfl;rintro vals ⟨⟨⟨⟨⟨⟨⟨⟨⟨-,f0⟩,f1⟩,f2⟩,f3⟩,f4⟩,f5⟩,f6⟩,f7⟩,f8⟩ w1 hC1 E hE;simp only [sP,f0,f1,f2,f3,f4,f5,f6,f7,f8] at hE ⊢;clear f0 f1 f2 f3 f4 f5 f6 f7 f8;go_wp2;exact .mk (hE _ hC1)
 apply DetL.last (v:=undef)
 ·apply dP [(9,some 16),(8,some 15),(0,some 7),(1,some 8),(2,some 9),(3,some 10),(4,some 11),(5,some 12),(6,some 13),(7,some 14),(8,some 15)];exact fun _=>rfl;rfl;rintro vals ⟨⟨⟨⟨⟨⟨⟨⟨⟨⟨-,f0⟩,f1⟩,f2⟩,f3⟩,f4⟩,f5⟩,f6⟩,f7⟩,f8⟩,f9⟩ w1 hC1 E hE;have d0:=D0.out _ hC1;have q0:=hC1.x.free 0;simp only [sP,f0,f1,f2,f3,f4,f5,f6,f7,f8,f9] at hE ⊢;clear f0 f1 f2 f3 f4 f5 f6 f7 f8 f9;go_wp2;refine .mk (hE _ (hC1.put (wrote_setCell_at _ _ _ _) ?_));have h:=blk_setCell_at (i:=0) hC1.x (.int .u8 (s:Int));rw [sec_set (by rw [HLEN.out]; decide)] at h;exact h
 rintro vals ⟨⟨⟨⟨⟨⟨⟨⟨⟨⟨⟨-,f0⟩,f1⟩,f2⟩,f3⟩,f4⟩,f5⟩,f6⟩,f7⟩,f8⟩,f9⟩,f10⟩ w1 hC1;simp only [sP,f0,f1,f2,f3,f4,f5,f6,f7,f8,f9,f10];clear f0 f1 f2 f3 f4 f5 f6 f7 f8 f9 f10;have d0:=D1.out _ hC1;have q0:=hC1.x.free 31;have HST:=zY hC1;clear HC0 hC1;go_wp2_with fail;have h9:=blk_setCell_at (i:=31) HST.out.x (.int .u8 (z:Int));rw [sec_set (by rw [List.length_set,HLEN.out]; decide),← HKL.out] at h9;have HC0:=(HST.out.put (wrote_setCell_at _ _ _ _) h9).drew;clear h9 d0 q0 HST;refine wp_region_det (fun u=>SecW w g ys (secL data) u) (fun u=>SecW w g ys (secL data) u) [(0,some 24),(1,some 25),(2,some 26),(3,some 27),(4,some 2),(5,some 3)] (by kernel_rfl) (by kernel_rfl) (by decide) (by kernel_rfl) (fun _=>rfl) HC0 ?_;apply DetL.next
 ·apply dP [];exact fun _=>rfl;rfl;rintro vals - w1 hC1 E hE;simp only [sP] at hE ⊢;go_wp2;exact .mk (hE _ hC1)
 apply DetL.next
 ·apply dP [(0,some 24)];exact fun _=>rfl;rfl;rintro vals ⟨-,f0⟩ w1 hC1 E hE;simp only [sP,f0] at hE ⊢;clear f0;go_wp2;exact .mk (hE _ hC1)
 apply DetL.next
 ·apply dP [];exact fun _=>rfl;rfl;intro vals vq w1 hC1 E hE;clear vq;simp only [sP] at hE ⊢;go_wp2;exact .mk (hE _ hC1)
 apply DetL.next
 ·apply dP [(2,some 26)];exact fun _=>rfl;rfl;intro vals vq w1 hC1 E hE;have f2:=vq.2;clear vq;simp only [sP,f2] at hE ⊢;clear f2;go_wp2;exact .mk (hE _ hC1)
 apply DetL.next
 ·apply dP [(1,some 25),(0,some 24),(1,some 25)];exact fun _=>rfl;rfl;rintro vals ⟨⟨⟨⟨-,f0⟩,f1⟩,-⟩,-⟩ w1 hC1 E hE;simp only [sP,f0,f1] at hE ⊢;clear f0 f1;go_wp2;exact .mk (hE _ hC1)
 apply DetL.last
 ·apply dP [(3,some 27),(4,some 2),(0,some 24),(1,some 25),(2,some 26),(3,some 27),(4,some 2)];exact fun _=>rfl;rfl;rintro vals ⟨⟨⟨⟨⟨-,f0⟩,f1⟩,f2⟩,f3⟩,f4⟩ w1 hC1 E hE;simp only [sP,f0,f1,f2,f3,f4] at hE ⊢;clear f0 f1 f2 f3 f4;go_wp2;exact .mk (hE _ hC1)
 rintro vals ⟨⟨⟨⟨⟨⟨-,f0⟩,f1⟩,f2⟩,f3⟩,f4⟩,f5⟩ w1 hC1;simp only [sP,f0,f1,f2,f3,f4,f5];clear f0 f1 f2 f3 f4 f5;obtain ⟨h1,h2⟩:=sec_rd hC1.x;have HF:=zY (And.intro h1 (And.intro h2 hC1.bel));clear HC0 hC1 h1 h2;go_wp2_with fail;go_ret2;exact ⟨_,_,_,_,rfl,by omega,by omega,HF.out⟩
end Go.Proofs.YtdgheahbafnboaaDoor
/-
  Plain: points as fractions with one divisor; so many of a point, by its number's bits from the lowest on.
-/
namespace Go.Proofs.YtdgheahbafnboaaDoor
set_option linter.unusedSimpArgs false
set_option linter.unusedVariables false
open Go.RowKit
section
variable {n:Nat} [NeZero n] {d:Fin n} {iv:Fin n→Fin n} (F:Ed.Fld n d iv)
include F
theorem g_frac {x1 y1 z1 x2 y2 z2 x y z zz xy yx yy xx k p m X1 Y1 X2 Y2:Fin n} (h1:Ed.On d x1 y1) (h2:Ed.On d x2 y2) (s:Ed.Sum d x1 y1 x2 y2 x y)
  (hz1:z1≠0) (hz2:z2≠0) (hX1:X1=x1*z1) (hY1:Y1=y1*z1) (hX2:X2=x2*z2) (hY2:Y2=y2*z2)
  (hz:z=z1*z2) (hzz:zz=z*z) (hxy:xy=X1*Y2) (hyx:yx=Y1*X2) (hyy:yy=Y1*Y2) (hxx:xx=X1*X2) (hk:k=d*(xx*yy)) (hp:p=zz+k) (hm:m=zz - k) :
  p*m≠0∧z*(m*(xy+yx))=x*(p*m)∧z*(p*(yy+xx))=y*(p*m):=by
 have dp:=Ed.den_p F h1 h2;have dm:=Ed.den_m F h1 h2;have hz0:=Ed.mul_ne F hz1 hz2;obtain ⟨sx,sy⟩:=s;subst hX1 hY1 hX2 hY2 hz hzz hxy hyx hyy hxx hk hp hm;have ep:z1*z2*(z1*z2)+d*(x1*z1*(x2*z2)*(y1*z1*(y2*z2)))=(z1*z2)*(z1*z2)*(1+d*x1*x2*y1*y2):=by clear sx sy dp dm hz0; grind -lia
 have em:z1*z2*(z1*z2) - d*(x1*z1*(x2*z2)*(y1*z1*(y2*z2)))=(z1*z2)*(z1*z2)*(1 - d*x1*x2*y1*y2):=by clear sx sy dp dm hz0; grind -lia
 have ex:x1*z1*(y2*z2)+y1*z1*(x2*z2)=(z1*z2)*(x*(1+d*x1*x2*y1*y2)):=by rw [sx]; clear sx sy dp dm hz0; grind -lia
 have ey:y1*z1*(y2*z2)+x1*z1*(x2*z2)=(z1*z2)*(y*(1 - d*x1*x2*y1*y2)):=by rw [sy]; clear sx sy dp dm hz0; grind -lia
 rw [ep,em,ex,ey];clear sx sy ep em ex ey h1 h2;generalize 1+d*x1*x2*y1*y2=u at *;generalize 1 - d*x1*x2*y1*y2=v at *;refine ⟨Ed.mul_ne F (Ed.mul_ne F (Ed.mul_ne F hz0 hz0) dp) (Ed.mul_ne F (Ed.mul_ne F hz0 hz0) dm),?_,?_⟩ <;> clear F dp dm hz0 hz1 hz2 <;> grind -lia
end
structure Fr (x y z:Nat) (P:PtF):Prop where
 hz:fn z≠0
 hx:fn x=P.x*fn z
 hy:fn y=P.y*fn z
structure FrW (x1 y1 z1 x2 y2 z2 z zz xy yx yy xx q k p m a b c e g h o:Nat):Prop where
 h_z:z=z1*z2%PN
 h_zz:zz=z*z%PN
 h_xy:xy=x1*y2%PN
 h_yx:yx=y1*x2%PN
 h_yy:yy=y1*y2%PN
 h_xx:xx=x1*x2%PN
 h_q:q=xx*yy%PN
 h_k:k=dN*q%PN
 h_p:p=(zz+k)%PN
 h_m:m=(zz+PN - k)%PN
 h_a:a=(xy+yx)%PN
 h_b:b=m*a%PN
 h_c:c=z*b%PN
 h_e:e=(yy+xx)%PN
 h_g:g=p*e%PN
 h_h:h=z*g%PN
 h_o:o=p*m%PN
theorem FrW.is {x1 y1 z1 x2 y2 z2 z zz xy yx yy xx q k p m a b c e g h o:Nat} (W:FrW x1 y1 z1 x2 y2 z2 z zz xy yx yy xx q k p m a b c e g h o) {P Q:PtF} (hP:Fr x1 y1 z1 P) (hQ:Fr x2 y2 z2 Q):Fr c h o (plus P Q):=by
 obtain ⟨h1,h2,h3,h4,h5,h6,h7,h8,h9,h10,h11,h12,h13,h14,h15,h16,h17⟩:=W;have lk:k≤PN:=by rw [h8]; exact Nat.le_of_lt (mod_lt' _)
 obtain ⟨r1,r2,r3⟩:=g_frac FF P.on Q.on (Ed.add_sum FF P Q) hP.hz hQ.hz hP.hx hP.hy hQ.hx hQ.hy
  (z:=fn z) (zz:=fn zz) (xy:=fn xy) (yx:=fn yx) (yy:=fn yy) (xx:=fn xx) (k:=fn k) (p:=fn p) (m:=fn m)
  (by rw [h1,fn_mulm]) (by rw [h2,fn_mulm]) (by rw [h3,fn_mulm]) (by rw [h4,fn_mulm]) (by rw [h5,fn_mulm]) (by rw [h6,fn_mulm]) (by rw [h8,fn_mulm,h7,fn_mulm,← dF]) (by rw [h9,fn_addm]) (by rw [h10,fn_sub lk])
 refine ⟨by rw [h17,fn_mulm]; exact r1,?_,?_⟩
 ·rw [h13,fn_mulm,h12,fn_mulm,h11,fn_addm,h17,fn_mulm]; exact r2
 ·rw [h16,fn_mulm,h15,fn_mulm,h14,fn_addm,h17,fn_mulm]; exact r3
theorem frW_ex (x1 y1 z1 x2 y2 z2:Nat):∃ z zz xy yx yy xx q k p m a b c e g h o,FrW x1 y1 z1 x2 y2 z2 z zz xy yx yy xx q k p m a b c e g h o :=
 ⟨_,_,_,_,_,_,_,_,_,_,_,_,_,_,_,_,_,⟨rfl,rfl,rfl,rfl,rfl,rfl,rfl,rfl,rfl,rfl,rfl,rfl,rfl,rfl,rfl,rfl,rfl⟩⟩
theorem fr_zero:Fr 0 1 1 zeroF:=⟨FF.one,by show fn 0=0*fn 1; rw [g_zm]; rfl,by show fn 1=1*fn 1; decide⟩
theorem fr_of (P:PtF):Fr P.x.val P.y.val 1 P:=by
 have h1:fn 1=1:=rfl;refine ⟨FF.one,?_,?_⟩
 ·rw [fn_val,h1,g_mul1]
 ·rw [fn_val,h1,g_mul1]
theorem Fr.pair {x y z i:Nat} {P:PtF} (h:Fr x y z P) (hz:z<PN) (hi:i=z^(PN - 2)%PN):x*i%PN=P.x.val∧y*i%PN=P.y.val:=by
 have fi:fn z*fn i=1:=by
  rw [hi,fn_inv hz];exact iv_one _ h.hz
 have ex:fn (x*i%PN)=P.x:=by rw [fn_mulm,h.hx,Fin.mul_assoc,fi,g_mul1]
 have ey:fn (y*i%PN)=P.y:=by rw [fn_mulm,h.hy,Fin.mul_assoc,fi,g_mul1]
 rw [← ex,← ey,fn_val_lt (mod_lt' _),fn_val_lt (mod_lt' _)];exact ⟨rfl,rfl⟩
end Go.Proofs.YtdgheahbafnboaaDoor
/-
  Walk: the reference's sum of fractions.
-/
namespace Go.Proofs.YtdgheahbafnboaaDoor
set_option linter.unusedSimpArgs false
set_option linter.unusedVariables false
open Go.RowKit
def triV (A B C:Value):Array Value:=#[A,B,C]
theorem tri_size:(Tryd.prog.info? 70).map (·.size)=some 3:=by kernel_rfl
theorem tri_ne {x:Nat} {A C E:Option Addr} {a b c d e f:Nat}:∀ v ∈ DN x,∀ j:Nat,(triV (.slice A a b) (.slice C c d) (.slice E e f))[j]?≠some v:=fun v hv j=>by
 obtain ⟨n,rfl⟩:=dn_int hv
 match j with
 | 0=>simp [triV]
 | 1=>simp [triV]
 | 2=>simp [triV]
 | j+3=>simp [triV]
def TriPost (x y z:Nat) (w:World) (e:Ending) (w':World):Prop:=∃ A a B b C c,e=.returned (.agg (triV (.slice A 32 a) (.slice B 32 b) (.slice C 32 c)))∧32≤a∧32≤b∧32≤c∧Rd w' w'.heap.size A (DN x)∧Rd w' w'.heap.size B (DN y)∧Rd w' w'.heap.size C (DN z)∧Below w.heap.size w w'
set_option maxRecDepth 100000 in
set_option maxHeartbeats 4000000 in
theorem fadd_any {x1 y1 z1 x2 y2 z2 fz fzz fxy fyx fyy fxx fq fk fp fm fa fb fc fe fg fh fo:Nat} (W:FrW x1 y1 z1 x2 y2 z2 fz fzz fxy fyx fyy fxx fq fk fp fm fa fb fc fe fg fh fo)
  (p1:x1<PN) (p2:y1<PN) (p3:z1<PN) (p4:x2<PN) (p5:y2<PN) (p6:z2<PN) {A1 B1 C1 A2 B2 C2 AD:Option Addr} {a1 b1 c1 a2 b2 c2 cD:Nat} {w:World}
  (r1:Rd w w.heap.size A1 (DN x1)) (r2:Rd w w.heap.size B1 (DN y1)) (r3:Rd w w.heap.size C1 (DN z1)) (r4:Rd w w.heap.size A2 (DN x2)) (r5:Rd w w.heap.size B2 (DN y2)) (r6:Rd w w.heap.size C2 (DN z2)) (r7:Rd w w.heap.size AD (DN dN)) :
  Calls Tryd.prog 51 #[.agg (triV (.slice A1 32 a1) (.slice B1 32 b1) (.slice C1 32 c1)),.agg (triV (.slice A2 32 a2) (.slice B2 32 b2) (.slice C2 32 c2)),.slice AD 32 cD] w (TriPost fc fh fo w):=by
 have hpt:=Tryd.underlying70;obtain ⟨h1,h2,h3,h4,h5,h6,h7,h8,h9,h10,h11,h12,h13,h14,h15,h16,h17⟩:=W;have l1:fz<PN:=by rw [h1]; exact mod_lt' _
 have l2:fzz<PN:=by rw [h2]; exact mod_lt' _
 have l3:fxy<PN:=by rw [h3]; exact mod_lt' _
 have l4:fyx<PN:=by rw [h4]; exact mod_lt' _
 have l5:fyy<PN:=by rw [h5]; exact mod_lt' _
 have l6:fxx<PN:=by rw [h6]; exact mod_lt' _
 have l7:fq<PN:=by rw [h7]; exact mod_lt' _
 have l8:fk<PN:=by rw [h8]; exact mod_lt' _
 have l9:fp<PN:=by rw [h9]; exact mod_lt' _
 have l10:fm<PN:=by rw [h10]; exact mod_lt' _
 have l11:fa<PN:=by rw [h11]; exact mod_lt' _
 have l12:fb<PN:=by rw [h12]; exact mod_lt' _
 have l13:fc<PN:=by rw [h13]; exact mod_lt' _
 have l14:fe<PN:=by rw [h14]; exact mod_lt' _
 have l15:fg<PN:=by rw [h15]; exact mod_lt' _
 have l16:fh<PN:=by rw [h16]; exact mod_lt' _
 have l17:fo<PN:=by rw [h17]; exact mod_lt' _
 have Cfz:=zY (show ∀ ww XA xc XB xd,Rd ww ww.heap.size XA (DN z1)→Rd ww ww.heap.size XB (DN z2)→Calls Tryd.prog 53 #[.slice XA 32 xc,.slice XB 32 xd] ww (NumPost fz ww) from fun ww XA xc XB xd xh xk=>by rw [h1]; exact nmul p3 p6 xh xk);have Cfzz:=zY (show ∀ ww XA xc XB xd,Rd ww ww.heap.size XA (DN fz)→Rd ww ww.heap.size XB (DN fz)→Calls Tryd.prog 53 #[.slice XA 32 xc,.slice XB 32 xd] ww (NumPost fzz ww) from fun ww XA xc XB xd xh xk=>by rw [h2]; exact nmul l1 l1 xh xk);have Cfxy:=zY (show ∀ ww XA xc XB xd,Rd ww ww.heap.size XA (DN x1)→Rd ww ww.heap.size XB (DN y2)→Calls Tryd.prog 53 #[.slice XA 32 xc,.slice XB 32 xd] ww (NumPost fxy ww) from fun ww XA xc XB xd xh xk=>by rw [h3]; exact nmul p1 p5 xh xk);have Cfyx:=zY (show ∀ ww XA xc XB xd,Rd ww ww.heap.size XA (DN y1)→Rd ww ww.heap.size XB (DN x2)→Calls Tryd.prog 53 #[.slice XA 32 xc,.slice XB 32 xd] ww (NumPost fyx ww) from fun ww XA xc XB xd xh xk=>by rw [h4]; exact nmul p2 p4 xh xk);have Cfyy:=zY (show ∀ ww XA xc XB xd,Rd ww ww.heap.size XA (DN y1)→Rd ww ww.heap.size XB (DN y2)→Calls Tryd.prog 53 #[.slice XA 32 xc,.slice XB 32 xd] ww (NumPost fyy ww) from fun ww XA xc XB xd xh xk=>by rw [h5]; exact nmul p2 p5 xh xk);have Cfxx:=zY (show ∀ ww XA xc XB xd,Rd ww ww.heap.size XA (DN x1)→Rd ww ww.heap.size XB (DN x2)→Calls Tryd.prog 53 #[.slice XA 32 xc,.slice XB 32 xd] ww (NumPost fxx ww) from fun ww XA xc XB xd xh xk=>by rw [h6]; exact nmul p1 p4 xh xk);have Cfq:=zY (show ∀ ww XA xc XB xd,Rd ww ww.heap.size XA (DN fxx)→Rd ww ww.heap.size XB (DN fyy)→Calls Tryd.prog 53 #[.slice XA 32 xc,.slice XB 32 xd] ww (NumPost fq ww) from fun ww XA xc XB xd xh xk=>by rw [h7]; exact nmul l6 l5 xh xk);have Cfk:=zY (show ∀ ww XA xc XB xd,Rd ww ww.heap.size XA (DN dN)→Rd ww ww.heap.size XB (DN fq)→Calls Tryd.prog 53 #[.slice XA 32 xc,.slice XB 32 xd] ww (NumPost fk ww) from fun ww XA xc XB xd xh xk=>by rw [h8]; exact nmul dN_lt l7 xh xk);have Cfp:=zY (show ∀ ww XA xc XB xd,Rd ww ww.heap.size XA (DN fzz)→Rd ww ww.heap.size XB (DN fk)→Calls Tryd.prog 80 #[.slice XA 32 xc,.slice XB 32 xd] ww (NumPost fp ww) from fun ww XA xc XB xd xh xk=>by rw [h9]; exact nadd l2 l8 xh xk);have Cfm:=zY (show ∀ ww XA xc XB xd,Rd ww ww.heap.size XA (DN fzz)→Rd ww ww.heap.size XB (DN fk)→Calls Tryd.prog 79 #[.slice XA 32 xc,.slice XB 32 xd] ww (NumPost fm ww) from fun ww XA xc XB xd xh xk=>by rw [h10]; exact nsub l2 l8 xh xk);have Cfa:=zY (show ∀ ww XA xc XB xd,Rd ww ww.heap.size XA (DN fxy)→Rd ww ww.heap.size XB (DN fyx)→Calls Tryd.prog 80 #[.slice XA 32 xc,.slice XB 32 xd] ww (NumPost fa ww) from fun ww XA xc XB xd xh xk=>by rw [h11]; exact nadd l3 l4 xh xk);have Cfb:=zY (show ∀ ww XA xc XB xd,Rd ww ww.heap.size XA (DN fm)→Rd ww ww.heap.size XB (DN fa)→Calls Tryd.prog 53 #[.slice XA 32 xc,.slice XB 32 xd] ww (NumPost fb ww) from fun ww XA xc XB xd xh xk=>by rw [h12]; exact nmul l10 l11 xh xk);have Cfc:=zY (show ∀ ww XA xc XB xd,Rd ww ww.heap.size XA (DN fz)→Rd ww ww.heap.size XB (DN fb)→Calls Tryd.prog 53 #[.slice XA 32 xc,.slice XB 32 xd] ww (NumPost fc ww) from fun ww XA xc XB xd xh xk=>by rw [h13]; exact nmul l1 l12 xh xk);have Cfe:=zY (show ∀ ww XA xc XB xd,Rd ww ww.heap.size XA (DN fyy)→Rd ww ww.heap.size XB (DN fxx)→Calls Tryd.prog 80 #[.slice XA 32 xc,.slice XB 32 xd] ww (NumPost fe ww) from fun ww XA xc XB xd xh xk=>by rw [h14]; exact nadd l5 l6 xh xk);have Cfg:=zY (show ∀ ww XA xc XB xd,Rd ww ww.heap.size XA (DN fp)→Rd ww ww.heap.size XB (DN fe)→Calls Tryd.prog 53 #[.slice XA 32 xc,.slice XB 32 xd] ww (NumPost fg ww) from fun ww XA xc XB xd xh xk=>by rw [h15]; exact nmul l9 l14 xh xk);have Cfh:=zY (show ∀ ww XA xc XB xd,Rd ww ww.heap.size XA (DN fz)→Rd ww ww.heap.size XB (DN fg)→Calls Tryd.prog 53 #[.slice XA 32 xc,.slice XB 32 xd] ww (NumPost fh ww) from fun ww XA xc XB xd xh xk=>by rw [h16]; exact nmul l1 l15 xh xk);have Cfo:=zY (show ∀ ww XA xc XB xd,Rd ww ww.heap.size XA (DN fp)→Rd ww ww.heap.size XB (DN fm)→Calls Tryd.prog 53 #[.slice XA 32 xc,.slice XB 32 xd] ww (NumPost fo ww) from fun ww XA xc XB xd xh xk=>by rw [h17]; exact nmul l9 l10 xh xk);generalize dN=D at *;obtain ⟨w0,hw0⟩:∃ w0,w0=((w.alloc (.cells (triV (.slice A1 32 a1) (.slice B1 32 b1) (.slice C1 32 c1)) 70)).alloc (.cells (triV (.slice A2 32 a2) (.slice B2 32 b2) (.slice C2 32 c2)) 70)).alloc (.cells #[.slice none 0 0,.slice none 0 0,.slice none 0 0] 70):=⟨_,rfl⟩;have hb0:Below w.heap.size w w0:=by rw [hw0]; exact ((below_new _ _).alloc (by simp) _).alloc (by simp; try omega) _
 have hp1:Blk w0 w.heap.size 70 (triV (.slice A1 32 a1) (.slice B1 32 b1) (.slice C1 32 c1)):=by rw [hw0]; exact ((Blk.new _ _ _).alloc _).alloc _
 have hp2:Blk w0 (w.heap.size+1) 70 (triV (.slice A2 32 a2) (.slice B2 32 b2) (.slice C2 32 c2)):=by rw [hw0]; exact (Blk.newAt (by simp)).alloc _
 have hp3:Blk w0 (w.heap.size+1+1) 70 (triV nilS nilS nilS):=by rw [hw0]; exact Blk.newAt (by simp)
 have HLR:=zY (show w.heap.size≤w.heap.size+1+1 by omega);have HB:=zY hb0;have HP1:=zY hp1;have HP2:=zY hp2;have HP:=zY hp3;have R1:=zY (rd_next r1 hb0);have R2:=zY (rd_next r2 hb0);have R3:=zY (rd_next r3 hb0);have R4:=zY (rd_next r4 hb0);have R5:=zY (rd_next r5 hb0);have R6:=zY (rd_next r6 hb0);have R7:=zY (rd_next r7 hb0);have HW:=zY hw0;clear h1 h2 h3 h4 h5 h6 h7 h8 h9 h10 h11 h12 h13 h14 h15 h16 h17 l1 l2 l3 l4 l5 l6 l7 l8 l9 l10 l11 l12 l13 l14 l15 l16 l17 p1 p2 p3 p4 p5 p6 r1 r2 r3 r4 r5 r6 r7 hw0 hb0 hp1 hp2 hp3;go_enter Tryd.func51,Tryd.ntmps51;have e10:=(HP1.out.cell 0).trans (show (triV (.slice A1 32 a1) (.slice B1 32 b1) (.slice C1 32 c1))[0]?=some (.slice A1 32 a1) from rfl);have e11:=(HP1.out.cell 1).trans (show (triV (.slice A1 32 a1) (.slice B1 32 b1) (.slice C1 32 c1))[1]?=some (.slice B1 32 b1) from rfl);have e12:=(HP1.out.cell 2).trans (show (triV (.slice A1 32 a1) (.slice B1 32 b1) (.slice C1 32 c1))[2]?=some (.slice C1 32 c1) from rfl);have e20:=(HP2.out.cell 0).trans (show (triV (.slice A2 32 a2) (.slice B2 32 b2) (.slice C2 32 c2))[0]?=some (.slice A2 32 a2) from rfl);have e21:=(HP2.out.cell 1).trans (show (triV (.slice A2 32 a2) (.slice B2 32 b2) (.slice C2 32 c2))[1]?=some (.slice B2 32 b2) from rfl);have e22:=(HP2.out.cell 2).trans (show (triV (.slice A2 32 a2) (.slice B2 32 b2) (.slice C2 32 c2))[2]?=some (.slice C2 32 c2) from rfl);rw [HW.out] at e10 e11 e12 e20 e21 e22;go_wp2_with fail;clear e10 e11 e12 e20 e21 e22;show Calls _ _ _ (((w.alloc (.cells (triV (.slice A1 32 a1) (.slice B1 32 b1) (.slice C1 32 c1)) _)).alloc (.cells (triV (.slice A2 32 a2) (.slice B2 32 b2) (.slice C2 32 c2)) _)).alloc (.cells #[.slice none 0 0,.slice none 0 0,.slice none 0 0] _)) _;rw [← HW.out];generalize w.heap.size+1+1=g at *;generalize w.heap.size+1=g2 at *;generalize hg1:w.heap.size=g1 at HP1 ⊢;clear hg1 HW;refine calls_then (Cfz.out _ _ _ _ _ R3.out R6.out) ?_;rintro e u1 ⟨Afz,cfz,rfl,hc,hr,hb⟩;clear R3;clear R6;replace HB:=zY (HB.out.trans (hb.mono HB.out.size));replace R1:=zY (rd_next R1.out hb);replace R2:=zY (rd_next R2.out hb);replace R4:=zY (rd_next R4.out hb);replace R5:=zY (rd_next R5.out hb);replace R7:=zY (rd_next R7.out hb);replace HP1:=zY (HP1.out.below hb HP1.out.lt);replace HP2:=zY (HP2.out.below hb HP2.out.lt);replace HP:=zY (HP.out.below hb HP.out.lt);have Rfz:=zY hr;have LEfz:=zY hc;clear hr hc hb;go_wp2_with fail;refine calls_then (Cfzz.out _ _ _ _ _ Rfz.out Rfz.out) ?_;rintro e u2 ⟨Afzz,cfzz,rfl,hc,hr,hb⟩;replace HB:=zY (HB.out.trans (hb.mono HB.out.size));replace R1:=zY (rd_next R1.out hb);replace R2:=zY (rd_next R2.out hb);replace R4:=zY (rd_next R4.out hb);replace R5:=zY (rd_next R5.out hb);replace R7:=zY (rd_next R7.out hb);replace Rfz:=zY (rd_next Rfz.out hb);replace HP1:=zY (HP1.out.below hb HP1.out.lt);replace HP2:=zY (HP2.out.below hb HP2.out.lt);replace HP:=zY (HP.out.below hb HP.out.lt);have Rfzz:=zY hr;have LEfzz:=zY hc;clear hr hc hb;have e10:=(HP1.out.cell 0).trans (show (triV (.slice A1 32 a1) (.slice B1 32 b1) (.slice C1 32 c1))[0]?=some (.slice A1 32 a1) from rfl);have e11:=(HP1.out.cell 1).trans (show (triV (.slice A1 32 a1) (.slice B1 32 b1) (.slice C1 32 c1))[1]?=some (.slice B1 32 b1) from rfl);have e12:=(HP1.out.cell 2).trans (show (triV (.slice A1 32 a1) (.slice B1 32 b1) (.slice C1 32 c1))[2]?=some (.slice C1 32 c1) from rfl);have e20:=(HP2.out.cell 0).trans (show (triV (.slice A2 32 a2) (.slice B2 32 b2) (.slice C2 32 c2))[0]?=some (.slice A2 32 a2) from rfl);have e21:=(HP2.out.cell 1).trans (show (triV (.slice A2 32 a2) (.slice B2 32 b2) (.slice C2 32 c2))[1]?=some (.slice B2 32 b2) from rfl);have e22:=(HP2.out.cell 2).trans (show (triV (.slice A2 32 a2) (.slice B2 32 b2) (.slice C2 32 c2))[2]?=some (.slice C2 32 c2) from rfl);go_wp2_with fail;clear e10 e11 e12 e20 e21 e22;refine calls_then (Cfxy.out _ _ _ _ _ R1.out R5.out) ?_;rintro e u3 ⟨Afxy,cfxy,rfl,hc,hr,hb⟩;replace HB:=zY (HB.out.trans (hb.mono HB.out.size));replace R1:=zY (rd_next R1.out hb);replace R2:=zY (rd_next R2.out hb);replace R4:=zY (rd_next R4.out hb);replace R5:=zY (rd_next R5.out hb);replace R7:=zY (rd_next R7.out hb);replace Rfz:=zY (rd_next Rfz.out hb);replace Rfzz:=zY (rd_next Rfzz.out hb);replace HP1:=zY (HP1.out.below hb HP1.out.lt);replace HP2:=zY (HP2.out.below hb HP2.out.lt);replace HP:=zY (HP.out.below hb HP.out.lt);have Rfxy:=zY hr;have LEfxy:=zY hc;clear hr hc hb;have e10:=(HP1.out.cell 0).trans (show (triV (.slice A1 32 a1) (.slice B1 32 b1) (.slice C1 32 c1))[0]?=some (.slice A1 32 a1) from rfl);have e11:=(HP1.out.cell 1).trans (show (triV (.slice A1 32 a1) (.slice B1 32 b1) (.slice C1 32 c1))[1]?=some (.slice B1 32 b1) from rfl);have e12:=(HP1.out.cell 2).trans (show (triV (.slice A1 32 a1) (.slice B1 32 b1) (.slice C1 32 c1))[2]?=some (.slice C1 32 c1) from rfl);have e20:=(HP2.out.cell 0).trans (show (triV (.slice A2 32 a2) (.slice B2 32 b2) (.slice C2 32 c2))[0]?=some (.slice A2 32 a2) from rfl);have e21:=(HP2.out.cell 1).trans (show (triV (.slice A2 32 a2) (.slice B2 32 b2) (.slice C2 32 c2))[1]?=some (.slice B2 32 b2) from rfl);have e22:=(HP2.out.cell 2).trans (show (triV (.slice A2 32 a2) (.slice B2 32 b2) (.slice C2 32 c2))[2]?=some (.slice C2 32 c2) from rfl);go_wp2_with fail;clear e10 e11 e12 e20 e21 e22;refine calls_then (Cfyx.out _ _ _ _ _ R2.out R4.out) ?_;rintro e u4 ⟨Afyx,cfyx,rfl,hc,hr,hb⟩;replace HB:=zY (HB.out.trans (hb.mono HB.out.size));replace R1:=zY (rd_next R1.out hb);replace R2:=zY (rd_next R2.out hb);replace R4:=zY (rd_next R4.out hb);replace R5:=zY (rd_next R5.out hb);replace R7:=zY (rd_next R7.out hb);replace Rfz:=zY (rd_next Rfz.out hb);replace Rfzz:=zY (rd_next Rfzz.out hb);replace Rfxy:=zY (rd_next Rfxy.out hb);replace HP1:=zY (HP1.out.below hb HP1.out.lt);replace HP2:=zY (HP2.out.below hb HP2.out.lt);replace HP:=zY (HP.out.below hb HP.out.lt);have Rfyx:=zY hr;have LEfyx:=zY hc;clear hr hc hb;have e10:=(HP1.out.cell 0).trans (show (triV (.slice A1 32 a1) (.slice B1 32 b1) (.slice C1 32 c1))[0]?=some (.slice A1 32 a1) from rfl);have e11:=(HP1.out.cell 1).trans (show (triV (.slice A1 32 a1) (.slice B1 32 b1) (.slice C1 32 c1))[1]?=some (.slice B1 32 b1) from rfl);have e12:=(HP1.out.cell 2).trans (show (triV (.slice A1 32 a1) (.slice B1 32 b1) (.slice C1 32 c1))[2]?=some (.slice C1 32 c1) from rfl);have e20:=(HP2.out.cell 0).trans (show (triV (.slice A2 32 a2) (.slice B2 32 b2) (.slice C2 32 c2))[0]?=some (.slice A2 32 a2) from rfl);have e21:=(HP2.out.cell 1).trans (show (triV (.slice A2 32 a2) (.slice B2 32 b2) (.slice C2 32 c2))[1]?=some (.slice B2 32 b2) from rfl);have e22:=(HP2.out.cell 2).trans (show (triV (.slice A2 32 a2) (.slice B2 32 b2) (.slice C2 32 c2))[2]?=some (.slice C2 32 c2) from rfl);go_wp2_with fail;clear e10 e11 e12 e20 e21 e22;refine calls_then (Cfyy.out _ _ _ _ _ R2.out R5.out) ?_;rintro e u5 ⟨Afyy,cfyy,rfl,hc,hr,hb⟩;clear R2;clear R5;replace HB:=zY (HB.out.trans (hb.mono HB.out.size));replace R1:=zY (rd_next R1.out hb);replace R4:=zY (rd_next R4.out hb);replace R7:=zY (rd_next R7.out hb);replace Rfz:=zY (rd_next Rfz.out hb);replace Rfzz:=zY (rd_next Rfzz.out hb);replace Rfxy:=zY (rd_next Rfxy.out hb);replace Rfyx:=zY (rd_next Rfyx.out hb);replace HP1:=zY (HP1.out.below hb HP1.out.lt);replace HP2:=zY (HP2.out.below hb HP2.out.lt);replace HP:=zY (HP.out.below hb HP.out.lt);have Rfyy:=zY hr;have LEfyy:=zY hc;clear hr hc hb;have e10:=(HP1.out.cell 0).trans (show (triV (.slice A1 32 a1) (.slice B1 32 b1) (.slice C1 32 c1))[0]?=some (.slice A1 32 a1) from rfl);have e11:=(HP1.out.cell 1).trans (show (triV (.slice A1 32 a1) (.slice B1 32 b1) (.slice C1 32 c1))[1]?=some (.slice B1 32 b1) from rfl);have e12:=(HP1.out.cell 2).trans (show (triV (.slice A1 32 a1) (.slice B1 32 b1) (.slice C1 32 c1))[2]?=some (.slice C1 32 c1) from rfl);have e20:=(HP2.out.cell 0).trans (show (triV (.slice A2 32 a2) (.slice B2 32 b2) (.slice C2 32 c2))[0]?=some (.slice A2 32 a2) from rfl);have e21:=(HP2.out.cell 1).trans (show (triV (.slice A2 32 a2) (.slice B2 32 b2) (.slice C2 32 c2))[1]?=some (.slice B2 32 b2) from rfl);have e22:=(HP2.out.cell 2).trans (show (triV (.slice A2 32 a2) (.slice B2 32 b2) (.slice C2 32 c2))[2]?=some (.slice C2 32 c2) from rfl);go_wp2_with fail;clear e10 e11 e12 e20 e21 e22;refine calls_then (Cfxx.out _ _ _ _ _ R1.out R4.out) ?_;rintro e u6 ⟨Afxx,cfxx,rfl,hc,hr,hb⟩;clear R1;clear R4;clear HP1;clear HP2;replace HB:=zY (HB.out.trans (hb.mono HB.out.size));replace R7:=zY (rd_next R7.out hb);replace Rfz:=zY (rd_next Rfz.out hb);replace Rfzz:=zY (rd_next Rfzz.out hb);replace Rfxy:=zY (rd_next Rfxy.out hb);replace Rfyx:=zY (rd_next Rfyx.out hb);replace Rfyy:=zY (rd_next Rfyy.out hb);replace HP:=zY (HP.out.below hb HP.out.lt);have Rfxx:=zY hr;have LEfxx:=zY hc;clear hr hc hb;go_wp2_with fail;refine calls_then (Cfq.out _ _ _ _ _ Rfxx.out Rfyy.out) ?_;rintro e u7 ⟨Afq,cfq,rfl,hc,hr,hb⟩;replace HB:=zY (HB.out.trans (hb.mono HB.out.size));replace R7:=zY (rd_next R7.out hb);replace Rfz:=zY (rd_next Rfz.out hb);replace Rfzz:=zY (rd_next Rfzz.out hb);replace Rfxy:=zY (rd_next Rfxy.out hb);replace Rfyx:=zY (rd_next Rfyx.out hb);replace Rfyy:=zY (rd_next Rfyy.out hb);replace Rfxx:=zY (rd_next Rfxx.out hb);replace HP:=zY (HP.out.below hb HP.out.lt);have Rfq:=zY hr;have LEfq:=zY hc;clear hr hc hb;go_wp2_with fail;refine calls_then (Cfk.out _ _ _ _ _ R7.out Rfq.out) ?_;rintro e u8 ⟨Afk,cfk,rfl,hc,hr,hb⟩;clear R7;clear Rfq;replace HB:=zY (HB.out.trans (hb.mono HB.out.size));replace Rfz:=zY (rd_next Rfz.out hb);replace Rfzz:=zY (rd_next Rfzz.out hb);replace Rfxy:=zY (rd_next Rfxy.out hb);replace Rfyx:=zY (rd_next Rfyx.out hb);replace Rfyy:=zY (rd_next Rfyy.out hb);replace Rfxx:=zY (rd_next Rfxx.out hb);replace HP:=zY (HP.out.below hb HP.out.lt);have Rfk:=zY hr;have LEfk:=zY hc;clear hr hc hb;go_wp2_with fail;refine calls_then (Cfp.out _ _ _ _ _ Rfzz.out Rfk.out) ?_;rintro e u9 ⟨Afp,cfp,rfl,hc,hr,hb⟩;replace HB:=zY (HB.out.trans (hb.mono HB.out.size));replace Rfz:=zY (rd_next Rfz.out hb);replace Rfzz:=zY (rd_next Rfzz.out hb);replace Rfxy:=zY (rd_next Rfxy.out hb);replace Rfyx:=zY (rd_next Rfyx.out hb);replace Rfyy:=zY (rd_next Rfyy.out hb);replace Rfxx:=zY (rd_next Rfxx.out hb);replace Rfk:=zY (rd_next Rfk.out hb);replace HP:=zY (HP.out.below hb HP.out.lt);have Rfp:=zY hr;have LEfp:=zY hc;clear hr hc hb;go_wp2_with fail;refine calls_then (Cfm.out _ _ _ _ _ Rfzz.out Rfk.out) ?_;rintro e u10 ⟨Afm,cfm,rfl,hc,hr,hb⟩;clear Rfzz;clear Rfk;replace HB:=zY (HB.out.trans (hb.mono HB.out.size));replace Rfz:=zY (rd_next Rfz.out hb);replace Rfxy:=zY (rd_next Rfxy.out hb);replace Rfyx:=zY (rd_next Rfyx.out hb);replace Rfyy:=zY (rd_next Rfyy.out hb);replace Rfxx:=zY (rd_next Rfxx.out hb);replace Rfp:=zY (rd_next Rfp.out hb);replace HP:=zY (HP.out.below hb HP.out.lt);have Rfm:=zY hr;have LEfm:=zY hc;clear hr hc hb;go_wp2_with fail;refine calls_then (Cfa.out _ _ _ _ _ Rfxy.out Rfyx.out) ?_;rintro e u11 ⟨Afa,cfa,rfl,hc,hr,hb⟩;clear Rfxy;clear Rfyx;replace HB:=zY (HB.out.trans (hb.mono HB.out.size));replace Rfz:=zY (rd_next Rfz.out hb);replace Rfyy:=zY (rd_next Rfyy.out hb);replace Rfxx:=zY (rd_next Rfxx.out hb);replace Rfp:=zY (rd_next Rfp.out hb);replace Rfm:=zY (rd_next Rfm.out hb);replace HP:=zY (HP.out.below hb HP.out.lt);have Rfa:=zY hr;have LEfa:=zY hc;clear hr hc hb;go_wp2_with fail;refine calls_then (Cfb.out _ _ _ _ _ Rfm.out Rfa.out) ?_;rintro e u12 ⟨Afb,cfb,rfl,hc,hr,hb⟩;clear Rfa;replace HB:=zY (HB.out.trans (hb.mono HB.out.size));replace Rfz:=zY (rd_next Rfz.out hb);replace Rfyy:=zY (rd_next Rfyy.out hb);replace Rfxx:=zY (rd_next Rfxx.out hb);replace Rfp:=zY (rd_next Rfp.out hb);replace Rfm:=zY (rd_next Rfm.out hb);replace HP:=zY (HP.out.below hb HP.out.lt);have Rfb:=zY hr;have LEfb:=zY hc;clear hr hc hb;go_wp2_with fail;refine calls_then (Cfc.out _ _ _ _ _ Rfz.out Rfb.out) ?_;rintro e u13 ⟨Afc,cfc,rfl,hc,hr,hb⟩;clear Rfb;replace HB:=zY (HB.out.trans (hb.mono HB.out.size));replace Rfz:=zY (rd_next Rfz.out hb);replace Rfyy:=zY (rd_next Rfyy.out hb);replace Rfxx:=zY (rd_next Rfxx.out hb);replace Rfp:=zY (rd_next Rfp.out hb);replace Rfm:=zY (rd_next Rfm.out hb);replace HP:=zY (HP.out.below hb HP.out.lt);have Rfc:=zY hr;have LEfc:=zY hc;clear hr hc hb;go_wp2_with fail;refine calls_then (Cfe.out _ _ _ _ _ Rfyy.out Rfxx.out) ?_;rintro e u14 ⟨Afe,cfe,rfl,hc,hr,hb⟩;clear Rfyy;clear Rfxx;replace HB:=zY (HB.out.trans (hb.mono HB.out.size));replace Rfz:=zY (rd_next Rfz.out hb);replace Rfp:=zY (rd_next Rfp.out hb);replace Rfm:=zY (rd_next Rfm.out hb);replace Rfc:=zY (rd_next Rfc.out hb);replace HP:=zY (HP.out.below hb HP.out.lt);have Rfe:=zY hr;have LEfe:=zY hc;clear hr hc hb;go_wp2_with fail;refine calls_then (Cfg.out _ _ _ _ _ Rfp.out Rfe.out) ?_;rintro e u15 ⟨Afg,cfg,rfl,hc,hr,hb⟩;clear Rfe;replace HB:=zY (HB.out.trans (hb.mono HB.out.size));replace Rfz:=zY (rd_next Rfz.out hb);replace Rfp:=zY (rd_next Rfp.out hb);replace Rfm:=zY (rd_next Rfm.out hb);replace Rfc:=zY (rd_next Rfc.out hb);replace HP:=zY (HP.out.below hb HP.out.lt);have Rfg:=zY hr;have LEfg:=zY hc;clear hr hc hb;go_wp2_with fail;refine calls_then (Cfh.out _ _ _ _ _ Rfz.out Rfg.out) ?_;rintro e u16 ⟨Afh,cfh,rfl,hc,hr,hb⟩;clear Rfz;clear Rfg;replace HB:=zY (HB.out.trans (hb.mono HB.out.size));replace Rfp:=zY (rd_next Rfp.out hb);replace Rfm:=zY (rd_next Rfm.out hb);replace Rfc:=zY (rd_next Rfc.out hb);replace HP:=zY (HP.out.below hb HP.out.lt);have Rfh:=zY hr;have LEfh:=zY hc;clear hr hc hb;go_wp2_with fail;refine calls_then (Cfo.out _ _ _ _ _ Rfp.out Rfm.out) ?_;rintro e u17 ⟨Afo,cfo,rfl,hc,hr,hb⟩;clear Rfp;clear Rfm;replace HB:=zY (HB.out.trans (hb.mono HB.out.size));replace Rfc:=zY (rd_next Rfc.out hb);replace Rfh:=zY (rd_next Rfh.out hb);replace HP:=zY (HP.out.below hb HP.out.lt);have Rfo:=zY hr;have LEfo:=zY hc;clear hr hc hb;go_wp2_with (refine wpList_put_box (x:=.tmp 6) (cells:=triV (.slice Afc 32 cfc) (.slice Afh 32 cfh) (.slice Afo 32 cfo)) HP.out rfl rfl rfl rfl tri_size rfl (by simp [triV,Value.oneCell']) ?_; intro u30 hb30 hw30; have HP30:=zY hb30; have HW30:=zY hw30; clear hb30 hw30);refine bodyPost_ret (results_box (P:=Tryd.prog) rfl rfl HP30.out hpt rfl tri_size) rfl ?_;exact ⟨_,_,_,_,_,_,rfl,LEfc.out,LEfh.out,LEfo.out,rd_size (Rfc.out.wrote HP.out HW30.out tri_ne) HW30.out.size,rd_size (Rfh.out.wrote HP.out HW30.out tri_ne) HW30.out.size,rd_size (Rfo.out.wrote HP.out HW30.out tri_ne) HW30.out.size,HW30.out.below HB.out HLR.out HB.out.size⟩
end Go.Proofs.YtdgheahbafnboaaDoor
/-
  Plain: how many of a point the reference's Mul has taken in.
-/
namespace Go.Proofs.YtdgheahbafnboaaDoor
set_option linter.unusedSimpArgs false
set_option linter.unusedVariables false
open Go.RowKit
def lowK (l:List Nat) (i b:Nat):Nat:=leV (l.take i)+256^i*(l.getD i 0%2^b)
theorem lowK_zero (l:List Nat) (i:Nat):lowK l i 0=leV (l.take i):=by rw [lowK,Nat.pow_zero,Nat.mod_one,Nat.mul_zero,Nat.add_zero]
theorem lowK_end {l:List Nat} (h:Dg l) (i:Nat):lowK l i 8=leV (l.take (i+1)):=by
 rw [lowK,leV_take_step,Nat.mod_eq_of_lt (show l.getD i 0<2^8 from dg_getD h i)]
theorem lowK_next (l:List Nat) (i b:Nat):lowK l i (b+1)=lowK l i b+l.getD i 0/2^b%2*(256^i*2^b):=by
 rw [lowK,lowK,Nat.mod_pow_succ,Nat.mul_add];generalize l.getD i 0/2^b%2=t;rw [← Nat.add_assoc,← Nat.mul_assoc t,Nat.mul_comm t,Nat.mul_comm (2^b) t,← Nat.mul_assoc]
theorem times_add (P:PtF) (a b:Nat):times P (a+b)=plus (times P a) (times P b):=Ed.mul_add FF P a b
end Go.Proofs.YtdgheahbafnboaaDoor
/-
  Walk: the reference's Mul of a point.
-/
namespace Go.Proofs.YtdgheahbafnboaaDoor
set_option linter.unusedSimpArgs false
set_option linter.unusedVariables false
open Go.RowKit
theorem tri_neb {l:List Nat} {A C E:Option Addr} {a b c d e f:Nat}:∀ v ∈ bnV l,∀ j:Nat,(triV (.slice A a b) (.slice C c d) (.slice E e f))[j]?≠some v:=fun v hv j=>by
 obtain ⟨n,_,rfl⟩:=List.mem_map.1 hv
 match j with
 | 0=>simp [triV]
 | 1=>simp [triV]
 | 2=>simp [triV]
 | j+3=>simp [triV]
structure FB (g:Nat) (P:PtF) (u:World):Prop where
 ex:∃ x y z A a B b C c,Blk u g 70 (triV (.slice A 32 a) (.slice B 32 b) (.slice C 32 c))∧x<PN∧y<PN∧z<PN∧Fr x y z P∧32≤a∧32≤b∧32≤c∧Rd u u.heap.size A (DN x)∧Rd u u.heap.size B (DN y)∧Rd u u.heap.size C (DN z)
theorem FB.next {g:Nat} {P:PtF} {u u':World} (h:FB g P u) (hb:Below u.heap.size u u'):FB g P u':=by
 obtain ⟨x,y,z,A,a,B,b,C,c,h1,h2,h3,h4,h5,h6,h7,h8,h9,h10,h11⟩:=h.ex;exact ⟨x,y,z,A,a,B,b,C,c,h1.below hb h1.lt,h2,h3,h4,h5,h6,h7,h8,rd_next h9 hb,rd_next h10 hb,rd_next h11 hb⟩
theorem FB.other {g g2:Nat} {P:PtF} {u u':World} {A C E:Option Addr} {a b c d e f:Nat} (h:FB g P u) (hw:Wrote g2 u u') (hne:g≠g2) (ho:Blk u g2 70 (triV (.slice A a b) (.slice C c d) (.slice E e f))):FB g P u':=by
 obtain ⟨x,y,z,A,a,B,b,C,c,h1,h2,h3,h4,h5,h6,h7,h8,h9,h10,h11⟩:=h.ex;exact ⟨x,y,z,A,a,B,b,C,c,hw.blk h1 hne,h2,h3,h4,h5,h6,h7,h8,rd_size (h9.wrote ho hw tri_ne) hw.size,rd_size (h10.wrote ho hw tri_ne) hw.size,rd_size (h11.wrote ho hw tri_ne) hw.size⟩
def FPost (P:PtF) (w:World) (e:Ending) (w':World):Prop:=∃ x y z A a B b C c,e=.returned (.agg (triV (.slice A 32 a) (.slice B 32 b) (.slice C 32 c)))∧x<PN∧y<PN∧z<PN∧Fr x y z P∧32≤a∧32≤b∧32≤c∧Rd w' w'.heap.size A (DN x)∧Rd w' w'.heap.size B (DN y)∧Rd w' w'.heap.size C (DN z)∧Below w.heap.size w w'
theorem fadd_fr {x1 y1 z1 x2 y2 z2:Nat} {P Q:PtF} (hP:Fr x1 y1 z1 P) (hQ:Fr x2 y2 z2 Q) (p1:x1<PN) (p2:y1<PN) (p3:z1<PN) (p4:x2<PN) (p5:y2<PN) (p6:z2<PN) {A1 B1 C1 A2 B2 C2 AD:Option Addr} {a1 b1 c1 a2 b2 c2 cD:Nat} {w:World}
  (r1:Rd w w.heap.size A1 (DN x1)) (r2:Rd w w.heap.size B1 (DN y1)) (r3:Rd w w.heap.size C1 (DN z1)) (r4:Rd w w.heap.size A2 (DN x2)) (r5:Rd w w.heap.size B2 (DN y2)) (r6:Rd w w.heap.size C2 (DN z2)) (r7:Rd w w.heap.size AD (DN dN)) :
  Calls Tryd.prog 51 #[.agg (triV (.slice A1 32 a1) (.slice B1 32 b1) (.slice C1 32 c1)),.agg (triV (.slice A2 32 a2) (.slice B2 32 b2) (.slice C2 32 c2)),.slice AD 32 cD] w (FPost (plus P Q) w):=by
 obtain ⟨z,zz,xy,yx,yy,xx,q,k,p,m,a,b,c,e,g,h,o,W⟩:=frW_ex x1 y1 z1 x2 y2 z2;have hF:=W.is hP hQ
 have hc:c<PN∧h<PN∧o<PN:=by
  obtain ⟨h1,h2,h3,h4,h5,h6,h7,h8,h9,h10,h11,h12,h13,h14,h15,h16,h17⟩:=W;exact ⟨by rw [h13]; exact mod_lt' _,by rw [h16]; exact mod_lt' _,by rw [h17]; exact mod_lt' _⟩
 refine Calls.mono (fadd_any W p1 p2 p3 p4 p5 p6 r1 r2 r3 r4 r5 r6 r7) fun e w' hq=>?_;obtain ⟨A,a,B,b,C,c,he,q1,q2,q3,q4,q5,q6,q7⟩:=hq;exact ⟨_,_,_,A,a,B,b,C,c,he,hc.1,hc.2.1,hc.2.2,hF,q1,q2,q3,q4,q5,q6,q7⟩
structure FM (w0:World) (g4 go gw:Nat) (AD K:Option Addr) (l:List Nat) (Q R:PtF) (u:World):Prop where
 bel:Below w0.heap.size w0 u
 pt:Blk u g4 50 (pairV nilS nilS)
 out:FB go Q u
 own:FB gw R u
 d:Rd u u.heap.size AD (DN dN)
 k:Rd u u.heap.size K (bnV l)
 l4:w0.heap.size≤g4
 lo:w0.heap.size≤go
 lw:w0.heap.size≤gw
 n1:go≠gw
 n2:g4≠go
 n3:g4≠gw
theorem FM.next {w0 u u':World} {g4 go gw:Nat} {AD K:Option Addr} {l:List Nat} {Q R:PtF} (h:FM w0 g4 go gw AD K l Q R u) (hb:Below u.heap.size u u'):FM w0 g4 go gw AD K l Q R u' :=
 ⟨h.bel.trans (hb.mono h.bel.size),h.pt.below hb h.pt.lt,h.out.next hb,h.own.next hb,rd_next h.d hb,rd_next h.k hb,h.l4,h.lo,h.lw,h.n1,h.n2,h.n3⟩
theorem FM.putW {w0 u u':World} {g4 go gw:Nat} {AD K:Option Addr} {l:List Nat} {Q R S:PtF} {x y z:Nat} {A B C A1 B1 C1:Option Addr} {a b c a1 b1 c1:Nat} (h:FM w0 g4 go gw AD K l Q R u)
  (ho:Blk u gw 70 (triV (.slice A1 32 a1) (.slice B1 32 b1) (.slice C1 32 c1))) (hw:Wrote gw u u') (hb:Blk u' gw 70 (triV (.slice A 32 a) (.slice B 32 b) (.slice C 32 c)))
  (m:x<PN∧y<PN∧z<PN∧Fr x y z S∧32≤a∧32≤b∧32≤c∧Rd u u.heap.size A (DN x)∧Rd u u.heap.size B (DN y)∧Rd u u.heap.size C (DN z)):FM w0 g4 go gw AD K l Q S u':=by
 obtain ⟨m2,m3,m4,m5,m6,m7,m8,m9,m10,m11⟩:=m;exact ⟨hw.below h.bel h.lw h.bel.size,hw.blk h.pt h.n3,h.out.other hw h.n1 ho,⟨x,y,z,A,a,B,b,C,c,hb,m2,m3,m4,m5,m6,m7,m8,rd_size (m9.wrote ho hw tri_ne) hw.size,rd_size (m10.wrote ho hw tri_ne) hw.size,rd_size (m11.wrote ho hw tri_ne) hw.size⟩,rd_size (h.d.wrote ho hw tri_ne) hw.size,rd_size (h.k.wrote ho hw tri_neb) hw.size,h.l4,h.lo,h.lw,h.n1,h.n2,h.n3⟩
theorem FM.putO {w0 u u':World} {g4 go gw:Nat} {AD K:Option Addr} {l:List Nat} {Q R S:PtF} {x y z:Nat} {A B C A1 B1 C1:Option Addr} {a b c a1 b1 c1:Nat} (h:FM w0 g4 go gw AD K l Q R u)
  (ho:Blk u go 70 (triV (.slice A1 32 a1) (.slice B1 32 b1) (.slice C1 32 c1))) (hw:Wrote go u u') (hb:Blk u' go 70 (triV (.slice A 32 a) (.slice B 32 b) (.slice C 32 c)))
  (m:x<PN∧y<PN∧z<PN∧Fr x y z S∧32≤a∧32≤b∧32≤c∧Rd u u.heap.size A (DN x)∧Rd u u.heap.size B (DN y)∧Rd u u.heap.size C (DN z)):FM w0 g4 go gw AD K l S R u':=by
 obtain ⟨m2,m3,m4,m5,m6,m7,m8,m9,m10,m11⟩:=m;exact ⟨hw.below h.bel h.lo h.bel.size,hw.blk h.pt h.n2,⟨x,y,z,A,a,B,b,C,c,hb,m2,m3,m4,m5,m6,m7,m8,rd_size (m9.wrote ho hw tri_ne) hw.size,rd_size (m10.wrote ho hw tri_ne) hw.size,rd_size (m11.wrote ho hw tri_ne) hw.size⟩,h.own.other hw (Ne.symm h.n1) ho,rd_size (h.d.wrote ho hw tri_ne) hw.size,rd_size (h.k.wrote ho hw tri_neb) hw.size,h.l4,h.lo,h.lw,h.n1,h.n2,h.n3⟩
structure FQ (w0:World) (g4 go:Nat) (O:Array Value) (A B I:Option Addr) (x y z:Nat) (u:World):Prop where
 bel:Below w0.heap.size w0 u
 pt:∃ A a b C c d,Blk u g4 50 (pairV (.slice A a b) (.slice C c d))
 o:Blk u go 70 O
 r1:Rd u u.heap.size A (DN x)
 r2:Rd u u.heap.size B (DN y)
 r3:Rd u u.heap.size I (DN z)
 l4:w0.heap.size≤g4
 n:g4≠go
theorem FQ.next {w0 u u':World} {g4 go:Nat} {O:Array Value} {A B I:Option Addr} {x y z:Nat} (h:FQ w0 g4 go O A B I x y z u) (hb:Below u.heap.size u u'):FQ w0 g4 go O A B I x y z u':=by
 obtain ⟨A1,a,b,C,c,d,hp⟩:=h.pt;exact ⟨h.bel.trans (hb.mono h.bel.size),⟨A1,a,b,C,c,d,hp.below hb hp.lt⟩,h.o.below hb h.o.lt,rd_next h.r1 hb,rd_next h.r2 hb,rd_next h.r3 hb,h.l4,h.n⟩
theorem FQ.drew {w0 u:World} {g4 go:Nat} {O:Array Value} {A B I:Option Addr} {x y z:Nat} (h:FQ w0 g4 go O A B I x y z u):FQ w0 g4 go O A B I x y z u.drew:=h.next (Below.refl _ _).drew
theorem FQ.put {w0 u u':World} {g4 go:Nat} {O:Array Value} {A B I:Option Addr} {x y z:Nat} {A1 A2 A3 A4:Option Addr} {a1 b1 c1 d1 a2 b2 c2 d2:Nat} (h:FQ w0 g4 go O A B I x y z u) (ho:Blk u g4 50 (pairV (.slice A1 a1 b1) (.slice A2 c1 d1))) (hw:Wrote g4 u u') (hb:Blk u' g4 50 (pairV (.slice A3 a2 b2) (.slice A4 c2 d2))):FQ w0 g4 go O A B I x y z u' :=
 ⟨hw.below h.bel h.l4 h.bel.size,⟨_,_,_,_,_,_,hb⟩,hw.blk h.o (Ne.symm h.n),rd_size (h.r1.wrote ho hw pair_ne) hw.size,rd_size (h.r2.wrote ho hw pair_ne) hw.size,rd_size (h.r3.wrote ho hw pair_ne) hw.size,h.l4,h.n⟩
set_option maxRecDepth 100000 in
set_option maxHeartbeats 4000000 in
theorem fmul_any (P:PtF) (l:List Nat) (hd:Dg l) (hl:l.length=32) {X Y K:Option Addr} {cx cy ck:Nat} {w:World}
  (r1:Rd w w.heap.size X (DN P.x.val)) (r2:Rd w w.heap.size Y (DN P.y.val)) (r3:Rd w w.heap.size K (bnV l)) (hcx:32≤cx) (hcy:32≤cy) :
  Calls Tryd.prog 25 #[.agg (pairV (.slice X 32 cx) (.slice Y 32 cy)),.slice K 32 ck] w (PairPost (times P (leV l)).x.val (times P (leV l)).y.val w):=by
 have hpt:=Tryd.underlying50;have hft:=Tryd.underlying70;have HFP:=zY (fr_of P);have PX:=zY P.x.isLt;have PY:=zY P.y.isLt;obtain ⟨w0,hw0⟩:∃ w0,w0=(w.alloc (.cells (pairV (.slice X 32 cx) (.slice Y 32 cy)) 50)).alloc (.cells #[.slice none 0 0,.slice none 0 0] 50):=⟨_,rfl⟩;have hb0:Below w.heap.size w w0:=by rw [hw0]; exact (below_new _ _).alloc (by simp) _
 have hp1:Blk w0 w.heap.size 50 (pairV (.slice X 32 cx) (.slice Y 32 cy)):=by rw [hw0]; exact (Blk.new _ _ _).alloc _
 have hp2:Blk w0 (w.heap.size+1) 50 (pairV nilS nilS):=by rw [hw0]; exact Blk.newAt (by simp)
 have HB:=zY hb0;have HP1:=zY hp1;have HP2:=zY hp2;have R1:=zY (rd_next r1 hb0);have R2:=zY (rd_next r2 hb0);have R3:=zY (rd_next r3 hb0);have HCX:=zY hcx;have HCY:=zY hcy;have HD:=zY hd;have HL:=zY hl;have HW:=zY hw0;generalize hpx:P.x.val=px at *;generalize hpy:P.y.val=py at *;clear r1 r2 r3 hcx hcy hd hl hw0 hb0 hp1 hp2;go_enter Tryd.func25,Tryd.ntmps25;go_wp2_with fail;show Calls _ _ _ ((w.alloc (.cells (pairV (.slice X 32 cx) (.slice Y 32 cy)) _)).alloc (.cells #[.slice none 0 0,.slice none 0 0] _)) _;rw [← HW.out];obtain ⟨gp,hgp⟩:∃ x,x=w.heap.size:=⟨_,rfl⟩;obtain ⟨g4,hg4⟩:∃ x,x=w.heap.size+1:=⟨_,rfl⟩;rw [← hg4] at HP2 ⊢;rw [← hgp] at HP1 ⊢;have HG4:=zY hg4;clear hgp hg4 HW;refine calls_then (nd_any _) ?_;rintro e u1 ⟨AD,cD,rfl,_,hr,hb⟩;replace HB:=zY (HB.out.trans (hb.mono HB.out.size));replace R1:=zY (rd_next R1.out hb);replace R2:=zY (rd_next R2.out hb);replace R3:=zY (rd_next R3.out hb);replace HP1:=zY (HP1.out.below hb HP1.out.lt);replace HP2:=zY (HP2.out.below hb HP2.out.lt);have RD:=zY hr;clear hr hb;go_wp2_with fail;refine calls_then (nint 1 (by decide) _) ?_;rintro e u2 ⟨A1,c1,rfl,hc1,hr,hb⟩;replace HB:=zY (HB.out.trans (hb.mono HB.out.size));replace R1:=zY (rd_next R1.out hb);replace R2:=zY (rd_next R2.out hb);replace R3:=zY (rd_next R3.out hb);replace RD:=zY (rd_next RD.out hb);replace HP1:=zY (HP1.out.below hb HP1.out.lt);replace HP2:=zY (HP2.out.below hb HP2.out.lt);have RO:=zY hr;have HC1:=zY hc1;clear hr hb hc1;go_wp2_with fail;refine calls_then (nint 0 (by decide) _) ?_;rintro e u3 ⟨A0,c0,rfl,hc0,hr,hb⟩;replace HB:=zY (HB.out.trans (hb.mono HB.out.size));replace R1:=zY (rd_next R1.out hb);replace R2:=zY (rd_next R2.out hb);replace R3:=zY (rd_next R3.out hb);replace RD:=zY (rd_next RD.out hb);replace RO:=zY (rd_next RO.out hb);replace HP1:=zY (HP1.out.below hb HP1.out.lt);replace HP2:=zY (HP2.out.below hb HP2.out.lt);have RZ:=zY hr;have HC0':=zY hc0;clear hr hb hc0;have hlt:=HP1.out.lt
 go_wp2_with (first
  | (refine wpList_put_box (x:=.tmp 7) (cells:=triV (.slice A0 32 c0) (.slice A1 32 c1) (.slice A1 32 c1)) (Blk.new u3 _ _) rfl rfl rfl rfl tri_size rfl (by simp [triV,Value.oneCell']) ?_; intro u4 hb4 hw4; have HB4:=zY hb4; have HW4:=zY hw4; have hq4:=hw4.blk (HP1.out.alloc _) (Nat.ne_of_lt hlt); have d0:=(hq4.cell 0).trans (show (pairV (.slice X 32 cx) (.slice Y 32 cy))[0]?=some (.slice X 32 cx) from rfl); have d1:=(hq4.cell 1).trans (show (pairV (.slice X 32 cx) (.slice Y 32 cy))[1]?=some (.slice Y 32 cy) from rfl); clear hb4 hw4 hq4)
  | (refine wpList_put_box (x:=.tmp 8) (cells:=triV (.slice X 32 cx) (.slice Y 32 cy) (.slice A1 32 c1)) (Blk.new u4 _ _) rfl rfl rfl rfl tri_size rfl (by simp [triV,Value.oneCell']) ?_; intro u5 hb5 hw5; have HB5:=zY hb5; have HW5:=zY hw5; clear d0 d1 hb5 hw5))
 have e4:u3.heap.size+1=u4.heap.size:=by rw [HW4.out.size]; simp
 have e5:u4.heap.size+1=u5.heap.size:=by rw [HW5.out.size]; simp
 have B34:Below u3.heap.size u3 u4:=HW4.out.below (below_new _ _) (Nat.le_refl _) (by simp);have B45:Below u4.heap.size u4 u5:=HW5.out.below (below_new _ _) (Nat.le_refl _) (by simp);have B35:Below u3.heap.size u3 u5:=B34.trans (B45.mono (by omega));have hz0:=HB.out.size;have hg4l:=HP2.out.lt;have hg44:=HG4.out
 have hst0:FM w g4 u3.heap.size u4.heap.size AD K l (times P (lowK l 0 0)) (times P (256^0*2^0)) u5:=by
  refine ⟨HB.out.trans (B35.mono hz0),HP2.out.below B35 hg4l,⟨0,1,1,A0,c0,A1,c1,A1,c1,HB4.out.below B45 HB4.out.lt,by decide,by decide,by decide,?_,HC0'.out,HC1.out,HC1.out,rd_next RZ.out B35,rd_next (rd_next RO.out (Below.refl _ _)) B35,rd_next RO.out B35⟩,⟨px,py,1,X,cx,Y,cy,A1,c1,HB5.out,PX.out,PY.out,by decide,?_,HCX.out,HCY.out,HC1.out,rd_next R1.out B35,rd_next R2.out B35,rd_next RO.out B35⟩,rd_next RD.out B35,rd_next R3.out B35,by omega,by omega,by omega,by omega,by omega,by omega⟩
  ·have h0:times P (lowK l 0 0)=zeroF:=by rw [lowK_zero]; rfl
   rw [h0];exact fr_zero
  ·have h:=HFP.out;have h1:times P (256^0*2^0)=P:=Ed.mul_one FF P;rw [h1];exact h
 have HST0:=zY hst0;generalize u3.heap.size=go at *;generalize u4.heap.size=gw at *;clear hst0 B34 B45 B35 e4 e5 hz0 hg4l hg44 hlt HB4 HB5 HW4 HW5 HP1 HP2 HB R1 R2 R3 RD RO RZ HC1 HC0' HCX HCY PX PY HFP HG4 hpx hpy
 go_loopw [9] (fun iv wr=>∃ i:Nat,i≤32∧iv=.int .i64 (i:Int)∧FM w g4 go gw AD K l (times P (lowK l i 0)) (times P (256^i*2^0)) wr) (fun iv _=>(32 - intOf iv).toNat)
 case atStart=>exact ⟨0,by omega,rfl,HST0.out⟩
 case round =>
  clear HST0;obtain ⟨i,hi,rfl,hst⟩:=hrel
  by_cases hlt:i<32
  ·have hlt':(i:Int)<32:=by omega
   obtain ⟨v0,hv0⟩:∃ v,v=l.getD i 0:=⟨_,rfl⟩;obtain ⟨ad,rfl,d1⟩:=bn_cell hst.k (k:=i) (by rw [HL.out]; exact hlt);rw [← hv0] at d1;have HI:=zY hlt;have HV0:=zY hv0;have HST:=zY hst;have hvl:v0<256:=by rw [hv0]; exact dg_getD HD.out i
   have hvl':(v0:Int)<256:=by omega
   clear hst hlt hv0 hi;go_wp2_with fail;clear d1;obtain ⟨wo,rfl⟩:∃ x:World,x=wr:=⟨_,rfl⟩
   go_loopw [10,11] (fun vv bv wr=>∃ b v:Nat,b≤8∧bv=.int .i64 (b:Int)∧vv=.int .i64 (v:Int)∧v=v0/2^b∧FM w g4 go gw AD (some ad) l (times P (lowK l i b)) (times P (256^i*2^b)) wr) (fun _ bv _=>(8 - intOf bv).toNat)
   case atStart=>exact ⟨0,v0,by omega,rfl,rfl,by simp,HST.out⟩
   case round =>
    clear HST;obtain ⟨b,v,hb,rfl,rfl,hv,hst⟩:=hrel
    by_cases hb8:b<8
    ·have hb8':(b:Int)<8:=by omega
     obtain ⟨t,ht⟩:∃ t,t=v%2:=⟨_,rfl⟩;obtain ⟨v2,hv2⟩:∃ v2,v2=v/2:=⟨_,rfl⟩;have hv2i:(v:Int)/2=(v2:Int):=by omega
     have hvb:v<256:=by rw [hv]; exact Nat.lt_of_le_of_lt (Nat.div_le_self _ _) hvl
     have hvb':(v:Int)<256:=by omega
     have HV2:=zY (show v2=v0/2^(b+1) by rw [hv2,hv,Nat.div_div_eq_div_mul,← Nat.pow_succ]);have hnx:=lowK_next l i b;rw [← HV0.out,← hv,← ht] at hnx;have HDBL:=zY (show times P (256^i*2^(b+1))=plus (times P (256^i*2^b)) (times P (256^i*2^b)) by rw [← times_add,Nat.pow_succ]; congr 1; rw [← Nat.mul_assoc]; omega);have HB8:=zY hb8
     by_cases ht1:t=1
     ·subst ht1;have hbt:((v:Int)%2 == 1)=true:=by rw [beq_iff_eq]; omega
      rw [Nat.one_mul] at hnx;have HNXT:=zY (show times P (lowK l i (b+1))=plus (times P (lowK l i b)) (times P (256^i*2^b)) by rw [hnx,times_add]);obtain ⟨x1,y1,z1,A1,a1,B1,b1,C1,c1,j1,j2,j3,j4,j5,j6,j7,j8,j9,j10,j11⟩:=hst.out.ex;obtain ⟨x2,y2,z2,A2,a2,B2,b2,C2,c2,k1,k2,k3,k4,k5,k6,k7,k8,k9,k10,k11⟩:=hst.own.ex;have HJ:=zY j1;have HK:=zY k1;have HCALL:=zY (fadd_fr j5 k5 j2 j3 j4 k2 k3 k4 j9 j10 j11 k9 k10 k11 hst.d (a1:=a1) (b1:=b1) (c1:=c1) (a2:=a2) (b2:=b2) (c2:=c2) (cD:=cD));have HST:=zY hst;clear j1 j2 j3 j4 j5 j6 j7 j8 j9 j10 j11 k1 k2 k3 k4 k5 k6 k7 k8 k9 k10 k11 hst hnx hv ht hv2 hb8 hb hvb
      go_wp2_with (first
       | (refine wpList_get_box (x:=.tmp 7) HJ.out rfl rfl rfl hft rfl tri_size ?_)
       | (refine wpList_get_box (x:=.tmp 8) HK.out rfl rfl rfl hft rfl tri_size ?_))
      refine calls_then HCALL.out ?_;rintro e wa ⟨x3,y3,z3,A3,a3,B3,b3,C3,c3,rfl,m2,m3,m4,m5,m6,m7,m8,m9,m10,m11,mb⟩;have HM:=zY (And.intro m2 (And.intro m3 (And.intro m4 (And.intro m5 (And.intro m6 (And.intro m7 (And.intro m8 (And.intro m9 (And.intro m10 m11)))))))));have HS1:=zY (HST.out.next mb);have HJ1:=zY (HJ.out.below mb HJ.out.lt);clear m2 m3 m4 m5 m6 m7 m8 m9 m10 m11 mb HST HJ HK HCALL hbt;go_wp2_with (refine wpList_put_box (x:=.tmp 7) (cells:=triV (.slice A3 32 a3) (.slice B3 32 b3) (.slice C3 32 c3)) HJ1.out rfl rfl rfl rfl tri_size rfl (by simp [triV,Value.oneCell']) ?_; intro w5 hb5 hw5; have hs9:=HS1.out.putO HJ1.out hw5 hb5 HM.out; rw [← HNXT.out] at hs9; obtain ⟨x2,y2,z2,A2,a2,B2,b2,C2,c2,k1,k2,k3,k4,k5,k6,k7,k8,k9,k10,k11⟩:=hs9.own.ex; have HK:=zY k1; have HCALL:=zY (fadd_fr k5 k5 k2 k3 k4 k2 k3 k4 k9 k10 k11 k9 k10 k11 hs9.d (a1:=a2) (b1:=b2) (c1:=c2) (a2:=a2) (b2:=b2) (c2:=c2) (cD:=cD)); have HS:=zY hs9; clear hs9 hb5 hw5 k1 k2 k3 k4 k5 k6 k7 k8 k9 k10 k11; go_wp2_with (refine wpList_get_box (x:=.tmp 8) HK.out rfl rfl rfl hft rfl tri_size ?_));refine calls_then HCALL.out ?_;rintro e wb ⟨x5,y5,z5,A5,a5,B5,b5,C5,c5,rfl,m2,m3,m4,m5,m6,m7,m8,m9,m10,m11,mb⟩;have HM:=zY (And.intro m2 (And.intro m3 (And.intro m4 (And.intro m5 (And.intro m6 (And.intro m7 (And.intro m8 (And.intro m9 (And.intro m10 m11)))))))));have HS2:=zY (HS.out.next mb);have HK2:=zY (HK.out.below mb HK.out.lt);clear m2 m3 m4 m5 m6 m7 m8 m9 m10 m11 mb HS HK HCALL;go_wp2_with (refine wpList_put_box (x:=.tmp 8) (cells:=triV (.slice A5 32 a5) (.slice B5 32 b5) (.slice C5 32 c5)) HK2.out rfl rfl rfl rfl tri_size rfl (by simp [triV,Value.oneCell']) ?_; intro wc hbc hwc; have HBC:=zY hbc; have HWC:=zY hwc; clear hbc hwc);refine ⟨⟨b+1,v2,HB8.out,by go_num,rfl,HV2.out,?_⟩,by have:=HB8.out; simp [intOf]; omega⟩;rw [HDBL.out];exact HS2.out.putW HK2.out HWC.out HBC.out HM.out
     ·obtain rfl:t=0:=by omega
      have hbt:((v:Int)%2 == 1)=false:=by rw [beq_eq_false_iff_ne]; omega
      rw [Nat.zero_mul] at hnx;replace hnx:lowK l i (b+1)=lowK l i b:=hnx;obtain ⟨x2,y2,z2,A2,a2,B2,b2,C2,c2,k1,k2,k3,k4,k5,k6,k7,k8,k9,k10,k11⟩:=hst.own.ex;have HK:=zY k1;have HCALL:=zY (fadd_fr k5 k5 k2 k3 k4 k2 k3 k4 k9 k10 k11 k9 k10 k11 hst.d (a1:=a2) (b1:=b2) (c1:=c2) (a2:=a2) (b2:=b2) (c2:=c2) (cD:=cD));rw [← hnx] at hst;have HS:=zY hst;clear k1 k2 k3 k4 k5 k6 k7 k8 k9 k10 k11 hst hnx hv ht hv2 hb8 hb hvb ht1;go_wp2_with (refine wpList_get_box (x:=.tmp 8) HK.out rfl rfl rfl hft rfl tri_size ?_);refine calls_then HCALL.out ?_;rintro e wb ⟨x5,y5,z5,A5,a5,B5,b5,C5,c5,rfl,m2,m3,m4,m5,m6,m7,m8,m9,m10,m11,mb⟩;have HM:=zY (And.intro m2 (And.intro m3 (And.intro m4 (And.intro m5 (And.intro m6 (And.intro m7 (And.intro m8 (And.intro m9 (And.intro m10 m11)))))))));have HS2:=zY (HS.out.next mb);have HK2:=zY (HK.out.below mb HK.out.lt);clear m2 m3 m4 m5 m6 m7 m8 m9 m10 m11 mb HS HK HCALL;go_wp2_with (refine wpList_put_box (x:=.tmp 8) (cells:=triV (.slice A5 32 a5) (.slice B5 32 b5) (.slice C5 32 c5)) HK2.out rfl rfl rfl rfl tri_size rfl (by simp [triV,Value.oneCell']) ?_; intro wc hbc hwc; have HBC:=zY hbc; have HWC:=zY hwc; clear hbc hwc);refine ⟨⟨b+1,v2,HB8.out,by go_num,rfl,HV2.out,?_⟩,by have:=HB8.out; simp [intOf]; omega⟩;rw [HDBL.out];exact HS2.out.putW HK2.out HWC.out HBC.out HM.out
    ·obtain rfl:b=8:=by omega
     rw [lowK_end HD.out i,← lowK_zero,show 256^i*2^8=256^(i+1)*2^0 by rw [show (2:Nat)^8=256 from rfl,show (2:Nat)^0=1 from rfl,Nat.mul_one,Nat.pow_succ]] at hst;have HST:=zY hst;clear hst hv hb hb8;go_wp2_with fail;exact ⟨⟨i+1,HI.out,by go_num,HST.out⟩,by have:=HI.out; simp [intOf]; omega⟩
  ·obtain rfl:i=32:=by omega
   rw [lowK_zero,List.take_of_length_le (Nat.le_of_eq HL.out)] at hst;obtain ⟨x1,y1,z1,A1',a1,B1,b1,C1,c1',j1,j2,j3,j4,j5,j6,j7,j8,j9,j10,j11⟩:=hst.out.ex;obtain ⟨iv,hiv⟩:∃ v,v=z1^(PN - 2)%PN:=⟨_,rfl⟩;have hvl:iv<PN:=by rw [hiv]; exact mod_lt' _
   obtain ⟨e1,e2⟩:=j5.pair j4 hiv;have cI:=ninv j4 j11 (c:=c1');rw [← hiv] at cI;have HCI:=zY cI;have HJ:=zY j1;have hd0:=(j1.cell 2).trans (show (triV (.slice A1' 32 a1) (.slice B1 32 b1) (.slice C1 32 c1'))[2]?=some (.slice C1 32 c1') from rfl);go_wp2_with fail;refine calls_then HCI.out ?_;rintro e wi ⟨AI,cI2,rfl,hcI,hrI,hbI⟩
   have hst2:FQ w g4 go (triV (.slice A1' 32 a1) (.slice B1 32 b1) (.slice C1 32 c1')) A1' B1 AI x1 y1 iv wi :=
    ⟨hst.bel.trans (hbI.mono hst.bel.size),⟨none,0,0,none,0,0,hst.pt.below hbI hst.pt.lt⟩,j1.below hbI j1.lt,rd_next j9 hbI,rd_next j10 hbI,hrI,hst.l4,hst.n2⟩
   have HC1:=zY (show ∀ ww XA xc XB xd,Rd ww ww.heap.size XA (DN x1)→Rd ww ww.heap.size XB (DN iv)→Calls Tryd.prog 53 #[.slice XA 32 xc,.slice XB 32 xd] ww (NumPost (times P (leV l)).x.val ww) from fun ww XA xc XB xd xh xk=>by rw [← e1]; exact nmul j2 hvl xh xk);have HC2:=zY (show ∀ ww XA xc XB xd,Rd ww ww.heap.size XA (DN y1)→Rd ww ww.heap.size XB (DN iv)→Calls Tryd.prog 53 #[.slice XA 32 xc,.slice XB 32 xd] ww (NumPost (times P (leV l)).y.val ww) from fun ww XA xc XB xd xh xk=>by rw [← e2]; exact nmul j3 hvl xh xk);have HS2:=zY hst2;clear j1 j2 j3 j4 j5 j6 j7 j8 j9 j10 j11 hst hiv hvl e1 e2 cI HCI HJ hd0 hcI hrI hbI hst2;generalize (times P (leV l)).x.val=tx at *;generalize (times P (leV l)).y.val=ty at *;go_wp2_with fail;have HC0:=HS2.out.drew;clear HS2
   refine wp_region_list (fun u=>FQ w g4 go (triV (.slice A1' 32 a1) (.slice B1 32 b1) (.slice C1 32 c1')) A1' B1 AI x1 y1 iv u) (fun | false=>(fun _=>True) | true=>(fun _=>True)) (fun | false,_=>false | true,_=>false)
    [fun z _=>z 0=.pointer (some ⟨go,0,none⟩),
     fun z _=>z 1=.slice A1' 32 a1,
     fun z _=>z 2=.slice AI 32 cI2,
     fun z u=>(RdV 32 (DN tx)) (z 3) u,
     fun z _=>z 4=.pointer (some ⟨go,1,none⟩),
     fun z _=>z 5=.slice B1 32 b1,
     fun z _=>z 6=.slice AI 32 cI2,
     fun z u=>(RdV 32 (DN ty)) (z 7) u,
     fun z u=>∃ A c B d,z 8=.agg (pairV (.slice A 32 c) (.slice B 32 d))∧32≤c∧32≤d∧Rd u u.heap.size A (DN tx)∧Rd u u.heap.size B (DN ty),
     fun z u=>∃ A c B d,Blk u g4 50 (pairV (.slice A 32 c) (.slice B 32 d))∧32≤c∧32≤d∧Rd u u.heap.size A (DN tx)∧Rd u u.heap.size B (DN ty)]
    [Eq,Eq,Eq,fun u u'=>Below u.heap.size u u',Eq,Eq,Eq,fun u u'=>Below u.heap.size u u',Eq,fun u u'=>True]
    (fun i k=>(i == 9 && k == 3) || (i == 9 && k == 7) || (i == 9 && k == 8)) [(0,some 60),(1,some 61),(2,some 62),(3,some 63),(4,some 64),(5,some 65),(6,some 66),(7,some 67),(8,some 68),(9,none)] (by kernel_rfl) (by kernel_rfl) rfl (fun _=>rfl) ?_ ?_ ?_ ?_ ?_ ?_
   ·exact HC0
   ·intro m; cases m; exact trivial; exact trivial
   ·intro m; cases m
    ·refine ⟨?_,?_,?_,.inr (fun _ _ _ h=>h),?_,?_,?_,.inr (fun _ _ _ h=>h),?_,.inr (fun _ _ _ h=>h),trivial⟩ <;> exact .inr fun _ _ h h0=>h▸h0
    ·refine ⟨?_,?_,?_,.inr (fun _ _ _ h=>h),?_,?_,?_,.inr (fun _ _ _ h=>h),?_,.inr (fun _ _ _ h=>h),trivial⟩ <;> exact .inr fun _ _ h h0=>h▸h0
   ·refine ⟨⟨.inl rfl,?_,?_,?_,?_,?_,?_,?_,?_,?_,trivial⟩,⟨?_,.inl rfl,?_,?_,?_,?_,?_,?_,?_,?_,trivial⟩,⟨?_,?_,.inl rfl,?_,?_,?_,?_,?_,?_,?_,trivial⟩,⟨?_,?_,?_,.inl rfl,?_,?_,?_,?_,?_,?_,trivial⟩,⟨?_,?_,?_,.inr (.inr (.inr (fun _ _ _ _ h h0=>by cases h; exact h0))),.inl rfl,?_,?_,?_,?_,?_,trivial⟩,⟨?_,?_,?_,.inr (.inr (.inr (fun _ _ _ _ h h0=>by cases h; exact h0))),?_,.inl rfl,?_,?_,?_,?_,trivial⟩,⟨?_,?_,?_,.inr (.inr (.inr (fun _ _ _ _ h h0=>by cases h; exact h0))),?_,?_,.inl rfl,?_,?_,?_,trivial⟩,⟨?_,?_,?_,.inr (.inr (.inr (fun _ _ _ _ h h0=>h0.next h))),?_,?_,?_,.inl rfl,?_,?_,trivial⟩,⟨?_,?_,?_,.inr (.inr (.inr (fun _ _ _ _ h h0=>by cases h; exact h0))),?_,?_,?_,.inr (.inr (.inr (fun _ _ _ _ h h0=>by cases h; exact h0))),.inl rfl,?_,trivial⟩,⟨?_,?_,?_,.inr (.inl rfl),?_,?_,?_,.inr (.inl rfl),.inr (.inl rfl),.inl rfl,trivial⟩,trivial⟩ <;> first | exact .inr (.inr (.inl rfl)) | exact .inr (.inr (.inr fun _ _ _ _ _ h=>h))
   ·refine ⟨?_,?_,?_,?_,?_,?_,?_,?_,?_,?_,trivial⟩
    ·refine step_plain [] (fun _=>rfl) rfl ?_;intro w1 vals hC1 hi0 hf E hE;clear hi0;clear hf;simp only [sP] at hE ⊢;go_wp2;exact .mk (hE _ _ rfl hC1 rfl)
    ·refine step_plain [(0,some 60)] (fun _=>rfl) rfl ?_;intro w1 vals hC1 hi0 hf E hE;clear hi0;have f0:vals 0=.pointer (some ⟨go,0,none⟩):=hf 0 rfl
     try dsimp only at f0
     clear hf;have d0:=(hC1.o.cell 0).trans (show (triV (.slice A1' 32 a1) (.slice B1 32 b1) (.slice C1 32 c1'))[0]?=some (.slice A1' 32 a1) from rfl);simp only [sP,f0] at hE ⊢;clear f0;go_wp2;exact .mk (hE _ _ rfl hC1 rfl)
    ·refine step_plain [] (fun _=>rfl) rfl ?_;intro w1 vals hC1 hi0 hf E hE;clear hi0;clear hf;simp only [sP] at hE ⊢;go_wp2;exact .mk (hE _ _ rfl hC1 rfl)
    ·refine step_plain [(1,some 61),(2,some 62)] (fun _=>rfl) rfl ?_;intro w1 vals hC1 hi0 hf E hE;clear hi0;have f1:vals 1=.slice A1' 32 a1:=hf 1 rfl;have f2:vals 2=.slice AI 32 cI2:=hf 2 rfl
     try dsimp only at f1 f2
     clear hf;simp only [sP,f1,f2] at hE ⊢;clear f1 f2;go_wp2_with fail;refine calls_then (HC1.out _ _ _ _ _ hC1.r1 hC1.r3) ?_;rintro e w2 ⟨A2,c2,rfl,hc2,hr2,hb2⟩;go_wp2_with fail;exact .mk (hE _ _ ⟨A2,c2,rfl,hc2,hr2⟩ (hC1.next hb2) hb2)
    ·refine step_plain [] (fun _=>rfl) rfl ?_;intro w1 vals hC1 hi0 hf E hE;clear hi0;clear hf;simp only [sP] at hE ⊢;go_wp2;exact .mk (hE _ _ rfl hC1 rfl)
    ·refine step_plain [(4,some 64)] (fun _=>rfl) rfl ?_;intro w1 vals hC1 hi0 hf E hE;clear hi0;have f4:vals 4=.pointer (some ⟨go,1,none⟩):=hf 4 rfl
     try dsimp only at f4
     clear hf;have d0:=(hC1.o.cell 1).trans (show (triV (.slice A1' 32 a1) (.slice B1 32 b1) (.slice C1 32 c1'))[1]?=some (.slice B1 32 b1) from rfl);simp only [sP,f4] at hE ⊢;clear f4;go_wp2;exact .mk (hE _ _ rfl hC1 rfl)
    ·refine step_plain [] (fun _=>rfl) rfl ?_;intro w1 vals hC1 hi0 hf E hE;clear hi0;clear hf;simp only [sP] at hE ⊢;go_wp2;exact .mk (hE _ _ rfl hC1 rfl)
    ·refine step_plain [(5,some 65),(6,some 66),(3,some 63)] (fun _=>rfl) rfl ?_;intro w1 vals hC1 hi0 hf E hE;clear hi0;have f3:(RdV 32 (DN tx)) (vals 3) w1:=hf 3 rfl;have f5:vals 5=.slice B1 32 b1:=hf 5 rfl;have f6:vals 6=.slice AI 32 cI2:=hf 6 rfl
     try dsimp only at f3 f5 f6
     clear hf;simp only [sP,f5,f6] at hE ⊢;clear f5 f6;go_wp2_with fail;refine calls_then (HC2.out _ _ _ _ _ hC1.r2 hC1.r3) ?_;rintro e w2 ⟨A2,c2,rfl,hc2,hr2,hb2⟩;go_wp2_with fail;exact .mk (hE _ _ ⟨A2,c2,rfl,hc2,hr2⟩ (hC1.next hb2) hb2)
    ·refine step_plain [(3,some 63),(7,some 67)] (fun _=>rfl) rfl ?_;intro w1 vals hC1 hi0 hf E hE;clear hi0;have f3:(RdV 32 (DN tx)) (vals 3) w1:=hf 3 rfl;have f7:(RdV 32 (DN ty)) (vals 7) w1:=hf 7 rfl
     try dsimp only at f3 f7
     clear hf;obtain ⟨A2,c2,hx2,hc2,hr2⟩:=f3;obtain ⟨A3,c3,hx3,hc3,hr3⟩:=f7;simp only [sP,hx2,hx3] at hE ⊢;clear hx2 hx3;go_wp2;exact .mk (hE _ _ ⟨A2,c2,A3,c3,rfl,hc2,hc3,hr2,hr3⟩ hC1 rfl)
    ·refine step_plain [(8,some 68),(7,some 67),(0,some 60),(1,some 61),(2,some 62),(3,some 63),(4,some 64),(5,some 65),(6,some 66),(7,some 67),(8,some 68)] (fun _=>rfl) rfl ?_;intro w1 vals hC1 hi0 hf E hE;clear hi0;have f0:vals 0=.pointer (some ⟨go,0,none⟩):=hf 0 rfl;have f1:vals 1=.slice A1' 32 a1:=hf 1 rfl;have f2:vals 2=.slice AI 32 cI2:=hf 2 rfl;have f3:(RdV 32 (DN tx)) (vals 3) w1:=hf 3 rfl;have f4:vals 4=.pointer (some ⟨go,1,none⟩):=hf 4 rfl;have f5:vals 5=.slice B1 32 b1:=hf 5 rfl;have f6:vals 6=.slice AI 32 cI2:=hf 6 rfl;have f7:(RdV 32 (DN ty)) (vals 7) w1:=hf 7 rfl;have f8:(fun z u=>∃ A c B d,z 8=.agg (pairV (.slice A 32 c) (.slice B 32 d))∧32≤c∧32≤d∧Rd u u.heap.size A (DN tx)∧Rd u u.heap.size B (DN ty)) vals w1:=hf 8 rfl
     try dsimp only at f0 f1 f2 f3 f4 f5 f6 f7 f8
     clear hf;obtain ⟨A2,c2,A3,c3,hx2,hc2,hc3,hr2,hr3⟩:=f8;obtain ⟨A4,a4,b4,C4,c4,d4,hpt4⟩:=hC1.pt;simp only [sP,f0,f1,f2,f4,f5,f6,hx2] at hE ⊢;clear f0 f1 f2 f4 f5 f6;clear hx2;refine wpList_put_box (cells:=pairV (.slice A2 32 c2) (.slice A3 32 c3)) hpt4 rfl rfl rfl rfl pair_size rfl (by simp [pairV,Value.oneCell']) ?_;intro w6 hb6 hw6;go_wp2_with fail;exact .mk (hE undef _ ⟨A2,c2,A3,c3,hb6,hc2,hc3,rd_size (hr2.wrote hpt4 hw6 pair_ne) hw6.size,rd_size (hr3.wrote hpt4 hw6 pair_ne) hw6.size⟩ (hC1.put hpt4 hw6 hb6) trivial)
   intro w1 vals hC1 hf;have f0:vals 0=.pointer (some ⟨go,0,none⟩):=hf 0 (by decide) rfl;have f1:vals 1=.slice A1' 32 a1:=hf 1 (by decide) rfl;have f2:vals 2=.slice AI 32 cI2:=hf 2 (by decide) rfl;have f4:vals 4=.pointer (some ⟨go,1,none⟩):=hf 4 (by decide) rfl;have f5:vals 5=.slice B1 32 b1:=hf 5 (by decide) rfl;have f6:vals 6=.slice AI 32 cI2:=hf 6 (by decide) rfl;have f9:(fun z u=>∃ A c B d,Blk u g4 50 (pairV (.slice A 32 c) (.slice B 32 d))∧32≤c∧32≤d∧Rd u u.heap.size A (DN tx)∧Rd u u.heap.size B (DN ty)) vals w1:=hf 9 (by decide) rfl
   try dsimp only at f0 f1 f2 f4 f5 f6 f9
   clear hf;simp only [sP,f0,f1,f2,f4,f5,f6];clear f0 f1 f2 f4 f5 f6;generalize vals 3=x3 at *;generalize vals 7=x7 at *;generalize vals 8=x8 at *;obtain ⟨A2,c2,A3,c3,hb6,hc2,hc3,hr2,hr3⟩:=f9;go_wp2_with fail;refine bodyPost_ret (results_box (P:=Tryd.prog) rfl rfl hb6 hpt rfl pair_size) rfl ?_;exact ⟨_,_,_,_,rfl,hc2,hc3,hr2,hr3,hC1.bel⟩
end Go.Proofs.YtdgheahbafnboaaDoor
/-
  Walk: the reference's Public.
-/
namespace Go.Proofs.YtdgheahbafnboaaDoor
set_option linter.unusedSimpArgs false
set_option linter.unusedVariables false
open Go.RowKit
theorem bxF_val:baseF.x.val=bxN:=fn_val_lt (by decide)
theorem byF_val:baseF.y.val=byNN:=fn_val_lt (by decide)
theorem rmulbase {l:List Nat} (hd:Dg l) (hl:l.length=32) {X Y K:Option Addr} {cx cy ck:Nat} {w:World}
  (r1:Rd w w.heap.size X (DN bxN)) (r2:Rd w w.heap.size Y (DN byNN)) (r3:Rd w w.heap.size K (bnV l)) (hcx:32≤cx) (hcy:32≤cy) :
  Calls Tryd.prog 25 #[.agg (pairV (.slice X 32 cx) (.slice Y 32 cy)),.slice K 32 ck] w (PairPost (times baseF (leV l)).x.val (times baseF (leV l)).y.val w) :=
 fmul_any baseF l hd hl (by rw [bxF_val]; exact r1) (by rw [byF_val]; exact r2) r3 hcx hcy
set_option maxRecDepth 100000 in
set_option maxHeartbeats 4000000 in
theorem rpublic_any (b:List UInt8) (hl:b.length=32) (hdl:(Sh.digS Sh.F64 b).length=64) (A:Option Addr) (c:Nat) (w:World) (hr:Rd w w.heap.size A (bytesV b)) (hc:32≤c) :
  Calls Tryd.prog 12 #[.slice A 32 c] w (BnPost (pubL (keyN b)) w):=by
 have hs:=rsecret_any b A c w hr (by rw [hl]; decide) (by rw [hl]; exact hc);rw [hl] at hs;have HS:=zY hs;obtain ⟨K,hK⟩:∃ K,K=(secL b).take 32:=⟨_,rfl⟩;have hKl:K.length=32:=by rw [hK,List.length_take,secD_len b hdl]; rfl
 have hKd:Dg K:=by
  have h:Dg (secL b):=clampL_dg (digs_dg _);exact fun d hd=>h d (List.mem_of_mem_take (by rw [hK] at hd; exact hd))
 have HK:=zY hK;have HKL:=zY hKl;have HKD:=zY hKd;clear hs hr hc hl hdl hK hKl hKd;go_enter Tryd.func12,Tryd.ntmps12;go_wp2_with fail;refine calls_then HS.out ?_;rintro e w1 ⟨A1,c1,B1,d1,rfl,hc1,hd1,r1,r2,hb1⟩;rw [← HK.out] at r1;have H1:=zY (And.intro r1 hb1);clear r1 r2 hb1 hc1 hd1;go_wp2_with fail;refine calls_then (nbase_any _) ?_;rintro e w2 ⟨X,cx,Y,cy,rfl,hcx,hcy,rx,ry,hb2⟩;have hm:=rmulbase HKD.out HKL.out rx ry ((H1.out.1.below hb2).mono hb2.size) (ck:=c1) hcx hcy;have HM:=zY hm;have HB2:=zY (H1.out.2.trans (hb2.mono H1.out.2.size));clear rx ry hb2 hcx hcy hm H1;go_wp2_with fail;refine calls_then HM.out ?_;rintro e w3 ⟨X3,cx3,Y3,cy3,rfl,hcx,hcy,rx,ry,hb3⟩;have hby:=nbytes_any (times baseF (leV K)).x.isLt (times baseF (leV K)).y.isLt (cx:=cx3) hcy rx ry;have HBY:=zY hby;have HB3:=zY (HB2.out.trans (hb3.mono HB2.out.size));clear rx ry hb3 hcx hcy hby HM;go_wp2_with fail;refine calls_then HBY.out ?_;rintro e w4 ⟨A5,c5,rfl,hc5,hr5,hb5⟩;have HF:=zY (show 32≤c5∧Rd w4 w4.heap.size A5 (bnV (pubL (keyN b)))∧Below w.heap.size w w4 from ⟨hc5,by rw [pubL,keyN,← HK.out]; exact hr5,HB3.out.trans (hb5.mono HB3.out.size)⟩);clear hc5 hr5 hb5;go_wp2_with fail;go_ret;exact ⟨A5,c5,rfl,HF.out⟩
end Go.Proofs.YtdgheahbafnboaaDoor
