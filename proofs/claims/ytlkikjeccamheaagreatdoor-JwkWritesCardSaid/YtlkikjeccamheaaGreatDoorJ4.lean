/-
  Joined texts: HSum32 OfC Of32 Top2r Rnm Jnm Bys Jct Mps Jmy Jky Jpl Jww Js14 Js15 Js16 Jrk Jwl.
-/
import Derived.Deep.QuietTactic
import Derived.Laws.IdiomStrings
import Derived.Deep.CutBlock
import Derived.Test.YtlkikjeccamheaaGreatDoorProg
import Derived.MapKept
import Derived.Shelf.Abstract
import Derived.Test.YtlkikjeccamheaaGreatDoorJ3
import Derived.Test.YtlkikjeccamheaaGreatDoorJ1
import Derived.Test.YtlkikjeccamheaaGreatDoorJ2
namespace Go.Proofs.YtlkikjeccamheaaGreatDoor.Sh
set_option linter.unusedSimpArgs false
set_option linter.unusedVariables false
set_option maxRecDepth 100000
set_option maxHeartbeats 4000000
open Go.RowKit
theorem zeroR32_ne (n k:Nat) (h:k<zeroR F32 n):((((n+1+k:Nat):Int)+8)%64 != 0)=true:=by
 simp only [zeroR,F32] at h;rw [bne_iff_ne];omega
theorem zeroR32_eq (n:Nat):((((n+1+zeroR F32 n:Nat):Int)+8)%64 != 0)=false:=by
 have h:zeroR F32 n=(2*32 - (n+1+32/4)%(2*32))%(2*32):=rfl;rw [bne_eq_false_iff_eq];omega
theorem hsum32_any (p:HP) (data:List UInt8) (A:Option Addr) (c B:Nat) (w:World) (hok:HOk F32 p w B) (hr:Rd w B A (bytesV data)) (hB:B≤w.heap.size) (hl:data.length≤1000) (hc:data.length≤c) :
  Calls Tryz.prog 52 #[.agg (hv F32 p),.slice A data.length c] w (HSumPost F32 32 data w):=by
 have hu:=Tryz.underlying93;obtain ⟨gf,hgf⟩:=eX (w.heap.size)
 have hst0:HsA w gf F32 p A data (.slice none 0 0) [] (w.alloc (.cells (hv F32 p) 93)):=by
  have hb:=below_new w (.cells (hv F32 p) 93);rw [hgf];exact ⟨⟨hb,Blk.new _ _ _,(hok.mono hB).below hb,(hr.mono hB).below hb⟩,OwnX.nil _ _ _ _⟩
 have d0:=hst0.st.h.cell 0;simp [hv,hC,F32] at d0;have HST0:=zY hst0;have HGF:=zY hgf;have hl':(data.length:Int)≤1000:=by omega
 clear hst0 hok hr hB hgf;go_enter Tryz.func52,Tryz.ntmps52;have HOWN0:Hid (OwnX (w.alloc (.cells (hv F32 p) 93)) (gf+1) 5 1 (.slice none 0 0) 0 []):=zY HST0.out.own
 go_wp2_with (first
  | (refine qaH (o:=⟨some 17,_,_,_,_,_⟩) sl_bytes rfl rfl HOWN0.out rfl rfl (by simp [bytesV]) HST0.out.st.rd (by intro u hu; simp [bytesV,byteV] at hu; obtain ⟨_,_,rfl⟩:=hu; rfl) (by unfold maxLen; omega) (by omega) (by have:=HST0.out.st.h.lt; omega) ?_; intro A1 c1 w1 hown1 hg1 hn1; have HOWN1:Hid (OwnX w1 (gf+1) 5 1 (.slice A1 data.length c1) data.length (bytesV data)):=zY (by simpa using hown1); have H641:Hid (gf+1≤w1.heap.size):=zY (by have:=hg1.size; have:=HGF.out; simp at *; omega); have HG1:=zY hg1; clear hown1 hg1 hn1)
  | (refine qal (o:=⟨some 20,_,_,_,_,_⟩) sl_bytes rfl rfl HOWN1.out rfl rfl rfl rfl (by unfold maxLen; omega) (by omega) H641.out ?_; intro A2 c2 w2 hown2 hg2 hn2; have hs2:HsA w gf F32 p A data (.slice A2 (data.length+1) c2) (oneZ data 0) w2:=(HST0.out.app (ys:=data) HG1.out HOWN1.out).app hg2 (by rw [qaL,oneZ_zero,qa3]; exact hown2); have d2:=hs2.st.h.cell 0; simp [hv,hC,F32] at d2; rw [HGF.out] at d2; have HST2:=zY hs2; clear hs2 hown2 hg2 hn2))
 rw [show w.heap.size=gf from HGF.out.symm] at d2 ⊢;have hzl:zeroR F32 data.length<64:=Nat.mod_lt _ (by decide);clear HST0 HOWN0 HG1 HOWN1 H641 d0 d2
 go_loopw [5] (fun v wr=>∃ (k n:Nat) (A3:Option Addr) (c3:Nat),k≤zeroR F32 data.length∧n=data.length+1+k∧v=.slice A3 n c3∧HsA w gf F32 p A data (.slice A3 n c3) (oneZ data k) wr) (fun v _=>data.length+1+zeroR F32 data.length - lenOf v)
 case atStart=>exact ⟨0,data.length+1,A2,c2,Nat.zero_le _,rfl,rfl,HST2.out⟩
 case round =>
  clear HST2;obtain ⟨k,n,A3,c3,hk,hn,rfl,hst⟩:=hrel;have hn2:n≤2000:=by omega
  have d0:=hst.st.h.cell 0;simp [hv,hC,F32] at d0
  by_cases hlt:k<zeroR F32 data.length
  ·have hne:((((n:Nat):Int)+8)%64 != 0)=true:=by rw [hn]; exact zeroR32_ne _ _ hlt
   have HO:Hid (OwnX wr (gf+1) 5 1 (.slice A3 n c3) n (bytesV (oneZ data k))):=zY (by have:=hst.own; rwa [qaL,← hn] at this);have HN:=zY hn;have HST:=zY hst;clear hn hst;go_wp2_with (refine qal (o:=⟨some 35,_,_,_,_,_⟩) sl_bytes rfl rfl HO.out rfl rfl rfl rfl (by unfold maxLen; omega) (by omega) (by have:=HST.out.st.h.lt; omega) ?_; intro A4 c4 w4 hown4 hg4 hn4; have HOWN4:=zY hown4; have HG4:=zY hg4; clear hown4 hg4 hn4);exact ⟨⟨k+1,n+1,A4,c4,hlt,by rw [HN.out]; omega,rfl,HST.out.app HG4.out (by rw [qaL,oneZ_succ,qa3,← Nat.add_assoc,← HN.out]; exact HOWN4.out)⟩,by simp only [lenOf]; have:=HN.out; omega⟩
  ·obtain rfl:k=zeroR F32 data.length:=by omega
   have hne:((((n:Nat):Int)+8)%64 != 0)=false:=by rw [hn]; exact zeroR32_eq _
   have HN:=zY hn;have HST:=zY hst;clear hn hst;go_wp2_with fail;clear hne;obtain ⟨W1,rfl⟩:∃ x:World,x=wr:=⟨_,rfl⟩;obtain ⟨gl0,hgl0⟩:=eX (W1.heap.size);have HGL:=zY hgl0;clear hgl0
   go_loopw [8,9] (fun v i wr=>∃ (k:Nat) (A4:Option Addr) (c4:Nat),k≤8∧i=.int .i64 k∧v=.slice A4 k c4∧Below gl0 W1 wr∧wr.ownsRow gl0 5 1 (.slice A4 k c4) k (bytesV (List.replicate k 0))∧gl0≤wr.heap.size) (fun _ i _=>8 - (intOf i).toNat)
   case atStart=>exact ⟨0,none,0,by omega,rfl,rfl,Below.refl _ _,World.ownsRow_nil _ _ _ _,by rw [HGL.out]; exact Nat.le_refl _⟩
   case round =>
    obtain ⟨k,A4,c4,hk,rfl,rfl,hb4,ho4,hl4⟩:=hrel
    by_cases hk8:k<8
    ·have hk8':(k:Int)<8:=by omega
     have HB4:=zY hb4;have HO4:=zY ho4;clear hb4 ho4;go_wp2_with (refine qbu sl_bytes rfl rfl HO4.out rfl rfl rfl rfl (by unfold maxLen; omega) (by omega) hl4 ?_; intro A5 c5 w5 hown5 hg5; have HOWN5:=zY hown5; have HG5:=zY hg5; clear hown5 hg5);refine ⟨⟨k+1,A5,c5,hk8,by go_num,rfl,HB4.out.grown HG5.out hl4 (fun k hk=>(own_lt HO4.out k hk).1),?_,by have:=HG5.out.size; omega⟩,by simp [intOf]; omega⟩;rw [List.replicate_succ',qa3];exact HOWN5.out
    ·obtain rfl:k=8:=by omega
     obtain ⟨gl,R,rfl,hgl,hcl,hbk⟩:=own_blk ho4 (by decide);obtain ⟨ws,hws⟩:=eX (lenB F32 data.length);have hwl:ws.length=8:=by rw [hws,lenB,List.length_append,List.length_replicate,qbc]; rfl
     have hbk0:Blk wr gl 5 (backC 8 ws 0++R):=by
      rw [qcD _ _ hwl];have e:bytesV (List.replicate 8 (0:UInt8))=List.replicate 8 (.int .u8 0):=by simp [bytesV,byteV]
      rw [e] at hbk;exact hbk
     have hget:∀ i j,i+j+1=8→(bytesV ws)[i]?=some (.int .u8 ((data.length*8/256^j%256:Nat):Int)):=fun i j h=>by rw [hws]; exact lenB32_get _ _ _ h
     have HWS:=zY hws;have HWL:=zY hwl;have HB4:=zY hb4;have HBK0:=zY hbk0;have HGET:=zY hget;clear hws hwl hb4 hbk hbk0 hget ho4;go_wp2_with fail;obtain ⟨wo2,rfl⟩:∃ x:World,x=wr:=⟨_,rfl⟩
     go_loopw [7,10] (fun v i wr=>∃ (j y:Nat),j≤8∧y=data.length*8/256^j∧v=.int .i64 y∧i=.int .i64 ((8:Int) - 1 - (j:Int))∧Below gl0 W1 wr∧Blk wr gl 5 (backC 8 ws j++R)) (fun _ i _=>(intOf i+1).toNat)
     case atStart=>exact ⟨0,data.length*8,by omega,by simp,by exact congrArg (Value.int .i64) (by omega),rfl,HB4.out,HBK0.out⟩
     case round =>
      clear HBK0;obtain ⟨j,y,hj,hy,rfl,rfl,hb5,hk5⟩:=hrel;have hyx:y≤data.length*8:=by rw [hy]; exact Nat.div_le_self _ _
      have hy64:(y:Int)≤8000:=by omega
      by_cases hlt2:j<8
      ·obtain ⟨ix,hix⟩:∃ ix:Nat,(8:Int) - 1 - (j:Int)=(ix:Int):=⟨8 - 1 - j,by omega⟩;have hix2:ix+j+1=8:=by omega
       have hval:=HGET.out ix j hix2;rw [← hy] at hval;have hset:=backC_set_app 8 ws j ix _ R HWL.out hix2 hval;obtain ⟨ov,hov⟩:=backC_app_get 8 ws j ix R HWL.out hix2;have hnx:data.length*8/256^(j+1)=y/256:=by rw [hy,Nat.pow_succ,← Nat.div_div_eq_div_mul]
       rw [hix];have dcell:=hk5.cell ix;rw [hov] at dcell;have dfree:=hk5.free ix;have hixl:(ix:Int)<8:=by omega
       have HSET:=zY hset;have HNX:=zY hnx;have HB5:=zY hb5;have HK5:=zY hk5;have HIX:=zY hix;clear hset hnx hb5 hk5 hix hix2 hval hy hov;go_wp2_with fail;refine ⟨⟨j+1,y/256,by omega,by rw [HNX.out],by go_num,by have:=HIX.out; exact congrArg (Value.int .i64) (by omega),(qam _ _ _ _).below HB5.out hgl (by have:=HB5.out.size; rw [HGL.out]; omega),?_⟩,by simp [intOf]⟩;have h:=qar (i:=ix) HK5.out (.int .u8 ((y%256:Nat):Int));rw [HSET.out] at h;exact h
      ·obtain rfl:j=8:=by omega
       rw [qdI] at hk5;have hall:HsA w gf F32 p A data (.slice A3 n c3) (oneZ data (zeroR F32 data.length)) wr:=HST.out.next (by rw [← HGL.out]; exact hb5);have HO5:Hid (OwnX wr (gf+1) 5 1 (.slice A3 n c3) n (bytesV (oneZ data (zeroR F32 data.length)))):=zY (by have:=hall.own; rwa [qaL,← HN.out] at this);have hrl:Rd wr wr.heap.size (some ⟨gl,0,none⟩) (bytesV ws):=Rd.of_blk_app hk5 hk5.lt;have HRL:=zY hrl;have HALL0:=zY hall;clear hrl hall hk5 hb5 hy HST
       go_wp2_with (first
        | (refine qaH (o:=⟨some 63,_,_,_,_,_⟩) (m:=8) sl_bytes rfl rfl HO5.out rfl rfl (by rw [qak,HWL.out]) HRL.out (by intro u hu; simp [bytesV,byteV] at hu; obtain ⟨_,_,rfl⟩:=hu; rfl) (by unfold maxLen; omega) (by omega) (by have:=HALL0.out.st.h.lt; omega) ?_; intro A5 c5 w5 hown5 hg5 hn5; have hall5:HsA w gf F32 p A data (.slice A5 (n+8) c5) (oneZ data (zeroR F32 data.length)++ws) w5:=HALL0.out.app hg5 (by rw [List.length_append,qaL,HWL.out,← HN.out,qaE]; exact hown5); have d7:=hall5.st.h.cell 7; simp [hv,hC,F32] at d7; have HALL5:=zY hall5; clear hall5 hown5 hg5 hn5)
        | (refine qaH (o:=⟨some 67,_,_,_,_,_⟩) (base:=gf+1) (n:=0) (m:=8) (v:=.slice none 0 0) (xs:=[]) qc4 rfl rfl (OwnX.nil _ _ _ _) rfl rfl rfl HALL5.out.st.ok.f (by intro u hu; simp [wordsV] at hu; obtain ⟨_,_,rfl⟩:=hu; rfl) (by unfold maxLen; omega) (by omega) (by have:=HALL5.out.st.h.lt; omega) ?_; intro A6 c6 w6 hown6 hg6 hn6; have HOWN6:=zY hown6; have HG6:=zY hg6; clear hown6 hg6 hn6))
       obtain ⟨ALL,hALL⟩:=eX (padS F32 data);obtain ⟨m,hm⟩:=eX (n+8);rw [← hm];have hall:ALL=oneZ data (zeroR F32 data.length)++ws:=by rw [hALL,HWS.out]; exact (padR32 data hl).symm
       have hal:ALL.length=m:=by rw [hall,List.length_append,qaL,HWL.out,← HN.out,hm]
       have hm4:m≤4000:=by omega
       have hsb:HsB w gf F32 p A data (.slice A5 m c5) ALL A6 c6 (runS F32 ALL 0) w6:=by
        have h5:=HALL5.out;rw [← hm,← hall] at h5;have hg6:=HG6.out;refine ⟨⟨h5.st.keep (qbe hg6 (by have:=h5.st.h.lt; omega) (by intro k hk; simp [Value.ownBlock] at hk)),h5.own.kept hg6 ?_⟩,?_⟩
        ·cases h9:(Value.slice A5 m c5).ownBlock with
         | none=>exact .inl rfl
         | some k=>exact .inr (by simp [Value.ownBlock])
        ·show OwnX w6 (gf+1) 118 1 (.slice A6 8 c6) 8 (wordsV .u64 (s8L (startS F32)))
         simpa using HOWN6.out
       obtain ⟨nb,hnb⟩:∃ nb,m=nb*64:=⟨m/64,by have:=qcI data; rw [← hALL,hal] at this; omega⟩;have hcap:m≤c5∧c5≤9223372036854775807:=own_cap (show OwnX w6 (gf+1) 5 1 (.slice A5 m c5) m (bytesV ALL) by have:=hsb.a.own; rwa [hal] at this);obtain ⟨hcap1,hcap2⟩:=hcap;have HALL:=zY hALL;have HAL:=zY hal;have HSB:=zY hsb;have HNB:=zY hnb;clear hALL hm hall hal hsb hnb HALL5 HOWN6 HG6 HALL0 HO5 HRL d7 d0
       go_loopw [11,12] (fun v i wr=>∃ (j a:Nat) (A7:Option Addr) (c7:Nat),j≤nb∧a=j*64∧i=.int .i64 (a:Int)∧v=.slice A7 8 c7∧HsB w gf F32 p A data (.slice A5 m c5) ALL A7 c7 (runS F32 ALL j) wr) (fun _ i _=>m - (intOf i).toNat)
       case atStart=>exact ⟨0,0,A6,c6,by omega,rfl,rfl,rfl,HSB.out⟩
       case round =>
        clear HSB;obtain ⟨j,a,A7,c7,hj,ha,rfl,rfl,hsj⟩:=hrel
        by_cases hjn:j<nb
        ·have ham:a+64≤m:=by rw [HNB.out,ha]; omega
         have hlt3:a<m:=by omega
         have hle1:a+64≤c5:=by omega
         have hla:OwnX wr (gf+1) 5 1 (.slice A5 m c5) m (bytesV ALL):=by have:=hsj.a.own; rwa [HAL.out] at this
         obtain ⟨g5,hg5,_,_⟩:=hla.ptr (by omega);subst hg5;obtain ⟨bk,hbk⟩:=eX ((ALL.drop a).take 64);have hbl:bk.length=64:=by rw [hbk]; simp; rw [HAL.out]; omega
         obtain ⟨sj,hsj2⟩:=eX (runS F32 ALL j);have hsl:sj.Lt (2^32):=by rw [hsj2]; exact runS_lt F32 ALL j
         have hs1:runS F32 ALL (j+1)=mixS F32 sj bk:=by rw [hsj2,hbk,ha]; rfl
         rw [← hsj2] at hsj
         have HRB:Hid (∀ u,HsB w gf F32 p A data (.slice (some ⟨g5,0,none⟩) m c5) ALL A7 c7 sj u→Rd u u.heap.size (some ⟨g5,a,none⟩) (bytesV bk)):=zY fun u hu=>by
          have h1:OwnX u (gf+1) 5 1 (.slice (some ⟨g5,0,none⟩) m c5) m (bytesV ALL):=by have:=hu.a.own; rwa [HAL.out] at this
          have h2:=rd_take (rd_drop (Rd.of_own h1 (Nat.le_refl _)) a) 64;rw [Addr.add_lit,Nat.zero_add] at h2;rw [hbk,bytesV,List.map_take,List.map_drop];exact h2
         have HBL:=zY hbl;have HSL:=zY hsl;have HS1:=zY hs1;have HA:=zY ha;have d0:=hsj.a.st.h.cell 0;simp [hv,hC,F32] at d0;have HC0:=hsj.drew;have D0:=zY d0;have HSJ:=zY hsj;clear hbl hsl hs1 hbk hsj2 ha hla hsj d0;go_wp2_with fail;clear HSJ;refine qbl (fun u=>HsB w gf F32 p A data (.slice (some ⟨g5,0,none⟩) m c5) ALL A7 c7 sj u) (fun _=>false) 10 [(0,some 77),(1,some 78),(2,some 79),(3,some 80),(4,some 81),(5,some 82),(6,some 83),(7,some 84),(8,some 85),(9,some 86),(10,some 87),(11,some 11)] (by kernel_rfl) (by kernel_rfl) (by decide) (by kernel_rfl) (fun _=>rfl) HC0 ?_;apply DetQ.next
         ·apply dQ;apply dP [];exact fun _=>rfl;rfl;rintro vals - w1 hC1 E hE;simp only [sP] at hE ⊢;refine qad hC1.a.st.h rfl rfl rfl hu rfl qaV ?_;go_wp2_with fail;exact .mk (hE _ hC1)
         apply DetQ.next
         ·apply dQ;apply dP [];exact fun _=>rfl;rfl;rintro vals ⟨-,-⟩ w1 hC1 E hE;simp only [sP] at hE ⊢;go_wp2;exact .mk (hE _ hC1)
         apply DetQ.next
         ·apply dQ;apply dP [];exact fun _=>rfl;rfl;intro vals vq w1 hC1 E hE;clear vq;simp only [sP] at hE ⊢;go_wp2;exact .mk (hE _ hC1)
         apply DetQ.next
         ·apply dQ;apply dP [];exact fun _=>rfl;rfl;intro vals vq w1 hC1 E hE;clear vq;simp only [sP] at hE ⊢;go_wp2;exact .mk (hE _ hC1)
         apply DetQ.next
         ·apply dQ;apply dP [];exact fun _=>rfl;rfl;intro vals vq w1 hC1 E hE;clear vq;simp only [sP] at hE ⊢;go_wp2;exact .mk (hE _ hC1)
         apply DetQ.next
         ·apply dQ;apply dP [];exact fun _=>rfl;rfl;intro vals vq w1 hC1 E hE;clear vq;simp only [sP] at hE ⊢;go_wp2;exact .mk (hE _ hC1)
         apply DetQ.next
         ·apply dQ;apply dP [(5,some 82)];exact fun _=>rfl;rfl;intro vals vq w1 hC1 E hE;have d0:=hC1.a.st.h.cell 0;simp [hv,hC,F32] at d0;simp only [sP,vq] at hE ⊢;clear vq;go_wp2;exact .mk (hE _ hC1)
         apply DetQ.next
         ·apply dQ;apply dP [(6,some 83)];exact fun _=>rfl;rfl;intro vals vq w1 hC1 E hE;simp only [sP,vq] at hE ⊢;clear vq;go_wp2;exact .mk (hE _ hC1)
         apply DetQ.next
         ·apply dQ;apply dP [(4,some 81),(7,some 84)];exact fun _=>rfl;rfl;intro vals vq w1 hC1 E hE;simp only [sP,vq] at hE ⊢;clear vq;go_wp2;exact .mk (hE _ hC1)
         apply DetQ.next
         ·apply dQ;apply dP [(2,some 79),(3,some 80),(8,some 85)];exact fun _=>rfl;rfl;intro vals vq w1 hC1 E hE;simp only [sP,vq] at hE ⊢;clear vq;go_wp2;rw [show a+64 - a=64 by omega];exact .mk (hE _ hC1)
         apply DetQ.done;rintro vals ⟨⟨⟨⟨⟨⟨⟨⟨⟨⟨-,f0⟩,f1⟩,f2⟩,f3⟩,f4⟩,f5⟩,f6⟩,f7⟩,f8⟩,f9⟩ w1 hC1;refine qbn [(0,some 77),(1,some 78),(9,some 86)] (fun _=>rfl) rfl ?_;intro E hE;simp only [sP,f0,f1,f9] at hE ⊢;go_wp2_with fail;have hmx:=block32_any p sj bk (some ⟨g5,a,none⟩) A7 (c5 - a) c7 w1.heap.size w1 (hC1.a.st.ok.mono (by have:=hC1.a.st.h.lt; omega)) (Nat.le_refl _) (HRB.out _ hC1) (Rd.of_own hC1.s (Nat.le_refl _)) HBL.out (by rw [HBL.out]; omega) hC1.s.le_cap HSL.out;rw [HBL.out] at hmx;refine qaa hmx ?_;rintro e w2 ⟨A8,c8,rfl,hown8,hb8⟩;go_wp2_with fail;refine .mk (hE _ _ ?_);clear hE E;generalize hval:upd _ 10 _=vals10;replace f0:=uP hval (by decide) f0;replace f1:=uP hval (by decide) f1;replace f2:=uP hval (by decide) f2;replace f3:=uP hval (by decide) f3;replace f4:=uP hval (by decide) f4;replace f5:=uP hval (by decide) f5;replace f6:=uP hval (by decide) f6;replace f7:=uP hval (by decide) f7;replace f8:=uP hval (by decide) f8;replace f9:=uP hval (by decide) f9;have f10:=(congrFun hval 10).symm.trans (qaM _ _ _);clear hval;refine qbn [(10,some 87),(10,some 87),(0,some 77),(1,some 78),(2,some 79),(3,some 80),(4,some 81),(5,some 82),(6,some 83),(7,some 84),(8,some 85),(9,some 86),(10,some 87)] (fun _=>rfl) rfl ?_;intro E hE;simp only [sP,f0,f1,f2,f3,f4,f5,f6,f7,f8,f9,f10] at hE ⊢;go_wp2;refine .mk (hE _ _ ?_);clear hE E;generalize hval:upd _ 11 _=vals11;replace f0:=uP hval (by decide) f0;replace f1:=uP hval (by decide) f1;replace f2:=uP hval (by decide) f2;replace f3:=uP hval (by decide) f3;replace f4:=uP hval (by decide) f4;replace f5:=uP hval (by decide) f5;replace f6:=uP hval (by decide) f6;replace f7:=uP hval (by decide) f7;replace f8:=uP hval (by decide) f8;replace f9:=uP hval (by decide) f9;replace f10:=uP hval (by decide) f10;have f11:=(congrFun hval 11).symm.trans (qaM _ _ _);clear hval;refine tail_end ?_;simp only [sP,f0,f1,f2,f3,f4,f5,f6,f7,f8,f9,f10,f11];clear f0 f1 f2 f3 f4 f5 f6 f7 f8 f9 f10 f11
         have hfin:HsB w gf F32 p A data (.slice (some ⟨g5,0,none⟩) m c5) ALL A8 c8 (runS F32 ALL (j+1)) w2:=by
          rw [HS1.out];exact ⟨hC1.a.next hb8,hown8.mono (by have:=hC1.a.st.h.lt; omega)⟩
         have d0:=hfin.a.st.h.cell 0;simp [hv,hC,F32] at d0;have HFIN:=zY hfin;clear hfin hC1 HC0 hown8 hb8;go_wp2_with fail;exact ⟨⟨j+1,a+64,A8,c8,hjn,by rw [HA.out]; omega,by go_num,rfl,HFIN.out⟩,by simp [intOf]; omega⟩
        ·obtain rfl:j=nb:=by omega
         have hge:¬ a<m:=by rw [HNB.out,ha]; omega
         obtain ⟨sv,hsv⟩:=eX (runS F32 ALL j);have hsl:sv.Lt (2^32):=by rw [hsv]; exact runS_lt F32 ALL j
         rw [← hsv] at hsj;obtain ⟨g7,rfl,_,_⟩:=hsj.s.ptr (by decide);have hc7:=hsj.s.le_cap;have hso:HsB w gf F32 p A data (.slice none 0 0) (outW 32 4 sv 0) (some ⟨g7,0,none⟩) c7 sv wr:=⟨⟨hsj.a.st,OwnX.nil _ _ _ _⟩,hsj.s⟩;have HSV:=zY hsv;have HSL:=zY hsl;have HSO:=zY hso;have HA:=zY ha;clear hsv hsl hso hsj ha;go_wp2_with fail;obtain ⟨wo5,rfl⟩:∃ x:World,x=wr:=⟨_,rfl⟩
         go_loopw [13,14] (fun v i wr=>∃ (k q:Nat) (A8:Option Addr) (c8:Nat),k≤8∧q=k*4∧i=.int .i64 k∧v=.slice A8 q c8∧HsB w gf F32 p A data (.slice A8 q c8) (outW 32 4 sv k) (some ⟨g7,0,none⟩) c7 sv wr) (fun _ i _=>8 - (intOf i).toNat)
         case atStart=>exact ⟨0,0,none,0,by omega,by omega,rfl,rfl,HSO.out⟩
         case round =>
          clear HSO;obtain ⟨k,q,A8,c8,hk,hq,rfl,rfl,hso⟩:=hrel
          by_cases hk8:k<8
          ·have hk8':(k:Int)<8:=by omega
           obtain ⟨x,hx⟩:=eX ((s8L sv).getD k 0);have hxl:x<2^32:=by rw [hx]; exact s8L_lt HSL.out (by decide) k
           have ex:(wordsV .u64 (s8L sv))[k]?=some (.int .u64 (x:Int)):=by rw [hx]; exact qbW _ _ _ (show k<8 from hk8)
           have hol:(outW 32 4 sv k).length=q:=by rw [qbp _ _ _ _ hk,hq]
           have hnx:outW 32 4 sv (k+1)=outW 32 4 sv k++wordB 32 x 4:=by rw [outW_succ _ _ _ _ hk8,hx]
           obtain ⟨XS,hXS⟩:=eX (outW 32 4 sv k);rw [← hXS] at hol hnx hso;have HXL:=zY hxl;have EX:=zY ex;have HOL:=zY hol;have HNX:=zY hnx;have HQ:=zY hq;have hq9:q≤64:=by omega
           have HC0:=hso.drew;clear hx hxl ex hol hnx hXS hq hso;go_wp2_with fail;refine qbm (fun u=>HsB w gf F32 p A data (.slice A8 q c8) XS (some ⟨g7,0,none⟩) c7 sv u) (fun i=>i == 0) 6 7 [(0,some 92),(1,some 93),(2,some 94),(3,some 95),(4,some 96),(5,some 97),(6,some 98),(7,some 99),(8,some 13)] (by kernel_rfl) (by kernel_rfl) (by decide) (by kernel_rfl) (fun _=>rfl) HC0 (fun _ _ hb h=>h.next hb) (by decide) ?_;apply DetR.next
           ·apply qa9 [];exact fun _=>rfl;rfl;rintro vals - w1 hC1 E hE;simp only [sP] at hE ⊢;go_wp2;exact .mk hE
           apply DetR.next
           ·apply qaw;apply dP [];exact fun _=>rfl;rfl;rintro vals ⟨-,-⟩ w1 hC1 E hE;simp only [sP] at hE ⊢;refine qad hC1.a.st.h rfl rfl rfl hu rfl qaV ?_;go_wp2_with fail;exact .mk (hE _ hC1)
           apply DetR.next
           ·apply qaw;apply dP [];exact fun _=>rfl;rfl;intro vals vq w1 hC1 E hE;clear vq;simp only [sP] at hE ⊢;go_wp2;exact .mk (hE _ hC1)
           apply DetR.next
           ·apply qaw;apply dP [];exact fun _=>rfl;rfl;intro vals vq w1 hC1 E hE;clear vq;simp only [sP] at hE ⊢;go_wp2;exact .mk (hE _ hC1)
           apply DetR.next
           ·apply qaw;apply dP [(2,some 94),(3,some 95)];exact fun _=>rfl;rfl;intro vals vq w1 hC1 E hE;simp only [sP,vq] at hE ⊢;clear vq;go_wp2;exact .mk (hE _ hC1)
           apply DetR.next
           ·apply qaw;apply dP [(4,some 96)];exact fun _=>rfl;rfl;intro vals vq w1 hC1 E hE;have d0:=hC1.s.atN EX.out;simp only [sP,vq] at hE ⊢;clear vq;go_wp2;exact .mk (hE _ hC1)
           apply DetR.done;rintro vals ⟨⟨⟨⟨⟨⟨-,f0⟩,f1⟩,f2⟩,f3⟩,f4⟩,f5⟩ w1 hC1;refine qaQ [(1,some 93),(5,some 97)] (fun _=>rfl) rfl ?_;intro E hE;simp only [sP,f1,f5] at hE ⊢;go_wp2_with fail;have hct:=bytes_any 32 64 (.slice (some p.a) 3 p.ca) (.slice (some p.b) 3 p.cb) (.slice (some p.c) 3 p.cc) (.slice (some p.d) 3 p.cd) (.slice (some p.k) 64 p.ck) (.slice (some p.f) 8 p.cf) w1 (.inl rfl) x HXL.out;refine qaa hct ?_;rintro e w2 ⟨g9,he9,hg9,hb9,hbel9⟩;have he9':e=.returned (.slice (some ⟨g9,0,none⟩) 4 4):=he9;clear he9;subst he9';have hb9':Blk w2 g9 5 (bytesV (wordB 32 x 4)).toArray:=hb9;clear hb9;go_wp2_with fail;refine .mk (hE _ _ (fun _=>hbel9) ?_);clear hE E;generalize hval:upd _ 6 _=vals6;replace f0:=uP hval (by decide) f0;replace f1:=uP hval (by decide) f1;replace f2:=uP hval (by decide) f2;replace f3:=uP hval (by decide) f3;replace f4:=uP hval (by decide) f4;replace f5:=uP hval (by decide) f5;have f6:=(congrFun hval 6).symm.trans (qaM _ _ _);clear hval;refine qaQ [(0,some 92),(6,some 98),(6,some 98)] (fun _=>rfl) rfl ?_;intro E hE;simp only [sP,f0,f6] at hE ⊢;refine qaH (m:=4) sl_bytes rfl rfl (show OwnX w2 (gf+1) 5 1 (.slice A8 q c8) q (bytesV XS) by have:=(hC1.next hbel9).a.own; rwa [HOL.out] at this) rfl rfl (by rw [qak,wordB_length]) (Rd.of_blk hb9' hb9'.lt) (by intro u hu; simp [bytesV,byteV] at hu; obtain ⟨_,_,rfl⟩:=hu; rfl) (by unfold maxLen; omega) (by omega) (by have:=(hC1.next hbel9).a.st.h.lt; omega) ?_;intro A9 c9 w9 hown9 hg9' hn9;have hap:=(hC1.next hbel9).app (ys:=XS++wordB 32 x 4) hg9' (by rw [List.length_append,HOL.out,wordB_length,qaE]; exact hown9);have HAP:=zY hap;clear hap hown9 hg9' hn9 hb9';go_wp2_with fail;refine .mk (hE _ _ (fun h=>absurd h (by decide)) ?_);clear hE E;generalize hval:upd _ 7 _=vals7;replace f0:=uP hval (by decide) f0;replace f1:=uP hval (by decide) f1;replace f2:=uP hval (by decide) f2;replace f3:=uP hval (by decide) f3;replace f4:=uP hval (by decide) f4;replace f5:=uP hval (by decide) f5;replace f6:=uP hval (by decide) f6;have f7:=(congrFun hval 7).symm.trans (qaM _ _ _);clear hval;refine qaQ [(7,some 99),(7,some 99),(0,some 92),(1,some 93),(2,some 94),(3,some 95),(4,some 96),(5,some 97),(6,some 98),(7,some 99)] (fun _=>rfl) rfl ?_;intro E hE;simp only [sP,f0,f1,f2,f3,f4,f5,f6,f7] at hE ⊢;go_wp2;refine .mk (hE _ _ (fun h=>absurd h (by decide)) ?_);clear hE E;generalize hval:upd _ 8 _=vals8;replace f0:=uP hval (by decide) f0;replace f1:=uP hval (by decide) f1;replace f2:=uP hval (by decide) f2;replace f3:=uP hval (by decide) f3;replace f4:=uP hval (by decide) f4;replace f5:=uP hval (by decide) f5;replace f6:=uP hval (by decide) f6;replace f7:=uP hval (by decide) f7;have f8:=(congrFun hval 8).symm.trans (qaM _ _ _);clear hval;refine qc1 ?_;simp only [sP,f0,f1,f2,f3,f4,f5,f6,f7,f8];clear f0 f1 f2 f3 f4 f5 f6 f7 f8;clear HC0 hC1 hbel9;go_wp2_with fail;refine ⟨⟨k+1,q+4,A9,c9,by omega,by rw [HQ.out]; omega,by go_num,rfl,?_⟩,by simp [intOf]; omega⟩;rw [HNX.out];exact HAP.out
          ·obtain rfl:k=8:=by omega
           obtain rfl:q=8*4:=hq;have HSO:=zY hso;clear hso;go_wp2_with fail;go_ret;refine ⟨A8,c8,rfl,?_,by rw [← HGF.out]; exact HSO.out.a.st.bel⟩;have h:=HSO.out.a.own;rw [qbp _ _ _ _ (by omega)] at h
           have hd:outW 32 4 sv 8=digS F32 data:=by
            rw [HSV.out,digS,← HALL.out,HAL.out,HNB.out];show _=(s8L (runS F32 ALL (j*64/64))).flatMap _;rw [Nat.mul_div_cancel _ (by decide)];rfl
           rw [← hd,← HGF.out];exact h.mono (by omega)
theorem Blk.newAt {w:World} {n:Nat} {t:TypeId} {cs:Array Value} (h:w.heap.size=n):Blk (w.alloc (.cells cs t)) n t cs:=h▸Blk.new w t cs
def zH:Array Value:=#[.int .i64 0,.int .i64 0,.slice none 0 0,.slice none 0 0,.slice none 0 0,.slice none 0 0,.slice none 0 0,.slice none 0 0]
theorem kL_take (F:ShaF) (n:Nat) (h:n<F.many):(kL F).take (n+1)=(kL F).take n++[stepsN.getD n 0/2^(64 - F.bits)%2^F.bits]:=by
 have hl:n<(kL F).length:=by rw [qbA]; exact h
 rw [List.take_succ_eq_append_getElem hl];have:=kL_get F n h;rw [List.getElem?_eq_getElem hl] at this;rw [Option.some.inj this];rfl
theorem start_take (F:ShaF) (n:Nat) (h:n<8):(s8L (startS F)).take (n+1)=(s8L (startS F)).take n++[firstN.getD n 0/2^(64 - F.bits)%2^F.bits]:=by
 rw [s8_take _ _ h,startS_at _ _ h]
def csV (bits many ga gb gc gd:Nat) (vK vF:Value):Array Value:=hC bits many (.slice (some ⟨ga,0,none⟩) 3 3) (.slice (some ⟨gb,0,none⟩) 3 3) (.slice (some ⟨gc,0,none⟩) 3 3) (.slice (some ⟨gd,0,none⟩) 3 3) vK vF
theorem of32_any (w:World):Calls Tryz.prog 51 #[.int .i64 32] w (OfPost F32 w):=by
 have hu:=Tryz.underlying93;obtain ⟨g0,hg0⟩:=eX (w.heap.size);go_enter Tryz.func51,Tryz.ntmps51;go_wp2_with fail;obtain ⟨gh,hgh⟩:=eX (w.heap.size+1+1+1+1+1);obtain ⟨ga,hga⟩:=eX (w.heap.size+1+1+1+1+1+1);obtain ⟨gb,hgb⟩:=eX (w.heap.size+1+1+1+1+1+1+1);obtain ⟨gc,hgc⟩:=eX (w.heap.size+1+1+1+1+1+1+1+1);obtain ⟨gd,hgd⟩:=eX (w.heap.size+1+1+1+1+1+1+1+1+1);have hd:ga≠gh∧gb≠gh∧gc≠gh∧gd≠gh:=by omega
 have hlt:g0<gh∧g0<ga∧g0<gb∧g0<gc∧g0<gd:=by omega
 refine qaa (primes_any _) ?_;rintro e wp ⟨P,pc,rfl,hown,hbel⟩;have B0:=(((((((((((Blk.newAt (n:=w.heap.size) (t:=93) (cs:=zH) (by simp)).alloc _).alloc _).alloc _).alloc _).alloc _).alloc _).alloc _).alloc _).alloc _)).below hbel (by simp <;> omega);have Bh:=((((((Blk.newAt (n:=w.heap.size+1+1+1+1+1) (t:=93) (cs:=#[.int .i64 32,.int .i64 64,.slice (some ⟨w.heap.size+1+1+1+1+1+1,0,none⟩) 3 3,.slice (some ⟨w.heap.size+1+1+1+1+1+1+1,0,none⟩) 3 3,.slice (some ⟨w.heap.size+1+1+1+1+1+1+1+1,0,none⟩) 3 3,.slice (some ⟨w.heap.size+1+1+1+1+1+1+1+1+1,0,none⟩) 3 3,.slice none 0 0,.slice none 0 0]) (by simp)).alloc _).alloc _).alloc _).alloc _)).below hbel (by simp <;> omega);have Ba:=(((((Blk.newAt (n:=w.heap.size+1+1+1+1+1+1) (t:=3) (cs:=(tri F32.s0).toArray) (by simp)).alloc _).alloc _).alloc _)).below hbel (by simp <;> omega);have Bb:=((((Blk.newAt (n:=w.heap.size+1+1+1+1+1+1+1) (t:=3) (cs:=(tri F32.s1).toArray) (by simp)).alloc _).alloc _)).below hbel (by simp <;> omega);have Bc:=(((Blk.newAt (n:=w.heap.size+1+1+1+1+1+1+1+1) (t:=3) (cs:=(tri F32.t0).toArray) (by simp)).alloc _)).below hbel (by simp <;> omega);have Bd:=((Blk.newAt (n:=w.heap.size+1+1+1+1+1+1+1+1+1) (t:=3) (cs:=(tri F32.t1).toArray) (by simp))).below hbel (by simp <;> omega);have hbl:=(((((((((((below_new w _).alloc (by simp; try omega) _).alloc (by simp; try omega) _).alloc (by simp; try omega) _).alloc (by simp; try omega) _).alloc (by simp; try omega) _).alloc (by simp; try omega) _).alloc (by simp; try omega) _).alloc (by simp; try omega) _).alloc (by simp; try omega) _):Below w.heap.size w _).trans (hbel.mono (by simp <;> omega));have hown':=hown.mono (show w.heap.size≤_ by simp <;> omega);rw [← hgd,← hgc,← hgb,← hga,← hgh] at Bh ⊢;rw [← hg0] at B0 hbl hown' ⊢;rw [← hga] at Ba;rw [← hgb] at Bb;rw [← hgc] at Bc;rw [← hgd] at Bd;obtain ⟨gp,rfl,hgp1,hgp2⟩:=hown'.ptr (by decide);have hpc:=hown'.le_cap
 have hst0:OfSt w ⟨g0,gh,ga,gb,gc,gd⟩ F32 zH (.slice (some ⟨gp,0,none⟩) 80 pc) (csV 32 64 ga gb gc gd (.slice none 0 0) (.slice none 0 0)) (.slice none 0 0) ((kL F32).take 0) (.slice none 0 0) [] wp :=
  ⟨hbl,B0,Bh,Ba,Bb,Bc,Bd,hown',OwnX.nil _ _ _ _,OwnX.nil _ _ _ _,.inl rfl,hlt.1⟩
 have HD:=zY hd;have HLT:=zY hlt;have HG0:=zY hg0;have HST0:=zY hst0;clear B0 Bh Ba Bb Bc Bd hbl hown' hown hbel hd hlt hgp1 hgp2 hgh hga hgb hgc hgd hg0 hst0;go_wp2_with fail
 go_loopw [5] (fun i wr=>∃ (n:Nat) (A:Option Addr) (c:Nat),n≤64∧i=.int .i64 n∧OfSt w ⟨g0,gh,ga,gb,gc,gd⟩ F32 zH (.slice (some ⟨gp,0,none⟩) 80 pc) (csV 32 64 ga gb gc gd (.slice A n c) (.slice none 0 0)) (.slice A n c) ((kL F32).take n) (.slice none 0 0) [] wr) (fun i _=>64 - (intOf i).toNat)
 case atStart=>exact ⟨0,none,0,by omega,rfl,HST0.out⟩
 case round =>
  clear HST0;obtain ⟨n,A,c,hn,rfl,hst⟩:=hrel;have d1:=hst.h.cell 1;simp [csV,hC] at d1
  by_cases hnl:n<64
  ·have hnl':(n:Int)<64:=by omega
   obtain ⟨L,hL⟩:=eX ((kL F32).take n);have hLl:L.length=n:=by rw [hL,List.length_take,qbA,show F32.many=64 from rfl]; omega
   obtain ⟨pn,hpn⟩:=eX (primes80.getD n 0);have hpl:pn<65536:=by rw [hpn]; exact prime_lt n (by omega)
   have hrt:rootN pn 3=stepsN.getD n 0:=by rw [hpn]; exact rootN3 n (by omega)
   obtain ⟨rt,hrt2⟩:=eX (rootN pn 3);have hrl:rt<18446744073709551616:=by rw [hrt2,rootN]; exact Nat.mod_lt _ (by decide)
   obtain ⟨kn,hkn⟩:=eX (rt/2^(64 - 32)%2^32)
   have hnx:(kL F32).take (n+1)=L++[kn]:=by
    rw [hkn,hrt2,hrt,hL];exact kL_take F32 n hnl
   have ep:(wordsV .i64 primes80)[n]?=some (.int .i64 (pn:Int)):=by rw [hpn]; exact qaz (show n<80 by omega)
   rw [← hL] at hst;have HL:=zY hLl;have HPL:=zY hpl;have HRT:=zY hrt2;have HRL:=zY hrl;have HKN:=zY hkn;have HNX:=zY hnx;have EP:=zY ep;have hn80:n<80:=by omega
   have HC0:=hst.drew;have HST1:=zY hst;clear hL hLl hpn hpl hrt hrt2 hrl hkn hnx ep hst;go_wp2_with fail;clear HST1 d1;refine qbm (fun u=>OfSt w ⟨g0,gh,ga,gb,gc,gd⟩ F32 zH (.slice (some ⟨gp,0,none⟩) 80 pc) (csV 32 64 ga gb gc gd (.slice A n c) (.slice none 0 0)) (.slice A n c) L (.slice none 0 0) [] u) (fun i=>i == 0 || i == 1) 9 10 [(0,some 26),(1,some 27),(2,some 28),(3,some 29),(4,some 30),(5,some 31),(6,some 32),(7,some 33),(8,some 34),(9,some 35),(10,some 36),(11,some 37),(12,none)] (by kernel_rfl) (by kernel_rfl) (by decide) (by kernel_rfl) (fun _=>rfl) HC0 (fun _ _ hb h=>h.next hb) (by decide) ?_;apply DetR.next
   ·apply qa9 [];exact fun _=>rfl;rfl;rintro vals - w1 hC1 E hE;simp only [sP] at hE ⊢;go_wp2;exact .mk hE
   apply DetR.next
   ·apply qa9 [(0,some 26)];exact fun _=>rfl;rfl;intro vals vq w1 hC1 E hE;have d0:=hC1.h.cell 6;simp [csV,hC] at d0;simp only [sP,vq] at hE ⊢;clear vq;go_wp2;exact .mk hE
   apply DetR.next
   ·apply qaw;apply dP [];exact fun _=>rfl;rfl;intro vals vq w1 hC1 E hE;clear vq;simp only [sP] at hE ⊢;refine qad hC1.h rfl rfl rfl hu rfl qaV ?_;go_wp2_with fail;exact .mk (hE _ hC1)
   apply DetR.next
   ·apply qaw;apply dP [];exact fun _=>rfl;rfl;intro vals vq w1 hC1 E hE;clear vq;simp only [sP] at hE ⊢;go_wp2;exact .mk (hE _ hC1)
   apply DetR.next
   ·apply qaw;apply dP [];exact fun _=>rfl;rfl;intro vals vq w1 hC1 E hE;clear vq;simp only [sP] at hE ⊢;go_wp2;exact .mk (hE _ hC1)
   apply DetR.next
   ·apply qaw;apply dP [(3,some 29),(4,some 30)];exact fun _=>rfl;rfl;intro vals vq w1 hC1 E hE;simp only [sP,vq] at hE ⊢;clear vq;go_wp2;exact .mk (hE _ hC1)
   apply DetR.next
   ·apply qaw;apply dP [(5,some 31)];exact fun _=>rfl;rfl;intro vals vq w1 hC1 E hE;have d0:=hC1.p.atN EP.out;simp only [sP,vq] at hE ⊢;clear vq;go_wp2;exact .mk (hE _ hC1)
   apply DetR.next
   ·apply qaw;apply dP [(6,some 32)];exact fun _=>rfl;rfl;intro vals vq w1 hC1 E hE;simp only [sP,vq] at hE ⊢;clear vq;go_wp2_with fail;refine qaa (root3_any pn _ HPL.out) ?_;rintro e w2 ⟨rfl,hb2⟩;rw [← HRT.out];go_wp2_with fail;exact .mk (hE _ (hC1.next hb2))
   apply DetR.next
   ·apply qaw;apply dP [(2,some 28),(7,some 33),(7,some 33)];exact fun _=>rfl;rfl;intro vals vq w1 hC1 E hE;simp only [sP,vq] at hE ⊢;clear vq;go_wp2_with fail;refine qaa (top_any 32 64 _ _ _ _ _ _ _ (.inl rfl) rt HRL.out) ?_;rintro e w2 ⟨rfl,hb2⟩;rw [← HKN.out];go_wp2_with fail;exact .mk (hE _ (hC1.next hb2))
   apply DetR.done;rintro vals ⟨⟨⟨⟨⟨⟨⟨⟨⟨-,f0⟩,f1⟩,f2⟩,f3⟩,f4⟩,f5⟩,f6⟩,f7⟩,f8⟩ w1 hC1;refine qaQ [(8,some 34)] (fun _=>rfl) rfl ?_;intro E hE;simp only [sP,f8] at hE ⊢;go_wp2;refine .mk (hE _ _ (fun _=>below_new _ _) ?_);clear hE E;generalize hval:upd _ 9 _=vals9;replace f0:=uP hval (by decide) f0;replace f1:=uP hval (by decide) f1;replace f2:=uP hval (by decide) f2;replace f3:=uP hval (by decide) f3;replace f4:=uP hval (by decide) f4;replace f5:=uP hval (by decide) f5;replace f6:=uP hval (by decide) f6;replace f7:=uP hval (by decide) f7;replace f8:=uP hval (by decide) f8;have f9:=(congrFun hval 9).symm.trans (qaM _ _ _);clear hval;refine qaQ [(1,some 27),(9,some 35),(8,some 34)] (fun _=>rfl) rfl ?_;intro E hE;simp only [sP,f1,f8,f9] at hE ⊢;refine qal qc4 rfl rfl (show OwnX w1 g0 118 1 (.slice A n c) n (wordsV .u64 L) by have:=hC1.k; rwa [HL.out] at this) rfl rfl rfl rfl (by unfold maxLen; omega) (by omega) (by have:=hC1.res.lt; dsimp only at this; omega) ?_;intro A6 c6 w6 hown6 hg6 hn6;have hap:=hC1.appK (v':=.slice A6 (n+1) c6) (x:=kn) (by rw [HL.out]; exact hown6) hg6 (rfl);have HAP:=zY hap;clear hap hown6 hg6 hn6;go_wp2_with fail;refine .mk (hE _ _ (fun h=>absurd h (by decide)) ?_);clear hE E;generalize hval:upd _ 10 _=vals10;replace f0:=uP hval (by decide) f0;replace f1:=uP hval (by decide) f1;replace f2:=uP hval (by decide) f2;replace f3:=uP hval (by decide) f3;replace f4:=uP hval (by decide) f4;replace f5:=uP hval (by decide) f5;replace f6:=uP hval (by decide) f6;replace f7:=uP hval (by decide) f7;replace f8:=uP hval (by decide) f8;replace f9:=uP hval (by decide) f9;have f10:=(congrFun hval 10).symm.trans (qaM _ _ _);clear hval;refine qaQ [(0,some 26),(1,some 27),(2,some 28),(3,some 29),(4,some 30),(5,some 31),(6,some 32),(7,some 33),(8,some 34),(9,some 35),(10,some 36)] (fun _=>rfl) rfl ?_;intro E hE;simp only [sP,f0,f1,f2,f3,f4,f5,f6,f7,f8,f9,f10] at hE ⊢;go_wp2;refine .mk (hE _ _ (fun h=>absurd h (by decide)) ?_);clear hE E;generalize hval:upd _ 11 _=vals11;replace f0:=uP hval (by decide) f0;replace f1:=uP hval (by decide) f1;replace f2:=uP hval (by decide) f2;replace f3:=uP hval (by decide) f3;replace f4:=uP hval (by decide) f4;replace f5:=uP hval (by decide) f5;replace f6:=uP hval (by decide) f6;replace f7:=uP hval (by decide) f7;replace f8:=uP hval (by decide) f8;replace f9:=uP hval (by decide) f9;replace f10:=uP hval (by decide) f10;have f11:=(congrFun hval 11).symm.trans (qaM _ _ _);clear hval;refine qaQ [(11,some 37),(10,some 36),(10,some 36),(0,some 26),(1,some 27),(2,some 28),(3,some 29),(4,some 30),(5,some 31),(6,some 32),(7,some 33),(8,some 34),(9,some 35),(10,some 36)] (fun _=>rfl) rfl ?_;intro E hE;simp only [sP,f0,f1,f2,f3,f4,f5,f6,f7,f8,f9,f10,f11] at hE ⊢;refine qag (i:=6) (v:=.slice A6 (n+1) c6) HAP.out.h rfl rfl rfl rfl slu_size (show 6<8 by decide) rfl ?_;intro w7 hb7 hw7;have HFIN:=zY (HAP.out.put hw7 hb7 HD.out);clear hb7 hw7;go_wp2_with fail;refine .mk (hE undef _ (fun h=>absurd h (by decide)) ?_);clear hE E;generalize hval:upd _ 12 _=vals12;replace f0:=uP hval (by decide) f0;replace f1:=uP hval (by decide) f1;replace f2:=uP hval (by decide) f2;replace f3:=uP hval (by decide) f3;replace f4:=uP hval (by decide) f4;replace f5:=uP hval (by decide) f5;replace f6:=uP hval (by decide) f6;replace f7:=uP hval (by decide) f7;replace f8:=uP hval (by decide) f8;replace f9:=uP hval (by decide) f9;replace f10:=uP hval (by decide) f10;replace f11:=uP hval (by decide) f11;have f12:=(congrFun hval 12).symm.trans (qaM _ _ _);clear hval;refine qc1 ?_;simp only [sP,f0,f1,f2,f3,f4,f5,f6,f7,f8,f9,f10,f11,f12];clear f0 f1 f2 f3 f4 f5 f6 f7 f8 f9 f10 f11 f12;clear HC0 HAP hC1;go_wp2_with fail;refine ⟨⟨n+1,A6,c6,by omega,by go_num,?_⟩,by simp [intOf]; omega⟩;rw [HNX.out];exact HFIN.out
  ·obtain rfl:n=64:=by omega
   rw [List.take_of_length_le (by rw [qbA]; exact Nat.le_refl _)] at hst;obtain ⟨gk,rfl,hk1,hk2⟩:=(show OwnX wr g0 118 1 (.slice A 64 c) 64 (wordsV .u64 (kL F32)) by have:=hst.k; rwa [qbA] at this).ptr (by decide)
   have hck:64≤c:=by
    have ho:OwnX wr g0 118 1 (.slice (some ⟨gk,0,none⟩) 64 c) 64 (wordsV .u64 (kL F32)):=by have:=hst.k; rwa [qbA] at this
    exact ho.le_cap
   have hst1:OfSt w ⟨g0,gh,ga,gb,gc,gd⟩ F32 zH (.slice (some ⟨gp,0,none⟩) 80 pc) (csV 32 64 ga gb gc gd (.slice (some ⟨gk,0,none⟩) 64 c) (.slice none 0 0)) (.slice (some ⟨gk,0,none⟩) 64 c) (kL F32) (.slice none 0 0) ((s8L (startS F32)).take 0) wr:=hst;have HST0:=zY hst1;have HK1:=zY hk1;clear hst hst1 hk1 hk2;obtain ⟨ck,rfl⟩:=eX c;go_wp2_with fail;clear d1;obtain ⟨wo,rfl⟩:∃ wo:World,wo=wr:=⟨_,rfl⟩
   go_loopw [6] (fun i wr=>∃ (n:Nat) (A:Option Addr) (c:Nat),n≤8∧i=.int .i64 n∧OfSt w ⟨g0,gh,ga,gb,gc,gd⟩ F32 zH (.slice (some ⟨gp,0,none⟩) 80 pc) (csV 32 64 ga gb gc gd (.slice (some ⟨gk,0,none⟩) 64 ck) (.slice A n c)) (.slice (some ⟨gk,0,none⟩) 64 ck) (kL F32) (.slice A n c) ((s8L (startS F32)).take n) wr) (fun i _=>8 - (intOf i).toNat)
   case atStart=>exact ⟨0,none,0,by omega,rfl,HST0.out⟩
   case round =>
    clear HST0;obtain ⟨n,A,c,hn,rfl,hst⟩:=hrel
    by_cases hnl:n<8
    ·have hnl':(n:Int)<8:=by omega
     obtain ⟨L,hL⟩:=eX ((s8L (startS F32)).take n);have hLl:L.length=n:=by rw [hL,List.length_take,show (s8L (startS F32)).length=8 from rfl]; omega
     obtain ⟨pn,hpn⟩:=eX (primes80.getD n 0);have hpl:pn<65536:=by rw [hpn]; exact prime_lt n (by omega)
     have hrt:rootN pn 2=firstN.getD n 0:=by rw [hpn]; exact rootN2 n hnl
     obtain ⟨rt,hrt2⟩:=eX (rootN pn 2);have hrl:rt<18446744073709551616:=by rw [hrt2,rootN]; exact Nat.mod_lt _ (by decide)
     obtain ⟨kn,hkn⟩:=eX (rt/2^(64 - 32)%2^32)
     have hnx:(s8L (startS F32)).take (n+1)=L++[kn]:=by
      rw [hkn,hrt2,hrt,hL];exact start_take F32 n hnl
     have ep:(wordsV .i64 primes80)[n]?=some (.int .i64 (pn:Int)):=by rw [hpn]; exact qaz (show n<80 by omega)
     rw [← hL] at hst;have HL:=zY hLl;have HPL:=zY hpl;have HRT:=zY hrt2;have HRL:=zY hrl;have HKN:=zY hkn;have HNX:=zY hnx;have EP:=zY ep;have hn80:n<80:=by omega
     have HC0:=hst.drew;have HST1:=zY hst;clear hL hLl hpn hpl hrt hrt2 hrl hkn hnx ep hst;go_wp2_with fail;clear HST1;refine qbm (fun u=>OfSt w ⟨g0,gh,ga,gb,gc,gd⟩ F32 zH (.slice (some ⟨gp,0,none⟩) 80 pc) (csV 32 64 ga gb gc gd (.slice (some ⟨gk,0,none⟩) 64 ck) (.slice A n c)) (.slice (some ⟨gk,0,none⟩) 64 ck) (kL F32) (.slice A n c) L u) (fun i=>i == 0 || i == 1) 9 10 [(0,some 42),(1,some 43),(2,some 44),(3,some 45),(4,some 46),(5,some 47),(6,some 48),(7,some 49),(8,some 50),(9,some 51),(10,some 52),(11,some 53),(12,none)] (by kernel_rfl) (by kernel_rfl) (by decide) (by kernel_rfl) (fun _=>rfl) HC0 (fun _ _ hb h=>h.next hb) (by decide) ?_;apply DetR.next
     ·apply qa9 [];exact fun _=>rfl;rfl;rintro vals - w1 hC1 E hE;simp only [sP] at hE ⊢;go_wp2;exact .mk hE
     apply DetR.next
     ·apply qa9 [(0,some 42)];exact fun _=>rfl;rfl;intro vals vq w1 hC1 E hE;have d0:=hC1.h.cell 7;simp [csV,hC] at d0;simp only [sP,vq] at hE ⊢;clear vq;go_wp2;exact .mk hE
     apply DetR.next
     ·apply qaw;apply dP [];exact fun _=>rfl;rfl;intro vals vq w1 hC1 E hE;clear vq;simp only [sP] at hE ⊢;refine qad hC1.h rfl rfl rfl hu rfl qaV ?_;go_wp2_with fail;exact .mk (hE _ hC1)
     apply DetR.next
     ·apply qaw;apply dP [];exact fun _=>rfl;rfl;intro vals vq w1 hC1 E hE;clear vq;simp only [sP] at hE ⊢;go_wp2;exact .mk (hE _ hC1)
     apply DetR.next
     ·apply qaw;apply dP [];exact fun _=>rfl;rfl;intro vals vq w1 hC1 E hE;clear vq;simp only [sP] at hE ⊢;go_wp2;exact .mk (hE _ hC1)
     apply DetR.next
     ·apply qaw;apply dP [(3,some 45),(4,some 46)];exact fun _=>rfl;rfl;intro vals vq w1 hC1 E hE;simp only [sP,vq] at hE ⊢;clear vq;go_wp2;exact .mk (hE _ hC1)
     apply DetR.next
     ·apply qaw;apply dP [(5,some 47)];exact fun _=>rfl;rfl;intro vals vq w1 hC1 E hE;have d0:=hC1.p.atN EP.out;simp only [sP,vq] at hE ⊢;clear vq;go_wp2;exact .mk (hE _ hC1)
     apply DetR.next
     ·apply qaw;apply dP [(6,some 48)];exact fun _=>rfl;rfl;intro vals vq w1 hC1 E hE;simp only [sP,vq] at hE ⊢;clear vq;go_wp2_with fail;refine qaa (root2_any pn _ HPL.out) ?_;rintro e w2 ⟨rfl,hb2⟩;rw [← HRT.out];go_wp2_with fail;exact .mk (hE _ (hC1.next hb2))
     apply DetR.next
     ·apply qaw;apply dP [(2,some 44),(7,some 49),(7,some 49)];exact fun _=>rfl;rfl;intro vals vq w1 hC1 E hE;simp only [sP,vq] at hE ⊢;clear vq;go_wp2_with fail;refine qaa (top_any 32 64 _ _ _ _ _ _ _ (.inl rfl) rt HRL.out) ?_;rintro e w2 ⟨rfl,hb2⟩;rw [← HKN.out];go_wp2_with fail;exact .mk (hE _ (hC1.next hb2))
     apply DetR.done;rintro vals ⟨⟨⟨⟨⟨⟨⟨⟨⟨-,f0⟩,f1⟩,f2⟩,f3⟩,f4⟩,f5⟩,f6⟩,f7⟩,f8⟩ w1 hC1;refine qaQ [(8,some 50)] (fun _=>rfl) rfl ?_;intro E hE;simp only [sP,f8] at hE ⊢;go_wp2;refine .mk (hE _ _ (fun _=>below_new _ _) ?_);clear hE E;generalize hval:upd _ 9 _=vals9;replace f0:=uP hval (by decide) f0;replace f1:=uP hval (by decide) f1;replace f2:=uP hval (by decide) f2;replace f3:=uP hval (by decide) f3;replace f4:=uP hval (by decide) f4;replace f5:=uP hval (by decide) f5;replace f6:=uP hval (by decide) f6;replace f7:=uP hval (by decide) f7;replace f8:=uP hval (by decide) f8;have f9:=(congrFun hval 9).symm.trans (qaM _ _ _);clear hval;refine qaQ [(1,some 43),(9,some 51),(8,some 50)] (fun _=>rfl) rfl ?_;intro E hE;simp only [sP,f1,f8,f9] at hE ⊢;refine qal qc4 rfl rfl (show OwnX w1 g0 118 1 (.slice A n c) n (wordsV .u64 L) by have:=hC1.f; rwa [HL.out] at this) rfl rfl rfl rfl (by unfold maxLen; omega) (by omega) (by have:=hC1.res.lt; dsimp only at this; omega) ?_;intro A6 c6 w6 hown6 hg6 hn6;have hap:=hC1.appF (v':=.slice A6 (n+1) c6) (x:=kn) (by rw [HL.out]; exact hown6) hg6 (hn6);have HAP:=zY hap;clear hap hown6 hg6 hn6;go_wp2_with fail;refine .mk (hE _ _ (fun h=>absurd h (by decide)) ?_);clear hE E;generalize hval:upd _ 10 _=vals10;replace f0:=uP hval (by decide) f0;replace f1:=uP hval (by decide) f1;replace f2:=uP hval (by decide) f2;replace f3:=uP hval (by decide) f3;replace f4:=uP hval (by decide) f4;replace f5:=uP hval (by decide) f5;replace f6:=uP hval (by decide) f6;replace f7:=uP hval (by decide) f7;replace f8:=uP hval (by decide) f8;replace f9:=uP hval (by decide) f9;have f10:=(congrFun hval 10).symm.trans (qaM _ _ _);clear hval;refine qaQ [(0,some 42),(1,some 43),(2,some 44),(3,some 45),(4,some 46),(5,some 47),(6,some 48),(7,some 49),(8,some 50),(9,some 51),(10,some 52)] (fun _=>rfl) rfl ?_;intro E hE;simp only [sP,f0,f1,f2,f3,f4,f5,f6,f7,f8,f9,f10] at hE ⊢;go_wp2;refine .mk (hE _ _ (fun h=>absurd h (by decide)) ?_);clear hE E;generalize hval:upd _ 11 _=vals11;replace f0:=uP hval (by decide) f0;replace f1:=uP hval (by decide) f1;replace f2:=uP hval (by decide) f2;replace f3:=uP hval (by decide) f3;replace f4:=uP hval (by decide) f4;replace f5:=uP hval (by decide) f5;replace f6:=uP hval (by decide) f6;replace f7:=uP hval (by decide) f7;replace f8:=uP hval (by decide) f8;replace f9:=uP hval (by decide) f9;replace f10:=uP hval (by decide) f10;have f11:=(congrFun hval 11).symm.trans (qaM _ _ _);clear hval;refine qaQ [(11,some 53),(10,some 52),(10,some 52),(0,some 42),(1,some 43),(2,some 44),(3,some 45),(4,some 46),(5,some 47),(6,some 48),(7,some 49),(8,some 50),(9,some 51),(10,some 52)] (fun _=>rfl) rfl ?_;intro E hE;simp only [sP,f0,f1,f2,f3,f4,f5,f6,f7,f8,f9,f10,f11] at hE ⊢;refine qag (i:=7) (v:=.slice A6 (n+1) c6) HAP.out.h rfl rfl rfl rfl slu_size (show 7<8 by decide) rfl ?_;intro w7 hb7 hw7;have HFIN:=zY (HAP.out.put hw7 hb7 HD.out);clear hb7 hw7;go_wp2_with fail;refine .mk (hE undef _ (fun h=>absurd h (by decide)) ?_);clear hE E;generalize hval:upd _ 12 _=vals12;replace f0:=uP hval (by decide) f0;replace f1:=uP hval (by decide) f1;replace f2:=uP hval (by decide) f2;replace f3:=uP hval (by decide) f3;replace f4:=uP hval (by decide) f4;replace f5:=uP hval (by decide) f5;replace f6:=uP hval (by decide) f6;replace f7:=uP hval (by decide) f7;replace f8:=uP hval (by decide) f8;replace f9:=uP hval (by decide) f9;replace f10:=uP hval (by decide) f10;replace f11:=uP hval (by decide) f11;have f12:=(congrFun hval 12).symm.trans (qaM _ _ _);clear hval;refine qc1 ?_;simp only [sP,f0,f1,f2,f3,f4,f5,f6,f7,f8,f9,f10,f11,f12];clear f0 f1 f2 f3 f4 f5 f6 f7 f8 f9 f10 f11 f12;clear HC0 HAP hC1;go_wp2_with fail;refine ⟨⟨n+1,A6,c6,by omega,by go_num,?_⟩,by simp [intOf]; omega⟩;rw [HNX.out];exact HFIN.out
    ·obtain rfl:n=8:=by omega
     rw [show (s8L (startS F32)).take 8=s8L (startS F32) from rfl] at hst;obtain ⟨gz,rfl,hz1,hz2⟩:=(show OwnX wr g0 118 1 (.slice A 8 c) 8 (wordsV .u64 (s8L (startS F32))) from hst.f).ptr (by decide);have hcz:8≤c:=(show OwnX wr g0 118 1 (.slice (some ⟨gz,0,none⟩) 8 c) 8 (wordsV .u64 (s8L (startS F32))) from hst.f).le_cap;have HST2:=zY hst;clear hz1 hz2 hst
     go_wp2_with (first
      | (refine qad (x:=.tmp 3) HST2.out.h rfl rfl rfl hu rfl qaV ?_)
      | (refine qae (x:=.tmp 2) (cells:=csV 32 64 ga gb gc gd (.slice (some ⟨gk,0,none⟩) 64 ck) (.slice (some ⟨gz,0,none⟩) 8 c)) HST2.out.res rfl rfl rfl rfl qaV rfl (by simp [csV,hC,Value.oneCell']) ?_; intro w5 hb5 hw5))
     refine bodyPost_ret (qau (P:=Tryz.prog) rfl rfl hb5 hu rfl qaV) rfl ?_;have h2:=HST2.out;have hdl:=HLT.out;refine ⟨⟨⟨ga,0,none⟩,⟨gb,0,none⟩,⟨gc,0,none⟩,⟨gd,0,none⟩,⟨gk,0,none⟩,⟨gz,0,none⟩,3,3,3,3,ck,c⟩,rfl,?_,?_⟩
     ·have k1:=hw5.blk h2.a (by dsimp only; omega);have k2:=hw5.blk h2.b (by dsimp only; omega);have k3:=hw5.blk h2.c (by dsimp only; omega);have k4:=hw5.blk h2.d (by dsimp only; omega);have k5:=hw5.own h2.k (qay h2.k h2.res (by decide));have k6:=hw5.own h2.f (qay h2.f h2.res (by decide));exact ⟨Rd.of_blk k1 k1.lt,Rd.of_blk k2 k2.lt,Rd.of_blk k3 k3.lt,Rd.of_blk k4 k4.lt,Rd.of_own (n:=64) (by rw [qbA] at k5; exact k5) (Nat.le_refl _),Rd.of_own (n:=8) k6 (Nat.le_refl _),Nat.le_refl _,Nat.le_refl _,Nat.le_refl _,Nat.le_refl _,hck,hcz⟩
     ·rw [← HG0.out];exact hw5.below h2.bel (Nat.le_refl _) (by have:=h2.res.lt; dsimp only at this; omega)
theorem r256_any (data:List UInt8) (A:Option Addr) (c B:Nat) (w:World) (hr:Rd w B A (bytesV data)) (hB:B≤w.heap.size) (hl:data.length≤1000) (hc:data.length≤c) :
  Calls Tryz.prog 30 #[.slice A data.length c] w (HSumPost F32 32 data w):=by
 have HR:=zY hr;have hu:=Tryz.underlying93;clear hr;go_enter Tryz.func30,Tryz.ntmps30;go_wp2_with fail;refine qaa (of32_any w) ?_;rintro e w1 ⟨p,rfl,hok,hb1⟩;have HOK:=zY hok;have HB1:=zY hb1;clear hok hb1
 go_wp2_with (first
  | (refine qae (x:=.tmp 3) (cells:=hv F32 p) (Blk.new w1 93 zH) rfl rfl rfl rfl qaV rfl (by simp [hv,hC,Value.oneCell']) ?_; intro w2 hb2 hw2; have HB2:=zY hb2; have HW2:=zY hw2; clear hb2 hw2)
  | (refine qad (x:=.tmp 3) HB2.out rfl rfl rfl hu rfl qaV ?_))
 have hbel:Below w1.heap.size w1 w2:=HW2.out.below (below_new _ _) (Nat.le_refl _) (by simp);have hsz:w1.heap.size+1=w2.heap.size:=by rw [HW2.out.size]; simp
 refine qaa (hsum32_any p data A c w1.heap.size w2 (HOK.out.below hbel) (((HR.out.mono hB).below HB1.out).mono HB1.out.size |>.below hbel) (by omega) hl hc) ?_;rintro e w3 ⟨A3,c3,rfl,ho3,hb3⟩;have HO3:=zY ho3;have HB3:=zY hb3;have HBEL:=zY hbel;have HSZ:=zY hsz;clear ho3 hb3 hbel hsz;go_wp2_with fail;go_ret;exact ⟨A3,c3,rfl,HO3.out.mono (by have:=HB1.out.size; have:=HSZ.out; omega),HB1.out.trans ((HBEL.out.mono HB1.out.size).trans (HB3.out.mono (by have:=HB1.out.size; have:=HSZ.out; omega)))⟩
end Go.Proofs.YtlkikjeccamheaaGreatDoor.Sh
namespace Go.Proofs.YtlkikjeccamheaaGreatDoor
set_option linter.unusedSimpArgs false
set_option linter.unusedVariables false
set_option maxRecDepth 100000
set_option maxHeartbeats 4000000
open Go.RowKit
theorem hexA_cut (n:Nat) (h:n<16):(⟨#[48,49,50,51,52,53,54,55,56,57,97,98,99,100,101,102]⟩:ByteArray).extract n (n+1)=⟨#[UInt8.ofNat (hexD n)]⟩:=by
 have:n=0∨n=1∨n=2∨n=3∨n=4∨n=5∨n=6∨n=7∨n=8∨n=9∨n=10∨n=11∨n=12∨n=13∨n=14∨n=15:=by omega
 rcases this with h | h | h | h | h | h | h | h | h | h | h | h | h | h | h | h <;> subst h <;> decide
theorem name_snoc (L:List UInt8) (a b:UInt8):(⟨L.toArray⟩:ByteArray)++⟨#[a]⟩++⟨#[b]⟩=⟨(L++[a,b]).toArray⟩:=by
 apply ByteArray.ext;rw [ByteArray.data_append,ByteArray.data_append];simp
theorem rname_any (data:List UInt8) (hl:data.length≤1000) (A:Option Addr) (c:Nat) (w:World) (hr:Rd w w.heap.size A (bytesV data)) (hc:data.length≤c) (hH32:(Sh.digS Sh.F32 data).length=32) :
  Calls Tryz.prog 14 #[.slice A data.length c] w (fun e w'=>e=.returned (.string (nameS data))∧Below w.heap.size w w'):=by
 have HS:=zY (Sh.r256_any data A c w.heap.size w hr (Nat.le_refl _) hl hc);obtain ⟨n,hn⟩:=eX (data.length);rw [← hn] at HS ⊢;clear hr hl hc hn;obtain ⟨H,hH⟩:=eX (Sh.digS Sh.F32 data);rw [← hH] at hH32;have HH:=zY hH;have HLH:=zY hH32;clear hH32;go_enter Tryz.func14,Tryz.ntmps14;go_wp2_with fail;refine qaa HS.out ?_;rintro e u1 ⟨A1,c1,rfl,ho,hb1⟩;rw [← hH] at ho;have HRD:=zY (Rd.of_own ho (Nat.le_refl _));obtain ⟨ad0,hA1,-,-⟩:=HRD.out.at_ (k:=0) (by rw [qak,HLH.out]; decide);have HB1:=zY hb1;subst hA1;clear hb1 ho hH HS;go_wp2_with fail
 go_loopw [5,6] (fun s i wr=>∃ (k:Nat),k≤4∧i=.int .i64 (k:Int)∧s=.string ⟨(nameK H k).toArray⟩∧Below u1.heap.size u1 wr) (fun _ i _=>4 - (intOf i).toNat)
 case atStart=>exact ⟨0,by omega,rfl,rfl,Below.refl _ _⟩
 case round =>
  obtain ⟨k,hk,rfl,rfl,hbel⟩:=hrel
  by_cases hlt:k<4
  ·have hlt':(k:Int)<4:=by omega
   have hkH:k<H.length:=by rw [HLH.out]; omega
   obtain ⟨ad',hA',-,hcell⟩:=(HRD.out.below hbel).at_ (k:=k) (by rw [qak]; exact hkH)
   injection hA' with hA'
   subst hA';obtain ⟨x,hx⟩:=eX (H[k].toNat);have hxl:x<256:=by have:=H[k].toNat_lt; omega
   have hbv:(bytesV H)[k]'(by rw [qak]; exact hkH)=.int .u8 (x:Int):=by
    rw [hx]; simp [bytesV,byteV]
   rw [hbv] at hcell;obtain ⟨L,hL⟩:=eX (nameK H k);have HN:=zY (show nameK H (k+1)=L++hexB x by rw [qcx hkH,← hx,hL]);have hLl:L.length=2*k:=by rw [hL]; exact qbw (by omega)
   rw [← hL];have hd4:decide ((k:Int)<4)=true:=by simp; omega
   obtain ⟨SL,hSL⟩:∃ s:ByteArray,s=⟨L.toArray⟩:=⟨_,rfl⟩;rw [← hSL];clear hx hbv hL hkH;go_wp2_with fail;obtain ⟨a,ha⟩:=eX (x/16);obtain ⟨b,hb⟩:=eX (x%16);rw [show (x:Int)/16=(a:Int) by omega,show (x:Int)%16=(b:Int) by omega];have ha16:a<16:=by omega
   have hb16:b<16:=by omega
   have HA:=zY ha;have HB:=zY hb;have HX:=zY hxl;clear ha hb hxl
   go_quiet (fail)
   rw [hexA_cut a ha16,hexA_cut b hb16,name_snoc];go_wp2_with fail
   go_roundw
   case rel=>exact ⟨k+1,by omega,by go_num,by rw [HN.out,hexB,← HA.out,← HB.out],by first | exact hbel | exact hbel.drew | exact qbU hbel _⟩
   case measure=>simp [intOf]; omega
  ·obtain rfl:k=4:=by omega
   have HF:=zY (HB1.out.trans (hbel.mono HB1.out.size));have hd4:decide (((4:Nat):Int)<4)=false:=by decide
   clear hbel;go_wp2_with fail;go_ret;exact ⟨by rw [nameS,← HH.out]; rfl,HF.out⟩
end Go.Proofs.YtlkikjeccamheaaGreatDoor
namespace Go.Proofs.YtlkikjeccamheaaGreatDoor.Js
set_option linter.unusedSimpArgs false
set_option linter.unusedVariables false
set_option maxRecDepth 100000
set_option maxHeartbeats 4000000
open Go.RowKit
theorem qce (d:List UInt8):(Sh.digS Sh.F32 d).length=32:=by
 unfold Sh.digS;generalize Sh.runS Sh.F32 (Sh.padS Sh.F32 d) ((Sh.padS Sh.F32 d).length/(2*Sh.F32.bits))=s;simp [Sh.s8L,Sh.wordB_length,Sh.F32]
theorem rd_take {w:World} {B:Nat} {A:Option Addr} {l:List UInt8} (h:Rd w B A (bytesV l)) (n:Nat):Rd w B A (bytesV (l.take n)):=fun i u hu=>by
 have e:bytesV (l.take n)=(bytesV l).take n:=by simp [bytesV,List.map_take]
 rw [e,List.getElem?_take] at hu
 split at hu
 ·exact h i u hu
 ·cases hu
end Go.Proofs.YtlkikjeccamheaaGreatDoor.Js
namespace Go.Proofs.YtlkikjeccamheaaGreatDoor
set_option linter.unusedSimpArgs false
set_option linter.unusedVariables false
set_option maxRecDepth 100000
set_option maxHeartbeats 4000000
open Go.RowKit
section
variable {P:Program}
theorem qde (w:World) (s:ByteArray) (cap:Nat) (e:TypeId) (f:Nat × Nat) (u:World) (hu:u=w.alloc (.cells (bytesRow s cap) e f)):Rd u u.heap.size (some ⟨w.heap.size,0,none⟩) (bytesV s.data.toList):=by
 subst hu;intro i v hv
 have hlt:i<s.data.size:=by
  have:=(List.getElem?_eq_some_iff.1 hv).1
  simpa [bytesV] using this
 refine ⟨_,rfl,by simp,?_⟩;have hadd:(⟨w.heap.size,0,none⟩:Addr).add i=⟨w.heap.size,i,none⟩:=by unfold Addr.add; split <;> simp_all
 have hg:(w.alloc (.cells (bytesRow s cap) e f)).heap[w.heap.size]?=some (.cells (bytesRow s cap) e f):=by
  show (w.heap.push _)[w.heap.size]?=_;simp
 rw [hadd,cell_of_row _ _ _ _ _ f hg,bytesRow,Array.getElem?_append_left (by simpa using hlt)];rw [bytesV,List.getElem?_map,Array.getElem?_toList] at hv;rw [Array.getElem?_map];exact hv
theorem qcW {w:World} {ops:Array Oper} {rest:List Oper} {o:Oper} {a:Act} {Q:Exit→Act→World→Prop} {src dst e:TypeId} {x:Operand} {s:ByteArray}
  (hs:P.underlying src=some .string) (hd:P.underlying dst=some (.slice e)) (he:P.underlying e=some (.int .u8))
  (hgd:o.guard=none) (ho:o.op=.convert src dst x) (hx:a.eval x=.string s)
  (h:∀ A c w',Rd w' w'.heap.size A (bytesV s.data.toList)→s.size≤c→Below w.heap.size w w'→wpList P ops Q rest (a.put o.dst (.slice A s.size c)) w'):wpList P ops Q (o :: rest) a w:=by
 refine wpList_plain hgd fun K hK=>?_;have hrun:=run_bytes_of_string (P:=P) w src dst e s hs hd he;unfold Oper.wp execOp;simp only [ho,hx];simp only [Sem.run_bind,hrun,Result.andThen_ok,Sem.run_pure];refine hK _ _ (h _ _ _ (qde w.drew s _ e _ _ rfl) (grownCap_ge w s.size 0 e) ?_);exact (Below.refl _ _).drew.alloc (Nat.le_refl _) _
theorem qaT {w:World} {ops:Array Oper} {rest:List Oper} {o:Oper} {a:Act} {Q:Exit→Act→World→Prop} {src dst e:TypeId} {x:Operand} {s:ByteArray}
  (hs:P.underlying src=some .string) (hd:P.underlying dst=some (.slice e)) (he:P.underlying e=some (.int .u8))
  (hgd:o.guard=none) (ho:o.op=.convert src dst x) (hx:a.eval x=.string s) (hm:s.size≤maxLen)
  (h:∀ c w',Rd w' w'.heap.size (some ⟨w.heap.size,0,none⟩) (bytesV s.data.toList)→s.size≤c→c≤maxLen→Below w.heap.size w w'→wpList P ops Q rest (a.put o.dst (.slice (some ⟨w.heap.size,0,none⟩) s.size c)) w'):wpList P ops Q (o :: rest) a w:=by
 refine wpList_plain hgd fun K hK=>?_;have hrun:=run_bytes_of_string (P:=P) w src dst e s hs hd he;unfold Oper.wp execOp;simp only [ho,hx];simp only [Sem.run_bind,hrun,Result.andThen_ok,Sem.run_pure];refine hK _ _ (h _ _ (qde w.drew s _ e _ _ rfl) (grownCap_ge w s.size 0 e) (grownCap_le_maxLen w s.size 0 e hm) ?_);exact (Below.refl _ _).drew.alloc (Nat.le_refl _) _
end
end Go.Proofs.YtlkikjeccamheaaGreatDoor
namespace Go.Proofs.YtlkikjeccamheaaGreatDoor.Js
set_option linter.unusedSimpArgs false
set_option linter.unusedVariables false
set_option maxRecDepth 100000
set_option maxHeartbeats 4000000
open Go.RowKit
theorem bs_takem (t:Bs) (m:Nat):(bs t).extract 0 m=bs (t.take m):=by
 apply ByteArray.ext;simp [bs,ByteArray.data_extract]
theorem few_any (s:Bs) (m:Nat) (hs:(s.length:Int)≤9223372036854775807) (w:World) :
  Calls Tryz.prog 12 #[.string (bs s),.int .i64 (m:Int)] w fun e w'=>e=.returned (.string (bs (s.take m)))∧w'=w:=by
 have hsz:((bs s).size:Int)=(s.length:Int):=by rw [qaB]
 have HS:=zY hsz;go_enter Tryz.func12,Tryz.ntmps12
 by_cases hl:m<s.length
 ·have hl':(m:Int)<((bs s).size:Int):=by omega
  have hl2:m≤(bs s).size:=by omega
  clear hsz;go_wp2_with fail;go_ret;exact ⟨by rw [← bs_takem]; rfl,rfl⟩
 ·have hl':¬ (m:Int)<((bs s).size:Int):=by omega
  have HT:=zY (show s.take m=s from List.take_of_length_le (by omega));clear hsz;go_wp2_with fail;go_ret;exact ⟨by rw [HT.out]; rfl,rfl⟩
def nameL (x:Bs):Bs:=_root_.Go.Proofs.YtlkikjeccamheaaGreatDoor.nameK (Sh.digS Sh.F32 x) 4
theorem nameS_bs (x:Bs):nameS x=bs (nameL x):=rfl
def cutK (k:Bs × Bs):Bs × Bs:=(if k.1.take 20=[] then nameL (k.2.take 40) else k.1.take 20,k.2.take 40)
def zB:Array Value:=#[.string ⟨#[]⟩,.int .i64 0,.slice none 0 0]
def bC (d:Bs) (n:Int) (A:Option Addr) (l c:Nat):Array Value:=#[.string (bs d),.int .i64 n,.slice A l c]
structure Cb (w0:World) (V R:Array Value) (A1:Option Addr) (c1:Nat) (ks:List (Bs × Bs)) (u:World):Prop where
 low:Below w0.heap.size w0 u
 vbox:Blk u w0.heap.size 24 V
 res:Blk u (w0.heap.size+1) 24 zB
 out:Blk u (w0.heap.size+2) 24 R
 keys:OwnR u (w0.heap.size+3) 38 2 A1 c1 ks.length (rowsV kCell ks)
section
variable {w0:World} {V R:Array Value} {A1:Option Addr} {c1:Nat} {ks:List (Bs × Bs)} {u u':World}
theorem Cb.size (h:Cb w0 V R A1 c1 ks u):w0.heap.size+3≤u.heap.size:=h.out.lt
theorem Cb.new (h:Cb w0 V R A1 c1 ks u) (hb:Below u.heap.size u u'):Cb w0 V R A1 c1 ks u' :=
 ⟨h.low.trans (hb.mono (by have:=h.size; omega)),h.vbox.below hb h.vbox.lt,h.res.below hb h.res.lt,h.out.below hb h.out.lt,h.keys.below hb⟩
theorem Cb.put {R':Array Value} (h:Cb w0 V R A1 c1 ks u) (hw:Wrote (w0.heap.size+2) u u') (ht:Blk u' (w0.heap.size+2) 24 R'):Cb w0 V R' A1 c1 ks u':=by
 have hs:=h.size;have hk:∀ b,b<u.heap.size→w0.heap.size+3≤b→u'.heap[b]?=u.heap[b]?:=fun b hb hl=>hw.grown.block b hb (by intro h; injection h with h; omega);have hlt:∀ {k cs t},u.heap[k]?=some (.cells cs t (0,0))→k<u.heap.size:=fun hq=>(Array.getElem?_eq_some_iff.1 hq).1;exact ⟨hw.below h.low (by omega) (by omega),hw.blk h.vbox (by omega),hw.blk h.res (by omega),ht,h.keys.heap fun k cs hq hl=>(hk k (hlt hq) hl).trans hq⟩
theorem ownR_put {w w':World} {base:Nat} {e:TypeId} {size:Nat} {A:Option Addr} {c n g:Nat} {xs:List Value} (h:OwnR w base e size A c n xs) (hw:Wrote g w w') (hne:∀ k,(Value.slice A n c).ownBlock=some k→k≠g):OwnR w' base e size A c n xs:=by
 refine ⟨h.1,?_⟩
 rcases h.2 with h0 | ⟨g',cap,cur,h1,h2,h3,h4⟩
 ·exact .inl h0
 ·have hn:g'≠g:=hne g' (by rw [h1]; rfl);exact .inr ⟨g',cap,cur,h1,h2,(hw.grown.block g' (Array.getElem?_eq_some_iff.1 h3).1 (by intro he; injection he with he; exact hn he)).trans h3,h4⟩
theorem Cb.wrote {g:Nat} (h:Cb w0 V R A1 c1 ks u) (hw:Wrote g u u') (hg:w0.heap.size+3≤g) (hne:∀ k,(Value.slice A1 ks.length c1).ownBlock=some k→k≠g):Cb w0 V R A1 c1 ks u' :=
 ⟨hw.below h.low (by omega) (by have:=h.size; omega),hw.blk h.vbox (by omega),hw.blk h.res (by omega),hw.blk h.out (by omega),ownR_put h.keys hw hne⟩
theorem Cb.add {k:Bs × Bs} {A':Option Addr} {c':Nat} (h:Cb w0 V R A1 c1 ks u) (ho:OwnR u' (w0.heap.size+3) 38 2 A' c' (ks.length+1) (rowsV kCell ks++(kCell k).toList)) (hg:u.grownBy u' (Value.slice A1 ks.length c1).ownBlock) :
  Cb w0 V R A' c' (ks++[k]) u':=by
 have hs:=h.size;have hne:∀ k,k<w0.heap.size+3→some k≠(Value.slice A1 ks.length c1).ownBlock:=fun k hk he=>by have:=(h.keys.lt k he.symm).1; omega
 exact ⟨h.low.grown hg (by omega) (fun k hk=>by have:=(h.keys.lt k hk).1; omega),h.vbox.grown hg (hne _ (by omega)),h.res.grown hg (hne _ (by omega)),h.out.grown hg (hne _ (by omega)),by rw [qbf,qbM,List.length_append]; exact ho⟩
end
theorem qaC:(Tryz.prog.info? 24).map (·.size)=some 3:=by kernel_rfl
theorem sl_jwks:SlT Tryz.prog 22 38 2 32:=SlT.mk1 (z:=.agg #[.string ⟨#[]⟩,.string ⟨#[]⟩]) Tryz.underlying22 (by kernel_rfl) rfl (by decide)
theorem qdh {w:World} {base:Nat} {e:TypeId} {size:Nat} {A:Option Addr} {c n:Nat} {xs:List Value} (h:OwnR w base e size A c n xs):RdS w (fun b=>base≤b) A xs:=fun i u hu=>by
 obtain ⟨ad,h1,h2,h3⟩:=Rd.of_own h.x (Nat.le_refl _) i u hu;refine ⟨ad,h1,?_,h3⟩;exact (h.lt ad.block (by rw [h1]; rfl)).1
def CutPost (D:Bs) (num:Int) (ks:List (Bs × Bs)) (w:World) (e:Ending) (w':World):Prop :=
 ∃ (A':Option Addr) (c':Nat),e=.returned (.agg (bC (D.take 30) num A' ((ks.take 10).map cutK).length c'))∧Below w.heap.size w w'∧RdS w' (fun b=>w.heap.size≤b) A' (rowsV kCell ((ks.take 10).map cutK))
theorem jcut_any (D:Bs) (num:Int) (ks:List (Bs × Bs)) (A:Option Addr) (c B:Nat) (w:World) (hr:Rd w B A (rowsV kCell ks)) (hB:B≤w.heap.size) (hD:(D.length:Int)≤9223372036854775807) (hl:(ks.length:Int)≤9223372036854775807)
  (hk:∀ k ∈ ks,(k.1.length:Int)≤9223372036854775807∧(k.2.length:Int)≤9223372036854775807) :
  Calls Tryz.prog 5 #[.agg (bC D num A ks.length c)] w (CutPost D num ks w):=by
 have hub:=Tryz.underlying24;obtain ⟨G,hG⟩:=eX (w.heap.size);obtain ⟨W1,hW1⟩:=eX ((w.alloc (.cells (bC D num A ks.length c) 24)).alloc (.cells zB 24));have hb1:Below w.heap.size w W1:=by rw [hW1]; exact ((Below.refl _ w).alloc (Nat.le_refl _) _).alloc (by simp) _
 have HB1:=zY hb1;have HK1:=zY (show Blk W1 w.heap.size 24 (bC D num A ks.length c) by rw [hW1]; exact (Blk.new _ _ _).alloc _);have HZ1:=zY (show Blk W1 (w.heap.size+1) 24 zB by rw [hW1]; have:=Blk.new (w.alloc (.cells (bC D num A ks.length c) 24)) 24 zB; simpa using this);have HS1:=zY (show W1.heap.size=w.heap.size+2 by rw [hW1]; simp);have HR:=zY hr;have HBB:=zY hB;have HKK:=zY hk;have HF:=zY few_any;have HW1:=zY hW1;obtain ⟨n,hn⟩:=eX (ks.length);rw [← hn] at HK1 HW1 hl ⊢;have HN:=zY hn;clear hW1 hb1 hr hB hk hG hn;go_enter Tryz.func5,Tryz.ntmps5
 go_upto_region 1 with (fail)
 rw [show ((w.alloc (.cells (bC D num A n c) 24)).alloc (.cells #[.string ⟨#[]⟩,.int .i64 0,.slice none 0 0] 24))=W1 from HW1.out.symm];generalize Value.agg (bC D num A n c)=AV;have HC0:Below W1.heap.size W1 W1.drew:=(Below.refl _ _).drew;have HI0:W1.drew.heap.size=w.heap.size+2:=HS1.out
 refine qap (fun u=>Below W1.heap.size W1 u) (fun | false=>(fun u=>u.heap.size=w.heap.size+2) | true=>(fun _=>True)) (fun | false,i=>i == 6 || i == 7 | true,_=>false)
  [fun z _=>z 0=.pointer (some ⟨w.heap.size,0,none⟩),
   fun z _=>z 1=.string (bs D),
   fun z _=>z 2=.string (bs (D.take 30)),
   fun z _=>z 3=.pointer (some ⟨w.heap.size,1,none⟩),
   fun z _=>z 4=.int .i64 num,
   fun z _=>z 5=.agg (bC (D.take 30) num none 0 0),
   fun z u=>z 6=.pointer (some ⟨w.heap.size+2,0,none⟩)∧Blk u (w.heap.size+2) 24 zB,
   fun z u=>z 6=.pointer (some ⟨w.heap.size+2,0,none⟩)∧Blk u (w.heap.size+2) 24 (bC (D.take 30) num none 0 0)]
  [Eq,Eq,Eq,Eq,Eq,Eq,fun u u'=>Below u.heap.size u u',fun _ _=>True]
  (fun i k=>(i == 7 && k == 6)) [(0,some 6),(1,some 7),(2,some 8),(3,some 9),(4,some 10),(5,some 11),(6,some 3),(7,none)] (by kernel_rfl) (by kernel_rfl) rfl (fun _=>rfl) ?_ ?_ ?_ ?_ ?_ ?_
 ·exact HC0
 ·intro m; cases m; exact HI0; exact trivial
 ·intro m; cases m
  ·refine ⟨?_,?_,?_,?_,?_,?_,.inl rfl,.inl rfl,trivial⟩ <;> exact .inr fun _ _ h h0=>h▸h0
  ·refine ⟨?_,?_,?_,?_,?_,?_,?_,?_,trivial⟩ <;> first | exact .inr fun _ _ h h0=>h▸h0 | exact .inr fun _ _ _ h=>h
 ·refine ⟨⟨.inl rfl,?_,?_,?_,?_,?_,?_,?_,trivial⟩,⟨?_,.inl rfl,?_,?_,?_,?_,?_,?_,trivial⟩,⟨?_,?_,.inl rfl,?_,?_,?_,?_,?_,trivial⟩,⟨?_,?_,?_,.inl rfl,?_,?_,?_,?_,trivial⟩,⟨?_,?_,?_,?_,.inl rfl,?_,?_,?_,trivial⟩,⟨?_,?_,?_,?_,?_,.inl rfl,?_,?_,trivial⟩,⟨?_,?_,?_,?_,?_,?_,.inl rfl,?_,trivial⟩,⟨?_,?_,?_,?_,?_,?_,.inr (.inl rfl),.inl rfl,trivial⟩,trivial⟩ <;> first | exact .inr (.inr (.inl rfl)) | exact .inr (.inr (.inr fun _ _ _ _ _ h=>h)) | exact .inr (.inr (.inr fun _ _ _ _ h h0=>by cases h; exact h0))
 ·refine ⟨?_,?_,?_,?_,?_,?_,?_,?_,trivial⟩
  ·refine qab [] (fun _=>rfl) rfl ?_;intro w1 vals hC1 hi0 hf E hE;clear hi0;clear hf;simp only [sP] at hE ⊢;go_wp2;exact .mk (hE _ _ rfl hC1 rfl)
  ·refine qab [(0,some 6)] (fun _=>rfl) rfl ?_;intro w1 vals hC1 hi0 hf E hE;clear hi0;have f0:vals 0=_:=hf 0 rfl
   try dsimp only at f0
   clear hf;simp only [sP,f0] at hE ⊢;clear f0;have d0:=(HK1.out.below hC1 HK1.out.lt).cell 0;simp only [bC,List.getElem?_toArray,List.getElem?_cons_zero] at d0;go_wp2;exact .mk (hE _ _ rfl hC1 rfl)
  ·refine qab [(1,some 7)] (fun _=>rfl) rfl ?_;intro w1 vals hC1 hi0 hf E hE;clear hi0;have f1:vals 1=_:=hf 1 rfl
   try dsimp only at f1
   clear hf;simp only [sP,f1] at hE ⊢;clear f1;go_wp2_with fail;refine qaa (HF.out D 30 hD _) ?_;rintro e w2 ⟨rfl,rfl⟩;go_wp2_with fail;exact .mk (hE _ _ rfl hC1 rfl)
  ·refine qab [] (fun _=>rfl) rfl ?_;intro w1 vals hC1 hi0 hf E hE;clear hi0;clear hf;simp only [sP] at hE ⊢;go_wp2;exact .mk (hE _ _ rfl hC1 rfl)
  ·refine qab [(3,some 9)] (fun _=>rfl) rfl ?_;intro w1 vals hC1 hi0 hf E hE;clear hi0;have f3:vals 3=_:=hf 3 rfl
   try dsimp only at f3
   clear hf;simp only [sP,f3] at hE ⊢;clear f3;have d0:=(HK1.out.below hC1 HK1.out.lt).cell 1;simp only [bC,List.getElem?_toArray,List.getElem?_cons_zero,List.getElem?_cons_succ] at d0;go_wp2;exact .mk (hE _ _ rfl hC1 rfl)
  ·refine qab [(2,some 8),(4,some 10)] (fun _=>rfl) rfl ?_;intro w1 vals hC1 hi0 hf E hE;clear hi0;have f2:vals 2=_:=hf 2 rfl;have f4:vals 4=_:=hf 4 rfl
   try dsimp only at f2 f4
   clear hf;simp only [sP,f2,f4] at hE ⊢;clear f2 f4;go_wp2;exact .mk (hE _ _ rfl hC1 rfl)
  ·refine qab [] (fun _=>rfl) rfl ?_;intro w1 vals hC1 hi0 hf E hE;have hI1:(fun u=>u.heap.size=w.heap.size+2) w1:=hi0 false rfl
   try dsimp only at hI1
   clear hi0;clear hf;simp only [sP] at hE ⊢;go_wp2;exact .mk (hE _ _ ⟨rfl,by rw [← hI1]; exact Blk.new _ _ _⟩ (hC1.alloc hC1.size _) ((Below.refl _ _).alloc (Nat.le_refl _) _))
  ·refine qab [(6,some 3),(5,some 11),(2,some 8),(0,some 6),(1,some 7),(2,some 8),(3,some 9),(4,some 10),(5,some 11),(6,some 3)] (fun _=>rfl) rfl ?_;intro w1 vals hC1 hi0 hf E hE;clear hi0;have f0:vals 0=_:=hf 0 rfl;have f1:vals 1=_:=hf 1 rfl;have f2:vals 2=_:=hf 2 rfl;have f3:vals 3=_:=hf 3 rfl;have f4:vals 4=_:=hf 4 rfl;have f5:vals 5=_:=hf 5 rfl;have f6:(fun z u=>z 6=.pointer (some ⟨w.heap.size+2,0,none⟩)∧Blk u (w.heap.size+2) 24 zB) vals w1:=hf 6 rfl
   try dsimp only at f0 f1 f2 f3 f4 f5 f6
   clear hf;obtain ⟨hx6,hg6⟩:=f6;have HG6:=zY hg6;have HX6:=zY hx6;clear hg6;simp only [sP,f0,f1,f2,f3,f4,f5,hx6] at hE ⊢;clear f0 f1 f2 f3 f4 f5;clear hx6;go_wp2_with (refine qae (cells:=bC (D.take 30) num none 0 0) HG6.out rfl rfl rfl rfl qaC rfl (by simp [bC,Value.oneCell']) ?_; intro w5 hb5 hw5);exact .mk (hE undef _ ⟨HX6.out,hb5⟩ (hw5.below hC1 (by have:=HS1.out; omega) hC1.size) trivial)
 intro w1 vals hC1 hf;have f0:vals 0=_:=hf 0 (by decide) rfl;have f1:vals 1=_:=hf 1 (by decide) rfl;have f2:vals 2=_:=hf 2 (by decide) rfl;have f3:vals 3=_:=hf 3 (by decide) rfl;have f4:vals 4=_:=hf 4 (by decide) rfl;have f5:vals 5=_:=hf 5 (by decide) rfl;have f7:(fun z u=>z 6=.pointer (some ⟨w.heap.size+2,0,none⟩)∧Blk u (w.heap.size+2) 24 (bC (D.take 30) num none 0 0)) vals w1:=hf 7 (by decide) rfl
 try dsimp only at f0 f1 f2 f3 f4 f5 f7
 clear hf;simp only [sP,f0,f1,f2,f3,f4,f5];clear f0 f1 f2 f3 f4 f5;generalize vals 6=x6 at *;obtain ⟨hx6,hb7⟩:=f7;rw [hx6]
 have HC1:=zY (show Cb w (bC D num A n c) (bC (D.take 30) num none 0 0) none 0 [] w1 from
  ⟨HB1.out.trans (hC1.mono HB1.out.size),HK1.out.below hC1 HK1.out.lt,HZ1.out.below hC1 HZ1.out.lt,hb7,OwnR.nil _ _ _ _⟩)
 obtain ⟨mn,hmn⟩:=eX (min n 10);have HMN:=zY hmn;have HRW:=zY (show Rd W1 B A (rowsV kCell ks) from HR.out.below (HB1.out.mono HBB.out));have HBW:=zY (show B≤W1.heap.size from Nat.le_trans HBB.out HB1.out.size);clear hmn hx6 hb7 hC1 HC0 HI0;go_wp2_with fail
 go_loopw [4] (fun x wr=>∃ (i:Nat) (A1:Option Addr) (c1:Nat),i≤mn∧x=.int .i64 (i:Int) ∧
  Cb w (bC D num A n c) (bC (D.take 30) num A1 ((ks.take i).map cutK).length c1) A1 c1 ((ks.take i).map cutK) wr) (fun x _=>mn - (intOf x).toNat)
 case atStart=>exact ⟨0,none,0,Nat.zero_le _,rfl,HC1.out⟩
 case round =>
  obtain ⟨i,A1,c1,hi,rfl,hcs⟩:=hrel;have HCS:=zY hcs;clear hcs;have a2:wr.cell? ⟨w.heap.size,2,none⟩=some (.slice A n c):=HCS.out.vbox.cell 2
  by_cases hlt:i<mn
  ·have HLT:=zY hlt;have h1:(i:Int)<(n:Int):=by have:=HMN.out; omega
   have h2:(i:Int)<10:=by have:=HMN.out; omega
   have hil:i<ks.length:=by have:=HMN.out; rw [← HN.out]; omega
   obtain ⟨ad,hA,hadb,hcell⟩:=qaX (f:=kCell) (m:=2) (fun _=>rfl) (by decide) (HR.out.below (HCS.out.low.mono HBB.out)) hil;subst hA;obtain ⟨X,hX⟩:=eX (ks[i]);rw [← hX] at hcell;have c0:wr.cell? (ad.add (i*2))=some (.string (bs X.1)):=hcell 0 _ rfl;have c1':wr.cell? ⟨(ad.add (i*2)).block,(ad.add (i*2)).off+1,none⟩=some (.string (bs X.2)):=hcell 1 _ rfl;have HXS:=zY (show (ks.take (i+1)).map cutK=(ks.take i).map cutK++[cutK X] by rw [List.take_succ_eq_append_getElem hil,List.map_append,hX]; rfl);have HXM:=zY (HKK.out X (by rw [hX]; exact List.getElem_mem hil));have HPB:=zY (show (ad.add (i*2)).block<wr.heap.size from World.block_lt_of_cell? _ _ c0);obtain ⟨N,hN⟩:=eX ((ks.take i).map cutK);have HNL:=zY (show N.length≤10 by rw [hN]; simp; have:=HMN.out; omega);rw [← hN] at HCS HXS;have C0:=zY c0;have C1':=zY c1';clear hX hcell hil hlt hadb hN c0 c1'
   go_upto_region 5 with (fail)
   obtain ⟨H,hH⟩:=eX (wr.heap.size);have HHE:=zY hH;have HC0:Below wr.heap.size wr wr.drew:=(Below.refl _ _).drew;have HI0:wr.drew.heap.size=H:=hH.symm;have hnm:(n:Int)≤9223372036854775807:=hl;clear hH a2
   refine qap (fun u=>Below wr.heap.size wr u) (fun | false=>(fun u=>u.heap.size=H) | true=>(fun _=>True)) (fun | false,i=>i == 15 || i == 16 | true,_=>false)
    [fun z _=>z 0=.pointer (some ⟨w.heap.size,2,none⟩),
     fun z _=>z 1=.slice (some ad) n c,
     fun z _=>z 2=.int .i64 (i:Int),
     fun z _=>z 3=.pointer (some (ad.add (i*2))),
     fun z _=>z 4=.pointer (some (ad.add (i*2))),
     fun z _=>z 5=.string (bs X.1),
     fun z _=>z 6=.string (bs (X.1.take 20)),
     fun z _=>z 7=.pointer (some ⟨w.heap.size,2,none⟩),
     fun z _=>z 8=.slice (some ad) n c,
     fun z _=>z 9=.int .i64 (i:Int),
     fun z _=>z 10=.pointer (some (ad.add (i*2))),
     fun z _=>z 11=.pointer (some ⟨(ad.add (i*2)).block,(ad.add (i*2)).off+1,none⟩),
     fun z _=>z 12=.string (bs X.2),
     fun z _=>z 13=.string (bs (X.2.take 40)),
     fun z _=>z 14=.agg (kCell (X.1.take 20,X.2.take 40)),
     fun z u=>z 15=.pointer (some ⟨H,0,none⟩)∧Blk u H 38 #[.string ⟨#[]⟩,.string ⟨#[]⟩],
     fun z u=>z 15=.pointer (some ⟨H,0,none⟩)∧Blk u H 38 (kCell (X.1.take 20,X.2.take 40))]
    [Eq,Eq,Eq,Eq,Eq,Eq,Eq,Eq,Eq,Eq,Eq,Eq,Eq,Eq,Eq,fun u u'=>Below u.heap.size u u',fun _ _=>True]
    (fun i k=>(i == 16 && k == 15)) [(0,some 23),(1,some 24),(2,some 25),(3,some 26),(4,some 27),(5,some 28),(6,some 29),(7,some 30),(8,some 31),(9,some 32),(10,some 33),(11,some 34),(12,some 35),(13,some 36),(14,some 37),(15,some 5),(16,none)] (by kernel_rfl) (by kernel_rfl) rfl (fun _=>rfl) ?_ ?_ ?_ ?_ ?_ ?_
   ·exact HC0
   ·intro m; cases m; exact HI0; exact trivial
   ·intro m; cases m
    ·refine ⟨?_,?_,?_,?_,?_,?_,?_,?_,?_,?_,?_,?_,?_,?_,?_,.inl rfl,.inl rfl,trivial⟩ <;> exact .inr fun _ _ h h0=>h▸h0
    ·refine ⟨?_,?_,?_,?_,?_,?_,?_,?_,?_,?_,?_,?_,?_,?_,?_,?_,?_,trivial⟩ <;> first | exact .inr fun _ _ h h0=>h▸h0 | exact .inr fun _ _ _ h=>h
   ·refine ⟨⟨.inl rfl,?_,?_,?_,?_,?_,?_,?_,?_,?_,?_,?_,?_,?_,?_,?_,?_,trivial⟩,⟨?_,.inl rfl,?_,?_,?_,?_,?_,?_,?_,?_,?_,?_,?_,?_,?_,?_,?_,trivial⟩,⟨?_,?_,.inl rfl,?_,?_,?_,?_,?_,?_,?_,?_,?_,?_,?_,?_,?_,?_,trivial⟩,⟨?_,?_,?_,.inl rfl,?_,?_,?_,?_,?_,?_,?_,?_,?_,?_,?_,?_,?_,trivial⟩,⟨?_,?_,?_,?_,.inl rfl,?_,?_,?_,?_,?_,?_,?_,?_,?_,?_,?_,?_,trivial⟩,⟨?_,?_,?_,?_,?_,.inl rfl,?_,?_,?_,?_,?_,?_,?_,?_,?_,?_,?_,trivial⟩,⟨?_,?_,?_,?_,?_,?_,.inl rfl,?_,?_,?_,?_,?_,?_,?_,?_,?_,?_,trivial⟩,⟨?_,?_,?_,?_,?_,?_,?_,.inl rfl,?_,?_,?_,?_,?_,?_,?_,?_,?_,trivial⟩,⟨?_,?_,?_,?_,?_,?_,?_,?_,.inl rfl,?_,?_,?_,?_,?_,?_,?_,?_,trivial⟩,⟨?_,?_,?_,?_,?_,?_,?_,?_,?_,.inl rfl,?_,?_,?_,?_,?_,?_,?_,trivial⟩,⟨?_,?_,?_,?_,?_,?_,?_,?_,?_,?_,.inl rfl,?_,?_,?_,?_,?_,?_,trivial⟩,⟨?_,?_,?_,?_,?_,?_,?_,?_,?_,?_,?_,.inl rfl,?_,?_,?_,?_,?_,trivial⟩,⟨?_,?_,?_,?_,?_,?_,?_,?_,?_,?_,?_,?_,.inl rfl,?_,?_,?_,?_,trivial⟩,⟨?_,?_,?_,?_,?_,?_,?_,?_,?_,?_,?_,?_,?_,.inl rfl,?_,?_,?_,trivial⟩,⟨?_,?_,?_,?_,?_,?_,?_,?_,?_,?_,?_,?_,?_,?_,.inl rfl,?_,?_,trivial⟩,⟨?_,?_,?_,?_,?_,?_,?_,?_,?_,?_,?_,?_,?_,?_,?_,.inl rfl,?_,trivial⟩,⟨?_,?_,?_,?_,?_,?_,?_,?_,?_,?_,?_,?_,?_,?_,?_,.inr (.inl rfl),.inl rfl,trivial⟩,trivial⟩ <;> first | exact .inr (.inr (.inl rfl)) | exact .inr (.inr (.inr fun _ _ _ _ _ h=>h)) | exact .inr (.inr (.inr fun _ _ _ _ h h0=>by cases h; exact h0))
   ·refine ⟨?_,?_,?_,?_,?_,?_,?_,?_,?_,?_,?_,?_,?_,?_,?_,?_,?_,trivial⟩
    ·refine qab [] (fun _=>rfl) rfl ?_;intro w1 vals hC1 hi0 hf E hE;clear hi0;clear hf;simp only [sP] at hE ⊢;go_wp2;exact .mk (hE _ _ rfl hC1 rfl)
    ·refine qab [(0,some 23)] (fun _=>rfl) rfl ?_;intro w1 vals hC1 hi0 hf E hE;clear hi0;have f0:vals 0=_:=hf 0 rfl
     try dsimp only at f0
     clear hf;simp only [sP,f0] at hE ⊢;clear f0;have d0:=(HCS.out.vbox.below hC1 HCS.out.vbox.lt).cell 2;simp only [bC,List.getElem?_toArray,List.getElem?_cons_zero,List.getElem?_cons_succ] at d0;go_wp2;exact .mk (hE _ _ rfl hC1 rfl)
    ·refine qab [] (fun _=>rfl) rfl ?_;intro w1 vals hC1 hi0 hf E hE;clear hi0;clear hf;simp only [sP] at hE ⊢;go_wp2;exact .mk (hE _ _ rfl hC1 rfl)
    ·refine qab [(1,some 24),(2,some 25)] (fun _=>rfl) rfl ?_;intro w1 vals hC1 hi0 hf E hE;clear hi0;have f1:vals 1=_:=hf 1 rfl;have f2:vals 2=_:=hf 2 rfl
     try dsimp only at f1 f2
     clear hf;simp only [sP,f1,f2] at hE ⊢;clear f1 f2;go_wp2;exact .mk (hE _ _ rfl hC1 rfl)
    ·refine qab [(3,some 26)] (fun _=>rfl) rfl ?_;intro w1 vals hC1 hi0 hf E hE;clear hi0;have f3:vals 3=_:=hf 3 rfl
     try dsimp only at f3
     clear hf;simp only [sP,f3] at hE ⊢;clear f3;go_wp2;exact .mk (hE _ _ rfl hC1 rfl)
    ·refine qab [(4,some 27)] (fun _=>rfl) rfl ?_;intro w1 vals hC1 hi0 hf E hE;clear hi0;have f4:vals 4=_:=hf 4 rfl
     try dsimp only at f4
     clear hf;simp only [sP,f4] at hE ⊢;clear f4;have d0:=(hC1.cell (p:=ad.add (i*2)) HPB.out).trans C0.out;go_wp2;exact .mk (hE _ _ rfl hC1 rfl)
    ·refine qab [(5,some 28)] (fun _=>rfl) rfl ?_;intro w1 vals hC1 hi0 hf E hE;clear hi0;have f5:vals 5=_:=hf 5 rfl
     try dsimp only at f5
     clear hf;simp only [sP,f5] at hE ⊢;clear f5;go_wp2_with fail;refine qaa (HF.out X.1 20 HXM.out.1 _) ?_;rintro e w2 ⟨rfl,rfl⟩;go_wp2_with fail;exact .mk (hE _ _ rfl hC1 rfl)
    ·refine qab [] (fun _=>rfl) rfl ?_;intro w1 vals hC1 hi0 hf E hE;clear hi0;clear hf;simp only [sP] at hE ⊢;go_wp2;exact .mk (hE _ _ rfl hC1 rfl)
    ·refine qab [(7,some 30)] (fun _=>rfl) rfl ?_;intro w1 vals hC1 hi0 hf E hE;clear hi0;have f7:vals 7=_:=hf 7 rfl
     try dsimp only at f7
     clear hf;simp only [sP,f7] at hE ⊢;clear f7;have d0:=(HCS.out.vbox.below hC1 HCS.out.vbox.lt).cell 2;simp only [bC,List.getElem?_toArray,List.getElem?_cons_zero,List.getElem?_cons_succ] at d0;go_wp2;exact .mk (hE _ _ rfl hC1 rfl)
    ·refine qab [] (fun _=>rfl) rfl ?_;intro w1 vals hC1 hi0 hf E hE;clear hi0;clear hf;simp only [sP] at hE ⊢;go_wp2;exact .mk (hE _ _ rfl hC1 rfl)
    ·refine qab [(8,some 31),(9,some 32)] (fun _=>rfl) rfl ?_;intro w1 vals hC1 hi0 hf E hE;clear hi0;have f8:vals 8=_:=hf 8 rfl;have f9:vals 9=_:=hf 9 rfl
     try dsimp only at f8 f9
     clear hf;simp only [sP,f8,f9] at hE ⊢;clear f8 f9;go_wp2;exact .mk (hE _ _ rfl hC1 rfl)
    ·refine qab [(10,some 33)] (fun _=>rfl) rfl ?_;intro w1 vals hC1 hi0 hf E hE;clear hi0;have f10:vals 10=_:=hf 10 rfl
     try dsimp only at f10
     clear hf;simp only [sP,f10] at hE ⊢;clear f10;go_wp2;exact .mk (hE _ _ rfl hC1 rfl)
    ·refine qab [(11,some 34)] (fun _=>rfl) rfl ?_;intro w1 vals hC1 hi0 hf E hE;clear hi0;have f11:vals 11=_:=hf 11 rfl
     try dsimp only at f11
     clear hf;simp only [sP,f11] at hE ⊢;clear f11;have d0:=(hC1.cell (p:=⟨(ad.add (i*2)).block,(ad.add (i*2)).off+1,none⟩) HPB.out).trans C1'.out;go_wp2;exact .mk (hE _ _ rfl hC1 rfl)
    ·refine qab [(12,some 35),(6,some 29)] (fun _=>rfl) rfl ?_;intro w1 vals hC1 hi0 hf E hE;clear hi0;have f6:vals 6=_:=hf 6 rfl;have f12:vals 12=_:=hf 12 rfl
     try dsimp only at f6 f12
     clear hf;simp only [sP,f6,f12] at hE ⊢;clear f6 f12;go_wp2_with fail;refine qaa (HF.out X.2 40 HXM.out.2 _) ?_;rintro e w2 ⟨rfl,rfl⟩;go_wp2_with fail;exact .mk (hE _ _ rfl hC1 rfl)
    ·refine qab [(6,some 29),(13,some 36)] (fun _=>rfl) rfl ?_;intro w1 vals hC1 hi0 hf E hE;clear hi0;have f6:vals 6=_:=hf 6 rfl;have f13:vals 13=_:=hf 13 rfl
     try dsimp only at f6 f13
     clear hf;simp only [sP,f6,f13] at hE ⊢;clear f6 f13;go_wp2;exact .mk (hE _ _ rfl hC1 rfl)
    ·refine qab [] (fun _=>rfl) rfl ?_;intro w1 vals hC1 hi0 hf E hE;have hI1:(fun u=>u.heap.size=H) w1:=hi0 false rfl
     try dsimp only at hI1
     clear hi0;clear hf;simp only [sP] at hE ⊢;go_wp2;exact .mk (hE _ _ ⟨rfl,by rw [← hI1]; exact Blk.new _ _ _⟩ (hC1.alloc hC1.size _) ((Below.refl _ _).alloc (Nat.le_refl _) _))
    ·refine qab [(15,some 5),(14,some 37),(13,some 36),(0,some 23),(1,some 24),(2,some 25),(3,some 26),(4,some 27),(5,some 28),(6,some 29),(7,some 30),(8,some 31),(9,some 32),(10,some 33),(11,some 34),(12,some 35),(13,some 36),(14,some 37),(15,some 5)] (fun _=>rfl) rfl ?_;intro w1 vals hC1 hi0 hf E hE;clear hi0;have f0:vals 0=_:=hf 0 rfl;have f1:vals 1=_:=hf 1 rfl;have f2:vals 2=_:=hf 2 rfl;have f3:vals 3=_:=hf 3 rfl;have f4:vals 4=_:=hf 4 rfl;have f5:vals 5=_:=hf 5 rfl;have f6:vals 6=_:=hf 6 rfl;have f7:vals 7=_:=hf 7 rfl;have f8:vals 8=_:=hf 8 rfl;have f9:vals 9=_:=hf 9 rfl;have f10:vals 10=_:=hf 10 rfl;have f11:vals 11=_:=hf 11 rfl;have f12:vals 12=_:=hf 12 rfl;have f13:vals 13=_:=hf 13 rfl;have f14:vals 14=_:=hf 14 rfl;have f15:(fun z u=>z 15=.pointer (some ⟨H,0,none⟩)∧Blk u H 38 #[.string ⟨#[]⟩,.string ⟨#[]⟩]) vals w1:=hf 15 rfl
     try dsimp only at f0 f1 f2 f3 f4 f5 f6 f7 f8 f9 f10 f11 f12 f13 f14 f15
     clear hf;obtain ⟨hx6,hg6⟩:=f15;have HG6:=zY hg6;have HX6:=zY hx6;clear hg6;simp only [sP,f0,f1,f2,f3,f4,f5,f6,f7,f8,f9,f10,f11,f12,f13,f14,hx6] at hE ⊢;clear f0 f1 f2 f3 f4 f5 f6 f7 f8 f9 f10 f11 f12 f13 f14;clear hx6;go_wp2_with (refine qae (cells:=kCell (X.1.take 20,X.2.take 40)) HG6.out rfl rfl rfl rfl qbq rfl (by simp [kCell,Value.oneCell']) ?_; intro w5 hb5 hw5);exact .mk (hE undef _ ⟨HX6.out,hb5⟩ (hw5.below hC1 (by have:=HHE.out; omega) hC1.size) trivial)
   intro w1 vals hC1 hf;have f0:vals 0=_:=hf 0 (by decide) rfl;have f1:vals 1=_:=hf 1 (by decide) rfl;have f2:vals 2=_:=hf 2 (by decide) rfl;have f3:vals 3=_:=hf 3 (by decide) rfl;have f4:vals 4=_:=hf 4 (by decide) rfl;have f5:vals 5=_:=hf 5 (by decide) rfl;have f6:vals 6=_:=hf 6 (by decide) rfl;have f7:vals 7=_:=hf 7 (by decide) rfl;have f8:vals 8=_:=hf 8 (by decide) rfl;have f9:vals 9=_:=hf 9 (by decide) rfl;have f10:vals 10=_:=hf 10 (by decide) rfl;have f11:vals 11=_:=hf 11 (by decide) rfl;have f12:vals 12=_:=hf 12 (by decide) rfl;have f13:vals 13=_:=hf 13 (by decide) rfl;have f14:vals 14=_:=hf 14 (by decide) rfl;have f16:(fun z u=>z 15=.pointer (some ⟨H,0,none⟩)∧Blk u H 38 (kCell (X.1.take 20,X.2.take 40))) vals w1:=hf 16 (by decide) rfl
   try dsimp only at f0 f1 f2 f3 f4 f5 f6 f7 f8 f9 f10 f11 f12 f13 f14 f16
   clear hf;simp only [sP,f0,f1,f2,f3,f4,f5,f6,f7,f8,f9,f10,f11,f12,f13,f14];clear f0 f1 f2 f3 f4 f5 f6 f7 f8 f9 f10 f11 f12 f13 f14;generalize vals 15=x15 at *;obtain ⟨hx15,hb16⟩:=f16;rw [hx15];have HC5:=zY (HCS.out.new hC1);have HNE:=zY (show ∀ k,(Value.slice A1 N.length c1).ownBlock=some k→k≠H from fun k hk he=>by have h1:=(HCS.out.keys.lt k hk).2; have h2:=HHE.out; omega);have HK5:=zY hb16;have HHL:=zY (show w.heap.size+3≤H by rw [HHE.out]; exact HCS.out.size);have a0:w1.cell? ⟨H,0,none⟩=some (.string (bs (X.1.take 20))):=hb16.cell 0;have a1:w1.cell? ⟨H,1,none⟩=some (.string (bs (X.2.take 40))):=hb16.cell 1;clear hx15 hb16 hC1 HC0 HI0 C0 C1' HCS HPB hnm h1 h2;obtain ⟨kd,hkd⟩:=eX (X.1.take 20);obtain ⟨kx,hkx⟩:=eX (X.2.take 40);rw [← hkd] at HK5 a0 ⊢;rw [← hkx] at HK5 a1 ⊢;have HKD:=zY hkd;have HKX:=zY hkx;have HKL:=zY (show kx.length≤40 by rw [hkx]; simp; omega);clear hkd hkx;generalize Value.agg (kCell (kd,kx))=AK
   go_upto_if 40 with (fail)
   go_cut [] (fun wx=>Cb w (bC D num (some ad) n c) (bC (D.take 30) num A1 N.length c1) A1 c1 N wx∧Blk wx H 38 (kCell (cutK X)))
   case first =>
    by_cases h0:kd=[]
    ·have he:(bs kd).toList.isEmpty=true:=by rw [qas,h0]; rfl
     have HCK:=zY (show cutK X=(nameL kx,kx) by rw [cutK,← HKD.out,← HKX.out,if_pos h0]);have hus:=Tryz.underlying9;have hub8:=Tryz.underlying40;have hu8:=Tryz.underlying5;have hkl:=qaB kx;have HKS:=zY hkl;clear h0 hkl;go_wp2_with (refine qcW (s:=bs kx) hus hub8 hu8 rfl rfl rfl ?_; intro A7 c7 w7 hr7 hc7 hb7; have HR7:=zY hr7; have HC7:=zY hc7; have HB7:=zY hb7; clear hr7 hc7 hb7);rw [HKS.out];have HCN:=zY (rname_any kx (by have:=HKL.out; omega) A7 c7 w7 HR7.out (by have:=HC7.out; have:=HKS.out; omega) (qce kx));refine qaa HCN.out ?_;rintro e w8 ⟨rfl,hb8⟩;rw [nameS_bs];have HC8:=zY (HC5.out.new (HB7.out.trans (hb8.mono HB7.out.size)));have HK8:=zY ((HK5.out.below HB7.out HK5.out.lt).below hb8 (Nat.lt_of_lt_of_le HK5.out.lt HB7.out.size));clear hb8 a0 a1 HCN;go_wp2_with (refine qag (i:=0) HK8.out rfl rfl rfl rfl (by kernel_rfl) (by simp [kCell]) rfl ?_; intro w9 hb9 hw9)
     go_meet
     rw [HCK.out];exact ⟨HC8.out.wrote hw9 HHL.out HNE.out,hb9⟩
     rename_i hx
     exact absurd (he.symm.trans hx) (by decide)
    ·have he:(bs kd).toList.isEmpty=false:=by rw [qas]; simpa using h0
     have HCK:=zY (show cutK X=(kd,kx) by rw [cutK,← HKD.out,← HKX.out,if_neg h0]);go_wp2_with fail
     ·have hx:(bs kd).toList.isEmpty=true:=by assumption
      exact absurd (hx.symm.trans he) (by decide)
     go_meet
     rw [HCK.out];exact ⟨HC5.out,HK5.out⟩
   case rest =>
   obtain ⟨hcb,hbk⟩:=hcut;have HC6:=zY hcb;have HK6:=zY hbk;have huj:=Tryz.underlying38;have b2:wc.cell? ⟨w.heap.size+2,2,none⟩=some (.slice A1 N.length c1):=hcb.out.cell 2;have hNL:(N.length:Int)≤10:=by have:=HNL.out; omega
   have hi10:(i:Int)<10:=by have:=HLT.out; have:=HMN.out; omega
   obtain ⟨Y,hY⟩:=eX (cutK X);rw [← hY] at HK6 HXS;clear hcb hbk hY a0 a1
   go_wp2_with (first
    | refine qad (cs:=#[.string (bs Y.1),.string (bs Y.2)]) HK6.out rfl rfl rfl huj rfl qbq ?_
    | (refine qaU (ys:=[.string (bs Y.1),.string (bs Y.2)]) sl_jwks rfl rfl HC6.out.keys rfl rfl rfl rfl (by simp [Value.oneCell']) (by unfold maxLen; omega) (by omega) HC6.out.size ?_; intro A5 c5 w5 hown5 hgr5 hn5; have HC7:=zY (HC6.out.add hown5 hgr5); clear hown5 hgr5 hn5)
    | (refine qag (x:=.tmp 51) (i:=2) HC7.out.out rfl rfl rfl rfl (by kernel_rfl) (by simp [bC]) rfl ?_; intro w6 hb6 hw6))
   have HC8:=zY (HC7.out.put (R':=bC (D.take 30) num A5 (N++[Y]).length c5) hw6 (by rw [List.length_append]; exact hb6));clear hb6 hw6
   go_roundw
   case rel=>exact ⟨i+1,A5,c5,HLT.out,by go_num,by rw [HXS.out]; exact HC8.out⟩
   case measure=>have:=HLT.out; simp [intOf]; omega
  ·obtain rfl:i=mn:=by omega
   have hor:¬ ((i:Int)<(n:Int))∨((i:Int)<(n:Int)∧¬ (i:Int)<10):=by have:=HMN.out; omega
   have HNS:=zY (show (ks.take i).map cutK=(ks.take 10).map cutK by
    have h1:=HMN.out;have h2:=HN.out
    by_cases h5:n≤10
    ·have e1:i=ks.length:=by omega
     rw [e1,List.take_of_length_le (Nat.le_refl _),List.take_of_length_le (by omega)]
    ·have e1:i=10:=by omega
     rw [e1])
   rw [HNS.out] at HCS;obtain ⟨N,hN⟩:=eX ((ks.take 10).map cutK);rw [← hN] at HCS;have HNX:=zY hN
   have HF9:=zY (fun (u:World) (hw:Wrote (w.heap.size+1) wr u)=>show Below w.heap.size w u∧RdS u (fun b=>w.heap.size≤b) A1 (rowsV kCell N) from
    ⟨hw.below HCS.out.low (by omega) (by have:=HCS.out.size; omega),(qdh (HCS.out.keys.heap fun k cs hq hl=>(hw.grown.block k (Array.getElem?_eq_some_iff.1 hq).1 (by intro h; injection h with h; omega)).trans hq)).imp fun b _ hb=>by omega⟩)
   clear hN
   have HFE:=zY (fun (u:World) (hw:Wrote (w.heap.size+1) wr u)=>show CutPost D num ks w (.returned (.agg (bC (D.take 30) num A1 N.length c1))) u by
    unfold CutPost;rw [← HNX.out];exact ⟨A1,c1,rfl,(HF9.out u hw).1,(HF9.out u hw).2⟩)
   rcases hor with hor | ⟨hor,hor2⟩
   ·go_wp2_with (first
     | refine qad (x:=.tmp 3) (cs:=bC (D.take 30) num A1 N.length c1) HCS.out.out rfl rfl rfl hub rfl qaC ?_
     | (refine qae (x:=.tmp 2) (cells:=bC (D.take 30) num A1 N.length c1) HCS.out.res rfl rfl rfl rfl qaC rfl (by simp [bC,Value.oneCell']) ?_; intro w9 hb9 hw9))
    have HB9:=zY hb9;refine bodyPost_ret (qau (P:=Tryz.prog) rfl rfl HB9.out hub rfl qaC) rfl ?_;exact HFE.out w9 hw9
   ·go_wp2_with (first
     | refine qad (x:=.tmp 3) (cs:=bC (D.take 30) num A1 N.length c1) HCS.out.out rfl rfl rfl hub rfl qaC ?_
     | (refine qae (x:=.tmp 2) (cells:=bC (D.take 30) num A1 N.length c1) HCS.out.res rfl rfl rfl rfl qaC rfl (by simp [bC,Value.oneCell']) ?_; intro w9 hb9 hw9))
    have HB9:=zY hb9;refine bodyPost_ret (qau (P:=Tryz.prog) rfl rfl HB9.out hub rfl qaC) rfl ?_;exact HFE.out w9 hw9
end Go.Proofs.YtlkikjeccamheaaGreatDoor.Js
namespace Go.Proofs.YtlkikjeccamheaaGreatDoor
set_option linter.unusedSimpArgs false
set_option linter.unusedVariables false
set_option maxRecDepth 100000
set_option maxHeartbeats 4000000
open Go.RowKit
def MapS (w:World) (g:Nat) (es:Array MapEntry):Prop:=w.heap[g]?=some (.map es es.size)
theorem MapS.lt {w:World} {g:Nat} {es:Array MapEntry} (h:MapS w g es):g<w.heap.size:=(Array.getElem?_eq_some_iff.1 h).1
theorem MapS.new (w:World):MapS (w.alloc (.map #[] 0)) w.heap.size #[]:=heap_alloc_new w _
section
variable {P:Program} {w:World} {ops:Array Oper} {rest:List Oper} {o:Oper} {a:Act} {Q:Exit→Act→World→Prop}
theorem run_insertS {t k e:TypeId} {g:Nat} {es:Array MapEntry} {x:ByteArray} {v:Value} (ht:P.underlying t=some (.map k e)) (hk:P.underlying k=some .string) (hm:MapS w g es) (hf:Instr.findNow .string (.string x) es.toList 0=some none) :
  ∃ w',(Instr.mapUpdate t (.map (some g)) (.string x) v).run P w=.ok () w'∧MapS w' g (es.push ⟨.string x,v,es.size⟩)∧w.grownBy w' (some g):=by
 unfold MapS at hm;have hlt:g<w.heap.size:=(Array.getElem?_eq_some_iff.1 hm).1;have hc:(Instr.checkKey false 10000 k (.string x)).run P w=.ok () w:=MapKept.run_checkKey (k:=(.string x)) hk (by simp [MapKept.IsKey]) false 9999;refine ⟨{ w with heap:=w.heap.setIfInBounds g (.map (es.push ⟨.string x,v,es.size⟩) (es.size+1)) },?_,?_,?_⟩
 ·simp [Instr.mapUpdate,run_underlying ht,MapKept.run_getObj_map hm,hc,MapKept.run_findKey hk hf,MapKept.run_setObj_map _ hm,Result.andThen]
 ·unfold MapS;simp [hlt]
 ·refine ⟨rfl,rfl,rfl,by simp,fun i hi hne=>?_⟩;have:g≠i:=fun h=>hne (by rw [h]);simp [this]
def foundS (z:Value):Option (Nat × Value)→Value × Bool
 | some (_,v)=>(v,true)
 | none=>(z,false)
theorem qc8 {t k e:TypeId} {g:Nat} {es:Array MapEntry} {x:ByteArray} {z:Value} {r:Option (Nat × Value)} (c:Bool) (ht:P.underlying t=some (.map k e)) (hk:P.underlying k=some .string) (hm:MapS w g es) (hf:Instr.findNow .string (.string x) es.toList 0=some r)
  (hz:(zeroValue e).run P w=.ok z w):(Instr.lookup t (.map (some g)) (.string x) c).run P w=.ok (if c then .tuple #[(foundS z r).1,.bool (foundS z r).2] else (foundS z r).1) w:=by
 unfold MapS at hm;have hc:(Instr.checkKey es.isEmpty 10000 k (.string x)).run P w=.ok () w:=MapKept.run_checkKey (k:=(.string x)) hk (by simp [MapKept.IsKey]) _ 9999
 cases r with
 | none=>cases c <;> simp [Instr.lookup,run_underlying ht,MapKept.run_getObj_map hm,hc,MapKept.run_findKey hk hf,hz,Result.andThen,foundS]
 | some p=>cases c <;> simp [Instr.lookup,run_underlying ht,MapKept.run_getObj_map hm,hc,MapKept.run_findKey hk hf,Result.andThen,foundS]
end
end Go.Proofs.YtlkikjeccamheaaGreatDoor
namespace Go.Proofs.YtlkikjeccamheaaGreatDoor.Js
set_option linter.unusedSimpArgs false
set_option linter.unusedVariables false
set_option maxRecDepth 100000
set_option maxHeartbeats 4000000
open Go.RowKit
def keysOk:List Bs→List (Bs × Bs)→Bool
 | _,[]=>true
 | seen,k :: r=>decide (k.2.length=32) && decide (k.1=nameL k.2) && !(seen.contains k.1) && keysOk (seen++[k.1]) r
def headOk (D:Bs) (num:Int) (ks:List (Bs × Bs)):Bool:=domB D && decide (0≤num) && decide (num≤1099511627776) && decide (ks.length≤8)
def mayB (D:Bs) (num:Int) (ks:List (Bs × Bs)):Bool:=headOk D num ks && keysOk [] ks
def keysTo (ks:List (Bs × Bs)) (i:Nat):Prop:=keysOk [] ks=keysOk ((ks.take i).map (·.1)) (ks.drop i)
theorem qds (ks:List (Bs × Bs)):keysTo ks 0:=rfl
theorem qdt {ks:List (Bs × Bs)} {i:Nat} (h:keysTo ks i) (hi:i<ks.length) (h1:ks[i].2.length=32) (h2:ks[i].1=nameL ks[i].2) (h3:ks[i].1 ∉ (ks.take i).map (·.1)):keysTo ks (i+1):=by
 unfold keysTo at h ⊢;rw [h,List.drop_eq_getElem_cons hi,List.take_succ_eq_append_getElem hi,List.map_append]
 conv=>lhs; unfold keysOk
 rw [decide_eq_true h1,decide_eq_true h2,show ((ks.take i).map (·.1)).contains ks[i].1=false by simpa using h3];rfl
theorem keysTo_no {ks:List (Bs × Bs)} {i:Nat} (h:keysTo ks i) (hi:i<ks.length) (hn:ks[i].2.length=32→ks[i].1=nameL ks[i].2→ks[i].1 ∈ (ks.take i).map (·.1)):keysOk [] ks=false:=by
 unfold keysTo at h;rw [h,List.drop_eq_getElem_cons hi];unfold keysOk
 by_cases h1:ks[i].2.length=32
 ·by_cases h2:ks[i].1=nameL ks[i].2
  ·have h3:=hn h1 h2;rw [show ((ks.take i).map (·.1)).contains ks[i].1=true by simpa using h3];simp
  ·simp [h2]
 ·simp [h1]
theorem keysTo_all {ks:List (Bs × Bs)} {i:Nat} (h:keysTo ks i) (hi:i=ks.length):keysOk [] ks=true:=by
 unfold keysTo at h;rw [h,hi,List.drop_length];rfl
def mapE (l:List Bs):Array MapEntry:=(l.mapIdx fun i s=>(⟨.string (bs s),.int .i64 1,i⟩:MapEntry)).toArray
theorem mapE_push (l:List Bs) (s:Bs):mapE (l++[s])=(mapE l).push ⟨.string (bs s),.int .i64 1,(mapE l).size⟩:=by
 unfold mapE;rw [List.mapIdx_concat];simp
theorem mapE_key (l:List Bs):∀ x ∈ (mapE l).toList,MapKept.IsKey .string x.key:=by
 intro x hx;simp only [mapE,List.mem_mapIdx] at hx;obtain ⟨i,hi,rfl⟩:=hx;trivial
theorem mapE_at {l:List Bs} {j:Nat} {e:MapEntry} (h:(mapE l).toList[j]?=some e):∃ s ∈ l,e.key=.string (bs s)∧e.val=.int .i64 1:=by
 simp only [mapE,List.getElem?_mapIdx,Option.map_eq_some_iff] at h;obtain ⟨s,hs,rfl⟩:=h;exact ⟨s,List.mem_of_getElem? hs,rfl,rfl⟩
theorem mapE_no {l:List Bs} {s:Bs} (h:s ∉ l):Instr.findNow .string (.string (bs s)) (mapE l).toList 0=some none:=by
 rcases MapKept.findNow_spec (d:=.string) (k:=.string (bs s)) trivial (mapE l).toList 0 (mapE_key l) with ⟨h1,_⟩ | ⟨j,e,_,h2,h3⟩
 ·exact h1
 ·obtain ⟨t,ht,hk,_⟩:=mapE_at h2;rw [hk] at h3
  injection h3 with h3
  exact absurd (bs_inj h3▸ht) h
theorem mapE_yes {l:List Bs} {s:Bs} (h:s ∈ l):∃ i,Instr.findNow .string (.string (bs s)) (mapE l).toList 0=some (some (i,.int .i64 1)):=by
 rcases MapKept.findNow_spec (d:=.string) (k:=.string (bs s)) trivial (mapE l).toList 0 (mapE_key l) with ⟨_,h2⟩ | ⟨j,e,h1,h2,h3⟩
 ·obtain ⟨i,hi,hs⟩:=List.getElem_of_mem h
  have:=h2 ⟨.string (bs s),.int .i64 1,i⟩ (by
   simp only [mapE,List.mem_mapIdx];exact ⟨i,hi,by rw [hs]⟩)
  exact absurd rfl this
 ·obtain ⟨t,ht,hk,hv⟩:=mapE_at h2;rw [hv] at h1;exact ⟨_,h1⟩
theorem qb1 {w w':World} {g:Nat} {es:Array MapEntry} (h:MapS w g es) (hb:Below w.heap.size w w'):MapS w' g es:=(hb.block g h.lt).trans h
theorem qbO {D:Bs} {num:Int} {ks:List (Bs × Bs)} (h:headOk D num ks=false):mayB D num ks=false:=by unfold mayB; rw [h]; rfl
set_option maxHeartbeats 8000000 in
theorem may_any (D:Bs) (num:Int) (ks:List (Bs × Bs)) (A:Option Addr) (c B:Nat) (w:World) (hr:Rd w B A (rowsV kCell ks)) (hB:B≤w.heap.size) (hD:((bs D).size:Int)≤100000000) (hl:(ks.length:Int)≤9223372036854775807)
  (hk:∀ k ∈ ks,(k.2.length:Int)≤9223372036854775807) (hG:Sh.TabG w) :
  Calls Tryz.prog 15 #[.agg (bC D num A ks.length c)] w fun e w'=>e=.returned (.bool (mayB D num ks))∧Below w.heap.size w w':=by
 obtain ⟨r,hrr⟩:=eX (mayB D num ks);rw [← hrr];have HRR:=zY hrr;clear hrr;obtain ⟨n,hn⟩:=eX (ks.length);rw [← hn] at hl ⊢;have HN:=zY hn;obtain ⟨W0,hW0⟩:=eX (w.alloc (.cells (bC D num A n c) 24));have HB0:=zY (show Below w.heap.size w W0 by rw [hW0]; exact (Below.refl _ w).alloc (Nat.le_refl _) _);have HK:=zY (show Blk W0 w.heap.size 24 (bC D num A n c) by rw [hW0]; exact Blk.new _ _ _);have HW0:=zY hW0;have HR:=zY hr;have HBB:=zY hB;have HKX:=zY hk;have HG:=zY hG;have HHD:=zY (show headOk D num ks=(domB D && decide (0≤num) && decide (num≤1099511627776) && decide (n≤8)) by rw [hn]; rfl);have C:=zY (domain_any (bs D) hD W0);rw [show (bs D).data.toList=D from by simp [bs]] at C;obtain ⟨d,hd⟩:=eX (domB D);rw [← hd] at C HHD;have a0:W0.cell? ⟨w.heap.size,0,none⟩=some (.string (bs D)):=HK.out.cell 0;clear hW0 hn hr hB hk hG hD hd;go_enter Tryz.func15,Tryz.ntmps15
 go_upto_region 1 with (fail)
 rw [show w.alloc (.cells (bC D num A n c) 24)=W0 from HW0.out.symm];generalize Value.agg (bC D num A n c)=AV
 cases d with
 | false =>
  have HNO:=zY (qbO (HHD.out.trans (by rfl)));go_wp2_with (go_at_call 31; refine qaa C.out ?_; rintro e u1 ⟨rfl,hb1⟩; have HB1:=zY (HB0.out.trans (hb1.mono HB0.out.size)); clear hb1);go_ret;exact ⟨by rw [HRR.out,HNO.out]; rfl,HB1.out⟩
 | true =>
  go_wp2_with fail;refine qaa C.out ?_;rintro e u1 ⟨rfl,hb1⟩;have HK1:=zY (HK.out.below hb1 HK.out.lt);have HB1:=zY (HB0.out.trans (hb1.mono HB0.out.size));have a1:u1.cell? ⟨w.heap.size,1,none⟩=some (.int .i64 num):=HK1.out.cell 1;have a2:u1.cell? ⟨w.heap.size,2,none⟩=some (.slice A n c):=HK1.out.cell 2;clear a0 hb1
  by_cases hn0:num<0
  ·have HNO:=zY (qbO (HHD.out.trans (by rw [decide_eq_false (show ¬ (0≤num) by omega)]; rfl)));go_wp2_with fail;go_ret;exact ⟨by rw [HRR.out,HNO.out]; rfl,HB1.out⟩
  by_cases hn1:1099511627776<num
  ·have HNO:=zY (qbO (HHD.out.trans (by rw [decide_eq_false (show ¬ (num≤1099511627776) by omega)]; simp)));go_wp2_with fail;go_ret;exact ⟨by rw [HRR.out,HNO.out]; rfl,HB1.out⟩
  by_cases hn8:8<(n:Int)
  ·have HNO:=zY (qbO (HHD.out.trans (by rw [decide_eq_false (show ¬ (n≤8) by omega)]; simp)));go_wp2_with fail;go_ret;exact ⟨by rw [HRR.out,HNO.out]; rfl,HB1.out⟩
  have HHO:=zY (show mayB D num ks=keysOk [] ks by
   unfold mayB;rw [HHD.out,decide_eq_true (show 0≤num by omega),decide_eq_true (show num≤1099511627776 by omega),decide_eq_true (show n≤8 by omega)]
   rfl)
  have hmm:=@run_makeMap Tryz.prog
  go_upto_region 4 with (fail)
  obtain ⟨g,hg⟩:=eX (u1.heap.size);have HGE:=zY (show w.heap.size<g by rw [hg]; exact HK1.out.lt);have HGU:=zY (show u1.heap.size=g from hg.symm);have hb2:Below w.heap.size w (u1.alloc (.map #[] 0)):=HB1.out.alloc HB1.out.size _;have hm2:MapS (u1.alloc (.map #[] 0)) g (mapE []):=by rw [hg]; exact MapS.new u1
  have hd2:(u1.alloc (.map #[] 0)).cell? ⟨w.heap.size,2,none⟩=some (.slice A n c):=(HK1.out.alloc _).cell 2;obtain ⟨W2,hW2⟩:=eX (u1.alloc (.map #[] 0));rw [← hW2] at hb2 hm2 hd2;rw [← hg,← hW2];have HB2:=zY hb2;have HM2:=zY hm2;clear hW2 hb2 hm2 hg a1 a2 hmm;have hn8':(n:Int)≤8:=by omega
  clear hn8 hn0 hn1 hl;go_wp2_with fail
  go_loopw [30] (fun x wr=>∃ i:Nat,i≤n∧x=.int .i64 (i:Int)∧keysTo ks i∧Below w.heap.size w wr∧MapS wr g (mapE ((ks.take i).map (·.1)))) (fun x _=>n - (intOf x).toNat)
  case atStart=>exact ⟨0,Nat.zero_le _,rfl,qds ks,HB2.out,HM2.out⟩
  case round =>
   obtain ⟨i,hi,rfl,hto,hbw,hmp⟩:=hrel;have HTO:=zY hto;have HBW:=zY hbw;have HMP:=zY hmp;clear hto hbw hmp
   by_cases hlt:i<n
   ·have huj:=Tryz.underlying38;have hil:i<ks.length:=by rw [← HN.out]; exact hlt
    have hlt':(i:Int)<(n:Int):=by omega
    obtain ⟨ad,hA,hadb,hcell⟩:=qaX (f:=kCell) (m:=2) (fun _=>rfl) (by decide) (HR.out.below (HBW.out.mono HBB.out)) hil;subst hA;obtain ⟨X,hX⟩:=eX (ks[i]);rw [← hX] at hcell;have HX:=zY (show ∃ h:i<ks.length,X=ks[i] from ⟨hil,hX⟩);have HCL:=zY (show ∀ j u,(kCell X).toList[j]?=some u→wr.cell? ((ad.add (i*2)).add j)=some u from fun j u hu=>hcell j u (by simpa using hu));have HKL:=zY (HKX.out X (by rw [hX]; exact List.getElem_mem hil));have HLT:=zY hlt
    have HNK:=zY (fun (hno:X.2.length=32→X.1=nameL X.2→X.1 ∈ (ks.take i).map (·.1))=>show mayB D num ks=false by
     rw [HHO.out];exact keysTo_no HTO.out hil (by rw [← hX]; exact hno))
    have HYK:=zY (fun (h1:X.2.length=32) (h2:X.1=nameL X.2) (h3:X.1 ∉ (ks.take i).map (·.1))=>show keysTo ks (i+1)∧(ks.take (i+1)).map (·.1)=(ks.take i).map (·.1)++[X.1] from
     ⟨qdt HTO.out hil (by rw [← hX]; exact h1) (by rw [← hX]; exact h2) (by rw [← hX]; exact h3),by rw [List.take_succ_eq_append_getElem hil,List.map_append,hX]; rfl⟩)
    obtain ⟨N,hN⟩:=eX ((ks.take i).map (·.1));rw [← hN] at HNK HYK HMP;clear hX hcell hadb hil hlt hN
    go_upto_region 7 with (first
     | refine qaD (r:=(kCell X).toList) HCL.out rfl rfl rfl huj rfl qbq ?_
     | (refine qae (cells:=kCell X) (Blk.new _ _ _) rfl rfl rfl rfl qbq rfl (qdw X) ?_; intro w5 hb5 hw5))
    have HK5:=zY hb5;have hbw5:Below wr.heap.size wr w5:=qaN hw5;have HM5:=zY (qb1 HMP.out hbw5);have HB5:=zY (HBW.out.trans (hbw5.mono HBW.out.size));have HGT:=zY (fun (u:World) (hu:Below w5.heap.size w5 u)=>show Sh.TabG u from HG.out.below (HB5.out.trans (hu.mono HB5.out.size)) HG.out.size);have hc1:w5.cell? ⟨wr.heap.size,1,none⟩=some (.string (bs X.2)):=hb5.cell 1;have hs0:((bs X.2).size:Int)=(X.2.length:Int):=by rw [qaB]
    clear hb5 hw5 hbw5
    by_cases h32:X.2.length=32
    ·have HS32:=zY (show (bs X.2).size=32 by rw [qaB,h32]);have HSZ:=zY (show ((bs X.2).size:Int)=32 by rw [hs0,h32]; rfl)
     have HNA:=zY (show ∀ A c u,Rd u u.heap.size A (bytesV X.2)→32≤c→c≤9223372036854775807→Sh.TabG u→Calls Tryz.prog 32 #[.slice A 32 c] u (fun e w'=>e=.returned (.string (bs (nameL X.2)))∧Below u.heap.size u w') from
      fun A c u h1 h2 h3 h4=>by have h:=jname_any X.2 (by omega) A c u h1 (by omega) h3 h4; rw [h32] at h; exact h)
     have hus:=Tryz.underlying9;have hub8:=Tryz.underlying40;have hu8:=Tryz.underlying5;have HC0:Below w5.heap.size w5 w5.drew:=(Below.refl _ _).drew;have H32:=zY h32;clear hs0 h32 hc1
     by_cases hkn:X.1=nameL X.2
     ·have HQ:=zY (show ((bs X.1).toList == (bs (nameL X.2)).toList)=true by rw [qas,qas]; simpa using hkn)
      obtain ⟨m,hlk0,hmm⟩:∃ m:Int,(∀ u,Below w5.heap.size w5 u→(Instr.lookup 61 (.map (some g)) (.string (bs X.1)) false).run Tryz.prog u=.ok (.int .i64 m) u)∧((m=0∧X.1 ∉ N)∨(m=1∧X.1 ∈ N)):=by
       have ht:=Tryz.underlying61;have hz:∀ u:World,(zeroValue 3).run Tryz.prog u=.ok (.int .i64 0) u:=fun u=>by first | rfl | (simp; done) | kernel_rfl
       by_cases hx:X.1 ∈ N
       ·obtain ⟨q,hq⟩:=mapE_yes hx;exact ⟨1,fun u hu=>qc8 false ht hus (qb1 HM5.out hu) hq (hz u),.inr ⟨rfl,hx⟩⟩
       ·exact ⟨0,fun u hu=>qc8 false ht hus (qb1 HM5.out hu) (mapE_no hx) (hz u),.inl ⟨rfl,hx⟩⟩
      have HLK:=zY hlk0;have HMM:=zY hmm;clear hlk0 hmm;have HKN:=zY hkn;clear hkn
      refine qap (fun u=>Below w5.heap.size w5 u) (fun | false=>(fun _=>True) | true=>(fun _=>True)) (fun | false,_=>false | true,_=>false)
       [fun z _=>z 0=.pointer (some ⟨wr.heap.size,1,none⟩),
        fun z _=>z 1=.string (bs X.2),
        fun z _=>z 2=.int .i64 32,
        fun z _=>z 3=.bool false,
        fun z _=>z 4=.bool false,
        fun z _=>z 5=.pointer (some ⟨wr.heap.size,0,none⟩),
        fun z _=>z 6=.string (bs X.1),
        fun z _=>z 7=.pointer (some ⟨wr.heap.size,1,none⟩),
        fun z _=>z 8=.string (bs X.2),
        fun z u=>(fun v u=>∃ A c,v=.slice A 32 c∧Rd u u.heap.size A (bytesV X.2)∧32≤c∧c≤9223372036854775807) (z 9) u,
        fun z _=>z 10=.string (bs (nameL X.2)),
        fun z _=>z 11=.bool false,
        fun z _=>z 12=.bool false,
        fun z _=>z 13=.bool false,
        fun z _=>z 14=.map (some g),
        fun z _=>z 15=.pointer (some ⟨wr.heap.size,0,none⟩),
        fun z _=>z 16=.string (bs X.1),
        fun z _=>z 17=.int .i64 m,
        fun z _=>z 18=.bool (decide (0<m)),
        fun z _=>z 19=.bool (decide (0<m))]
       [Eq,Eq,Eq,Eq,Eq,Eq,Eq,Eq,Eq,fun u u'=>Below u.heap.size u u',fun u u'=>Below u.heap.size u u',Eq,Eq,Eq,Eq,Eq,Eq,Eq,Eq,Eq]
       (fun _ _=>false) [(0,some 34),(1,some 35),(2,some 36),(3,some 37),(4,some 38),(5,some 39),(6,some 40),(7,some 41),(8,some 42),(9,some 43),(10,some 44),(11,some 45),(12,some 46),(13,some 47),(14,some 48),(15,some 49),(16,some 50),(17,some 51),(18,some 52),(19,some 53)] (by kernel_rfl) (by kernel_rfl) rfl (fun _=>rfl) ?_ ?_ ?_ ?_ ?_ ?_
      ·exact HC0
      ·intro m; cases m; exact trivial; exact trivial
      ·intro m; cases m
       ·refine ⟨?_,?_,?_,?_,?_,?_,?_,?_,?_,?_,?_,?_,?_,?_,?_,?_,?_,?_,?_,?_,trivial⟩ <;> first | exact .inr fun _ _ h h0=>h▸h0 | exact .inr fun _ _ _ h=>h
       ·refine ⟨?_,?_,?_,?_,?_,?_,?_,?_,?_,?_,?_,?_,?_,?_,?_,?_,?_,?_,?_,?_,trivial⟩ <;> first | exact .inr fun _ _ h h0=>h▸h0 | exact .inr fun _ _ _ h=>h
      ·refine ⟨⟨.inl rfl,?_,?_,?_,?_,?_,?_,?_,?_,?_,?_,?_,?_,?_,?_,?_,?_,?_,?_,?_,trivial⟩,⟨?_,.inl rfl,?_,?_,?_,?_,?_,?_,?_,?_,?_,?_,?_,?_,?_,?_,?_,?_,?_,?_,trivial⟩,⟨?_,?_,.inl rfl,?_,?_,?_,?_,?_,?_,?_,?_,?_,?_,?_,?_,?_,?_,?_,?_,?_,trivial⟩,⟨?_,?_,?_,.inl rfl,?_,?_,?_,?_,?_,?_,?_,?_,?_,?_,?_,?_,?_,?_,?_,?_,trivial⟩,⟨?_,?_,?_,?_,.inl rfl,?_,?_,?_,?_,?_,?_,?_,?_,?_,?_,?_,?_,?_,?_,?_,trivial⟩,⟨?_,?_,?_,?_,?_,.inl rfl,?_,?_,?_,?_,?_,?_,?_,?_,?_,?_,?_,?_,?_,?_,trivial⟩,⟨?_,?_,?_,?_,?_,?_,.inl rfl,?_,?_,?_,?_,?_,?_,?_,?_,?_,?_,?_,?_,?_,trivial⟩,⟨?_,?_,?_,?_,?_,?_,?_,.inl rfl,?_,?_,?_,?_,?_,?_,?_,?_,?_,?_,?_,?_,trivial⟩,⟨?_,?_,?_,?_,?_,?_,?_,?_,.inl rfl,?_,?_,?_,?_,?_,?_,?_,?_,?_,?_,?_,trivial⟩,⟨?_,?_,?_,?_,?_,?_,?_,?_,?_,.inl rfl,?_,?_,?_,?_,?_,?_,?_,?_,?_,?_,trivial⟩,⟨?_,?_,?_,?_,?_,?_,?_,?_,?_,.inr (.inr (.inr (fun _ _ _ _ h h0=>by obtain ⟨A0,c0,h1,h2,h3⟩:=h0; exact ⟨A0,c0,h1,(h2.below h).mono h.size,h3⟩))),.inl rfl,?_,?_,?_,?_,?_,?_,?_,?_,?_,trivial⟩,⟨?_,?_,?_,?_,?_,?_,?_,?_,?_,?_,?_,.inl rfl,?_,?_,?_,?_,?_,?_,?_,?_,trivial⟩,⟨?_,?_,?_,?_,?_,?_,?_,?_,?_,?_,?_,?_,.inl rfl,?_,?_,?_,?_,?_,?_,?_,trivial⟩,⟨?_,?_,?_,?_,?_,?_,?_,?_,?_,?_,?_,?_,?_,.inl rfl,?_,?_,?_,?_,?_,?_,trivial⟩,⟨?_,?_,?_,?_,?_,?_,?_,?_,?_,?_,?_,?_,?_,?_,.inl rfl,?_,?_,?_,?_,?_,trivial⟩,⟨?_,?_,?_,?_,?_,?_,?_,?_,?_,?_,?_,?_,?_,?_,?_,.inl rfl,?_,?_,?_,?_,trivial⟩,⟨?_,?_,?_,?_,?_,?_,?_,?_,?_,?_,?_,?_,?_,?_,?_,?_,.inl rfl,?_,?_,?_,trivial⟩,⟨?_,?_,?_,?_,?_,?_,?_,?_,?_,?_,?_,?_,?_,?_,?_,?_,?_,.inl rfl,?_,?_,trivial⟩,⟨?_,?_,?_,?_,?_,?_,?_,?_,?_,?_,?_,?_,?_,?_,?_,?_,?_,?_,.inl rfl,?_,trivial⟩,⟨?_,?_,?_,?_,?_,?_,?_,?_,?_,?_,?_,?_,?_,?_,?_,?_,?_,?_,?_,.inl rfl,trivial⟩,trivial⟩ <;> first | exact .inr (.inr (.inl rfl)) | exact .inr (.inr (.inr fun _ _ _ _ _ h=>h)) | exact .inr (.inr (.inr fun _ _ _ _ h h0=>by cases h; exact h0))
      ·refine ⟨?_,?_,?_,?_,?_,?_,?_,?_,?_,?_,?_,?_,?_,?_,?_,?_,?_,?_,?_,?_,trivial⟩
       ·refine qab [] (fun _=>rfl) rfl ?_;intro w1 vals hC1 hi0 hf E hE;clear hi0;clear hf;simp only [sP] at hE ⊢;go_wp2;exact .mk (hE _ _ rfl hC1 rfl)
       ·refine qab [(0,some 34)] (fun _=>rfl) rfl ?_;intro w1 vals hC1 hi0 hf E hE;clear hi0;have f0:vals 0=_:=hf 0 rfl
        try dsimp only at f0
        clear hf;simp only [sP,f0] at hE ⊢;clear f0;have d0:=(HK5.out.below hC1 HK5.out.lt).cell 1;simp only [kCell,List.getElem?_toArray,List.getElem?_cons_zero,List.getElem?_cons_succ] at d0;go_wp2;exact .mk (hE _ _ rfl hC1 rfl)
       ·refine qab [(1,some 35)] (fun _=>rfl) rfl ?_;intro w1 vals hC1 hi0 hf E hE;clear hi0;have f1:vals 1=_:=hf 1 rfl
        try dsimp only at f1
        clear hf;simp only [sP,f1] at hE ⊢;clear f1;have hsz:=HSZ.out;go_wp2;exact .mk (hE _ _ rfl hC1 rfl)
       ·refine qab [(2,some 36)] (fun _=>rfl) rfl ?_;intro w1 vals hC1 hi0 hf E hE;clear hi0;have f2:vals 2=_:=hf 2 rfl
        try dsimp only at f2
        clear hf;simp only [sP,f2] at hE ⊢;clear f2;go_wp2;exact .mk (hE _ _ rfl hC1 rfl)
       ·refine qab [(3,some 37)] (fun _=>rfl) rfl ?_;intro w1 vals hC1 hi0 hf E hE;clear hi0;have f3:vals 3=_:=hf 3 rfl
        try dsimp only at f3
        clear hf;simp only [sP,f3] at hE ⊢;clear f3;go_wp2;exact .mk (hE _ _ rfl hC1 rfl)
       ·refine qaj [(4,some 38)] (fun _=>rfl) 4 38 false rfl rfl ?_ ?_
        ·intro w1 vals hC1 hi0 hf hy E hE;dsimp only at hE ⊢;clear hi0;have f4:vals 4=_:=hf 4 rfl
         try dsimp only at f4
         clear hf;clear hy;simp only [sP,f4] at hE ⊢;clear f4;go_wp2;exact .mk (hE _ _ rfl hC1 rfl)
        ·intro w1 vals hC1 hi0 hf hy;clear hi0;have f4:vals 4=_:=hf 4 rfl
         try dsimp only at f4
         clear hf;exact absurd (by simp only [sP,f4]; rfl) hy
       ·refine qaj [(5,some 39),(4,some 38)] (fun _=>rfl) 4 38 false rfl rfl ?_ ?_
        ·intro w1 vals hC1 hi0 hf hy E hE;dsimp only at hE ⊢;clear hi0;have f4:vals 4=_:=hf 4 rfl;have f5:vals 5=_:=hf 5 rfl
         try dsimp only at f4 f5
         clear hf;clear hy;simp only [sP,f4,f5] at hE ⊢;clear f4 f5;have d0:=(HK5.out.below hC1 HK5.out.lt).cell 0;simp only [kCell,List.getElem?_toArray,List.getElem?_cons_zero,List.getElem?_cons_succ] at d0;go_wp2;exact .mk (hE _ _ rfl hC1 rfl)
        ·intro w1 vals hC1 hi0 hf hy;clear hi0;have f4:vals 4=_:=hf 4 rfl;have f5:vals 5=_:=hf 5 rfl
         try dsimp only at f4 f5
         clear hf;exact absurd (by simp only [sP,f4]; rfl) hy
       ·refine qaj [(4,some 38)] (fun _=>rfl) 4 38 false rfl rfl ?_ ?_
        ·intro w1 vals hC1 hi0 hf hy E hE;dsimp only at hE ⊢;clear hi0;have f4:vals 4=_:=hf 4 rfl
         try dsimp only at f4
         clear hf;clear hy;simp only [sP,f4] at hE ⊢;clear f4;go_wp2;exact .mk (hE _ _ rfl hC1 rfl)
        ·intro w1 vals hC1 hi0 hf hy;clear hi0;have f4:vals 4=_:=hf 4 rfl
         try dsimp only at f4
         clear hf;exact absurd (by simp only [sP,f4]; rfl) hy
       ·refine qaj [(7,some 41),(4,some 38)] (fun _=>rfl) 4 38 false rfl rfl ?_ ?_
        ·intro w1 vals hC1 hi0 hf hy E hE;dsimp only at hE ⊢;clear hi0;have f4:vals 4=_:=hf 4 rfl;have f7:vals 7=_:=hf 7 rfl
         try dsimp only at f4 f7
         clear hf;clear hy;simp only [sP,f4,f7] at hE ⊢;clear f4 f7;have d0:=(HK5.out.below hC1 HK5.out.lt).cell 1;simp only [kCell,List.getElem?_toArray,List.getElem?_cons_zero,List.getElem?_cons_succ] at d0;go_wp2;exact .mk (hE _ _ rfl hC1 rfl)
        ·intro w1 vals hC1 hi0 hf hy;clear hi0;have f4:vals 4=_:=hf 4 rfl;have f7:vals 7=_:=hf 7 rfl
         try dsimp only at f4 f7
         clear hf;exact absurd (by simp only [sP,f4]; rfl) hy
       ·refine qaj [(8,some 42),(4,some 38)] (fun _=>rfl) 4 38 false rfl rfl ?_ ?_
        ·intro w1 vals hC1 hi0 hf hy E hE;dsimp only at hE ⊢;clear hi0;have f4:vals 4=_:=hf 4 rfl;have f8:vals 8=_:=hf 8 rfl
         try dsimp only at f4 f8
         clear hf;clear hy;simp only [sP,f4,f8] at hE ⊢;clear f4 f8;refine qaT (s:=bs X.2) hus hub8 hu8 rfl rfl rfl (by rw [HS32.out]; decide) ?_;intro c7 w7 hr7 hc7 hm7 hb7;rw [HS32.out] at hc7 ⊢;go_wp2_with fail;exact .mk (hE _ _ ⟨_,c7,rfl,hr7,hc7,hm7⟩ (hC1.trans (hb7.mono hC1.size)) hb7)
        ·intro w1 vals hC1 hi0 hf hy;clear hi0;have f4:vals 4=_:=hf 4 rfl;have f8:vals 8=_:=hf 8 rfl
         try dsimp only at f4 f8
         clear hf;exact absurd (by simp only [sP,f4]; rfl) hy
       ·refine qaj [(9,some 43),(4,some 38),(4,some 38)] (fun _=>rfl) 4 38 false rfl rfl ?_ ?_
        ·intro w1 vals hC1 hi0 hf hy E hE;dsimp only at hE ⊢;clear hi0;have f4:vals 4=_:=hf 4 rfl;have f9:(fun v u=>∃ A c,v=.slice A 32 c∧Rd u u.heap.size A (bytesV X.2)∧32≤c∧c≤9223372036854775807) (vals 9) w1:=hf 9 rfl
         try dsimp only at f4 f9
         clear hf;clear hy;obtain ⟨A9,c9,hx9,hr9,hc9,hm9⟩:=f9;simp only [sP,f4,hx9] at hE ⊢;clear f4;clear hx9;go_wp2_with fail;refine qaa (HNA.out A9 c9 _ hr9 hc9 hm9 (HGT.out _ hC1)) ?_;rintro e w2 ⟨rfl,hb2⟩;go_wp2_with fail;exact .mk (hE _ _ rfl (hC1.trans (hb2.mono hC1.size)) hb2)
        ·intro w1 vals hC1 hi0 hf hy;clear hi0;have f4:vals 4=_:=hf 4 rfl;have f9:(fun v u=>∃ A c,v=.slice A 32 c∧Rd u u.heap.size A (bytesV X.2)∧32≤c∧c≤9223372036854775807) (vals 9) w1:=hf 9 rfl
         try dsimp only at f4 f9
         clear hf;exact absurd (by simp only [sP,f4]; rfl) hy
       ·refine qaj [(6,some 40),(10,some 44),(4,some 38)] (fun _=>rfl) 4 38 false rfl rfl ?_ ?_
        ·intro w1 vals hC1 hi0 hf hy E hE;dsimp only at hE ⊢;clear hi0;have f4:vals 4=_:=hf 4 rfl;have f6:vals 6=_:=hf 6 rfl;have f10:vals 10=_:=hf 10 rfl
         try dsimp only at f4 f6 f10
         clear hf;clear hy;simp only [sP,f4,f6,f10] at hE ⊢;clear f4 f6 f10;have hq:=HQ.out;go_wp2;exact .mk (hE _ _ rfl hC1 rfl)
        ·intro w1 vals hC1 hi0 hf hy;clear hi0;have f4:vals 4=_:=hf 4 rfl;have f6:vals 6=_:=hf 6 rfl;have f10:vals 10=_:=hf 10 rfl
         try dsimp only at f4 f6 f10
         clear hf;exact absurd (by simp only [sP,f4]; rfl) hy
       ·refine qab [(4,some 38),(11,some 45)] (fun _=>rfl) rfl ?_;intro w1 vals hC1 hi0 hf E hE;clear hi0;have f4:vals 4=_:=hf 4 rfl;have f11:vals 11=_:=hf 11 rfl
        try dsimp only at f4 f11
        clear hf;simp only [sP,f4,f11] at hE ⊢;clear f4 f11;go_wp2;exact .mk (hE _ _ rfl hC1 rfl)
       ·refine qab [(12,some 46),(10,some 44)] (fun _=>rfl) rfl ?_;intro w1 vals hC1 hi0 hf E hE;clear hi0;have f10:vals 10=_:=hf 10 rfl;have f12:vals 12=_:=hf 12 rfl
        try dsimp only at f10 f12
        clear hf;simp only [sP,f10,f12] at hE ⊢;clear f10 f12;go_wp2;exact .mk (hE _ _ rfl hC1 rfl)
       ·refine qaj [(13,some 47)] (fun _=>rfl) 13 47 false rfl rfl ?_ ?_
        ·intro w1 vals hC1 hi0 hf hy E hE;dsimp only at hE ⊢;clear hi0;have f13:vals 13=_:=hf 13 rfl
         try dsimp only at f13
         clear hf;clear hy;simp only [sP,f13] at hE ⊢;clear f13;go_wp2;exact .mk (hE _ _ rfl hC1 rfl)
        ·intro w1 vals hC1 hi0 hf hy;clear hi0;have f13:vals 13=_:=hf 13 rfl
         try dsimp only at f13
         clear hf;exact absurd (by simp only [sP,f13]; rfl) hy
       ·refine qaj [(13,some 47)] (fun _=>rfl) 13 47 false rfl rfl ?_ ?_
        ·intro w1 vals hC1 hi0 hf hy E hE;dsimp only at hE ⊢;clear hi0;have f13:vals 13=_:=hf 13 rfl
         try dsimp only at f13
         clear hf;clear hy;simp only [sP,f13] at hE ⊢;clear f13;go_wp2;exact .mk (hE _ _ rfl hC1 rfl)
        ·intro w1 vals hC1 hi0 hf hy;clear hi0;have f13:vals 13=_:=hf 13 rfl
         try dsimp only at f13
         clear hf;exact absurd (by simp only [sP,f13]; rfl) hy
       ·refine qaj [(15,some 49),(13,some 47)] (fun _=>rfl) 13 47 false rfl rfl ?_ ?_
        ·intro w1 vals hC1 hi0 hf hy E hE;dsimp only at hE ⊢;clear hi0;have f13:vals 13=_:=hf 13 rfl;have f15:vals 15=_:=hf 15 rfl
         try dsimp only at f13 f15
         clear hf;clear hy;simp only [sP,f13,f15] at hE ⊢;clear f13 f15;have d0:=(HK5.out.below hC1 HK5.out.lt).cell 0;simp only [kCell,List.getElem?_toArray,List.getElem?_cons_zero,List.getElem?_cons_succ] at d0;go_wp2;exact .mk (hE _ _ rfl hC1 rfl)
        ·intro w1 vals hC1 hi0 hf hy;clear hi0;have f13:vals 13=_:=hf 13 rfl;have f15:vals 15=_:=hf 15 rfl
         try dsimp only at f13 f15
         clear hf;exact absurd (by simp only [sP,f13]; rfl) hy
       ·refine qaj [(14,some 48),(16,some 50),(13,some 47)] (fun _=>rfl) 13 47 false rfl rfl ?_ ?_
        ·intro w1 vals hC1 hi0 hf hy E hE;dsimp only at hE ⊢;clear hi0;have f13:vals 13=_:=hf 13 rfl;have f14:vals 14=_:=hf 14 rfl;have f16:vals 16=_:=hf 16 rfl
         try dsimp only at f13 f14 f16
         clear hf;clear hy;simp only [sP,f13,f14,f16] at hE ⊢;clear f13 f14 f16;have hlk:=HLK.out _ hC1;go_wp2;exact .mk (hE _ _ rfl hC1 rfl)
        ·intro w1 vals hC1 hi0 hf hy;clear hi0;have f13:vals 13=_:=hf 13 rfl;have f14:vals 14=_:=hf 14 rfl;have f16:vals 16=_:=hf 16 rfl
         try dsimp only at f13 f14 f16
         clear hf;exact absurd (by simp only [sP,f13]; rfl) hy
       ·refine qaj [(17,some 51),(13,some 47)] (fun _=>rfl) 13 47 false rfl rfl ?_ ?_
        ·intro w1 vals hC1 hi0 hf hy E hE;dsimp only at hE ⊢;clear hi0;have f13:vals 13=_:=hf 13 rfl;have f17:vals 17=_:=hf 17 rfl
         try dsimp only at f13 f17
         clear hf;clear hy;simp only [sP,f13,f17] at hE ⊢;clear f13 f17;go_wp2;exact .mk (hE _ _ rfl hC1 rfl)
        ·intro w1 vals hC1 hi0 hf hy;clear hi0;have f13:vals 13=_:=hf 13 rfl;have f17:vals 17=_:=hf 17 rfl
         try dsimp only at f13 f17
         clear hf;exact absurd (by simp only [sP,f13]; rfl) hy
       ·refine qab [(13,some 47),(18,some 52)] (fun _=>rfl) rfl ?_;intro w1 vals hC1 hi0 hf E hE;clear hi0;have f13:vals 13=_:=hf 13 rfl;have f18:vals 18=_:=hf 18 rfl
        try dsimp only at f13 f18
        clear hf;simp only [sP,f13,f18] at hE ⊢;clear f13 f18;go_wp2;exact .mk (hE _ _ rfl hC1 rfl)
      intro w1 vals hC1 hf;have f0:vals 0=_:=hf 0 (by decide) rfl;have f1:vals 1=_:=hf 1 (by decide) rfl;have f2:vals 2=_:=hf 2 (by decide) rfl;have f3:vals 3=_:=hf 3 (by decide) rfl;have f4:vals 4=_:=hf 4 (by decide) rfl;have f5:vals 5=_:=hf 5 (by decide) rfl;have f6:vals 6=_:=hf 6 (by decide) rfl;have f7:vals 7=_:=hf 7 (by decide) rfl;have f8:vals 8=_:=hf 8 (by decide) rfl;have f9:(fun v u=>∃ A c,v=.slice A 32 c∧Rd u u.heap.size A (bytesV X.2)∧32≤c∧c≤9223372036854775807) (vals 9) w1:=hf 9 (by decide) rfl;have f10:vals 10=_:=hf 10 (by decide) rfl;have f11:vals 11=_:=hf 11 (by decide) rfl;have f12:vals 12=_:=hf 12 (by decide) rfl;have f13:vals 13=_:=hf 13 (by decide) rfl;have f14:vals 14=_:=hf 14 (by decide) rfl;have f15:vals 15=_:=hf 15 (by decide) rfl;have f16:vals 16=_:=hf 16 (by decide) rfl;have f17:vals 17=_:=hf 17 (by decide) rfl;have f18:vals 18=_:=hf 18 (by decide) rfl;have f19:vals 19=_:=hf 19 (by decide) rfl
      try dsimp only at f0 f1 f2 f3 f4 f5 f6 f7 f8 f9 f10 f11 f12 f13 f14 f15 f16 f17 f18 f19
      clear hf;simp only [sP,f0,f1,f2,f3,f4,f5,f6,f7,f8,f10,f11,f12,f13,f14,f15,f16,f17,f18,f19];clear f0 f1 f2 f3 f4 f5 f6 f7 f8 f10 f11 f12 f13 f14 f15 f16 f17 f18 f19;generalize vals 9=x9 at *;have HB6:=zY (HB5.out.trans (hC1.mono HB5.out.size));have HC6:=zY hC1;have hM6:=qb1 HM5.out hC1;have a0:w1.cell? ⟨wr.heap.size,0,none⟩=some (.string (bs X.1)):=(HK5.out.below hC1 HK5.out.lt).cell 0;have hlk:=HLK.out _ hC1;clear hC1 HC0
      rcases HMM.out with ⟨rfl,hx⟩ | ⟨rfl,hx⟩
      ·obtain ⟨hto2,htk⟩:=HYK.out H32.out HKN.out hx;have HTO2:=zY hto2;have HTK:=zY htk;obtain ⟨w6,hr6,hm6,hg6⟩:=run_insertS (P:=Tryz.prog) (v:=.int .i64 1) Tryz.underlying61 hus hM6 (mapE_no hx);have HM6:=zY hm6;have HG6:=zY hg6;clear hto2 htk hx hM6 hm6 hg6;go_wp2_with fail
       go_roundw
       case rel=>exact ⟨i+1,HLT.out,by go_num,HTO2.out,HB6.out.grown HG6.out (by have:=HB6.out.size; omega) (fun k hk=>by injection hk with hk; have:=HGE.out; omega),by rw [HTK.out,mapE_push]; exact HM6.out⟩
       case measure=>have:=HLT.out; simp [intOf]; omega
      ·have HNO:=zY (HNK.out fun _ _=>hx);clear hx hM6;go_wp2_with fail;go_ret;exact ⟨by rw [HRR.out,HNO.out]; rfl,HB6.out⟩
     ·have HQ:=zY (show ((bs X.1).toList == (bs (nameL X.2)).toList)=false by rw [qas,qas]; simpa using hkn);have HNO:=zY (HNK.out fun _ h=>absurd h hkn);clear hkn
      refine qap (fun u=>Below w5.heap.size w5 u) (fun | false=>(fun _=>True) | true=>(fun _=>True)) (fun | false,_=>false | true,_=>false)
       [fun z _=>z 0=.pointer (some ⟨wr.heap.size,1,none⟩),
        fun z _=>z 1=.string (bs X.2),
        fun z _=>z 2=.int .i64 32,
        fun z _=>z 3=.bool false,
        fun z _=>z 4=.bool false,
        fun z _=>z 5=.pointer (some ⟨wr.heap.size,0,none⟩),
        fun z _=>z 6=.string (bs X.1),
        fun z _=>z 7=.pointer (some ⟨wr.heap.size,1,none⟩),
        fun z _=>z 8=.string (bs X.2),
        fun z u=>(fun v u=>∃ A c,v=.slice A 32 c∧Rd u u.heap.size A (bytesV X.2)∧32≤c∧c≤9223372036854775807) (z 9) u,
        fun z _=>z 10=.string (bs (nameL X.2)),
        fun z _=>z 11=.bool true,
        fun z _=>z 12=.bool true,
        fun z _=>z 13=.bool true,
        fun _ _=>True,
        fun _ _=>True,
        fun _ _=>True,
        fun _ _=>True,
        fun _ _=>True,
        fun z _=>z 19=.bool true]
       [Eq,Eq,Eq,Eq,Eq,Eq,Eq,Eq,Eq,fun u u'=>Below u.heap.size u u',fun u u'=>Below u.heap.size u u',Eq,Eq,Eq,Eq,Eq,Eq,Eq,Eq,Eq]
       (fun _ _=>false) [(0,some 34),(1,some 35),(2,some 36),(3,some 37),(4,some 38),(5,some 39),(6,some 40),(7,some 41),(8,some 42),(9,some 43),(10,some 44),(11,some 45),(12,some 46),(13,some 47),(14,some 48),(15,some 49),(16,some 50),(17,some 51),(18,some 52),(19,some 53)] (by kernel_rfl) (by kernel_rfl) rfl (fun _=>rfl) ?_ ?_ ?_ ?_ ?_ ?_
      ·exact HC0
      ·intro m; cases m; exact trivial; exact trivial
      ·intro m; cases m
       ·refine ⟨?_,?_,?_,?_,?_,?_,?_,?_,?_,?_,?_,?_,?_,?_,?_,?_,?_,?_,?_,?_,trivial⟩ <;> first | exact .inr fun _ _ h h0=>h▸h0 | exact .inr fun _ _ _ h=>h
       ·refine ⟨?_,?_,?_,?_,?_,?_,?_,?_,?_,?_,?_,?_,?_,?_,?_,?_,?_,?_,?_,?_,trivial⟩ <;> first | exact .inr fun _ _ h h0=>h▸h0 | exact .inr fun _ _ _ h=>h
      ·refine ⟨⟨.inl rfl,?_,?_,?_,?_,?_,?_,?_,?_,?_,?_,?_,?_,?_,?_,?_,?_,?_,?_,?_,trivial⟩,⟨?_,.inl rfl,?_,?_,?_,?_,?_,?_,?_,?_,?_,?_,?_,?_,?_,?_,?_,?_,?_,?_,trivial⟩,⟨?_,?_,.inl rfl,?_,?_,?_,?_,?_,?_,?_,?_,?_,?_,?_,?_,?_,?_,?_,?_,?_,trivial⟩,⟨?_,?_,?_,.inl rfl,?_,?_,?_,?_,?_,?_,?_,?_,?_,?_,?_,?_,?_,?_,?_,?_,trivial⟩,⟨?_,?_,?_,?_,.inl rfl,?_,?_,?_,?_,?_,?_,?_,?_,?_,?_,?_,?_,?_,?_,?_,trivial⟩,⟨?_,?_,?_,?_,?_,.inl rfl,?_,?_,?_,?_,?_,?_,?_,?_,?_,?_,?_,?_,?_,?_,trivial⟩,⟨?_,?_,?_,?_,?_,?_,.inl rfl,?_,?_,?_,?_,?_,?_,?_,?_,?_,?_,?_,?_,?_,trivial⟩,⟨?_,?_,?_,?_,?_,?_,?_,.inl rfl,?_,?_,?_,?_,?_,?_,?_,?_,?_,?_,?_,?_,trivial⟩,⟨?_,?_,?_,?_,?_,?_,?_,?_,.inl rfl,?_,?_,?_,?_,?_,?_,?_,?_,?_,?_,?_,trivial⟩,⟨?_,?_,?_,?_,?_,?_,?_,?_,?_,.inl rfl,?_,?_,?_,?_,?_,?_,?_,?_,?_,?_,trivial⟩,⟨?_,?_,?_,?_,?_,?_,?_,?_,?_,.inr (.inr (.inr (fun _ _ _ _ h h0=>by obtain ⟨A0,c0,h1,h2,h3⟩:=h0; exact ⟨A0,c0,h1,(h2.below h).mono h.size,h3⟩))),.inl rfl,?_,?_,?_,?_,?_,?_,?_,?_,?_,trivial⟩,⟨?_,?_,?_,?_,?_,?_,?_,?_,?_,?_,?_,.inl rfl,?_,?_,?_,?_,?_,?_,?_,?_,trivial⟩,⟨?_,?_,?_,?_,?_,?_,?_,?_,?_,?_,?_,?_,.inl rfl,?_,?_,?_,?_,?_,?_,?_,trivial⟩,⟨?_,?_,?_,?_,?_,?_,?_,?_,?_,?_,?_,?_,?_,.inl rfl,?_,?_,?_,?_,?_,?_,trivial⟩,⟨?_,?_,?_,?_,?_,?_,?_,?_,?_,?_,?_,?_,?_,?_,.inl rfl,?_,?_,?_,?_,?_,trivial⟩,⟨?_,?_,?_,?_,?_,?_,?_,?_,?_,?_,?_,?_,?_,?_,?_,.inl rfl,?_,?_,?_,?_,trivial⟩,⟨?_,?_,?_,?_,?_,?_,?_,?_,?_,?_,?_,?_,?_,?_,?_,?_,.inl rfl,?_,?_,?_,trivial⟩,⟨?_,?_,?_,?_,?_,?_,?_,?_,?_,?_,?_,?_,?_,?_,?_,?_,?_,.inl rfl,?_,?_,trivial⟩,⟨?_,?_,?_,?_,?_,?_,?_,?_,?_,?_,?_,?_,?_,?_,?_,?_,?_,?_,.inl rfl,?_,trivial⟩,⟨?_,?_,?_,?_,?_,?_,?_,?_,?_,?_,?_,?_,?_,?_,?_,?_,?_,?_,?_,.inl rfl,trivial⟩,trivial⟩ <;> first | exact .inr (.inr (.inl rfl)) | exact .inr (.inr (.inr fun _ _ _ _ _ h=>h)) | exact .inr (.inr (.inr fun _ _ _ _ h h0=>by cases h; exact h0)) | exact .inr (.inr (.inr fun _ _ _ _ _ _=>trivial))
      ·refine ⟨?_,?_,?_,?_,?_,?_,?_,?_,?_,?_,?_,?_,?_,?_,?_,?_,?_,?_,?_,?_,trivial⟩
       ·refine qab [] (fun _=>rfl) rfl ?_;intro w1 vals hC1 hi0 hf E hE;clear hi0;clear hf;simp only [sP] at hE ⊢;go_wp2;exact .mk (hE _ _ rfl hC1 rfl)
       ·refine qab [(0,some 34)] (fun _=>rfl) rfl ?_;intro w1 vals hC1 hi0 hf E hE;clear hi0;have f0:vals 0=_:=hf 0 rfl
        try dsimp only at f0
        clear hf;simp only [sP,f0] at hE ⊢;clear f0;have d0:=(HK5.out.below hC1 HK5.out.lt).cell 1;simp only [kCell,List.getElem?_toArray,List.getElem?_cons_zero,List.getElem?_cons_succ] at d0;go_wp2;exact .mk (hE _ _ rfl hC1 rfl)
       ·refine qab [(1,some 35)] (fun _=>rfl) rfl ?_;intro w1 vals hC1 hi0 hf E hE;clear hi0;have f1:vals 1=_:=hf 1 rfl
        try dsimp only at f1
        clear hf;simp only [sP,f1] at hE ⊢;clear f1;have hsz:=HSZ.out;go_wp2;exact .mk (hE _ _ rfl hC1 rfl)
       ·refine qab [(2,some 36)] (fun _=>rfl) rfl ?_;intro w1 vals hC1 hi0 hf E hE;clear hi0;have f2:vals 2=_:=hf 2 rfl
        try dsimp only at f2
        clear hf;simp only [sP,f2] at hE ⊢;clear f2;go_wp2;exact .mk (hE _ _ rfl hC1 rfl)
       ·refine qab [(3,some 37)] (fun _=>rfl) rfl ?_;intro w1 vals hC1 hi0 hf E hE;clear hi0;have f3:vals 3=_:=hf 3 rfl
        try dsimp only at f3
        clear hf;simp only [sP,f3] at hE ⊢;clear f3;go_wp2;exact .mk (hE _ _ rfl hC1 rfl)
       ·refine qaj [(4,some 38)] (fun _=>rfl) 4 38 false rfl rfl ?_ ?_
        ·intro w1 vals hC1 hi0 hf hy E hE;dsimp only at hE ⊢;clear hi0;have f4:vals 4=_:=hf 4 rfl
         try dsimp only at f4
         clear hf;clear hy;simp only [sP,f4] at hE ⊢;clear f4;go_wp2;exact .mk (hE _ _ rfl hC1 rfl)
        ·intro w1 vals hC1 hi0 hf hy;clear hi0;have f4:vals 4=_:=hf 4 rfl
         try dsimp only at f4
         clear hf;exact absurd (by simp only [sP,f4]; rfl) hy
       ·refine qaj [(5,some 39),(4,some 38)] (fun _=>rfl) 4 38 false rfl rfl ?_ ?_
        ·intro w1 vals hC1 hi0 hf hy E hE;dsimp only at hE ⊢;clear hi0;have f4:vals 4=_:=hf 4 rfl;have f5:vals 5=_:=hf 5 rfl
         try dsimp only at f4 f5
         clear hf;clear hy;simp only [sP,f4,f5] at hE ⊢;clear f4 f5;have d0:=(HK5.out.below hC1 HK5.out.lt).cell 0;simp only [kCell,List.getElem?_toArray,List.getElem?_cons_zero,List.getElem?_cons_succ] at d0;go_wp2;exact .mk (hE _ _ rfl hC1 rfl)
        ·intro w1 vals hC1 hi0 hf hy;clear hi0;have f4:vals 4=_:=hf 4 rfl;have f5:vals 5=_:=hf 5 rfl
         try dsimp only at f4 f5
         clear hf;exact absurd (by simp only [sP,f4]; rfl) hy
       ·refine qaj [(4,some 38)] (fun _=>rfl) 4 38 false rfl rfl ?_ ?_
        ·intro w1 vals hC1 hi0 hf hy E hE;dsimp only at hE ⊢;clear hi0;have f4:vals 4=_:=hf 4 rfl
         try dsimp only at f4
         clear hf;clear hy;simp only [sP,f4] at hE ⊢;clear f4;go_wp2;exact .mk (hE _ _ rfl hC1 rfl)
        ·intro w1 vals hC1 hi0 hf hy;clear hi0;have f4:vals 4=_:=hf 4 rfl
         try dsimp only at f4
         clear hf;exact absurd (by simp only [sP,f4]; rfl) hy
       ·refine qaj [(7,some 41),(4,some 38)] (fun _=>rfl) 4 38 false rfl rfl ?_ ?_
        ·intro w1 vals hC1 hi0 hf hy E hE;dsimp only at hE ⊢;clear hi0;have f4:vals 4=_:=hf 4 rfl;have f7:vals 7=_:=hf 7 rfl
         try dsimp only at f4 f7
         clear hf;clear hy;simp only [sP,f4,f7] at hE ⊢;clear f4 f7;have d0:=(HK5.out.below hC1 HK5.out.lt).cell 1;simp only [kCell,List.getElem?_toArray,List.getElem?_cons_zero,List.getElem?_cons_succ] at d0;go_wp2;exact .mk (hE _ _ rfl hC1 rfl)
        ·intro w1 vals hC1 hi0 hf hy;clear hi0;have f4:vals 4=_:=hf 4 rfl;have f7:vals 7=_:=hf 7 rfl
         try dsimp only at f4 f7
         clear hf;exact absurd (by simp only [sP,f4]; rfl) hy
       ·refine qaj [(8,some 42),(4,some 38)] (fun _=>rfl) 4 38 false rfl rfl ?_ ?_
        ·intro w1 vals hC1 hi0 hf hy E hE;dsimp only at hE ⊢;clear hi0;have f4:vals 4=_:=hf 4 rfl;have f8:vals 8=_:=hf 8 rfl
         try dsimp only at f4 f8
         clear hf;clear hy;simp only [sP,f4,f8] at hE ⊢;clear f4 f8;refine qaT (s:=bs X.2) hus hub8 hu8 rfl rfl rfl (by rw [HS32.out]; decide) ?_;intro c7 w7 hr7 hc7 hm7 hb7;rw [HS32.out] at hc7 ⊢;go_wp2_with fail;exact .mk (hE _ _ ⟨_,c7,rfl,hr7,hc7,hm7⟩ (hC1.trans (hb7.mono hC1.size)) hb7)
        ·intro w1 vals hC1 hi0 hf hy;clear hi0;have f4:vals 4=_:=hf 4 rfl;have f8:vals 8=_:=hf 8 rfl
         try dsimp only at f4 f8
         clear hf;exact absurd (by simp only [sP,f4]; rfl) hy
       ·refine qaj [(9,some 43),(4,some 38),(4,some 38)] (fun _=>rfl) 4 38 false rfl rfl ?_ ?_
        ·intro w1 vals hC1 hi0 hf hy E hE;dsimp only at hE ⊢;clear hi0;have f4:vals 4=_:=hf 4 rfl;have f9:(fun v u=>∃ A c,v=.slice A 32 c∧Rd u u.heap.size A (bytesV X.2)∧32≤c∧c≤9223372036854775807) (vals 9) w1:=hf 9 rfl
         try dsimp only at f4 f9
         clear hf;clear hy;obtain ⟨A9,c9,hx9,hr9,hc9,hm9⟩:=f9;simp only [sP,f4,hx9] at hE ⊢;clear f4;clear hx9;go_wp2_with fail;refine qaa (HNA.out A9 c9 _ hr9 hc9 hm9 (HGT.out _ hC1)) ?_;rintro e w2 ⟨rfl,hb2⟩;go_wp2_with fail;exact .mk (hE _ _ rfl (hC1.trans (hb2.mono hC1.size)) hb2)
        ·intro w1 vals hC1 hi0 hf hy;clear hi0;have f4:vals 4=_:=hf 4 rfl;have f9:(fun v u=>∃ A c,v=.slice A 32 c∧Rd u u.heap.size A (bytesV X.2)∧32≤c∧c≤9223372036854775807) (vals 9) w1:=hf 9 rfl
         try dsimp only at f4 f9
         clear hf;exact absurd (by simp only [sP,f4]; rfl) hy
       ·refine qaj [(6,some 40),(10,some 44),(4,some 38)] (fun _=>rfl) 4 38 false rfl rfl ?_ ?_
        ·intro w1 vals hC1 hi0 hf hy E hE;dsimp only at hE ⊢;clear hi0;have f4:vals 4=_:=hf 4 rfl;have f6:vals 6=_:=hf 6 rfl;have f10:vals 10=_:=hf 10 rfl
         try dsimp only at f4 f6 f10
         clear hf;clear hy;simp only [sP,f4,f6,f10] at hE ⊢;clear f4 f6 f10;have hq:=HQ.out;go_wp2;exact .mk (hE _ _ rfl hC1 rfl)
        ·intro w1 vals hC1 hi0 hf hy;clear hi0;have f4:vals 4=_:=hf 4 rfl;have f6:vals 6=_:=hf 6 rfl;have f10:vals 10=_:=hf 10 rfl
         try dsimp only at f4 f6 f10
         clear hf;exact absurd (by simp only [sP,f4]; rfl) hy
       ·refine qab [(4,some 38),(11,some 45)] (fun _=>rfl) rfl ?_;intro w1 vals hC1 hi0 hf E hE;clear hi0;have f4:vals 4=_:=hf 4 rfl;have f11:vals 11=_:=hf 11 rfl
        try dsimp only at f4 f11
        clear hf;simp only [sP,f4,f11] at hE ⊢;clear f4 f11;go_wp2;exact .mk (hE _ _ rfl hC1 rfl)
       ·refine qab [(12,some 46),(10,some 44)] (fun _=>rfl) rfl ?_;intro w1 vals hC1 hi0 hf E hE;clear hi0;have f10:vals 10=_:=hf 10 rfl;have f12:vals 12=_:=hf 12 rfl
        try dsimp only at f10 f12
        clear hf;simp only [sP,f10,f12] at hE ⊢;clear f10 f12;go_wp2;exact .mk (hE _ _ rfl hC1 rfl)
       ·refine qaj [(13,some 47)] (fun _=>rfl) 13 47 false rfl rfl ?_ ?_
        ·intro w1 vals hC1 hi0 hf hy E hE;dsimp only at hE ⊢;clear hi0;have f13:vals 13=_:=hf 13 rfl
         try dsimp only at f13
         clear hf;exact absurd (hy.symm.trans (by simp only [sP,f13]; rfl:_=some (Value.bool true))) (by simp)
        ·exact fun _ _ _ _ _ _=>⟨trivial,rfl⟩
       ·refine qaj [(13,some 47)] (fun _=>rfl) 13 47 false rfl rfl ?_ ?_
        ·intro w1 vals hC1 hi0 hf hy E hE;dsimp only at hE ⊢;clear hi0;have f13:vals 13=_:=hf 13 rfl
         try dsimp only at f13
         clear hf;exact absurd (hy.symm.trans (by simp only [sP,f13]; rfl:_=some (Value.bool true))) (by simp)
        ·exact fun _ _ _ _ _ _=>⟨trivial,rfl⟩
       ·refine qaj [(15,some 49),(13,some 47)] (fun _=>rfl) 13 47 false rfl rfl ?_ ?_
        ·intro w1 vals hC1 hi0 hf hy E hE;dsimp only at hE ⊢;clear hi0;have f13:vals 13=_:=hf 13 rfl
         try dsimp only at f13
         clear hf;exact absurd (hy.symm.trans (by simp only [sP,f13]; rfl:_=some (Value.bool true))) (by simp)
        ·exact fun _ _ _ _ _ _=>⟨trivial,rfl⟩
       ·refine qaj [(14,some 48),(16,some 50),(13,some 47)] (fun _=>rfl) 13 47 false rfl rfl ?_ ?_
        ·intro w1 vals hC1 hi0 hf hy E hE;dsimp only at hE ⊢;clear hi0;have f13:vals 13=_:=hf 13 rfl
         try dsimp only at f13
         clear hf;exact absurd (hy.symm.trans (by simp only [sP,f13]; rfl:_=some (Value.bool true))) (by simp)
        ·exact fun _ _ _ _ _ _=>⟨trivial,rfl⟩
       ·refine qaj [(17,some 51),(13,some 47)] (fun _=>rfl) 13 47 false rfl rfl ?_ ?_
        ·intro w1 vals hC1 hi0 hf hy E hE;dsimp only at hE ⊢;clear hi0;have f13:vals 13=_:=hf 13 rfl
         try dsimp only at f13
         clear hf;exact absurd (hy.symm.trans (by simp only [sP,f13]; rfl:_=some (Value.bool true))) (by simp)
        ·exact fun _ _ _ _ _ _=>⟨trivial,rfl⟩
       ·refine qab [(13,some 47),(18,some 52)] (fun _=>rfl) rfl ?_;intro w1 vals hC1 hi0 hf E hE;clear hi0;have f13:vals 13=_:=hf 13 rfl
        try dsimp only at f13
        clear hf;simp only [sP,f13] at hE ⊢;clear f13;go_wp2;exact .mk (hE _ _ rfl hC1 rfl)
      intro w1 vals hC1 hf;have f0:vals 0=_:=hf 0 (by decide) rfl;have f1:vals 1=_:=hf 1 (by decide) rfl;have f2:vals 2=_:=hf 2 (by decide) rfl;have f3:vals 3=_:=hf 3 (by decide) rfl;have f4:vals 4=_:=hf 4 (by decide) rfl;have f5:vals 5=_:=hf 5 (by decide) rfl;have f6:vals 6=_:=hf 6 (by decide) rfl;have f7:vals 7=_:=hf 7 (by decide) rfl;have f8:vals 8=_:=hf 8 (by decide) rfl;have f9:(fun v u=>∃ A c,v=.slice A 32 c∧Rd u u.heap.size A (bytesV X.2)∧32≤c∧c≤9223372036854775807) (vals 9) w1:=hf 9 (by decide) rfl;have f10:vals 10=_:=hf 10 (by decide) rfl;have f11:vals 11=_:=hf 11 (by decide) rfl;have f12:vals 12=_:=hf 12 (by decide) rfl;have f13:vals 13=_:=hf 13 (by decide) rfl;have f19:vals 19=_:=hf 19 (by decide) rfl
      try dsimp only at f0 f1 f2 f3 f4 f5 f6 f7 f8 f9 f10 f11 f12 f13 f19
      clear hf;simp only [sP,f0,f1,f2,f3,f4,f5,f6,f7,f8,f10,f11,f12,f13,f19];clear f0 f1 f2 f3 f4 f5 f6 f7 f8 f10 f11 f12 f13 f19;generalize vals 9=x9 at *;generalize vals 14=x14 at *;generalize vals 15=x15 at *;generalize vals 16=x16 at *;generalize vals 17=x17 at *;generalize vals 18=x18 at *;have HB6:=zY (HB5.out.trans (hC1.mono HB5.out.size));clear hC1 HC0;go_wp2_with fail;go_ret;exact ⟨by rw [HRR.out,HNO.out]; rfl,HB6.out⟩
    ·have h32':¬ ((bs X.2).size:Int)=32:=by omega
     have HNO:=zY (HNK.out fun h=>absurd h h32);clear hs0 h32
     go_quiet (fail)
     go_wp2_with fail;go_ret;exact ⟨by rw [HRR.out,HNO.out]; rfl,⟨HB5.out.os,HB5.out.tape,HB5.out.output,HB5.out.size,HB5.out.block⟩⟩
   ·obtain rfl:i=n:=by omega
    have HYS:=zY (show mayB D num ks=true by rw [HHO.out]; exact keysTo_all HTO.out HN.out);go_wp2_with fail;go_ret;exact ⟨by rw [HRR.out,HYS.out]; rfl,HBW.out⟩
def RowFrom (u:World) (L:Nat) (t:TypeId) (n:Nat) (xs:List Value) (v:Value):Prop:=∃ g,v=.slice (some ⟨g,0,none⟩) n n∧Blk u g t xs.toArray∧L≤g
theorem RowFrom.step {u u':World} {L:Nat} {t:TypeId} {n:Nat} {xs:List Value} {v:Value} (h:RowFrom u L t n xs v) (hb:Below u.heap.size u u'):RowFrom u' L t n xs v:=by
 obtain ⟨g,h1,h2,h3⟩:=h;exact ⟨g,h1,h2.below hb h2.lt,h3⟩
def BytFrom (u:World) (L n:Nat) (l:Bs) (v:Value):Prop:=∃ g c,v=.slice (some ⟨g,0,none⟩) n c∧n≤c∧c≤9223372036854775807∧L≤g∧Rd u u.heap.size (some ⟨g,0,none⟩) (bytesV l)
theorem BytFrom.step {u u':World} {L n:Nat} {l:Bs} {v:Value} (h:BytFrom u L n l v) (hb:Below u.heap.size u u'):BytFrom u' L n l v:=by
 obtain ⟨g,c,h1,h2,h3,h4,h5⟩:=h;exact ⟨g,c,h1,h2,h3,h4,(h5.below hb).mono hb.size⟩
theorem BytFrom.wrote {u u':World} {L n k:Nat} {l:Bs} {v:Value} (h:BytFrom u L n l v) (hw:Wrote k u u') (hk:k<L):BytFrom u' L n l v:=by
 obtain ⟨g,c,h1,h2,h3,h4,h5⟩:=h;refine ⟨g,c,h1,h2,h3,h4,fun i x hx=>?_⟩;obtain ⟨ad,e1,e2,e3⟩:=h5 i x hx;refine ⟨ad,e1,Nat.lt_of_lt_of_le e2 hw.grown.size,?_⟩;rw [← e3]
 injection e1 with e1
 subst e1;exact World.cell?_of_block (w:=u) (w':=u') (by rw [qaq]; exact hw.grown.block _ e2 (by intro h; injection h with h; have h9:g=k:=h; omega))
def RepFrom (u:World) (L:Nat) (j:JT) (v:Value):Prop:=∃ jv,v=.agg (jvCells jv)∧JRep u (fun b=>L≤b) j jv
theorem RepFrom.step {u u':World} {L:Nat} {j:JT} {v:Value} (h:RepFrom u L j v) (hb:Below u.heap.size u u'):RepFrom u' L j v:=by
 obtain ⟨jv,h1,h2⟩:=h;exact ⟨jv,h1,h2.heap fun b hlt _=>hb.block b hlt⟩
theorem key_rep {u:World} {gn gk L:Nat} {tn tk:TypeId} (kid x:Bs) (hn:Blk u gn tn [Value.string (bs [99,114,118]),.string (bs [107,105,100]),.string (bs [107,116,121]),.string (bs [120])].toArray)
  (hk:Blk u gk tk (rowsV jvCells [flatV 3 0 [69,100,50,53,53,49,57],flatV 3 0 kid,flatV 3 0 [79,75,80],flatV 3 0 (enc x)]).toArray) (hln:L≤gn) (hlk:L≤gk) :
  JRep u (fun b=>L≤b) (keyJ (kid,x)) ⟨5,0,[],some ⟨gn,0,none⟩,4,4,some ⟨gk,0,none⟩,4,4⟩:=by
 have h1:RdS u (fun b=>L≤b) (some ⟨gn,0,none⟩) (rowsV sCell [[99,114,118],[107,105,100],[107,116,121],[120]]):=fun i v hv=>by
  obtain ⟨ad,e1,_,e3⟩:=(Rd.of_blk hn hn.lt) i v hv
  injection e1 with e1
  subst e1;exact ⟨_,rfl,hln,e3⟩
 have h2:RdS u (fun b=>L≤b) (some ⟨gk,0,none⟩) (rowsV jvCells [flatV 3 0 [69,100,50,53,53,49,57],flatV 3 0 kid,flatV 3 0 [79,75,80],flatV 3 0 (enc x)]):=fun i v hv=>by
  obtain ⟨ad,e1,_,e3⟩:=(Rd.of_blk hk hk.lt) i v hv
  injection e1 with e1
  subst e1;exact ⟨_,rfl,hlk,e3⟩
 refine JRep.mk (⟨5,0,[],some ⟨gn,0,none⟩,4,4,some ⟨gk,0,none⟩,4,4⟩:JV) _ _ _ rfl (Nat.le_refl _) h1 rfl (Nat.le_refl _) rfl h2 ?_;intro i h h'
 match i,h,h' with
 | 0,_,_=>exact JRep.flat _ _ _ _ _
 | 1,_,_=>exact JRep.flat _ _ _ _ _
 | 2,_,_=>exact JRep.flat _ _ _ _ _
 | 3,_,_=>exact JRep.flat _ _ _ _ _
 | n+4,h,_=>exact absurd h (by simp)
theorem key_any (kid x:Bs) (hx:x.length=32) (w:World) :
  Calls Tryz.prog 16 #[.agg (kCell (kid,x))] w fun e w'=>∃ jv,e=.returned (.agg (jvCells jv))∧JRep w' (fun b=>w.heap.size≤b) (keyJ (kid,x)) jv∧Below w.heap.size w w':=by
 have hu:=Tryz.underlying44;obtain ⟨G,hG⟩:=eX (w.heap.size);obtain ⟨W1,hW1⟩:=eX ((w.alloc (.cells (kCell (kid,x)) 38)).alloc (.cells (jvCells zJV) 44));have hb1:Below w.heap.size w W1:=by rw [hW1]; exact ((Below.refl _ w).alloc (Nat.le_refl _) _).alloc (by simp) _
 have HB1:=zY hb1;have HK1:=zY (show Blk W1 w.heap.size 38 (kCell (kid,x)) by rw [hW1]; exact (Blk.new _ _ _).alloc _);have HZ1:=zY (show Blk W1 (w.heap.size+1) 44 (jvCells zJV) by rw [hW1]; have:=Blk.new (w.alloc (.cells (kCell (kid,x)) 38)) 44 (jvCells zJV); simpa using this);have HS1:=zY (show W1.heap.size=w.heap.size+2 by rw [hW1]; simp);have HW1:=zY hW1;have HTX:=zY (qdx)
 have HEN:=zY (fun (u:World) (A:Option Addr) (c:Nat) (h:Rd u u.heap.size A (bytesV x)) (hc:32≤c)=>show Calls Tryz.prog 33 #[.slice A 32 c] u fun e w'=>e=.returned (.string (bs (enc x)))∧Below u.heap.size u w' by
  have h2:=encode_any x (by omega) (by omega) A c u h (by omega);rw [hx] at h2;exact h2)
 have HS32:=zY (show (bs x).size=32 by rw [qaB,hx]);have hus:=Tryz.underlying9;have hub8:=Tryz.underlying40;have hu8:=Tryz.underlying5;clear hW1 hb1 hG hx;go_enter Tryz.func16,Tryz.ntmps16
 go_upto_region 1 with (fail)
 rw [show ((w.alloc (.cells (kCell (kid,x)) 38)).alloc (.cells #[.int .i64 0,.int .i64 0,.string ⟨#[]⟩,.slice none 0 0,.slice none 0 0] 44))=W1 from HW1.out.symm];generalize Value.agg (kCell (kid,x))=AV;have HC0:Below (w.heap.size+1) W1 W1.drew:=(Below.refl _ _).drew;have HI0:Blk W1.drew (w.heap.size+1) 44 (jvCells zJV):=HZ1.out;have HJ0:w.heap.size+2≤W1.drew.heap.size:=by have:=HS1.out; show _≤W1.heap.size; omega
 refine qap (fun u=>Below (w.heap.size+1) W1 u) (fun | false=>(fun u=>Blk u (w.heap.size+1) 44 (jvCells zJV)) | true=>(fun u=>w.heap.size+2≤u.heap.size)) (fun | false,i=>i == 13 | true,_=>false)
  [fun z u=>(fun v u=>RowFrom u (w.heap.size+2) 9 4 [.string (bs [99,114,118]),.string (bs [107,105,100]),.string (bs [107,116,121]),.string (bs [120])] v) (z 0) u,
   fun z _=>z 1=.agg (jvCells (flatV 3 0 [69,100,50,53,53,49,57])),
   fun z _=>z 2=.pointer (some ⟨w.heap.size,0,none⟩),
   fun z _=>z 3=.string (bs kid),
   fun z _=>z 4=.agg (jvCells (flatV 3 0 kid)),
   fun z _=>z 5=.agg (jvCells (flatV 3 0 [79,75,80])),
   fun z _=>z 6=.pointer (some ⟨w.heap.size,1,none⟩),
   fun z _=>z 7=.string (bs x),
   fun z u=>(fun v u=>BytFrom u (w.heap.size+2) 32 x v) (z 8) u,
   fun z _=>z 9=.string (bs (enc x)),
   fun z _=>z 10=.agg (jvCells (flatV 3 0 (enc x))),
   fun z u=>(fun v u=>RowFrom u (w.heap.size+2) 44 4 (rowsV jvCells [flatV 3 0 [69,100,50,53,53,49,57],flatV 3 0 kid,flatV 3 0 [79,75,80],flatV 3 0 (enc x)]) v) (z 11) u,
   fun z u=>(fun v u=>RepFrom u (w.heap.size+2) (keyJ (kid,x)) v) (z 12) u,
   fun z u=>∃ jv,Blk u (w.heap.size+1) 44 (jvCells jv)∧JRep u (fun b=>w.heap.size+2≤b) (keyJ (kid,x)) jv]
  [fun u u'=>Below u.heap.size u u',fun u u'=>Below u.heap.size u u',Eq,Eq,fun u u'=>Below u.heap.size u u',fun u u'=>Below u.heap.size u u',Eq,Eq,fun u u'=>Below u.heap.size u u',fun u u'=>Below u.heap.size u u',fun u u'=>Below u.heap.size u u',fun u u'=>Below u.heap.size u u',Eq,fun u u'=>Wrote (w.heap.size+1) u u']
  (fun i k=>(i == 13 && k == 0) || (i == 13 && k == 11) || (i == 13 && k == 12)) [(0,some 3),(1,some 4),(2,some 5),(3,some 6),(4,some 7),(5,some 8),(6,some 9),(7,some 10),(8,some 11),(9,some 12),(10,some 13),(11,some 14),(12,some 15),(13,none)] (by kernel_rfl) (by kernel_rfl) rfl (fun _=>rfl) ?_ ?_ ?_ ?_ ?_ ?_
 ·exact HC0
 ·intro m; cases m; exact HI0; exact HJ0
 ·intro m; cases m
  ·refine ⟨.inr (fun _ _ h h0=>h0.below h h0.lt),.inr (fun _ _ h h0=>h0.below h h0.lt),?_,?_,.inr (fun _ _ h h0=>h0.below h h0.lt),.inr (fun _ _ h h0=>h0.below h h0.lt),?_,?_,.inr (fun _ _ h h0=>h0.below h h0.lt),.inr (fun _ _ h h0=>h0.below h h0.lt),.inr (fun _ _ h h0=>h0.below h h0.lt),.inr (fun _ _ h h0=>h0.below h h0.lt),?_,.inl rfl,trivial⟩ <;> exact .inr fun _ _ h h0=>h▸h0
  ·refine ⟨.inr (fun _ _ h h0=>Nat.le_trans h0 h.size),.inr (fun _ _ h h0=>Nat.le_trans h0 h.size),?_,?_,.inr (fun _ _ h h0=>Nat.le_trans h0 h.size),.inr (fun _ _ h h0=>Nat.le_trans h0 h.size),?_,?_,.inr (fun _ _ h h0=>Nat.le_trans h0 h.size),.inr (fun _ _ h h0=>Nat.le_trans h0 h.size),.inr (fun _ _ h h0=>Nat.le_trans h0 h.size),.inr (fun _ _ h h0=>Nat.le_trans h0 h.size),?_,.inr (fun _ _ h h0=>Nat.le_trans h0 h.grown.size),trivial⟩ <;> exact .inr fun _ _ h h0=>h▸h0
 ·refine ⟨⟨.inl rfl,?_,?_,?_,?_,?_,?_,?_,.inr (.inr (.inr (fun _ _ _ _ h h0=>h0.step h))),?_,?_,.inr (.inr (.inr (fun _ _ _ _ h h0=>h0.step h))),?_,?_,trivial⟩,⟨.inr (.inr (.inr (fun _ _ _ _ h h0=>h0.step h))),.inl rfl,?_,?_,?_,?_,?_,?_,.inr (.inr (.inr (fun _ _ _ _ h h0=>h0.step h))),?_,?_,?_,?_,?_,trivial⟩,⟨?_,?_,.inl rfl,?_,?_,?_,?_,?_,?_,?_,?_,?_,?_,?_,trivial⟩,⟨?_,?_,?_,.inl rfl,?_,?_,?_,?_,?_,?_,?_,?_,?_,?_,trivial⟩,⟨.inr (.inr (.inr (fun _ _ _ _ h h0=>h0.step h))),?_,?_,?_,.inl rfl,?_,?_,?_,.inr (.inr (.inr (fun _ _ _ _ h h0=>h0.step h))),?_,?_,?_,?_,?_,trivial⟩,⟨.inr (.inr (.inr (fun _ _ _ _ h h0=>h0.step h))),?_,?_,?_,?_,.inl rfl,?_,?_,.inr (.inr (.inr (fun _ _ _ _ h h0=>h0.step h))),?_,?_,?_,?_,?_,trivial⟩,⟨?_,?_,?_,?_,?_,?_,.inl rfl,?_,?_,?_,?_,?_,?_,?_,trivial⟩,⟨?_,?_,?_,?_,?_,?_,?_,.inl rfl,?_,?_,?_,?_,?_,?_,trivial⟩,⟨.inr (.inr (.inr (fun _ _ _ _ h h0=>h0.step h))),?_,?_,?_,?_,?_,?_,?_,.inl rfl,?_,?_,?_,.inr (.inr (.inr (fun _ _ _ _ h h0=>h0.step h))),?_,trivial⟩,⟨.inr (.inr (.inr (fun _ _ _ _ h h0=>h0.step h))),?_,?_,?_,?_,?_,?_,?_,.inr (.inr (.inr (fun _ _ _ _ h h0=>h0.step h))),.inl rfl,?_,?_,?_,?_,trivial⟩,⟨.inr (.inr (.inr (fun _ _ _ _ h h0=>h0.step h))),?_,?_,?_,?_,?_,?_,?_,.inr (.inr (.inr (fun _ _ _ _ h h0=>h0.step h))),?_,.inl rfl,?_,?_,?_,trivial⟩,⟨.inr (.inr (.inr (fun _ _ _ _ h h0=>h0.step h))),?_,?_,?_,?_,?_,?_,?_,.inr (.inr (.inr (fun _ _ _ _ h h0=>h0.step h))),?_,?_,.inl rfl,?_,?_,trivial⟩,⟨?_,?_,?_,?_,?_,?_,?_,?_,?_,?_,?_,?_,.inl rfl,?_,trivial⟩,⟨.inr (.inl rfl),?_,?_,?_,?_,?_,?_,?_,.inr (.inr (.inr (fun _ _ _ _ h h0=>h0.wrote h (by omega)))),?_,?_,.inr (.inl rfl),.inr (.inl rfl),.inl rfl,trivial⟩,trivial⟩ <;> first | exact .inr (.inr (.inl rfl)) | exact .inr (.inr (.inr fun _ _ _ _ _ h=>h)) | exact .inr (.inr (.inr fun _ _ _ _ h h0=>by cases h; exact h0))
 ·refine ⟨?_,?_,?_,?_,?_,?_,?_,?_,?_,?_,?_,?_,?_,?_,trivial⟩
  ·refine qab [] (fun _=>rfl) rfl ?_;intro w1 vals hC1 hi0 hf E hE;have hI1:(fun u=>Blk u (w.heap.size+1) 44 (jvCells zJV)) w1:=hi0 false rfl
   try dsimp only at hI1
   have hJ1:(fun u=>w.heap.size+2≤u.heap.size) w1:=hi0 true rfl
   try dsimp only at hJ1
   clear hi0;clear hf;simp only [sP] at hE ⊢;go_wp2;exact .mk (hE _ _ ⟨_,rfl,Blk.new _ _ _,hJ1⟩ (hC1.alloc (Nat.le_of_succ_le hJ1) _) ((Below.refl _ _).alloc (Nat.le_refl _) _))
  ·refine qab [] (fun _=>rfl) rfl ?_;intro w1 vals hC1 hi0 hf E hE;have hI1:(fun u=>Blk u (w.heap.size+1) 44 (jvCells zJV)) w1:=hi0 false rfl
   try dsimp only at hI1
   have hJ1:(fun u=>w.heap.size+2≤u.heap.size) w1:=hi0 true rfl
   try dsimp only at hJ1
   clear hi0;clear hf;simp only [sP] at hE ⊢;go_wp2_with fail;refine qaa (HTX.out [69,100,50,53,53,49,57] _) ?_;rintro e w2 ⟨rfl,hb2⟩;go_wp2_with fail;exact .mk (hE _ _ rfl (hC1.trans (hb2.mono (Nat.le_of_succ_le hJ1))) hb2)
  ·refine qab [] (fun _=>rfl) rfl ?_;intro w1 vals hC1 hi0 hf E hE;have hI1:(fun u=>Blk u (w.heap.size+1) 44 (jvCells zJV)) w1:=hi0 false rfl
   try dsimp only at hI1
   have hJ1:(fun u=>w.heap.size+2≤u.heap.size) w1:=hi0 true rfl
   try dsimp only at hJ1
   clear hi0;clear hf;simp only [sP] at hE ⊢;go_wp2;exact .mk (hE _ _ rfl hC1 rfl)
  ·refine qab [(2,some 5)] (fun _=>rfl) rfl ?_;intro w1 vals hC1 hi0 hf E hE;have hI1:(fun u=>Blk u (w.heap.size+1) 44 (jvCells zJV)) w1:=hi0 false rfl
   try dsimp only at hI1
   have hJ1:(fun u=>w.heap.size+2≤u.heap.size) w1:=hi0 true rfl
   try dsimp only at hJ1
   clear hi0;have f2:vals 2=_:=hf 2 rfl
   try dsimp only at f2
   clear hf;simp only [sP,f2] at hE ⊢;clear f2;have d0:=(HK1.out.below hC1 (Nat.lt_succ_self _)).cell 0;simp only [kCell,List.getElem?_toArray,List.getElem?_cons_zero] at d0;go_wp2;exact .mk (hE _ _ rfl hC1 rfl)
  ·refine qab [(3,some 6),(1,some 4)] (fun _=>rfl) rfl ?_;intro w1 vals hC1 hi0 hf E hE;have hI1:(fun u=>Blk u (w.heap.size+1) 44 (jvCells zJV)) w1:=hi0 false rfl
   try dsimp only at hI1
   have hJ1:(fun u=>w.heap.size+2≤u.heap.size) w1:=hi0 true rfl
   try dsimp only at hJ1
   clear hi0;have f1:vals 1=_:=hf 1 rfl;have f3:vals 3=_:=hf 3 rfl
   try dsimp only at f1 f3
   clear hf;simp only [sP,f1,f3] at hE ⊢;clear f1 f3;go_wp2_with fail;refine qaa (HTX.out kid _) ?_;rintro e w2 ⟨rfl,hb2⟩;go_wp2_with fail;exact .mk (hE _ _ rfl (hC1.trans (hb2.mono (Nat.le_of_succ_le hJ1))) hb2)
  ·refine qab [(4,some 7)] (fun _=>rfl) rfl ?_;intro w1 vals hC1 hi0 hf E hE;have hI1:(fun u=>Blk u (w.heap.size+1) 44 (jvCells zJV)) w1:=hi0 false rfl
   try dsimp only at hI1
   have hJ1:(fun u=>w.heap.size+2≤u.heap.size) w1:=hi0 true rfl
   try dsimp only at hJ1
   clear hi0;have f4:vals 4=_:=hf 4 rfl
   try dsimp only at f4
   clear hf;simp only [sP,f4] at hE ⊢;clear f4;go_wp2_with fail;refine qaa (HTX.out [79,75,80] _) ?_;rintro e w2 ⟨rfl,hb2⟩;go_wp2_with fail;exact .mk (hE _ _ rfl (hC1.trans (hb2.mono (Nat.le_of_succ_le hJ1))) hb2)
  ·refine qab [] (fun _=>rfl) rfl ?_;intro w1 vals hC1 hi0 hf E hE;have hI1:(fun u=>Blk u (w.heap.size+1) 44 (jvCells zJV)) w1:=hi0 false rfl
   try dsimp only at hI1
   have hJ1:(fun u=>w.heap.size+2≤u.heap.size) w1:=hi0 true rfl
   try dsimp only at hJ1
   clear hi0;clear hf;simp only [sP] at hE ⊢;go_wp2;exact .mk (hE _ _ rfl hC1 rfl)
  ·refine qab [(6,some 9)] (fun _=>rfl) rfl ?_;intro w1 vals hC1 hi0 hf E hE;have hI1:(fun u=>Blk u (w.heap.size+1) 44 (jvCells zJV)) w1:=hi0 false rfl
   try dsimp only at hI1
   have hJ1:(fun u=>w.heap.size+2≤u.heap.size) w1:=hi0 true rfl
   try dsimp only at hJ1
   clear hi0;have f6:vals 6=_:=hf 6 rfl
   try dsimp only at f6
   clear hf;simp only [sP,f6] at hE ⊢;clear f6;have d0:=(HK1.out.below hC1 (Nat.lt_succ_self _)).cell 1;simp only [kCell,List.getElem?_toArray,List.getElem?_cons_zero,List.getElem?_cons_succ] at d0;go_wp2;exact .mk (hE _ _ rfl hC1 rfl)
  ·refine qab [(7,some 10)] (fun _=>rfl) rfl ?_;intro w1 vals hC1 hi0 hf E hE;have hI1:(fun u=>Blk u (w.heap.size+1) 44 (jvCells zJV)) w1:=hi0 false rfl
   try dsimp only at hI1
   have hJ1:(fun u=>w.heap.size+2≤u.heap.size) w1:=hi0 true rfl
   try dsimp only at hJ1
   clear hi0;have f7:vals 7=_:=hf 7 rfl
   try dsimp only at f7
   clear hf;simp only [sP,f7] at hE ⊢;clear f7;refine qaT (s:=bs x) hus hub8 hu8 rfl rfl rfl (by rw [HS32.out]; decide) ?_;intro c7 w7 hr7 hc7 hm7 hb7;rw [HS32.out] at hc7 ⊢;go_wp2_with fail;exact .mk (hE _ _ ⟨_,c7,rfl,hc7,hm7,hJ1,hr7⟩ (hC1.trans (hb7.mono (Nat.le_of_succ_le hJ1))) hb7)
  ·refine qab [(8,some 11),(5,some 8)] (fun _=>rfl) rfl ?_;intro w1 vals hC1 hi0 hf E hE;have hI1:(fun u=>Blk u (w.heap.size+1) 44 (jvCells zJV)) w1:=hi0 false rfl
   try dsimp only at hI1
   have hJ1:(fun u=>w.heap.size+2≤u.heap.size) w1:=hi0 true rfl
   try dsimp only at hJ1
   clear hi0;have f5:vals 5=_:=hf 5 rfl;have f8:(fun v u=>BytFrom u (w.heap.size+2) 32 x v) (vals 8) w1:=hf 8 rfl
   try dsimp only at f5 f8
   clear hf;obtain ⟨g9,c9,hx9,hc9,hm9,hl9,hr9⟩:=f8;simp only [sP,f5,hx9] at hE ⊢;clear f5;clear hx9;go_wp2_with fail;refine qaa (HEN.out _ _ c9 hr9 hc9) ?_;rintro e w2 ⟨rfl,hb2⟩;go_wp2_with fail;exact .mk (hE _ _ rfl (hC1.trans (hb2.mono (Nat.le_of_succ_le hJ1))) hb2)
  ·refine qab [(9,some 12),(9,some 12)] (fun _=>rfl) rfl ?_;intro w1 vals hC1 hi0 hf E hE;have hI1:(fun u=>Blk u (w.heap.size+1) 44 (jvCells zJV)) w1:=hi0 false rfl
   try dsimp only at hI1
   have hJ1:(fun u=>w.heap.size+2≤u.heap.size) w1:=hi0 true rfl
   try dsimp only at hJ1
   clear hi0;have f9:vals 9=_:=hf 9 rfl
   try dsimp only at f9
   clear hf;simp only [sP,f9] at hE ⊢;clear f9;go_wp2_with fail;refine qaa (HTX.out (enc x) _) ?_;rintro e w2 ⟨rfl,hb2⟩;go_wp2_with fail;exact .mk (hE _ _ rfl (hC1.trans (hb2.mono (Nat.le_of_succ_le hJ1))) hb2)
  ·refine qab [(1,some 4),(4,some 7),(5,some 8),(10,some 13)] (fun _=>rfl) rfl ?_;intro w1 vals hC1 hi0 hf E hE;have hI1:(fun u=>Blk u (w.heap.size+1) 44 (jvCells zJV)) w1:=hi0 false rfl
   try dsimp only at hI1
   have hJ1:(fun u=>w.heap.size+2≤u.heap.size) w1:=hi0 true rfl
   try dsimp only at hJ1
   clear hi0;have f1:vals 1=_:=hf 1 rfl;have f4:vals 4=_:=hf 4 rfl;have f5:vals 5=_:=hf 5 rfl;have f10:vals 10=_:=hf 10 rfl
   try dsimp only at f1 f4 f5 f10
   clear hf;simp only [sP,f1,f4,f5,f10] at hE ⊢;clear f1 f4 f5 f10;unfold jvCells flatV;go_wp2;exact .mk (hE _ _ ⟨_,rfl,Blk.new _ _ _,hJ1⟩ (hC1.alloc (Nat.le_of_succ_le hJ1) _) ((Below.refl _ _).alloc (Nat.le_refl _) _))
  ·refine qab [(0,some 3),(11,some 14)] (fun _=>rfl) rfl ?_;intro w1 vals hC1 hi0 hf E hE;have hI1:(fun u=>Blk u (w.heap.size+1) 44 (jvCells zJV)) w1:=hi0 false rfl
   try dsimp only at hI1
   have hJ1:(fun u=>w.heap.size+2≤u.heap.size) w1:=hi0 true rfl
   try dsimp only at hJ1
   clear hi0;have f0:(fun v u=>RowFrom u (w.heap.size+2) 9 4 [.string (bs [99,114,118]),.string (bs [107,105,100]),.string (bs [107,116,121]),.string (bs [120])] v) (vals 0) w1:=hf 0 rfl;have f11:(fun v u=>RowFrom u (w.heap.size+2) 44 4 (rowsV jvCells [flatV 3 0 [69,100,50,53,53,49,57],flatV 3 0 kid,flatV 3 0 [79,75,80],flatV 3 0 (enc x)]) v) (vals 11) w1:=hf 11 rfl
   try dsimp only at f0 f11
   clear hf;obtain ⟨g0,hx0,hg0,hl0⟩:=f0;obtain ⟨g1,hx1,hg1,hl1⟩:=f11;simp only [sP,hx0,hx1] at hE ⊢;clear hx0 hx1;go_wp2;exact .mk (hE _ _ ⟨_,rfl,key_rep kid x hg0 hg1 hl0 hl1⟩ hC1 rfl)
  ·refine qab [(12,some 15),(10,some 13),(0,some 3),(1,some 4),(2,some 5),(3,some 6),(4,some 7),(5,some 8),(6,some 9),(7,some 10),(8,some 11),(9,some 12),(10,some 13),(11,some 14),(12,some 15)] (fun _=>rfl) rfl ?_;intro w1 vals hC1 hi0 hf E hE;have hI1:(fun u=>Blk u (w.heap.size+1) 44 (jvCells zJV)) w1:=hi0 false rfl
   try dsimp only at hI1
   have hJ1:(fun u=>w.heap.size+2≤u.heap.size) w1:=hi0 true rfl
   try dsimp only at hJ1
   clear hi0;have f0:(fun v u=>RowFrom u (w.heap.size+2) 9 4 [.string (bs [99,114,118]),.string (bs [107,105,100]),.string (bs [107,116,121]),.string (bs [120])] v) (vals 0) w1:=hf 0 rfl;have f1:vals 1=_:=hf 1 rfl;have f2:vals 2=_:=hf 2 rfl;have f3:vals 3=_:=hf 3 rfl;have f4:vals 4=_:=hf 4 rfl;have f5:vals 5=_:=hf 5 rfl;have f6:vals 6=_:=hf 6 rfl;have f7:vals 7=_:=hf 7 rfl;have f8:(fun v u=>BytFrom u (w.heap.size+2) 32 x v) (vals 8) w1:=hf 8 rfl;have f9:vals 9=_:=hf 9 rfl;have f10:vals 10=_:=hf 10 rfl;have f11:(fun v u=>RowFrom u (w.heap.size+2) 44 4 (rowsV jvCells [flatV 3 0 [69,100,50,53,53,49,57],flatV 3 0 kid,flatV 3 0 [79,75,80],flatV 3 0 (enc x)]) v) (vals 11) w1:=hf 11 rfl;have f12:(fun v u=>RepFrom u (w.heap.size+2) (keyJ (kid,x)) v) (vals 12) w1:=hf 12 rfl
   try dsimp only at f0 f1 f2 f3 f4 f5 f6 f7 f8 f9 f10 f11 f12
   clear hf;obtain ⟨jv,hx1,hj1⟩:=f12;have HJJ:=zY hj1;have HII:=zY hI1;have HCC:=zY hC1;clear hj1 hI1 hC1;simp only [sP,f1,f2,f3,f4,f5,f6,f7,f9,f10,hx1] at hE ⊢;clear f1 f2 f3 f4 f5 f6 f7 f9 f10;clear hx1;go_wp2_with (refine qae (cells:=jvCells jv) HII.out rfl rfl rfl rfl qav rfl (qai _) ?_; intro w5 hb5 hw5);exact .mk (hE undef _ ⟨jv,hb5,HJJ.out.heap fun b hlt hl=>hw5.grown.block b hlt (by intro h; injection h with h; omega)⟩ (hw5.below HCC.out (Nat.le_refl _) (Nat.le_of_succ_le hJ1)) hw5)
 intro w1 vals hC1 hf;have f1:vals 1=_:=hf 1 (by decide) rfl;have f2:vals 2=_:=hf 2 (by decide) rfl;have f3:vals 3=_:=hf 3 (by decide) rfl;have f4:vals 4=_:=hf 4 (by decide) rfl;have f5:vals 5=_:=hf 5 (by decide) rfl;have f6:vals 6=_:=hf 6 (by decide) rfl;have f7:vals 7=_:=hf 7 (by decide) rfl;have f8:(fun v u=>BytFrom u (w.heap.size+2) 32 x v) (vals 8) w1:=hf 8 (by decide) rfl;have f9:vals 9=_:=hf 9 (by decide) rfl;have f10:vals 10=_:=hf 10 (by decide) rfl;have f13:(fun z u=>∃ jv,Blk u (w.heap.size+1) 44 (jvCells jv)∧JRep u (fun b=>w.heap.size+2≤b) (keyJ (kid,x)) jv) vals w1:=hf 13 (by decide) rfl
 try dsimp only at f1 f2 f3 f4 f5 f6 f7 f8 f9 f10 f13
 clear hf;simp only [sP,f1,f2,f3,f4,f5,f6,f7,f9,f10];clear f1 f2 f3 f4 f5 f6 f7 f9 f10;generalize vals 0=x0 at *;generalize vals 8=x8 at *;generalize vals 11=x11 at *;generalize vals 12=x12 at *;obtain ⟨jv,hb13,hj13⟩:=f13;have HB13:=zY hb13;have HJ13:=zY hj13;have HB14:=zY (HB1.out.trans (hC1.mono (Nat.le_succ _)));clear hb13 hj13 hC1 HC0 HI0 HJ0;go_wp2_with fail;refine bodyPost_ret (qau (P:=Tryz.prog) rfl rfl HB13.out hu rfl qav) rfl ?_;exact ⟨jv,rfl,HJ13.out.imp fun b _ hb=>by omega,HB14.out⟩
end Go.Proofs.YtlkikjeccamheaaGreatDoor.Js
namespace Go.Proofs.YtlkikjeccamheaaGreatDoor.Js
set_option linter.unusedSimpArgs false
set_option linter.unusedVariables false
set_option maxRecDepth 100000
set_option maxHeartbeats 4000000
theorem digB_len:∀ f n:Nat,(digB f n).length≤f
 | 0,n=>by simp [digB]
 | f+1,n=>by
  unfold digB
  split
  ·simp
  ·have:=digB_len f (n/10);simp;omega
theorem intB_len (n:Int):(intB n).length≤17:=by
 unfold intB;have:=digB_len 16 n.natAbs
 split
 ·simp; omega
 ·omega
theorem hexB_plain:∀ x:Fin 256,(hexB x.1).all plainC=true:=by decide +kernel
theorem nameL_plain (x:Bs):(nameL x).all plainC=true:=by
 unfold nameL _root_.Go.Proofs.YtlkikjeccamheaaGreatDoor.nameK;rw [List.all_eq_true];intro c hc;obtain ⟨b,_,hb⟩:=List.mem_flatMap.1 hc;have h:=hexB_plain ⟨b.toNat,b.toNat_lt⟩;rw [List.all_eq_true] at h;exact h c hb
theorem nameL_len (x:Bs):(nameL x).length=8:=by
 unfold nameL;rw [qbw (by rw [qce]; omega)]
theorem keysOk_all:∀ (seen:List Bs) (ks:List (Bs × Bs)),keysOk seen ks=true→∀ k ∈ ks,k.2.length=32∧k.1=nameL k.2
 | _,[],_,k,hk=>by cases hk
 | seen,x :: r,h,k,hk=>by
  unfold keysOk at h;simp only [Bool.and_eq_true,decide_eq_true_eq] at h
  rcases List.mem_cons.1 hk with rfl | hk
  ·exact ⟨h.1.1.1,h.1.1.2⟩
  ·exact keysOk_all _ r h.2 k hk
theorem innerZ_plain:∀ x:Fin 256,innerZ ((x.1:Nat):Int)=true→plainC (UInt8.ofNat x.1)=true:=by decide +kernel
theorem domB_plain {s:Bs} (h:domB s=true):s.all plainC=true∧s.length≤16:=by
 unfold domB at h;simp only [Bool.and_eq_true,decide_eq_true_eq] at h;refine ⟨?_,h.1⟩;have h1:=h.2.1;unfold allD at h1;simp only [Bool.and_eq_true] at h1;rw [List.all_eq_true] at h1 ⊢;intro c hc;have h2:=innerZ_plain ⟨c.toNat,c.toNat_lt⟩ (h1.1 c hc)
 simpa using h2
theorem qcz {b:BD} (h:mayB b.dom b.num b.keys=true):PlainB b∧(∀ k ∈ b.keys,k.2.length=32∧k.1=nameL k.2):=by
 unfold mayB headOk at h;simp only [Bool.and_eq_true,decide_eq_true_eq] at h;obtain ⟨⟨⟨⟨h1,h2⟩,h3⟩,h4⟩,h5⟩:=h;obtain ⟨p1,p2⟩:=domB_plain h1;have hk:=keysOk_all _ _ h5;exact ⟨⟨p1,p2,h2,h3,h4,fun k hm=>by rw [(hk k hm).2]; exact ⟨nameL_plain _,by rw [nameL_len]; exact Nat.le_refl _⟩,fun k hm=>by rw [(hk k hm).1]; exact Nat.le_refl _⟩,hk⟩
def keyT (k:Bs × Bs):Bs:=[123,34,99,114,118,34,58,34,69,100,50,53,53,49,57,34,44,34,107,105,100,34,58,34]++(k.1++([34,44,34,107,116,121,34,58,34,79,75,80,34,44,34,120,34,58,34]++(enc k.2++[34,125])))
theorem key_text {k:Bs × Bs} (h:k.1.all plainC=true):writeV (keyJ k)=keyT k:=by
 have e1:=qb8 h;have e2:=qb8 (enc_plain k.2);have e3:quote [99,114,118]=[34,99,114,118,34]:=by decide +kernel
 have e4:quote [107,105,100]=[34,107,105,100,34]:=by decide +kernel
 have e5:quote [107,116,121]=[34,107,116,121,34]:=by decide +kernel
 have e6:quote [120]=[34,120,34]:=by decide +kernel
 have e7:quote [69,100,50,53,53,49,57]=[34,69,100,50,53,53,49,57,34]:=by decide +kernel
 have e8:quote [79,75,80]=[34,79,75,80,34]:=by decide +kernel
 simp [keyJ,jtext,writeV,itemsV,keyT,e1,e2,e3,e4,e5,e6,e7,e8]
def keysT:List (Bs × Bs)→Bool→Bs
 | [],_=>[]
 | k :: r,f=>(if f then [] else [44])++(keyT k++keysT r false)
theorem keys_text:∀ (ks:List (Bs × Bs)) (f:Bool),(∀ k ∈ ks,k.1.all plainC=true)→itemsV false [] (ks.map keyJ) f=keysT ks f
 | [],f,_=>by simp [itemsV,keysT]
 | k :: r,f,h=>by
  have h1:=key_text (h k List.mem_cons_self);have h2:=keys_text r false (fun x hx=>h x (List.mem_cons_of_mem _ hx));simp [itemsV,keysT,h1,h2]
def bundleT (b:BD):Bs:=[123,34,100,111,109,97,105,110,34,58,34]++(b.dom++([34,44,34,107,101,121,115,34,58,91]++(keysT b.keys true++([93,44,34,110,117,109,98,101,114,34,58]++(intB b.num++[125])))))
theorem qdE {b:BD} (h:PlainB b):writeV (bundleJ b)=bundleT b:=by
 have e1:=qb8 h.dom;have e2:=keys_text b.keys true (fun k hk=>(h.kid k hk).1);have e3:quote [100,111,109,97,105,110]=[34,100,111,109,97,105,110,34]:=by decide +kernel
 have e4:quote [107,101,121,115]=[34,107,101,121,115,34]:=by decide +kernel
 have e5:quote [110,117,109,98,101,114]=[34,110,117,109,98,101,114,34]:=by decide +kernel
 simp [bundleJ,jtext,jint,writeV,itemsV,bundleT,e1,e2,e3,e4,e5]
theorem qdu:∀ (ks:List (Bs × Bs)) (f:Bool),(∀ k ∈ ks,k.1.length≤8∧k.2.length≤32)→(keysT ks f).length≤ks.length*130
 | [],f,_=>by simp [keysT]
 | k :: r,f,h=>by
  have h1:=h k List.mem_cons_self;have h2:=qdu r false (fun x hx=>h x (List.mem_cons_of_mem _ hx));have h3:(enc k.2).length≤2*k.2.length+1:=qcT k.2 0 0 (by omega);have h4:(if f=true then ([]:Bs) else [44]).length≤1:=by cases f <;> simp
  simp only [keysT,keyT,List.length_append,List.length_cons,List.length_nil];omega
theorem qb4 {b:BD} (h:PlainB b):(writeV (bundleJ b)).length≤2000:=by
 rw [qdE h];have h1:=qdu b.keys true (fun k hk=>⟨(h.kid k hk).2,h.x k hk⟩);have h2:=h.kn;have h3:=h.dlen;have h4:=intB_len b.num;simp only [bundleT,List.length_append,List.length_cons,List.length_nil];omega
theorem wrE_may {b:BD} (h:PlainB b):wrE (bundleJ b)=(writeV (bundleJ b),0):=by
 unfold wrE;rw [qct h,if_neg (by simp),if_neg (by have:=qb4 h; omega)]
end Go.Proofs.YtlkikjeccamheaaGreatDoor.Js
namespace Go.Proofs.YtlkikjeccamheaaGreatDoor.Js
set_option linter.unusedSimpArgs false
set_option linter.unusedVariables false
set_option maxRecDepth 100000
set_option maxHeartbeats 4000000
open Go.RowKit
theorem qbQ {w w1:World} (h:Below w.heap.size w w1) (r:Option Nat):w.grownBy w1 r:=⟨h.os,h.tape,h.output,h.size,fun k hk _=>h.block k hk⟩
def KQ (K:Nat) (V:Value) (b:Nat):Prop:=K+1≤b∧V.ownBlock≠some b
structure Kb (w0:World) (L K:Nat) (T:JV) (A2:Option Addr) (c2:Nat) (ks:List JT) (u:World):Prop where
 low:Below L w0 u
 hL:L≤K
 tree:Blk u K 44 (jvCells T)
 kids:∃ kv:List JV,kv.length=ks.length∧OwnR u (K+1) 44 5 A2 c2 ks.length (rowsV jvCells kv) ∧
  ∀ i (h:i<ks.length) (h':i<kv.length),JRep u (KQ K (.slice A2 ks.length c2)) ks[i] kv[i]
section
variable {w0:World} {L K:Nat} {T:JV} {A2:Option Addr} {c2:Nat} {ks:List JT} {u u':World}
theorem Kb.size (h:Kb w0 L K T A2 c2 ks u):K+1≤u.heap.size:=h.tree.lt
theorem Kb.new (h:Kb w0 L K T A2 c2 ks u) (hb:Below u.heap.size u u'):Kb w0 L K T A2 c2 ks u':=by
 obtain ⟨kv,h1,h2,h3⟩:=h.kids;have:=h.size;have:=h.hL;exact ⟨h.low.trans (hb.mono (by omega)),h.hL,h.tree.below hb h.tree.lt,kv,h1,h2.below hb,fun i hi hi'=>(h3 i hi hi').heap fun b hlt _=>hb.block b hlt⟩
theorem Kb.put {T':JV} (h:Kb w0 L K T A2 c2 ks u) (hw:Wrote K u u') (ht:Blk u' K 44 (jvCells T')):Kb w0 L K T' A2 c2 ks u':=by
 obtain ⟨kv,h1,h2,h3⟩:=h.kids;have hk:∀ b,b<u.heap.size→K+1≤b→u'.heap[b]?=u.heap[b]?:=fun b hb hl=>hw.grown.block b hb (by intro h; injection h with h; omega);have hlt:∀ {k cs t},u.heap[k]?=some (.cells cs t (0,0))→k<u.heap.size:=fun hq=>(Array.getElem?_eq_some_iff.1 hq).1;exact ⟨hw.below h.low h.hL (by have:=h.size; have:=h.hL; omega),h.hL,ht,kv,h1,h2.heap fun k cs hq hl=>(hk k (hlt hq) hl).trans hq,fun i hi hi'=>(h3 i hi hi').heap fun b hb hs=>hk b hb hs.1⟩
theorem Kb.kid {k:JT} {v:JV} {A':Option Addr} {c':Nat} (h:Kb w0 L K T A2 c2 ks u) (hv:JRep u (KQ K (.slice A2 ks.length c2)) k v)
  {kv:List JV} (h1:kv.length=ks.length) (h2:OwnR u (K+1) 44 5 A2 c2 ks.length (rowsV jvCells kv)) (h3:∀ i (h:i<ks.length) (h':i<kv.length),JRep u (KQ K (.slice A2 ks.length c2)) ks[i] kv[i])
  (ho:OwnR u' (K+1) 44 5 A' c' (ks.length+1) (rowsV jvCells kv++(jvCells v).toList)) (hg:u.grownBy u' (Value.slice A2 ks.length c2).ownBlock)
  (hn:Next u (.slice A2 ks.length c2) (.slice A' (ks.length+1) c')):Kb w0 L K T A' c' (ks++[k]) u':=by
 have hs:=h.size;have hl:=h.hL
 have hS:∀ b,b<u.heap.size→KQ K (.slice A2 ks.length c2) b→KQ K (.slice A2 ks.length c2) b∧KQ K (.slice A' (ks++[k]).length c') b:=fun b hb hs=>⟨hs,hs.1,fun he=>by
   rw [List.length_append] at he
   rcases hn with hn | hn
   ·exact hs.2 (hn.symm.trans he)
   ·have:=hn b he
    omega⟩
 have hstep:∀ j x,JRep u (KQ K (.slice A2 ks.length c2)) j x→JRep u' (KQ K (.slice A' (ks++[k]).length c')) j x:=fun j x hj =>
  ((hj.imp hS).grown hg (fun b hb he=>hb.1.2 he.symm)).imp fun b _ hs=>hs.2
 refine ⟨h.low.grown hg (by omega) (fun k hk=>by have:=(h2.lt k hk).1; omega),h.hL,h.tree.grown hg (fun he=>by have:=(h2.lt K he.symm).1; omega),kv++[v],by simp [h1],by rw [qbf,qbM,List.length_append]; exact ho,fun i hi hi'=>?_⟩
 by_cases hl:i<ks.length
 ·rw [List.getElem_append_left hl,List.getElem_append_left (by omega)];exact hstep _ _ (h3 i hl (by omega))
 ·have e1:i=ks.length:=by simp at hi; omega
  subst e1;rw [List.getElem_append_right (Nat.le_refl _),List.getElem_append_right (by omega)];simp only [Nat.sub_self,h1,List.getElem_cons_zero];exact hstep _ _ hv
theorem Kb.rep (h:Kb w0 L K T A2 c2 ks u):JRep u (fun b=>K+1≤b) (.mk 4 0 [] [] ks) ⟨4,0,[],none,0,0,A2,ks.length,c2⟩:=by
 obtain ⟨kv,h1,h2,h3⟩:=h.kids
 exact .mk ⟨4,0,[],none,0,0,A2,ks.length,c2⟩ [] ks kv rfl (Nat.le_refl _) (RdS.nil _ _ _) rfl h2.cap h1 (qdh h2)
  (fun i hi hi'=>(h3 i hi hi').imp fun b _ hs=>hs.1)
end
def kidsV (A2:Option Addr) (n c2:Nat):JV:=⟨4,0,[],none,0,0,A2,n,c2⟩
theorem sl_jsons4:SlT Tryz.prog 42 44 5 80:=SlT.mk1 (z:=.agg #[.int .i64 0,.int .i64 0,.string ⟨#[]⟩,.slice none 0 0,.slice none 0 0]) Tryz.underlying42 (by kernel_rfl) rfl (by decide)
def wrB (D:Bs) (num:Int) (ks:List (Bs × Bs)):Bs × Int:=if mayB D num ks then (writeV (bundleJ ⟨D,num,ks⟩),0) else ([],1)
set_option maxHeartbeats 8000000 in
theorem qcJ (D:Bs) (num:Int) (ks:List (Bs × Bs)) (A:Option Addr) (c B:Nat) (w:World) (hr:Rd w B A (rowsV kCell ks)) (hB:B≤w.heap.size) (hD:((bs D).size:Int)≤100000000) (hl:(ks.length:Int)≤9223372036854775807)
  (hk:∀ k ∈ ks,(k.2.length:Int)≤9223372036854775807) (hG:Sh.TabG w) :
  Calls Tryz.prog 6 #[.agg (bC D num A ks.length c)] w fun e w'=>e=.returned (.tuple #[.string (bs (wrB D num ks).1),.int .i64 (wrB D num ks).2])∧Below w.heap.size w w':=by
 have hu:=Tryz.underlying44;have hub:=Tryz.underlying24;have huj:=Tryz.underlying38;obtain ⟨W0,hW0⟩:=eX (w.alloc (.cells (bC D num A ks.length c) 24));have hb0:Below w.heap.size w W0:=by rw [hW0]; exact (Below.refl _ w).alloc (Nat.le_refl _) _
 have HB0:=zY hb0;have HK:=zY (show Blk W0 w.heap.size 24 (bC D num A ks.length c) by rw [hW0]; exact Blk.new _ _ _);have HS0:=zY (show W0.heap.size=w.heap.size+1 by rw [hW0]; simp);have HW0:=zY hW0;have C:=zY (may_any D num ks A c B W0 (hr.below (hb0.mono hB)) (Nat.le_trans hB hb0.size) hD hl hk (hG.below hb0 hG.size));have HR:=zY (hr.below (hb0.mono hB));have HBB:=zY hB;have HMB:=zY (fun (h:mayB D num ks=true)=>qcz (b:=⟨D,num,ks⟩) h);have HWR:=zY (show wrB D num ks=if mayB D num ks then (writeV (bundleJ ⟨D,num,ks⟩),0) else ([],1) from rfl);obtain ⟨m,hm⟩:=eX (mayB D num ks);obtain ⟨R,hR⟩:=eX (wrB D num ks);rw [← hm] at C HMB HWR;rw [← hR] at HWR ⊢;obtain ⟨n,hn⟩:=eX (ks.length);rw [← hn] at hl C HK HW0 ⊢;have HN:=zY hn;clear hW0 hb0 hr hB hD hk hG hm hR hn;go_enter Tryz.func6,Tryz.ntmps6
 go_upto_region 1 with (fail)
 rw [show w.alloc (.cells (bC D num A n c) 24)=W0 from HW0.out.symm];generalize hAV:Value.agg (bC D num A n c)=AV;rw [hAV] at C;go_wp2_with (refine qad (x:=.tmp 1) (cs:=bC D num A n c) HK.out rfl rfl rfl hub rfl qaC ?_);refine qaa C.out ?_;rintro e u1 ⟨rfl,hb1⟩;have HK1:=zY (HK.out.below hb1 HK.out.lt);have HB1:=zY hb1;clear hb1 hAV C
 cases m with
 | false =>
  have HRE:=zY (show R=([],1) from HWR.out);go_wp2_with fail;go_ret2;exact ⟨by rw [HRE.out]; rfl,HB0.out.trans (HB1.out.mono HB0.out.size)⟩
 | true =>
  obtain ⟨hpb,hkx⟩:=HMB.out rfl;have HPB:=zY hpb;have HKX:=zY hkx;have HRE:=zY (show R=(writeV (bundleJ ⟨D,num,ks⟩),0) from HWR.out);have hn8:(n:Int)≤8:=by have h8:ks.length≤8:=hpb.kn; have:=HN.out; omega
  clear hpb hkx hl HMB HWR
  go_upto_region 4 with (first | (refine qae (cells:=jvCells (flatV 4 0 [])) (Blk.new _ _ _) rfl rfl rfl rfl qav rfl (qai _) ?_; intro w9 hb9 hw9))
  obtain ⟨K,hK⟩:=eX (u1.heap.size);rw [← hK] at hb9 hw9 ⊢
  have hKb:Kb W0 (w.heap.size+1) K (kidsV none 0 0) none 0 [] w9 :=
   ⟨HS0.out▸HB1.out.trans ((qaN (hK▸hw9)).mono (Nat.le_trans HB1.out.size (Nat.le_refl _))),by rw [hK,← HS0.out]; exact HB1.out.size,hb9,[],rfl,OwnR.nil _ _ _ _,fun i h _=>by simp at h⟩
  have HKB:=zY hKb;have HLK:=zY (show w.heap.size<K by rw [hK]; exact HK1.out.lt);have HKL:=zY (fun (u:World) (h:Below (w.heap.size+1) W0 u)=>show Blk u w.heap.size 24 (bC D num A n c) from HK.out.below h (Nat.lt_succ_self _));have b2:w9.cell? ⟨w.heap.size,2,none⟩=some (.slice A n c):=(HKL.out _ hKb.low).cell 2;clear hb9 hw9 hK hKb;go_wp2_with fail
  go_loopw [14] (fun x wr=>∃ (i:Nat) (A2:Option Addr) (c2:Nat),i≤n∧x=.int .i64 (i:Int)∧Kb W0 (w.heap.size+1) K (kidsV A2 ((ks.take i).map keyJ).length c2) A2 c2 ((ks.take i).map keyJ) wr) (fun x _=>n - (intOf x).toNat)
  case atStart=>exact ⟨0,none,0,Nat.zero_le _,rfl,HKB.out⟩
  case round =>
   obtain ⟨i,A2,c2,hi,rfl,hkb⟩:=hrel;have HKI:=zY hkb
   by_cases hlt:i<n
   ·have hil:i<ks.length:=by rw [← HN.out]; exact hlt
    have hlt':(i:Int)<(n:Int):=by omega
    obtain ⟨ad,hA,hadb,hcell⟩:=qaX (f:=kCell) (m:=2) (fun _=>rfl) (by decide) (HR.out.below (hkb.low.mono (Nat.le_succ_of_le HBB.out))) hil;subst hA;obtain ⟨X,hX⟩:=eX (ks[i]);rw [← hX] at hcell;have HCL:=zY (show ∀ j u,(kCell X).toList[j]?=some u→wr.cell? ((ad.add (i*2)).add j)=some u from fun j u hu=>hcell j u (by simpa using hu));have HX3:=zY (show X.2.length=32 from (HKX.out X (by rw [hX]; exact List.getElem_mem hil)).1);have HLT:=zY hlt;have HXS:=zY (show (ks.take (i+1)).map keyJ=(ks.take i).map keyJ++[keyJ X] by rw [List.take_succ_eq_append_getElem hil,List.map_append,hX]; rfl);have HJL:=zY (show ((ks.take i).map keyJ).length≤8 by simp; omega);obtain ⟨J,hJ⟩:=eX ((ks.take i).map keyJ);rw [← hJ] at HKI HXS HJL;clear hkb hX hcell hadb hil hlt hJ
    go_upto_region 7 with (first
     | refine qaD (r:=(kCell X).toList) HCL.out rfl rfl rfl huj rfl qbq ?_
     | (refine qae (cells:=kCell X) (Blk.new _ _ _) rfl rfl rfl rfl qbq rfl (qdw X) ?_; intro w5 hb5 hw5))
    have hbw5:Below wr.heap.size wr w5:=qaN hw5;obtain ⟨H,hH⟩:=eX (wr.heap.size);rw [← hH] at hb5 ⊢
    have HNE:=zY (show ∀ k,(Value.slice A2 J.length c2).ownBlock=some k→K+1≤k∧k≠H from fun k hk=>by
     obtain ⟨kv,_,h2,_⟩:=HKI.out.kids;have:=h2.lt k hk;exact ⟨this.1,by omega⟩)
    have HKH:=zY (show K+1≤H by rw [hH]; exact HKI.out.size);have HK5:=zY (HKI.out.new hbw5);have HX5:=zY hb5;have CK:=zY (fun (u:World)=>key_any X.1 X.2 HX3.out u);clear hbw5 hw5 hb5 hH;go_wp2_with fail;have HI0:w5.drew.cell? ⟨K,4,none⟩=some (.slice A2 J.length c2)∧Blk w5.drew H 38 (kCell X):=⟨HK5.out.tree.cell 4,HX5.out⟩;have HJ0:Kb W0 (w.heap.size+1) K (kidsV A2 J.length c2) A2 c2 J w5.drew:=HK5.out.new (Below.refl _ _).drew
    refine qap (fun _=>True) (fun | false=>(fun u=>u.cell? ⟨K,4,none⟩=some (.slice A2 J.length c2)∧Blk u H 38 (kCell X)) | true=>(fun u=>Kb W0 (w.heap.size+1) K (kidsV A2 J.length c2) A2 c2 J u)) (fun | false,i=>i == 7 | true,i=>i == 5 || i == 7)
     [fun z _=>z 0=.pointer (some ⟨K,4,none⟩),
      fun z _=>z 1=.slice A2 J.length c2,
      fun z _=>z 2=.agg (kCell X),
      fun z u=>∃ v,z 3=.agg (jvCells v)∧JRep u (KQ K (.slice A2 J.length c2)) (keyJ X) v,
      fun z u=>∃ (v:JV) (ad:Nat),z 4=.slice (some ⟨ad,0,none⟩) 1 1∧Blk u ad 44 (jvCells v)∧JRep u (KQ K (.slice A2 J.length c2)) (keyJ X) v,
      fun z u=>∃ (A':Option Addr) (c':Nat),z 5=.slice A' (J.length+1) c'∧Kb W0 (w.heap.size+1) K (kidsV A2 J.length c2) A' c' (J++[keyJ X]) u,
      fun z _=>z 6=.pointer (some ⟨K,4,none⟩),
      fun z u=>∃ (A':Option Addr) (c':Nat),Kb W0 (w.heap.size+1) K (kidsV A' (J++[keyJ X]).length c') A' c' (J++[keyJ X]) u]
     [Eq,Eq,Eq,fun u u'=>Below u.heap.size u u',fun u u'=>Below u.heap.size u u',fun u u'=>∃ g:Option Nat,u.grownBy u' g∧∀ k,g=some k→K+1≤k∧k≠H,Eq,fun _ _=>True]
     (fun i k=>(i == 4 && k == 3) || (i == 5 && k == 3) || (i == 5 && k == 4) || (i == 7 && k == 3) || (i == 7 && k == 4) || (i == 7 && k == 5)) [(0,some 18),(1,some 19),(2,some 20),(3,some 21),(4,some 22),(5,some 23),(6,some 24),(7,none)] (by kernel_rfl) (by kernel_rfl) rfl (fun _=>rfl) ?_ ?_ ?_ ?_ ?_ ?_
    ·exact (by first | trivial | assumption)
    ·intro m; cases m; exact HI0; exact HJ0
    ·intro m; cases m
     ·refine ⟨?_,?_,?_,.inr (fun _ _ h h0=>⟨(qbQ h none).cell h0.1 (by simp),h0.2.below h h0.2.lt⟩),.inr (fun _ _ h h0=>⟨(qbQ h none).cell h0.1 (by simp),h0.2.below h h0.2.lt⟩),.inr (fun _ _ h h0=>by obtain ⟨g,hg,hk⟩:=h; exact ⟨hg.cell h0.1 (by intro e; have:K+1≤K:=(hk _ e.symm).1; omega),h0.2.grown hg (by intro e; exact (hk _ e.symm).2 rfl)⟩),?_,.inl rfl,trivial⟩ <;> exact .inr fun _ _ h h0=>h▸h0
     ·refine ⟨?_,?_,?_,.inr (fun _ _ h h0=>h0.new h),.inr (fun _ _ h h0=>h0.new h),.inl rfl,?_,.inl rfl,trivial⟩ <;> exact .inr fun _ _ h h0=>h▸h0
    ·refine ⟨⟨.inl rfl,?_,?_,?_,?_,?_,?_,?_,trivial⟩,⟨?_,.inl rfl,?_,?_,?_,?_,?_,?_,trivial⟩,⟨?_,?_,.inl rfl,?_,?_,?_,?_,?_,trivial⟩,⟨?_,?_,?_,.inl rfl,?_,?_,?_,?_,trivial⟩,⟨?_,?_,?_,.inr (.inl rfl),.inl rfl,?_,?_,?_,trivial⟩,⟨?_,?_,?_,.inr (.inl rfl),.inr (.inl rfl),.inl rfl,?_,?_,trivial⟩,⟨?_,?_,?_,?_,?_,?_,.inl rfl,?_,trivial⟩,⟨?_,?_,?_,.inr (.inl rfl),.inr (.inl rfl),.inr (.inl rfl),?_,.inl rfl,trivial⟩,trivial⟩ <;> first | exact .inr (.inr (.inl rfl)) | exact .inr (.inr (.inr fun _ _ _ _ _ h=>h)) | exact .inr (.inr (.inr fun _ _ _ _ h h0=>by cases h; exact h0))
    ·refine ⟨?_,?_,?_,?_,?_,?_,?_,?_,trivial⟩
     ·refine qab [] (fun _=>rfl) rfl ?_;intro w1 vals hC1 hi0 hf E hE;have hI1:(fun u=>u.cell? ⟨K,4,none⟩=some (.slice A2 J.length c2)∧Blk u H 38 (kCell X)) w1:=hi0 false rfl
      try dsimp only at hI1
      have hJ1:(fun u=>Kb W0 (w.heap.size+1) K (kidsV A2 J.length c2) A2 c2 J u) w1:=hi0 true rfl
      try dsimp only at hJ1
      clear hi0;clear hf;simp only [sP] at hE ⊢;go_wp2;exact .mk (hE _ _ rfl hC1 rfl)
     ·refine qab [(0,some 18)] (fun _=>rfl) rfl ?_;intro w1 vals hC1 hi0 hf E hE;have hI1:(fun u=>u.cell? ⟨K,4,none⟩=some (.slice A2 J.length c2)∧Blk u H 38 (kCell X)) w1:=hi0 false rfl
      try dsimp only at hI1
      have hJ1:(fun u=>Kb W0 (w.heap.size+1) K (kidsV A2 J.length c2) A2 c2 J u) w1:=hi0 true rfl
      try dsimp only at hJ1
      clear hi0;have f0:vals 0=_:=hf 0 rfl
      try dsimp only at f0
      clear hf;obtain ⟨d0,d1⟩:=hI1;clear d1;simp only [sP,f0] at hE ⊢;clear f0;go_wp2;exact .mk (hE _ _ rfl hC1 rfl)
     ·refine qab [] (fun _=>rfl) rfl ?_;intro w1 vals hC1 hi0 hf E hE;have hI1:(fun u=>u.cell? ⟨K,4,none⟩=some (.slice A2 J.length c2)∧Blk u H 38 (kCell X)) w1:=hi0 false rfl
      try dsimp only at hI1
      have hJ1:(fun u=>Kb W0 (w.heap.size+1) K (kidsV A2 J.length c2) A2 c2 J u) w1:=hi0 true rfl
      try dsimp only at hJ1
      clear hi0;clear hf;obtain ⟨d0,d1⟩:=hI1;clear d0;have D1:=zY d1;clear d1;simp only [sP] at hE ⊢;refine qad (cs:=kCell X) D1.out rfl rfl rfl huj rfl qbq ?_;go_wp2_with fail;exact .mk (hE _ _ rfl hC1 rfl)
     ·refine qab [(2,some 20)] (fun _=>rfl) rfl ?_;intro w1 vals hC1 hi0 hf E hE;have hI1:(fun u=>u.cell? ⟨K,4,none⟩=some (.slice A2 J.length c2)∧Blk u H 38 (kCell X)) w1:=hi0 false rfl
      try dsimp only at hI1
      have hJ1:(fun u=>Kb W0 (w.heap.size+1) K (kidsV A2 J.length c2) A2 c2 J u) w1:=hi0 true rfl
      try dsimp only at hJ1
      clear hi0;have f2:vals 2=_:=hf 2 rfl
      try dsimp only at f2
      clear hf;have HJ1:=zY hJ1;clear hJ1;simp only [sP,f2] at hE ⊢;clear f2;go_wp2_with fail;refine qaa (CK.out _) ?_;rintro y w6 ⟨v,rfl,hj,hb⟩;have HJ:=zY hj;have HG:=zY hb;clear hj hb;go_wp2_with fail;exact .mk (hE _ _ ⟨v,rfl,HJ.out.imp fun b _ hb=>⟨by have:=HJ1.out.size; omega,fun he=>by obtain ⟨kv,_,h2,_⟩:=HJ1.out.kids; have:=(h2.lt b he).2; omega⟩⟩ hC1 HG.out)
     ·refine qab [(3,some 21)] (fun _=>rfl) rfl ?_;intro w1 vals hC1 hi0 hf E hE;have hI1:(fun u=>u.cell? ⟨K,4,none⟩=some (.slice A2 J.length c2)∧Blk u H 38 (kCell X)) w1:=hi0 false rfl
      try dsimp only at hI1
      have hJ1:(fun u=>Kb W0 (w.heap.size+1) K (kidsV A2 J.length c2) A2 c2 J u) w1:=hi0 true rfl
      try dsimp only at hJ1
      clear hi0;have f3:(fun z u=>∃ v,z 3=.agg (jvCells v)∧JRep u (KQ K (.slice A2 J.length c2)) (keyJ X) v) vals w1:=hf 3 rfl
      try dsimp only at f3
      clear hf;obtain ⟨v,hx,hj⟩:=f3;have HJ:=zY hj;clear hj;simp only [sP,hx] at hE ⊢;clear hx;unfold jvCells;go_wp2;exact .mk (hE _ _ ⟨v,_,rfl,Blk.new _ _ _,HJ.out.heap fun b hb _=>Below.heap_alloc _ _ _ hb⟩ hC1 ((Below.refl _ _).alloc (Nat.le_refl _) _))
     ·refine qab [(1,some 19),(4,some 22),(3,some 21)] (fun _=>rfl) rfl ?_;intro w1 vals hC1 hi0 hf E hE;have hI1:(fun u=>u.cell? ⟨K,4,none⟩=some (.slice A2 J.length c2)∧Blk u H 38 (kCell X)) w1:=hi0 false rfl
      try dsimp only at hI1
      have hJ1:(fun u=>Kb W0 (w.heap.size+1) K (kidsV A2 J.length c2) A2 c2 J u) w1:=hi0 true rfl
      try dsimp only at hJ1
      clear hi0;have f1:vals 1=_:=hf 1 rfl;have f4:(fun z u=>∃ (v:JV) (ad:Nat),z 4=.slice (some ⟨ad,0,none⟩) 1 1∧Blk u ad 44 (jvCells v)∧JRep u (KQ K (.slice A2 J.length c2)) (keyJ X) v) vals w1:=hf 4 rfl
      try dsimp only at f1 f4
      clear hf;obtain ⟨v,ad,hx,hk,hj⟩:=f4;have HL:=zY hJ1;have HK:=zY hk;have HJ:=zY hj;obtain ⟨kv,hv1,hv2,hv3⟩:=HL.out.kids;have HO:=zY hv2;have HV1:=zY hv1;have HV3:=zY hv3;have hjl:=HJL.out;clear hJ1 hk hj hv1 hv2 hv3;simp only [sP,f1,hx] at hE ⊢;clear f1;clear hx;go_wp2_with (refine qa8 (news:=(jvCells v).toList) (m:=1) sl_jsons4 rfl rfl HO.out rfl rfl rfl (Rd.of_blk (l:=(jvCells v).toList) HK.out (HK.out.lt)) (by simp [jvCells,Value.oneCell']) (by unfold maxLen; omega) (by omega) (HL.out.size) ?_; intro A' c' w5 ho hg hn);exact .mk (hE _ _ ⟨A',c',rfl,HL.out.kid HJ.out HV1.out HO.out HV3.out ho hg hn⟩ hC1 ⟨_,hg,HNE.out⟩)
     ·refine qab [(0,some 18),(1,some 19),(2,some 20),(3,some 21),(4,some 22),(5,some 23)] (fun _=>rfl) rfl ?_;intro w1 vals hC1 hi0 hf E hE;have hI1:(fun u=>u.cell? ⟨K,4,none⟩=some (.slice A2 J.length c2)∧Blk u H 38 (kCell X)) w1:=hi0 false rfl
      try dsimp only at hI1
      clear hi0;have f0:vals 0=_:=hf 0 rfl;have f1:vals 1=_:=hf 1 rfl;have f2:vals 2=_:=hf 2 rfl;have f5:(fun z u=>∃ (A':Option Addr) (c':Nat),z 5=.slice A' (J.length+1) c'∧Kb W0 (w.heap.size+1) K (kidsV A2 J.length c2) A' c' (J++[keyJ X]) u) vals w1:=hf 5 rfl
      try dsimp only at f0 f1 f2 f5
      clear hf;simp only [sP,f0,f1,f2] at hE ⊢;clear f0 f1 f2;go_wp2;exact .mk (hE _ _ rfl hC1 rfl)
     ·refine qab [(6,some 24),(5,some 23),(5,some 23),(0,some 18),(1,some 19),(2,some 20),(3,some 21),(4,some 22),(5,some 23)] (fun _=>rfl) rfl ?_;intro w1 vals hC1 hi0 hf E hE;have hI1:(fun u=>u.cell? ⟨K,4,none⟩=some (.slice A2 J.length c2)∧Blk u H 38 (kCell X)) w1:=hi0 false rfl
      try dsimp only at hI1
      clear hi0;have f0:vals 0=_:=hf 0 rfl;have f1:vals 1=_:=hf 1 rfl;have f2:vals 2=_:=hf 2 rfl;have f5:(fun z u=>∃ (A':Option Addr) (c':Nat),z 5=.slice A' (J.length+1) c'∧Kb W0 (w.heap.size+1) K (kidsV A2 J.length c2) A' c' (J++[keyJ X]) u) vals w1:=hf 5 rfl;have f6:vals 6=_:=hf 6 rfl
      try dsimp only at f0 f1 f2 f5 f6
      clear hf;obtain ⟨A',c',hx,hl⟩:=f5;have HL:=zY hl;clear hl;simp only [sP,f0,f1,f2,f6,hx] at hE ⊢;clear f0 f1 f2 f6;clear hx;go_wp2_with (refine qag (x:=.tmp 24) (i:=4) HL.out.tree rfl rfl rfl rfl (by kernel_rfl) (by simp [jvCells]) rfl ?_; intro w5 hb5 hw5);exact .mk (hE undef _ ⟨A',c',HL.out.put hw5 (by rw [List.length_append]; exact hb5)⟩ hC1 trivial)
    intro w1 vals hC1 hf;have f0:vals 0=_:=hf 0 (by decide) rfl;have f1:vals 1=_:=hf 1 (by decide) rfl;have f2:vals 2=_:=hf 2 (by decide) rfl;have f6:vals 6=_:=hf 6 (by decide) rfl;have f7:(fun z u=>∃ (A':Option Addr) (c':Nat),Kb W0 (w.heap.size+1) K (kidsV A' (J++[keyJ X]).length c') A' c' (J++[keyJ X]) u) vals w1:=hf 7 (by decide) rfl
    try dsimp only at f0 f1 f2 f6 f7
    clear hf;simp only [sP,f0,f1,f2,f6];clear f0 f1 f2 f6;generalize vals 3=x3 at *;generalize vals 4=x4 at *;generalize vals 5=x5 at *;obtain ⟨A',c',hkb7⟩:=f7;have HKB7:=zY hkb7;clear hkb7 HI0 HJ0 hC1 CK;go_wp2_with fail
    go_roundw
    case rel=>exact ⟨i+1,A',c',HLT.out,by go_num,by rw [HXS.out]; exact HKB7.out⟩
    case measure=>have:=HLT.out; simp [intOf]; omega
   ·obtain rfl:i=n:=by omega
    have htk:ks.take i=ks:=List.take_of_length_le (by rw [← HN.out]; exact Nat.le_refl _);rw [htk] at hkb;obtain ⟨KV,hKV⟩:=eX (kidsV A2 (ks.map keyJ).length c2);have hrp:JRep wr (fun x=>x<wr.heap.size) (.mk 4 0 [] [] (ks.map keyJ)) KV:=by rw [hKV]; exact hkb.rep.imp fun b hb _=>hb
    rw [← hKV] at hkb;have HKJ:=zY hkb.tree;have HRP:=zY hrp;have HBX:=zY (show Blk wr w.heap.size 24 (bC D num A i c) from HKL.out _ hkb.low);have HF9:=zY (show Below w.heap.size w wr from HB0.out.trans (hkb.low.mono (Nat.le_succ _)));obtain ⟨T,hT⟩:∃ T,T=writeV (bundleJ ⟨D,num,ks⟩):=⟨_,rfl⟩;have HRT:=zY (show R=(T,0) by rw [hT]; exact HRE.out);have HTX:=zY (qdx D)
    have HWR:=zY (fun (u:World) (v:JV) (h:JRep u (fun b=>b<u.heap.size) (bundleJ ⟨D,num,ks⟩) v)=>show Calls Tryz.prog 17 #[.agg (jvCells v)] u (fun e w'=>e=.returned (.tuple #[.string (bs T),.int .i64 0])∧Below u.heap.size u w') by
     have h2:=jwrite_any (bundleJ ⟨D,num,ks⟩) v u.heap.size u (bundleJ_small HPB.out) h (Nat.le_refl _) (by have:=qb4 HPB.out; omega);rw [wrE_may HPB.out,← hT] at h2;exact h2)
    clear hkb hrp htk hT hKV HKI HKB HKL HRE;go_wp2_with fail;have HC0:Below wr.heap.size wr wr.drew:=(Below.refl _ _).drew
    refine qap (fun u=>Below wr.heap.size wr u) (fun | false=>(fun _=>True) | true=>(fun _=>True)) (fun | false,_=>false | true,_=>false)
     [fun z u=>(fun v u=>RowAt u 9 3 [.string (bs [100,111,109,97,105,110]),.string (bs [107,101,121,115]),.string (bs [110,117,109,98,101,114])] v) (z 0) u,
      fun z _=>z 1=.pointer (some ⟨w.heap.size,0,none⟩),
      fun z _=>z 2=.string (bs D),
      fun z _=>z 3=.agg (jvCells (flatV 3 0 D)),
      fun z _=>z 4=.agg (jvCells KV),
      fun z _=>z 5=.pointer (some ⟨w.heap.size,1,none⟩),
      fun z _=>z 6=.int .i64 num,
      fun z _=>z 7=.agg (jvCells (flatV 2 num [])),
      fun z u=>(fun v u=>RowAt u 44 3 (rowsV jvCells [flatV 3 0 D,KV,flatV 2 num []]) v) (z 8) u,
      fun z u=>(fun v u=>∃ jv,v=.agg (jvCells jv)∧JRep u (fun b=>b<u.heap.size) (bundleJ ⟨D,num,ks⟩) jv) (z 9) u,
      fun z _=>z 10=.tuple #[.string (bs T),.int .i64 0],
      fun z _=>z 11=.string (bs T),
      fun z _=>z 12=.int .i64 0,
      fun z _=>z 13=.string (bs T),
      fun z _=>z 14=.int .i64 0]
     [fun u u'=>Below u.heap.size u u',Eq,Eq,fun u u'=>Below u.heap.size u u',Eq,Eq,Eq,Eq,fun u u'=>Below u.heap.size u u',Eq,fun u u'=>Below u.heap.size u u',Eq,Eq,Eq,Eq]
     (fun _ _=>false) [(0,some 26),(1,some 27),(2,some 28),(3,some 29),(4,some 30),(5,some 31),(6,some 32),(7,some 33),(8,some 34),(9,some 35),(10,some 36),(11,some 37),(12,some 38),(13,some 2),(14,some 3)] (by kernel_rfl) (by kernel_rfl) rfl (fun _=>rfl) ?_ ?_ ?_ ?_ ?_ ?_
    ·exact HC0
    ·intro m; cases m; exact trivial; exact trivial
    ·intro m; cases m
     ·refine ⟨?_,?_,?_,?_,?_,?_,?_,?_,?_,?_,?_,?_,?_,?_,?_,trivial⟩ <;> first | exact .inr fun _ _ h h0=>h▸h0 | exact .inr fun _ _ _ h=>h
     ·refine ⟨?_,?_,?_,?_,?_,?_,?_,?_,?_,?_,?_,?_,?_,?_,?_,trivial⟩ <;> first | exact .inr fun _ _ h h0=>h▸h0 | exact .inr fun _ _ _ h=>h
    ·refine ⟨⟨.inl rfl,?_,?_,?_,?_,?_,?_,?_,.inr (.inr (.inr (fun _ _ _ _ h h0=>h0.step h))),?_,?_,?_,?_,?_,?_,trivial⟩,⟨?_,.inl rfl,?_,?_,?_,?_,?_,?_,?_,?_,?_,?_,?_,?_,?_,trivial⟩,⟨?_,?_,.inl rfl,?_,?_,?_,?_,?_,?_,?_,?_,?_,?_,?_,?_,trivial⟩,⟨.inr (.inr (.inr (fun _ _ _ _ h h0=>h0.step h))),?_,?_,.inl rfl,?_,?_,?_,?_,?_,?_,?_,?_,?_,?_,?_,trivial⟩,⟨?_,?_,?_,?_,.inl rfl,?_,?_,?_,?_,?_,?_,?_,?_,?_,?_,trivial⟩,⟨?_,?_,?_,?_,?_,.inl rfl,?_,?_,?_,?_,?_,?_,?_,?_,?_,trivial⟩,⟨?_,?_,?_,?_,?_,?_,.inl rfl,?_,?_,?_,?_,?_,?_,?_,?_,trivial⟩,⟨?_,?_,?_,?_,?_,?_,?_,.inl rfl,?_,?_,?_,?_,?_,?_,?_,trivial⟩,⟨.inr (.inr (.inr (fun _ _ _ _ h h0=>h0.step h))),?_,?_,?_,?_,?_,?_,?_,.inl rfl,?_,?_,?_,?_,?_,?_,trivial⟩,⟨?_,?_,?_,?_,?_,?_,?_,?_,?_,.inl rfl,?_,?_,?_,?_,?_,trivial⟩,⟨.inr (.inr (.inr (fun _ _ _ _ h h0=>h0.step h))),?_,?_,?_,?_,?_,?_,?_,.inr (.inr (.inr (fun _ _ _ _ h h0=>h0.step h))),.inr (.inr (.inr (fun _ _ _ _ h h0=>rep_step h0 h))),.inl rfl,?_,?_,?_,?_,trivial⟩,⟨?_,?_,?_,?_,?_,?_,?_,?_,?_,?_,?_,.inl rfl,?_,?_,?_,trivial⟩,⟨?_,?_,?_,?_,?_,?_,?_,?_,?_,?_,?_,?_,.inl rfl,?_,?_,trivial⟩,⟨?_,?_,?_,?_,?_,?_,?_,?_,?_,?_,?_,?_,?_,.inl rfl,?_,trivial⟩,⟨?_,?_,?_,?_,?_,?_,?_,?_,?_,?_,?_,?_,?_,?_,.inl rfl,trivial⟩,trivial⟩ <;> first | exact .inr (.inr (.inl rfl)) | exact .inr (.inr (.inr fun _ _ _ _ _ h=>h)) | exact .inr (.inr (.inr fun _ _ _ _ h h0=>by cases h; exact h0))
    ·refine ⟨?_,?_,?_,?_,?_,?_,?_,?_,?_,?_,?_,?_,?_,?_,?_,trivial⟩
     ·refine qab [] (fun _=>rfl) rfl ?_;intro w1 vals hC1 hi0 hf E hE;clear hi0;clear hf;simp only [sP] at hE ⊢;go_wp2;exact .mk (hE _ _ ⟨_,rfl,Blk.new _ _ _⟩ (hC1.alloc hC1.size _) ((Below.refl _ _).alloc (Nat.le_refl _) _))
     ·refine qab [] (fun _=>rfl) rfl ?_;intro w1 vals hC1 hi0 hf E hE;clear hi0;clear hf;simp only [sP] at hE ⊢;go_wp2;exact .mk (hE _ _ rfl hC1 rfl)
     ·refine qab [(1,some 27)] (fun _=>rfl) rfl ?_;intro w1 vals hC1 hi0 hf E hE;clear hi0;have f1:vals 1=_:=hf 1 rfl
      try dsimp only at f1
      clear hf;simp only [sP,f1] at hE ⊢;clear f1;have d0:=(HBX.out.below hC1 HBX.out.lt).cell 0;simp only [bC,List.getElem?_toArray,List.getElem?_cons_zero] at d0;go_wp2;exact .mk (hE _ _ rfl hC1 rfl)
     ·refine qab [(2,some 28)] (fun _=>rfl) rfl ?_;intro w1 vals hC1 hi0 hf E hE;clear hi0;have f2:vals 2=_:=hf 2 rfl
      try dsimp only at f2
      clear hf;simp only [sP,f2] at hE ⊢;clear f2;go_wp2_with fail;refine qaa (HTX.out _) ?_;rintro e w2 ⟨rfl,hb2⟩;go_wp2_with fail;exact .mk (hE _ _ rfl (hC1.trans (hb2.mono hC1.size)) hb2)
     ·refine qab [] (fun _=>rfl) rfl ?_;intro w1 vals hC1 hi0 hf E hE;clear hi0;clear hf;simp only [sP] at hE ⊢;refine qad (cs:=jvCells KV) (HKJ.out.below hC1 HKJ.out.lt) rfl rfl rfl hu rfl qav ?_;go_wp2_with fail;exact .mk (hE _ _ rfl hC1 rfl)
     ·refine qab [] (fun _=>rfl) rfl ?_;intro w1 vals hC1 hi0 hf E hE;clear hi0;clear hf;simp only [sP] at hE ⊢;go_wp2;exact .mk (hE _ _ rfl hC1 rfl)
     ·refine qab [(5,some 31)] (fun _=>rfl) rfl ?_;intro w1 vals hC1 hi0 hf E hE;clear hi0;have f5:vals 5=_:=hf 5 rfl
      try dsimp only at f5
      clear hf;simp only [sP,f5] at hE ⊢;clear f5;have d0:=(HBX.out.below hC1 HBX.out.lt).cell 1;simp only [bC,List.getElem?_toArray,List.getElem?_cons_zero,List.getElem?_cons_succ] at d0;go_wp2;exact .mk (hE _ _ rfl hC1 rfl)
     ·refine qab [(6,some 32)] (fun _=>rfl) rfl ?_;intro w1 vals hC1 hi0 hf E hE;clear hi0;have f6:vals 6=_:=hf 6 rfl
      try dsimp only at f6
      clear hf;simp only [sP,f6] at hE ⊢;clear f6;go_wp2;exact .mk (hE _ _ rfl hC1 rfl)
     ·refine qab [(3,some 29),(4,some 30),(7,some 33)] (fun _=>rfl) rfl ?_;intro w1 vals hC1 hi0 hf E hE;clear hi0;have f3:vals 3=_:=hf 3 rfl;have f4:vals 4=_:=hf 4 rfl;have f7:vals 7=_:=hf 7 rfl
      try dsimp only at f3 f4 f7
      clear hf;simp only [sP,f3,f4,f7] at hE ⊢;clear f3 f4 f7;unfold jvCells flatV;go_wp2;exact .mk (hE _ _ ⟨_,rfl,Blk.new _ _ _⟩ (hC1.alloc hC1.size _) ((Below.refl _ _).alloc (Nat.le_refl _) _))
     ·refine qab [(0,some 26),(8,some 34)] (fun _=>rfl) rfl ?_;intro w1 vals hC1 hi0 hf E hE;clear hi0;have f0:(fun v u=>RowAt u 9 3 [.string (bs [100,111,109,97,105,110]),.string (bs [107,101,121,115]),.string (bs [110,117,109,98,101,114])] v) (vals 0) w1:=hf 0 rfl;have f8:(fun v u=>RowAt u 44 3 (rowsV jvCells [flatV 3 0 D,KV,flatV 2 num []]) v) (vals 8) w1:=hf 8 rfl
      try dsimp only at f0 f8
      clear hf;obtain ⟨g0,hx0,hg0⟩:=f0;obtain ⟨g8,hx8,hg8⟩:=f8;simp only [sP,hx0,hx8] at hE ⊢;clear hx0 hx8;go_wp2;exact .mk (hE _ _ ⟨_,rfl,bundle_rep ⟨D,num,ks⟩ KV hg0 hg8 ((HRP.out.under hC1).imp fun b _ h=>Nat.lt_of_lt_of_le h hC1.size)⟩ hC1 rfl)
     ·refine qab [(9,some 35),(3,some 29)] (fun _=>rfl) rfl ?_;intro w1 vals hC1 hi0 hf E hE;clear hi0;have f3:vals 3=_:=hf 3 rfl;have f9:(fun v u=>∃ jv,v=.agg (jvCells jv)∧JRep u (fun b=>b<u.heap.size) (bundleJ ⟨D,num,ks⟩) jv) (vals 9) w1:=hf 9 rfl
      try dsimp only at f3 f9
      clear hf;obtain ⟨jv,hx9,hj9⟩:=f9;simp only [sP,f3,hx9] at hE ⊢;clear f3;clear hx9;go_wp2_with fail;refine qaa (HWR.out _ _ hj9) ?_;rintro e w2 ⟨rfl,hb2⟩;go_wp2_with fail;exact .mk (hE _ _ rfl (hC1.trans (hb2.mono hC1.size)) hb2)
     ·refine qab [(10,some 36)] (fun _=>rfl) rfl ?_;intro w1 vals hC1 hi0 hf E hE;clear hi0;have f10:vals 10=_:=hf 10 rfl
      try dsimp only at f10
      clear hf;simp only [sP,f10] at hE ⊢;clear f10;go_wp2;exact .mk (hE _ _ rfl hC1 rfl)
     ·refine qab [(10,some 36)] (fun _=>rfl) rfl ?_;intro w1 vals hC1 hi0 hf E hE;clear hi0;have f10:vals 10=_:=hf 10 rfl
      try dsimp only at f10
      clear hf;simp only [sP,f10] at hE ⊢;clear f10;go_wp2;exact .mk (hE _ _ rfl hC1 rfl)
     ·refine qab [(11,some 37),(10,some 36),(0,some 26),(1,some 27),(2,some 28),(3,some 29),(4,some 30),(5,some 31),(6,some 32),(7,some 33),(8,some 34),(9,some 35),(10,some 36),(11,some 37),(12,some 38)] (fun _=>rfl) rfl ?_;intro w1 vals hC1 hi0 hf E hE;clear hi0;have f0:(fun v u=>RowAt u 9 3 [.string (bs [100,111,109,97,105,110]),.string (bs [107,101,121,115]),.string (bs [110,117,109,98,101,114])] v) (vals 0) w1:=hf 0 rfl;have f1:vals 1=_:=hf 1 rfl;have f2:vals 2=_:=hf 2 rfl;have f3:vals 3=_:=hf 3 rfl;have f4:vals 4=_:=hf 4 rfl;have f5:vals 5=_:=hf 5 rfl;have f6:vals 6=_:=hf 6 rfl;have f7:vals 7=_:=hf 7 rfl;have f8:(fun v u=>RowAt u 44 3 (rowsV jvCells [flatV 3 0 D,KV,flatV 2 num []]) v) (vals 8) w1:=hf 8 rfl;have f9:(fun v u=>∃ jv,v=.agg (jvCells jv)∧JRep u (fun b=>b<u.heap.size) (bundleJ ⟨D,num,ks⟩) jv) (vals 9) w1:=hf 9 rfl;have f10:vals 10=_:=hf 10 rfl;have f11:vals 11=_:=hf 11 rfl;have f12:vals 12=_:=hf 12 rfl
      try dsimp only at f0 f1 f2 f3 f4 f5 f6 f7 f8 f9 f10 f11 f12
      clear hf;simp only [sP,f1,f2,f3,f4,f5,f6,f7,f10,f11,f12] at hE ⊢;clear f1 f2 f3 f4 f5 f6 f7 f10 f11 f12;go_wp2;exact .mk (hE _ _ rfl hC1 rfl)
     ·refine qab [(12,some 38),(13,some 2),(0,some 26),(1,some 27),(2,some 28),(3,some 29),(4,some 30),(5,some 31),(6,some 32),(7,some 33),(8,some 34),(9,some 35),(10,some 36),(11,some 37),(12,some 38),(13,some 2)] (fun _=>rfl) rfl ?_;intro w1 vals hC1 hi0 hf E hE;clear hi0;have f0:(fun v u=>RowAt u 9 3 [.string (bs [100,111,109,97,105,110]),.string (bs [107,101,121,115]),.string (bs [110,117,109,98,101,114])] v) (vals 0) w1:=hf 0 rfl;have f1:vals 1=_:=hf 1 rfl;have f2:vals 2=_:=hf 2 rfl;have f3:vals 3=_:=hf 3 rfl;have f4:vals 4=_:=hf 4 rfl;have f5:vals 5=_:=hf 5 rfl;have f6:vals 6=_:=hf 6 rfl;have f7:vals 7=_:=hf 7 rfl;have f8:(fun v u=>RowAt u 44 3 (rowsV jvCells [flatV 3 0 D,KV,flatV 2 num []]) v) (vals 8) w1:=hf 8 rfl;have f9:(fun v u=>∃ jv,v=.agg (jvCells jv)∧JRep u (fun b=>b<u.heap.size) (bundleJ ⟨D,num,ks⟩) jv) (vals 9) w1:=hf 9 rfl;have f10:vals 10=_:=hf 10 rfl;have f11:vals 11=_:=hf 11 rfl;have f12:vals 12=_:=hf 12 rfl;have f13:vals 13=_:=hf 13 rfl
      try dsimp only at f0 f1 f2 f3 f4 f5 f6 f7 f8 f9 f10 f11 f12 f13
      clear hf;simp only [sP,f1,f2,f3,f4,f5,f6,f7,f10,f11,f12,f13] at hE ⊢;clear f1 f2 f3 f4 f5 f6 f7 f10 f11 f12 f13;go_wp2;exact .mk (hE _ _ rfl hC1 rfl)
    intro w1 vals hC1 hf;have f0:(fun v u=>RowAt u 9 3 [.string (bs [100,111,109,97,105,110]),.string (bs [107,101,121,115]),.string (bs [110,117,109,98,101,114])] v) (vals 0) w1:=hf 0 (by decide) rfl;have f1:vals 1=_:=hf 1 (by decide) rfl;have f2:vals 2=_:=hf 2 (by decide) rfl;have f3:vals 3=_:=hf 3 (by decide) rfl;have f4:vals 4=_:=hf 4 (by decide) rfl;have f5:vals 5=_:=hf 5 (by decide) rfl;have f6:vals 6=_:=hf 6 (by decide) rfl;have f7:vals 7=_:=hf 7 (by decide) rfl;have f8:(fun v u=>RowAt u 44 3 (rowsV jvCells [flatV 3 0 D,KV,flatV 2 num []]) v) (vals 8) w1:=hf 8 (by decide) rfl;have f9:(fun v u=>∃ jv,v=.agg (jvCells jv)∧JRep u (fun b=>b<u.heap.size) (bundleJ ⟨D,num,ks⟩) jv) (vals 9) w1:=hf 9 (by decide) rfl;have f10:vals 10=_:=hf 10 (by decide) rfl;have f11:vals 11=_:=hf 11 (by decide) rfl;have f12:vals 12=_:=hf 12 (by decide) rfl;have f13:vals 13=_:=hf 13 (by decide) rfl;have f14:vals 14=_:=hf 14 (by decide) rfl
    try dsimp only at f0 f1 f2 f3 f4 f5 f6 f7 f8 f9 f10 f11 f12 f13 f14
    clear hf;simp only [sP,f1,f2,f3,f4,f5,f6,f7,f10,f11,f12,f13,f14];clear f1 f2 f3 f4 f5 f6 f7 f10 f11 f12 f13 f14;generalize vals 0=x0 at *;generalize vals 8=x8 at *;generalize vals 9=x9 at *;have HC9:=zY hC1;clear hC1 HC0;go_wp2_with fail;go_ret2;exact ⟨by rw [HRT.out]; rfl,HF9.out.trans (HC9.out.mono HF9.out.size)⟩
theorem listd_any (p:Nat) (s:ByteArray) (r a:Nat) (D e:Int) (hD:0≤D) (hD9:D≤100) (u:FrameMode) (w:World) (hb:Blk w p 74 #[.pointer (some ⟨r,0,none⟩)]) (h:RD w r s a (D+1) e) :
  CallsD Tryz.prog 122 #[.pointer (some ⟨p,0,none⟩)] u w fun x u' w'=>u'=u∧x=.returned (.tuple #[])∧RD w' r s a D e∧RG r w w'∧Wrote r w w':=by
 have c0:w.cell? ⟨p,0,none⟩=some (.pointer (some ⟨r,0,none⟩)):=hb.cell 0;obtain ⟨-,-,c2,-⟩:=h.cells;have H:=zY h;have e1:D+1 - 1=D:=by omega
 clear hb h
 go_enter_d Tryz.func122,Tryz.ntmps122
 go_wp2_with (refine qag (x:=.tmp 7) (i:=2) H.out rfl rfl rfl rfl (by kernel_rfl) (by simp [rdCells]) rfl ?_; intro w1 hb1 hw1)
 go_end0
 exact ⟨rfl,hb1,RG.wrote hw1,hw1⟩
theorem qdo {R:Ending→World→Prop} (tmps:Array Value) (G:Nat) (T:JV) (ht:tmps.getD 2 undef=.pointer (some ⟨G+1,0,none⟩)) (s:ByteArray) (r a:Nat) (D e:Int) (hD:0≤D) (hD9:D≤100) (hr:r<G) (u:World)
  (hb:Blk u G 74 #[.pointer (some ⟨r,0,none⟩)]) (hres:Blk u (G+1) 44 (jvCells T)) (h:RD u r s a (D+1) e) (hR:∀ u',RD u' r s a D e→Wrote r u u'→R (.returned (.agg (jvCells T))) u') :
  Leaves Tryz.prog Tryz.f104 tmps R [{ target:=.fn (.func 122) #[.pointer (some ⟨G,0,none⟩)],args:=#[] }] .returning u:=by
 have hu:=Tryz.underlying44;refine leaves_cons (f:=122) (args:=#[.pointer (some ⟨G,0,none⟩)]) (by simp) (by simp [go_sem]) ?_;refine (listd_any G s r a D e hD hD9 .returning u hb h).mono ?_;rintro x u' w' ⟨rfl,rfl,hrd,hrg,hw⟩;exact ⟨_,qau (P:=Tryz.prog) rfl ht (hw.blk hres (by omega)) hu rfl qao,hR _ hrd hw⟩
def LRd (D:Int) (lp:Bs→Except Int (JT × Bs)):Prop:=∀ (s:ByteArray) (hs:(s.size:Int)≤1000000) (r a:Nat) (w:World) (h:RD w r s a D 0) (ha:a<s.size),
 Calls Tryz.prog 104 #[.pointer (some ⟨r,0,none⟩)] w fun x w'=>∃ v:JV,x=.returned (.agg (jvCells v))∧∃ a':Nat,(a':Int)≤1500000 ∧
  RD w' r s a' D (errE (lp (s.data.toList.drop a)))∧RG r w w'∧∀ j r1,lp (s.data.toList.drop a)=.ok (j,r1)→At s a a' r1∧JRep w' (fun b=>w.heap.size≤b) j v
def lpOf:Nat→Bs→Except Int (JT × Bs)
 | 0=>fun _=>.error 9
 | d+1=>listP (valueP d)
theorem valueP_lp (d:Nat) (r:Bs):valueP d r=skipR (rawP (lpOf d) (skip r)):=by cases d <;> rfl
theorem list_step (d:Nat) (D:Int) (hD:D+(d:Int)=6) (hD0:0≤D) (IH:∀ d',d=d'+1→VRd d'):LRd D (lpOf d):=by
 intro s hs r a w h ha;have hu:=Tryz.underlying44;have hmf:∀ (fn:Fn) (first cap:Array Value) (w:World),(Instr.makeFunc fn first cap).run Tryz.prog w=.ok (.func fn first cap) w:=fun _ _ _ _=>rfl;obtain ⟨G,hG⟩:=eX (w.heap.size);obtain ⟨W1,hW1⟩:∃ W1,W1=((w.alloc (.cells #[.pointer (some ⟨r,0,none⟩)] 74)).alloc (.cells (jvCells zJV) 44)).alloc (.cells (jvCells (treeV false none 0 0 none 0 0)) 44):=⟨_,rfl⟩;have hb1:Below w.heap.size w W1:=by rw [hW1]; exact (((Below.refl _ w).alloc (Nat.le_refl _) _).alloc (by simp) _).alloc (by simp; omega) _
 have HM0:=zY (show LsM w G r s D (treeV false none 0 0 none 0 0) W1 a 0 from by
  refine ⟨by rw [hG]; exact Blk.lt h,hG.symm,?_,?_,?_,h.grow hb1,.below hb1⟩
  ·rw [hW1,hG];exact ((Blk.new _ _ _).alloc _).alloc _
  ·have:=(Blk.new (w.alloc (.cells #[.pointer (some ⟨r,0,none⟩)] 74)) 44 (jvCells zJV)).alloc (.cells (jvCells (treeV false none 0 0 none 0 0)) 44);rw [hW1,hG]
   simpa using this
  ·have:=Blk.new ((w.alloc (.cells #[.pointer (some ⟨r,0,none⟩)] 74)).alloc (.cells (jvCells zJV) 44)) 44 (jvCells (treeV false none 0 0 none 0 0));rw [hW1,hG]
   simpa [Nat.add_assoc] using this)
 have HW1:=zY hW1;have HA:=zY ha;have HS:=zY hs;have CK:=zY (qbD s r a D 0 W1 HM0.out.rd);have CF:=zY (fun (u:World) (h:RD u r s a D 0)=>qbd 9 s r a D 0 u h);obtain ⟨X,hX⟩:=eX (s.data.toList.drop a);have HX:=zY hX;rw [← hX];have HL:=zY (show lookE s a 0=look X by rw [lookE,if_pos rfl,HX.out]);obtain ⟨m,hm⟩:=eX (isMap X);have HM:=zY hm.symm;obtain ⟨z,hz⟩:∃ z:Int,z=(((look X).toNat:Nat):Int):=⟨_,rfl⟩
 have hmz:(z == 123)=m:=by
  rw [hz,hm,isMap,Bool.eq_iff_iff,beq_iff_eq,beq_iff_eq]
  constructor
  ·intro h;exact UInt8.toNat.inj (by show (look X).toNat=123; omega)
  ·intro h;rw [h];rfl
 have HZ:=zY (show byteV (lookE s a 0)=.int .u8 z by rw [HL.out,hz]; rfl);have a0:W1.cell? ⟨G,0,none⟩=some (.pointer (some ⟨r,0,none⟩)):=HM0.out.box.cell 0;have HIH:=zY IH;have HDD:=zY hD;clear hW1 hb1 h ha hs hX hm hz hD IH;rw [hG] at *;clear hG
 go_enter_defers Tryz.func104,Tryz.ntmps104
 go_upto_region 2 with (fail)
 rw [show (((w.alloc (.cells #[.pointer (some ⟨r,0,none⟩)] 74)).alloc (.cells #[.int .i64 0,.int .i64 0,.string ⟨#[]⟩,.slice none 0 0,.slice none 0 0] 44)).alloc (.cells #[.int .i64 4,.int .i64 0,.string ⟨#[]⟩,.slice none 0 0,.slice none 0 0] 44))=W1 from HW1.out.symm];clear HW1;go_wp2_with fail;refine qaa CK.out ?_;rintro y w2 ⟨rfl,hrd,hrg⟩;have HM2:=zY (HM0.out.step hrg hrd);rw [HZ.out];clear hrd hrg a0
 go_upto_if 9 with (fail)
 go_cut [4] from 7 to 10 (fun c w3=>c=byteV (endC m)∧LsM w w.heap.size r s D (treeV m none 0 0 none 0 0) w3 a 0)
 case first =>
  cases m with
  | false =>
   go_wp2_with fail
   go_meet
   exact ⟨rfl,HM2.out⟩
  | true =>
   go_wp2_with (refine qag (x:=.tmp 10) (i:=0) HM2.out.tree rfl rfl rfl rfl (by kernel_rfl) (by simp [jvCells]) rfl ?_; intro w3 hb3 hw3)
   go_meet
   exact ⟨rfl,HM2.out.put hw3 hb3⟩
 case rest =>
 obtain ⟨rfl,hm3⟩:=hcut;have HM3:=zY hm3;clear hm3 HM2 HM0 CK;obtain ⟨-,-,c2,-⟩:=HM3.out.rd.cells;have b0:wc.cell? ⟨w.heap.size,0,none⟩=some (.pointer (some ⟨r,0,none⟩)):=HM3.out.box.cell 0
 cases d with
 | zero =>
  obtain rfl:D=6:=by have:=HDD.out; omega
  go_wp2_with fail;refine qaa (CF.out _ HM3.out.rd) ?_;rintro y w4 ⟨rfl,hrd,hrg⟩;have HM4:=zY (HM3.out.step hrg (show RD w4 r s a 6 9 from hrd));clear hrd hrg c2 b0
  go_wp2_with (first
   | refine qad (x:=.tmp 3) HM4.out.tree rfl rfl rfl hu rfl qao ?_
   | (refine qae (x:=.tmp 2) (cells:=jvCells (treeV m none 0 0 none 0 0)) HM4.out.res rfl rfl rfl rfl qao rfl (qai _) ?_; intro w9 hb9 hw9))
  have HRD9:=zY (show RD w9 r s a 6 9 from hw9.blk HM4.out.rd (by have:=HM4.out.low; omega));have HRG9:=zY (show RG r w w9 from HM4.out.rg.wrote_new hw9 (by omega));have HA':=HA.out;have HS':=HS.out;exact ⟨_,qau (P:=Tryz.prog) rfl rfl hb9 hu rfl qao,_,rfl,a,by omega,HRD9.out,HRG9.out,fun j r1 h=>by cases h⟩
 | succ d =>
  have hD6:¬ 6≤D:=by have:=HDD.out; omega
  have HV:=zY (HIH.out d rfl);obtain ⟨LR,hLR⟩:=eX (lpOf (d+1) X);have HLR:=zY hLR;have HLP:=zY (show listP (valueP d) X=LR from hLR.symm);obtain ⟨c,hc⟩:=eX (a+1);have HC:=zY hc;have HCI:=zY (show (a:Int)+1=(c:Int) by omega);have CB:=zY (fun (u:World) (h:RD u r s c (D+1) 0)=>qbB s HS.out r c (D+1) 0 u h (by have:=HA.out; have:=HS.out; omega));have ha':(a:Int)≤1000000:=by have:=HA.out; have:=HS.out; omega
  have hD7:D≤6:=by omega
  clear hLR HIH CF hc
  go_wp2_with (first
   | (refine qag (x:=.tmp 25) (i:=2) HM3.out.rd rfl rfl rfl rfl (by kernel_rfl) (by simp [rdCells]) rfl ?_; intro w4 hb4 hw4; have HM4:=zY (HM3.out.step (RG.wrote hw4) (show RD w4 r s a (D+1) 0 from hb4)); have b4:w4.cell? ⟨w.heap.size,0,none⟩=some (.pointer (some ⟨r,0,none⟩)):=HM4.out.box.cell 0; have c4:w4.cell? ⟨r,1,none⟩=some (.int .i64 (a:Int)):=HM4.out.rd.cells.2.1)
   | (refine qag (x:=.tmp 33) (i:=1) HM4.out.rd rfl rfl rfl rfl (by kernel_rfl) (by simp [rdCells]) rfl ?_; intro w5 hb5 hw5; have HM5:=zY (HM4.out.step (RG.wrote hw5) (show RD w5 r s c (D+1) 0 from by
     show Blk w5 r _ #[.string s,.int .i64 ((c:Nat):Int),.int .i64 (D+1),.int .i64 0];rw [← HCI.out];exact hb5)); have b5:w5.cell? ⟨w.heap.size,0,none⟩=some (.pointer (some ⟨r,0,none⟩)):=HM5.out.box.cell 0))
  refine qaa (CB.out _ HM5.out.rd) ?_;rintro y w6 ⟨rfl,a1,h1,h2,h3,hrd,hrg⟩;have HM6:=zY (HM5.out.step hrg hrd);have HAT6:=zY (show At s a a1 (skip X.tail) from ⟨by have:=HC.out; omega,.inr (by have:=HC.out; have:=HA.out; omega),by rw [h3,HC.out,qbg,HX.out]⟩);have b6:w6.cell? ⟨w.heap.size,0,none⟩=some (.pointer (some ⟨r,0,none⟩)):=HM6.out.box.cell 0;have CS:=zY (sign_any (endC m) (by cases m <;> decide) s HS.out r a1 (D+1) 0 w6 HM6.out.rd (by have:=HAT6.out.top; have:=HA.out; have:=HS.out; omega));clear hrd hrg h1 h2 h3 b4 c4 b5 c2 b0 hb4 hw4 hb5 hw5;go_wp2_with fail;refine qaa CS.out ?_;rintro y w7 ⟨rfl,a2,hat,hrd,hrg⟩;have HM7:=zY (HM6.out.step hrg hrd);obtain ⟨hp1,hp2⟩:=sign_parts (endC m) (s.data.toList.drop a1);rw [hp2] at hat;rw [hp1];rw [HAT6.out.rest] at hat ⊢;obtain ⟨X1,hX1⟩:=eX (skip X.tail);rw [← hX1] at hat ⊢;have HAT7:=zY hat;have HX1:=zY hX1;obtain ⟨b,hb⟩:=eX ((signP (endC m) X1).1);rw [← hb];have HB:=zY (show signP (endC m) X1=(b,(signP (endC m) X1).2) by rw [hb]);obtain ⟨LL,hLL⟩:=eX (listL (valueP d) m X.length [] [] X1);have HLL:=zY (show LR=lres m LL by rw [← HLP.out,qb2,hLL,HM.out,hX1]);obtain ⟨n,hn⟩:∃ n,X.length=n+1:=⟨X.length - 1,by have:=HA.out; have:=HX.out; have h5:s.data.toList.length=s.size:=rfl; rw [HX.out,List.length_drop]; omega⟩;have HN:=zY (show listL (valueP d) m (n+1) [] [] X1=LL by rw [hLL,hn]);have HN1:=zY (show X1.length≤n by have h1:=qaJ X.tail; rw [← hX1] at h1; simp at h1; omega);clear hrd hrg hp1 hp2 hat hX1 hb hLL hn CS b6;go_wp2_with fail
  go_loopg [5] n (fun gk more wr=>∃ (ns:List Bs) (ks:List JT) (A1 A2:Option Addr) (c1 c2 a1:Nat) (b:Bool) (X0 r1:Bs),more=.bool (!b)∧signP (endC m) X0=(b,r1)∧At s a a1 r1∧listL (valueP d) m (gk+1) ns ks X0=LL∧r1.length≤gk ∧
   ns.length≤ks.length∧ks.length≤a1∧Ls w w.heap.size r s (D+1) (treeV m A1 ns.length c1 A2 ks.length c2) A1 c1 ns A2 c2 ks wr a1 0)
  case atStart =>
   refine ⟨[],[],none,none,0,0,a2,b,X1,_,rfl,HB.out,HAT6.out.trans HAT7.out,HN.out,?_,Nat.le_refl _,Nat.zero_le _,HM7.out.start⟩;have h1:=qbJ (endC m) X1;have h2:=HN1.out;omega
  case round =>
   obtain ⟨ns,ks,A1,A2,c1,c2,a3,b3,X0,r1,rfl,hsg,hat,hll,hlen,hnk,hka,hls⟩:=hrel;have HSG:=zY hsg;have HAT:=zY hat;have HLK:=zY hll;have HLEN:=zY hlen;have HNK:=zY hnk;have HKA:=zY hka;have HLS:=zY hls;clear hsg hat hll hlen hnk hka hls;clear HN HN1 HB HX1 HAT7 HM7 HAT6 HM6 HM5 HM4 HM3 hmz HZ
   cases b3 with
   | true =>
    have HE:=zY (show LL=.ok (ns,ks,r1) by rw [← HLK.out,qcl HSG.out])
    go_wp2_with (first
     | refine qad (x:=.tmp 3) HLS.out.m.tree rfl rfl rfl hu rfl qao ?_
     | (refine qae (x:=.tmp 2) (cells:=jvCells (treeV m A1 ns.length c1 A2 ks.length c2)) HLS.out.m.res rfl rfl rfl rfl qao rfl (qai _) ?_; intro w9 hb9 hw9))
    have HM9:=zY (HLS.out.m);refine qdo _ w.heap.size (treeV m A1 ns.length c1 A2 ks.length c2) rfl s r a3 D 0 hD0 (by omega) HM9.out.low w9 (hw9.blk HM9.out.box (by omega)) hb9 (hw9.blk HM9.out.rd (by have:=HM9.out.low; omega)) fun u' hrd hw=>?_;have hE:lpOf (d+1) X=.ok (.mk (kindV m) 0 [] ns ks,r1):=by rw [← HLR.out,HLL.out,HE.out]; rfl
    refine ⟨_,rfl,a3,by have:=HAT.out.top; have:=HA.out; have:=HS.out; omega,by rw [hE]; exact hrd,(HM9.out.rg.wrote_new hw9 (by omega)).trans (RG.wrote hw),fun j q hq=>?_⟩;rw [hE] at hq
    injection hq with hq
    injection hq with h1 h2
    subst h1 h2;refine ⟨HAT.out,?_⟩;have hlow:=HM9.out.low;exact (((HLS.out.rep).heap fun b hb1 hb=>hw9.grown.block b hb1 (by intro h; injection h with h; omega)).heap fun b hb1 hb=>hw.grown.block b hb1 (by intro h; injection h with h; omega)).imp fun b _ hb=>by omega
   | false =>
    have HE:=zY (show moreK (valueP d) m gk ks (kidK (valueP d) (nameK m ns (commaP ks.isEmpty r1)))=LL by rw [← HLK.out,qb3 HSG.out]);have HA3:=zY (show a3≤s.size by have:=HAT.out.top; have:=HA.out; omega);have hks:(ks.length:Int)≤1000000:=by have:=HKA.out; have:=HA3.out; have:=HS.out; omega
    have HKS:=zY hks;have HRE:=zY (show s.data.toList.drop a3=r1 from HAT.out.rest);have b0:wr.cell? ⟨w.heap.size,0,none⟩=some (.pointer (some ⟨r,0,none⟩)):=HLS.out.m.box.cell 0;have b4:wr.cell? ⟨w.heap.size+2,4,none⟩=some (.slice A2 ks.length c2):=HLS.out.m.tree.cell 4;have CM:=zY (must_all 44 (by decide) s HS.out r a3 (D+1) wr HLS.out.m.rd (by have:=HA3.out; have:=HS.out; omega));clear HLK HSG;obtain ⟨kl,hkl⟩:=eX (ks.length);rw [← hkl] at b4 hks;have HKL:=zY hkl;clear hkl
    go_upto_if 48 with (fail)
    go_cut [] from 40 to 75 (fun wx=>∃ (a4:Nat) (e4:Int),(a4:Int)≤1500000∧Ls w w.heap.size r s (D+1) (treeV m A1 ns.length c1 A2 ks.length c2) A1 c1 ns A2 c2 ks wx a4 e4∧e4=errE (commaP ks.isEmpty r1)∧∀ r2,commaP ks.isEmpty r1=.ok r2→At s a3 a4 r2)
    case first =>
     by_cases hk0:kl=0
     ·subst hk0;have HK0:=zY (show ks.isEmpty=true by have:=HKL.out; rw [List.isEmpty_iff]; exact List.eq_nil_of_length_eq_zero this.symm);go_wp2_with fail
      go_meet
      rw [HK0.out];refine ⟨a3,0,by have:=HA3.out; have:=HS.out; omega,HLS.out,rfl,fun r2 h=>?_⟩
      injection h with h
      subst h;exact ⟨Nat.le_refl _,.inl (Nat.le_refl _),HRE.out⟩
     ·have hk1:(0:Int)<(kl:Int):=by omega
      have HK0:=zY (show ks.isEmpty=false by
       have:=HKL.out
       cases ks with
       | nil=>exact absurd this hk0
       | cons x l=>rfl)
      clear hk0;go_wp2_with fail;refine qaa CM.out ?_;rintro y w8 ⟨rfl,a4,ha4,hrd,hrg,hat⟩;have HLS8:=zY (HLS.out.step hrg hrd);rw [HRE.out] at hat HLS8;have HAT8:=zY hat;have HA8:=zY ha4;clear hat hrd hrg ha4;go_wp2_with fail
      go_meet
      rw [HK0.out];exact ⟨a4,_,HA8.out,HLS8.out,rfl,HAT8.out⟩
    case rest =>
    obtain ⟨a4,e4,ha4,hls4,he4,hat4⟩:=hcut;have HA4:=zY ha4;have HLS4:=zY hls4;have HE4:=zY he4;have HAT4:=zY hat4;have HLOW:=zY hls4.m.low;clear ha4 hls4 he4 hat4 CM b0 b4;have k0:wc.cell? ⟨w.heap.size+2,0,none⟩=some (.int .i64 (kindV m)):=HLS4.out.m.tree.cell 0
    go_upto_if 53 with (fail)
    go_cut [] from 40 to 75 (fun wx=>∃ (ns':List Bs) (A1':Option Addr) (c1' a5:Nat) (e5:Int),(a5:Int)≤1500000∧Ls w w.heap.size r s (D+1) (treeV m A1' ns'.length c1' A2 ks.length c2) A1' c1' ns' A2 c2 ks wx a5 e5 ∧
     e5=errE (nameK m ns (commaP ks.isEmpty r1))∧ns'.length≤ks.length+1∧∀ x r3,nameK m ns (commaP ks.isEmpty r1)=.ok (x,r3)→x=ns'∧At s a3 a5 r3)
    case first =>
     cases m with
     | false =>
      go_wp2_with fail
      go_meet
      refine ⟨ns,A1,c1,a4,e4,HA4.out,HLS4.out,?_,by have:=HNK.out; omega,fun x r3 h=>?_⟩
      ·rw [HE4.out]
       cases commaP ks.isEmpty r1 <;> rfl
      ·cases hc:commaP ks.isEmpty r1 with
       | error e=>rw [hc] at h; cases h
       | ok r2 =>
        rw [hc] at h
        injection h with h
        injection h with h1 h2
        subst h1 h2;exact ⟨rfl,HAT4.out _ hc⟩
     | true =>
      have CN:=zY (fun (u:World) (h:Ls w w.heap.size r s (D+1) (treeV true A1 ns.length c1 A2 ks.length c2) A1 c1 ns A2 c2 ks u a4 e4) =>
       show Calls Tryz.prog 125 #[.pointer (some ⟨r,0,none⟩),.slice A1 ns.length c1] u fun x w'=>∃ (t:Bs) (a5:Nat) (e5:Int),x=.returned (.string (bs t))∧NmQ s a4 e4 ns t a5 e5 ∧
        Ls w w.heap.size r s (D+1) (treeV true A1 ns.length c1 A2 ks.length c2) A1 c1 ns A2 c2 ks w' a5 e5∧RG r u w' from by
        refine (name_all ns A1 c1 (w.heap.size+3) s HS.out r a4 (D+1) e4 u h.m.rd HA4.out (fun h0=>?_) (by have:=HLOW.out; omega) h.names.x (by have:=HNK.out; have:=HKS.out; omega)).mono ?_
        ·cases hc:commaP ks.isEmpty r1 with
         | error e=>exact absurd (by rw [← h0,HE4.out,hc]; rfl) (qcB hc)
         | ok r2=>have:=(HAT4.out r2 hc).top; have:=HA3.out; omega
        ·rintro x w' ⟨t,rfl,a5,ha5,hrd,hrg,hok⟩;exact ⟨t,a5,_,rfl,⟨ha5,rfl,hok⟩,h.step hrg hrd,hrg⟩)
      have hnl:(ns.length:Int)≤1000000:=by have:=HNK.out; have:=HKS.out; omega
      clear k0;go_wp2_with fail;have HI0:wc.drew.cell? ⟨w.heap.size,0,none⟩=some (.pointer (some ⟨r,0,none⟩))∧wc.drew.cell? ⟨w.heap.size+2,3,none⟩=some (.slice A1 ns.length c1):=⟨HLS4.out.m.box.cell 0,HLS4.out.m.tree.cell 3⟩;have HJ0:Ls w w.heap.size r s (D+1) (treeV true A1 ns.length c1 A2 ks.length c2) A1 c1 ns A2 c2 ks wc.drew a4 e4:=HLS4.out.drew
      refine qap (fun _=>True) (fun | false=>(fun u=>u.cell? ⟨w.heap.size,0,none⟩=some (.pointer (some ⟨r,0,none⟩))∧u.cell? ⟨w.heap.size+2,3,none⟩=some (.slice A1 ns.length c1)) | true=>(fun u=>Ls w w.heap.size r s (D+1) (treeV true A1 ns.length c1 A2 ks.length c2) A1 c1 ns A2 c2 ks u a4 e4)) (fun | false,i=>i == 9 | true,i=>i == 5 || i == 6 || i == 7 || i == 9)
       [fun z _=>z 0=.pointer (some ⟨w.heap.size+2,3,none⟩),
        fun z _=>z 1=.slice A1 ns.length c1,
        fun z _=>z 2=.pointer (some ⟨r,0,none⟩),
        fun z _=>z 3=.pointer (some ⟨w.heap.size+2,3,none⟩),
        fun z _=>z 4=.slice A1 ns.length c1,
        fun z u=>∃ (t:Bs) (a5:Nat) (e5:Int),z 5=.string (bs t)∧NmQ s a4 e4 ns t a5 e5∧Ls w w.heap.size r s (D+1) (treeV true A1 ns.length c1 A2 ks.length c2) A1 c1 ns A2 c2 ks u a5 e5,
        fun z u=>∃ (t:Bs) (a5:Nat) (e5:Int) (ad:Nat),z 6=.slice (some ⟨ad,0,none⟩) 1 1∧Blk u ad 9 #[.string (bs t)]∧NmQ s a4 e4 ns t a5 e5∧Ls w w.heap.size r s (D+1) (treeV true A1 ns.length c1 A2 ks.length c2) A1 c1 ns A2 c2 ks u a5 e5,
        fun z u=>∃ (t:Bs) (a5:Nat) (e5:Int) (A':Option Addr) (c':Nat),z 7=.slice A' (ns.length+1) c'∧NmQ s a4 e4 ns t a5 e5∧Ls w w.heap.size r s (D+1) (treeV true A1 ns.length c1 A2 ks.length c2) A' c' (ns++[t]) A2 c2 ks u a5 e5,
        fun z _=>z 8=.pointer (some ⟨w.heap.size+2,3,none⟩),
        fun z u=>∃ (t:Bs) (a5:Nat) (e5:Int) (A':Option Addr) (c':Nat),NmQ s a4 e4 ns t a5 e5∧Ls w w.heap.size r s (D+1) (treeV true A' (ns++[t]).length c' A2 ks.length c2) A' c' (ns++[t]) A2 c2 ks u a5 e5]
       [Eq,Eq,Eq,Eq,Eq,fun u u'=>RG r u u',fun u u'=>Below u.heap.size u u',fun u u'=>∃ g:Option Nat,u.grownBy u' g∧∀ k,g=some k→w.heap.size+3≤k,Eq,fun _ _=>True]
       (fun i k=>(i == 6 && k == 5) || (i == 7 && k == 5) || (i == 7 && k == 6) || (i == 9 && k == 5) || (i == 9 && k == 6) || (i == 9 && k == 7)) [(0,some 54),(1,some 55),(2,some 56),(3,some 57),(4,some 58),(5,some 59),(6,some 60),(7,some 61),(8,some 62),(9,none)] (by kernel_rfl) (by kernel_rfl) rfl (fun _=>rfl) ?_ ?_ ?_ ?_ ?_ ?_
      ·exact (by first | trivial | assumption)
      ·intro m; cases m; exact HI0; exact HJ0
      ·intro m; cases m
       ·refine ⟨?_,?_,?_,?_,?_,.inr (fun _ _ h h0=>⟨World.grownBy.cell h h0.1 (by have:=HLOW.out; intro e; injection e with e; have e:w.heap.size=r:=e; omega),World.grownBy.cell h h0.2 (by have:=HLOW.out; intro e; injection e with e; have e:w.heap.size+2=r:=e; omega)⟩),.inr (fun _ _ h h0=>⟨(qa0 h none).cell h0.1 (by simp),(qa0 h none).cell h0.2 (by simp)⟩),.inr (fun _ _ h h0=>by obtain ⟨g,hg,hk⟩:=h; exact ⟨hg.cell h0.1 (by intro e; have:w.heap.size+3≤w.heap.size:=hk _ e.symm; omega),hg.cell h0.2 (by intro e; have:w.heap.size+3≤w.heap.size+2:=hk _ e.symm; omega)⟩),?_,.inl rfl,trivial⟩ <;> exact .inr fun _ _ h h0=>h▸h0
       ·refine ⟨?_,?_,?_,?_,?_,.inl rfl,.inl rfl,.inl rfl,?_,.inl rfl,trivial⟩ <;> exact .inr fun _ _ h h0=>h▸h0
      ·refine ⟨⟨.inl rfl,?_,?_,?_,?_,?_,?_,?_,?_,?_,trivial⟩,⟨?_,.inl rfl,?_,?_,?_,?_,?_,?_,?_,?_,trivial⟩,⟨?_,?_,.inl rfl,?_,?_,?_,?_,?_,?_,?_,trivial⟩,⟨?_,?_,?_,.inl rfl,?_,?_,?_,?_,?_,?_,trivial⟩,⟨?_,?_,?_,?_,.inl rfl,?_,?_,?_,?_,?_,trivial⟩,⟨?_,?_,?_,?_,?_,.inl rfl,?_,?_,?_,?_,trivial⟩,⟨?_,?_,?_,?_,?_,.inr (.inl rfl),.inl rfl,?_,?_,?_,trivial⟩,⟨?_,?_,?_,?_,?_,.inr (.inl rfl),.inr (.inl rfl),.inl rfl,?_,?_,trivial⟩,⟨?_,?_,?_,?_,?_,?_,?_,?_,.inl rfl,?_,trivial⟩,⟨?_,?_,?_,?_,?_,.inr (.inl rfl),.inr (.inl rfl),.inr (.inl rfl),?_,.inl rfl,trivial⟩,trivial⟩ <;> first | exact .inr (.inr (.inl rfl)) | exact .inr (.inr (.inr fun _ _ _ _ _ h=>h)) | exact .inr (.inr (.inr fun _ _ _ _ h h0=>by cases h; exact h0))
      ·refine ⟨?_,?_,?_,?_,?_,?_,?_,?_,?_,?_,trivial⟩
       ·refine qab [] (fun _=>rfl) rfl ?_;intro w1 vals hC1 hi0 hf E hE;have hI1:(fun u=>u.cell? ⟨w.heap.size,0,none⟩=some (.pointer (some ⟨r,0,none⟩))∧u.cell? ⟨w.heap.size+2,3,none⟩=some (.slice A1 ns.length c1)) w1:=hi0 false rfl
        try dsimp only at hI1
        clear hi0;clear hf;simp only [sP] at hE ⊢;go_wp2;exact .mk (hE _ _ rfl hC1 rfl)
       ·refine qab [(0,some 54)] (fun _=>rfl) rfl ?_;intro w1 vals hC1 hi0 hf E hE;have hI1:(fun u=>u.cell? ⟨w.heap.size,0,none⟩=some (.pointer (some ⟨r,0,none⟩))∧u.cell? ⟨w.heap.size+2,3,none⟩=some (.slice A1 ns.length c1)) w1:=hi0 false rfl
        try dsimp only at hI1
        clear hi0;have f0:vals 0=_:=hf 0 rfl
        try dsimp only at f0
        clear hf;obtain ⟨d1,d0⟩:=hI1;simp only [sP,f0] at hE ⊢;clear f0;go_wp2;exact .mk (hE _ _ rfl hC1 rfl)
       ·refine qab [] (fun _=>rfl) rfl ?_;intro w1 vals hC1 hi0 hf E hE;have hI1:(fun u=>u.cell? ⟨w.heap.size,0,none⟩=some (.pointer (some ⟨r,0,none⟩))∧u.cell? ⟨w.heap.size+2,3,none⟩=some (.slice A1 ns.length c1)) w1:=hi0 false rfl
        try dsimp only at hI1
        have hJ1:(fun u=>Ls w w.heap.size r s (D+1) (treeV true A1 ns.length c1 A2 ks.length c2) A1 c1 ns A2 c2 ks u a4 e4) w1:=hi0 true rfl
        try dsimp only at hJ1
        clear hi0;clear hf;obtain ⟨d1,d0⟩:=hI1;simp only [sP] at hE ⊢;go_wp2;exact .mk (hE _ _ rfl hC1 rfl)
       ·refine qab [] (fun _=>rfl) rfl ?_;intro w1 vals hC1 hi0 hf E hE;have hI1:(fun u=>u.cell? ⟨w.heap.size,0,none⟩=some (.pointer (some ⟨r,0,none⟩))∧u.cell? ⟨w.heap.size+2,3,none⟩=some (.slice A1 ns.length c1)) w1:=hi0 false rfl
        try dsimp only at hI1
        have hJ1:(fun u=>Ls w w.heap.size r s (D+1) (treeV true A1 ns.length c1 A2 ks.length c2) A1 c1 ns A2 c2 ks u a4 e4) w1:=hi0 true rfl
        try dsimp only at hJ1
        clear hi0;clear hf;simp only [sP] at hE ⊢;go_wp2;exact .mk (hE _ _ rfl hC1 rfl)
       ·refine qab [(3,some 57)] (fun _=>rfl) rfl ?_;intro w1 vals hC1 hi0 hf E hE;have hI1:(fun u=>u.cell? ⟨w.heap.size,0,none⟩=some (.pointer (some ⟨r,0,none⟩))∧u.cell? ⟨w.heap.size+2,3,none⟩=some (.slice A1 ns.length c1)) w1:=hi0 false rfl
        try dsimp only at hI1
        have hJ1:(fun u=>Ls w w.heap.size r s (D+1) (treeV true A1 ns.length c1 A2 ks.length c2) A1 c1 ns A2 c2 ks u a4 e4) w1:=hi0 true rfl
        try dsimp only at hJ1
        clear hi0;have f3:vals 3=_:=hf 3 rfl
        try dsimp only at f3
        clear hf;obtain ⟨d1,d0⟩:=hI1;simp only [sP,f3] at hE ⊢;clear f3;go_wp2;exact .mk (hE _ _ rfl hC1 rfl)
       ·refine qab [(2,some 56),(4,some 58)] (fun _=>rfl) rfl ?_;intro w1 vals hC1 hi0 hf E hE;have hI1:(fun u=>u.cell? ⟨w.heap.size,0,none⟩=some (.pointer (some ⟨r,0,none⟩))∧u.cell? ⟨w.heap.size+2,3,none⟩=some (.slice A1 ns.length c1)) w1:=hi0 false rfl
        try dsimp only at hI1
        have hJ1:(fun u=>Ls w w.heap.size r s (D+1) (treeV true A1 ns.length c1 A2 ks.length c2) A1 c1 ns A2 c2 ks u a4 e4) w1:=hi0 true rfl
        try dsimp only at hJ1
        clear hi0;have f2:vals 2=_:=hf 2 rfl;have f4:vals 4=_:=hf 4 rfl
        try dsimp only at f2 f4
        clear hf;have HJ1:=zY hJ1;clear hJ1;simp only [sP,f2,f4] at hE ⊢;clear f2 f4;go_wp2_with fail;refine qaa (CN.out _ HJ1.out) ?_;rintro y w5 ⟨t,a5,e5,rfl,hq,hl,hg⟩;have HQ:=zY hq;have HL:=zY hl;have HG:=zY hg;clear hq hl hg;go_wp2_with fail;exact .mk (hE _ _ ⟨t,a5,e5,rfl,HQ.out,HL.out⟩ hC1 HG.out)
       ·refine qab [(5,some 59)] (fun _=>rfl) rfl ?_;intro w1 vals hC1 hi0 hf E hE;have hI1:(fun u=>u.cell? ⟨w.heap.size,0,none⟩=some (.pointer (some ⟨r,0,none⟩))∧u.cell? ⟨w.heap.size+2,3,none⟩=some (.slice A1 ns.length c1)) w1:=hi0 false rfl
        try dsimp only at hI1
        clear hi0;have f5:(fun z u=>∃ (t:Bs) (a5:Nat) (e5:Int),z 5=.string (bs t)∧NmQ s a4 e4 ns t a5 e5∧Ls w w.heap.size r s (D+1) (treeV true A1 ns.length c1 A2 ks.length c2) A1 c1 ns A2 c2 ks u a5 e5) vals w1:=hf 5 rfl
        try dsimp only at f5
        clear hf;obtain ⟨t,a5,e5,hx,hq,hl⟩:=f5;have HQ:=zY hq;have HL:=zY hl;clear hq hl;simp only [sP,hx] at hE ⊢;clear hx;go_wp2;exact .mk (hE _ _ ⟨t,a5,e5,_,rfl,Blk.new _ _ _,HQ.out,HL.out.new ((Below.refl _ _).alloc (Nat.le_refl _) _)⟩ hC1 ((Below.refl _ _).alloc (Nat.le_refl _) _))
       ·refine qab [(1,some 55),(6,some 60),(5,some 59)] (fun _=>rfl) rfl ?_;intro w1 vals hC1 hi0 hf E hE;have hI1:(fun u=>u.cell? ⟨w.heap.size,0,none⟩=some (.pointer (some ⟨r,0,none⟩))∧u.cell? ⟨w.heap.size+2,3,none⟩=some (.slice A1 ns.length c1)) w1:=hi0 false rfl
        try dsimp only at hI1
        clear hi0;have f1:vals 1=_:=hf 1 rfl;have f6:(fun z u=>∃ (t:Bs) (a5:Nat) (e5:Int) (ad:Nat),z 6=.slice (some ⟨ad,0,none⟩) 1 1∧Blk u ad 9 #[.string (bs t)]∧NmQ s a4 e4 ns t a5 e5∧Ls w w.heap.size r s (D+1) (treeV true A1 ns.length c1 A2 ks.length c2) A1 c1 ns A2 c2 ks u a5 e5) vals w1:=hf 6 rfl
        try dsimp only at f1 f6
        clear hf;obtain ⟨t,a5,e5,ad,hx,hk,hq,hl⟩:=f6;have HQ:=zY hq;have HL:=zY hl;have HK:=zY hk;clear hq hl hk;simp only [sP,f1,hx] at hE ⊢;clear f1;clear hx;go_wp2_with (refine qa8 (news:=[.string (bs t)]) (m:=1) sl_strz rfl rfl HL.out.names rfl rfl rfl (Rd.of_blk (l:=[.string (bs t)]) HK.out (HK.out.lt)) (by simp [Value.oneCell']) (by unfold maxLen; omega) (by omega) (HL.out.m.size) ?_; intro A' c' w5 ho hg hn);exact .mk (hE _ _ ⟨t,a5,e5,A',c',rfl,HQ.out,HL.out.name ho hg hn⟩ hC1 ⟨_,hg,fun k hk=>(HL.out.names.lt k hk).1⟩)
       ·refine qab [(0,some 54),(1,some 55),(2,some 56),(3,some 57),(4,some 58),(5,some 59),(6,some 60),(7,some 61)] (fun _=>rfl) rfl ?_;intro w1 vals hC1 hi0 hf E hE;have hI1:(fun u=>u.cell? ⟨w.heap.size,0,none⟩=some (.pointer (some ⟨r,0,none⟩))∧u.cell? ⟨w.heap.size+2,3,none⟩=some (.slice A1 ns.length c1)) w1:=hi0 false rfl
        try dsimp only at hI1
        clear hi0;have f0:vals 0=_:=hf 0 rfl;have f1:vals 1=_:=hf 1 rfl;have f2:vals 2=_:=hf 2 rfl;have f3:vals 3=_:=hf 3 rfl;have f4:vals 4=_:=hf 4 rfl;have f7:(fun z u=>∃ (t:Bs) (a5:Nat) (e5:Int) (A':Option Addr) (c':Nat),z 7=.slice A' (ns.length+1) c'∧NmQ s a4 e4 ns t a5 e5∧Ls w w.heap.size r s (D+1) (treeV true A1 ns.length c1 A2 ks.length c2) A' c' (ns++[t]) A2 c2 ks u a5 e5) vals w1:=hf 7 rfl
        try dsimp only at f0 f1 f2 f3 f4 f7
        clear hf;simp only [sP,f0,f1,f2,f3,f4] at hE ⊢;clear f0 f1 f2 f3 f4;go_wp2;exact .mk (hE _ _ rfl hC1 rfl)
       ·refine qab [(8,some 62),(7,some 61),(7,some 61),(0,some 54),(1,some 55),(2,some 56),(3,some 57),(4,some 58),(5,some 59),(6,some 60),(7,some 61)] (fun _=>rfl) rfl ?_;intro w1 vals hC1 hi0 hf E hE;have hI1:(fun u=>u.cell? ⟨w.heap.size,0,none⟩=some (.pointer (some ⟨r,0,none⟩))∧u.cell? ⟨w.heap.size+2,3,none⟩=some (.slice A1 ns.length c1)) w1:=hi0 false rfl
        try dsimp only at hI1
        clear hi0;have f0:vals 0=_:=hf 0 rfl;have f1:vals 1=_:=hf 1 rfl;have f2:vals 2=_:=hf 2 rfl;have f3:vals 3=_:=hf 3 rfl;have f4:vals 4=_:=hf 4 rfl;have f7:(fun z u=>∃ (t:Bs) (a5:Nat) (e5:Int) (A':Option Addr) (c':Nat),z 7=.slice A' (ns.length+1) c'∧NmQ s a4 e4 ns t a5 e5∧Ls w w.heap.size r s (D+1) (treeV true A1 ns.length c1 A2 ks.length c2) A' c' (ns++[t]) A2 c2 ks u a5 e5) vals w1:=hf 7 rfl;have f8:vals 8=_:=hf 8 rfl
        try dsimp only at f0 f1 f2 f3 f4 f7 f8
        clear hf;obtain ⟨t,a5,e5,A',c',hx,hq,hl⟩:=f7;have HQ:=zY hq;have HL:=zY hl;clear hq hl;simp only [sP,f0,f1,f2,f3,f4,f8,hx] at hE ⊢;clear f0 f1 f2 f3 f4 f8;clear hx;go_wp2_with (refine qag (x:=.tmp 62) (i:=3) HL.out.m.tree rfl rfl rfl rfl (by kernel_rfl) (by simp [jvCells]) rfl ?_; intro w5 hb5 hw5);exact .mk (hE undef _ ⟨t,a5,e5,A',c',HQ.out,HL.out.put hw5 (by rw [List.length_append]; exact hb5)⟩ hC1 trivial)
      intro w1 vals hC1 hf;have f0:vals 0=_:=hf 0 (by decide) rfl;have f1:vals 1=_:=hf 1 (by decide) rfl;have f2:vals 2=_:=hf 2 (by decide) rfl;have f3:vals 3=_:=hf 3 (by decide) rfl;have f4:vals 4=_:=hf 4 (by decide) rfl;have f8:vals 8=_:=hf 8 (by decide) rfl;have f9:(fun z u=>∃ (t:Bs) (a5:Nat) (e5:Int) (A':Option Addr) (c':Nat),NmQ s a4 e4 ns t a5 e5∧Ls w w.heap.size r s (D+1) (treeV true A' (ns++[t]).length c' A2 ks.length c2) A' c' (ns++[t]) A2 c2 ks u a5 e5) vals w1:=hf 9 (by decide) rfl
      try dsimp only at f0 f1 f2 f3 f4 f8 f9
      clear hf;simp only [sP,f0,f1,f2,f3,f4,f8];clear f0 f1 f2 f3 f4 f8;generalize vals 5=x5 at *;generalize vals 6=x6 at *;generalize vals 7=x7 at *;obtain ⟨t,a5,e5,A',c',hq,hl⟩:=f9;have HQ:=zY hq;have HL9:=zY hl;clear hq hl HI0 HJ0 hC1;go_wp2_with fail
      go_meet
      obtain ⟨h1,h2⟩:=nmq_done HQ.out HE4.out HAT4.out;exact ⟨ns++[t],A',c',a5,e5,HQ.out.1,HL9.out,h1,by have:=HNK.out; rw [List.length_append]; simp; omega,h2⟩
    case rest =>
    obtain ⟨ns',A1',c1',a5,e5,ha5,hls5,he5,hnl5,hat5⟩:=hcut;have HA5:=zY ha5;have HLS5:=zY hls5;have HE5:=zY he5;have HAT5:=zY hat5;have HNL5:=zY hnl5;clear ha5 hls5 he5 hat5 hnl5 k0 HLS4 HLS;obtain ⟨E4,hE4⟩:=eX (kidK (valueP d) (nameK m ns (commaP ks.isEmpty r1)));have HE4':=zY hE4;rw [← hE4] at HE;clear hE4
    have CV:=zY (fun (u:World) (h:Ls w w.heap.size r s (D+1) (treeV m A1' ns'.length c1' A2 ks.length c2) A1' c1' ns' A2 c2 ks u a5 e5) =>
     show Calls Tryz.prog 40 #[.pointer (some ⟨r,0,none⟩)] u fun x w'=>∃ (v:JV) (a6:Nat) (e6:Int),x=.returned (.agg (jvCells v))∧VlQ s a3 E4 ns' a6 e6 ∧
      Ls w w.heap.size r s (D+1) (treeV m A1' ns'.length c1' A2 ks.length c2) A1' c1' ns' A2 c2 ks w' a6 e6∧(∀ x k r4,E4=.ok (x,k,r4)→JRep w' (KS w.heap.size (.slice A1' ns'.length c1') (.slice A2 ks.length c2)) k v)∧RG r u w' from by
      have hz:e5=0→a5≤s.size:=fun h0=>by
       cases hc:nameK m ns (commaP ks.isEmpty r1) with
       | error e=>exact absurd (by rw [← h0,HE5.out,hc]; rfl) (qdn hc)
       | ok x=>have:=(HAT5.out x.1 x.2 hc).2.top; have:=HA3.out; omega
      refine (value_all d HV.out s HS.out r a5 (D+1) e5 (by have:=HDD.out; omega) (by omega) u h.m.rd HA5.out hz).mono ?_;rintro x w' ⟨v,rfl,a6,ha6,hrd,hrg,hok⟩;obtain ⟨h1,h2⟩:=vlq_of (ns':=ns') (P:=fun j=>JRep w' (fun b=>u.heap.size≤b) j v) (fun e he=>qdn he) HE5.out HAT5.out ha6 hok;rw [HE4'.out];exact ⟨v,a6,_,rfl,h1,h.step hrg hrd,fun x k r4 hx=>h.fresh (h2 x k r4 hx),hrg⟩)
    have hnk:(ks.length:Int)≤1000000:=HKS.out;go_wp2_with fail;have HI0:wc.drew.cell? ⟨w.heap.size,0,none⟩=some (.pointer (some ⟨r,0,none⟩))∧wc.drew.cell? ⟨w.heap.size+2,4,none⟩=some (.slice A2 ks.length c2):=⟨HLS5.out.m.box.cell 0,HLS5.out.m.tree.cell 4⟩;have HJ0:Ls w w.heap.size r s (D+1) (treeV m A1' ns'.length c1' A2 ks.length c2) A1' c1' ns' A2 c2 ks wc.drew a5 e5:=HLS5.out.drew
    refine qap (fun _=>True) (fun | false=>(fun u=>u.cell? ⟨w.heap.size,0,none⟩=some (.pointer (some ⟨r,0,none⟩))∧u.cell? ⟨w.heap.size+2,4,none⟩=some (.slice A2 ks.length c2)) | true=>(fun u=>Ls w w.heap.size r s (D+1) (treeV m A1' ns'.length c1' A2 ks.length c2) A1' c1' ns' A2 c2 ks u a5 e5)) (fun | false,i=>i == 7 | true,i=>i == 3 || i == 4 || i == 5 || i == 7)
     [fun z _=>z 0=.pointer (some ⟨w.heap.size+2,4,none⟩),
      fun z _=>z 1=.slice A2 ks.length c2,
      fun z _=>z 2=.pointer (some ⟨r,0,none⟩),
      fun z u=>∃ (v:JV) (a6:Nat) (e6:Int),z 3=.agg (jvCells v)∧VlQ s a3 E4 ns' a6 e6∧Ls w w.heap.size r s (D+1) (treeV m A1' ns'.length c1' A2 ks.length c2) A1' c1' ns' A2 c2 ks u a6 e6∧(∀ x k r4,E4=.ok (x,k,r4)→JRep u (KS w.heap.size (.slice A1' ns'.length c1') (.slice A2 ks.length c2)) k v),
      fun z u=>∃ (v:JV) (a6:Nat) (e6:Int) (ad:Nat),z 4=.slice (some ⟨ad,0,none⟩) 1 1∧Blk u ad 44 (jvCells v)∧VlQ s a3 E4 ns' a6 e6∧Ls w w.heap.size r s (D+1) (treeV m A1' ns'.length c1' A2 ks.length c2) A1' c1' ns' A2 c2 ks u a6 e6∧(∀ x k r4,E4=.ok (x,k,r4)→JRep u (KS w.heap.size (.slice A1' ns'.length c1') (.slice A2 ks.length c2)) k v),
      fun z u=>∃ (a6:Nat) (e6:Int) (A':Option Addr) (c':Nat),z 5=.slice A' (ks.length+1) c'∧VlQ s a3 E4 ns' a6 e6∧LsM w w.heap.size r s (D+1) (treeV m A1' ns'.length c1' A2 ks.length c2) u a6 e6∧(∀ x k r4,E4=.ok (x,k,r4)→Ls w w.heap.size r s (D+1) (treeV m A1' ns'.length c1' A2 ks.length c2) A1' c1' ns' A' c' (ks++[k]) u a6 e6),
      fun z _=>z 6=.pointer (some ⟨w.heap.size+2,4,none⟩),
      fun z u=>∃ (a6:Nat) (e6:Int) (A':Option Addr) (c':Nat),VlQ s a3 E4 ns' a6 e6∧LsM w w.heap.size r s (D+1) (treeV m A1' ns'.length c1' A' (ks.length+1) c') u a6 e6∧(∀ x k r4,E4=.ok (x,k,r4)→Ls w w.heap.size r s (D+1) (treeV m A1' ns'.length c1' A' (ks++[k]).length c') A1' c1' ns' A' c' (ks++[k]) u a6 e6)]
     [Eq,Eq,Eq,fun u u'=>RG r u u',fun u u'=>Below u.heap.size u u',fun u u'=>∃ g:Option Nat,u.grownBy u' g∧∀ k,g=some k→w.heap.size+3≤k,Eq,fun _ _=>True]
     (fun i k=>(i == 4 && k == 3) || (i == 5 && k == 3) || (i == 5 && k == 4) || (i == 7 && k == 3) || (i == 7 && k == 4) || (i == 7 && k == 5)) [(0,some 63),(1,some 64),(2,some 65),(3,some 66),(4,some 67),(5,some 68),(6,some 69),(7,none)] (by kernel_rfl) (by kernel_rfl) rfl (fun _=>rfl) ?_ ?_ ?_ ?_ ?_ ?_
    ·exact (by first | trivial | assumption)
    ·intro m; cases m; exact HI0; exact HJ0
    ·intro m; cases m
     ·refine ⟨?_,?_,?_,.inr (fun _ _ h h0=>⟨World.grownBy.cell h h0.1 (by have:=HLOW.out; intro e; injection e with e; have e:w.heap.size=r:=e; omega),World.grownBy.cell h h0.2 (by have:=HLOW.out; intro e; injection e with e; have e:w.heap.size+2=r:=e; omega)⟩),.inr (fun _ _ h h0=>⟨(qa0 h none).cell h0.1 (by simp),(qa0 h none).cell h0.2 (by simp)⟩),.inr (fun _ _ h h0=>by obtain ⟨g,hg,hk⟩:=h; exact ⟨hg.cell h0.1 (by intro e; have:w.heap.size+3≤w.heap.size:=hk _ e.symm; omega),hg.cell h0.2 (by intro e; have:w.heap.size+3≤w.heap.size+2:=hk _ e.symm; omega)⟩),?_,.inl rfl,trivial⟩ <;> exact .inr fun _ _ h h0=>h▸h0
     ·refine ⟨?_,?_,?_,.inl rfl,.inl rfl,.inl rfl,?_,.inl rfl,trivial⟩ <;> exact .inr fun _ _ h h0=>h▸h0
    ·refine ⟨⟨.inl rfl,?_,?_,?_,?_,?_,?_,?_,trivial⟩,⟨?_,.inl rfl,?_,?_,?_,?_,?_,?_,trivial⟩,⟨?_,?_,.inl rfl,?_,?_,?_,?_,?_,trivial⟩,⟨?_,?_,?_,.inl rfl,?_,?_,?_,?_,trivial⟩,⟨?_,?_,?_,.inr (.inl rfl),.inl rfl,?_,?_,?_,trivial⟩,⟨?_,?_,?_,.inr (.inl rfl),.inr (.inl rfl),.inl rfl,?_,?_,trivial⟩,⟨?_,?_,?_,?_,?_,?_,.inl rfl,?_,trivial⟩,⟨?_,?_,?_,.inr (.inl rfl),.inr (.inl rfl),.inr (.inl rfl),?_,.inl rfl,trivial⟩,trivial⟩ <;> first | exact .inr (.inr (.inl rfl)) | exact .inr (.inr (.inr fun _ _ _ _ _ h=>h)) | exact .inr (.inr (.inr fun _ _ _ _ h h0=>by cases h; exact h0))
    ·refine ⟨?_,?_,?_,?_,?_,?_,?_,?_,trivial⟩
     ·refine qab [] (fun _=>rfl) rfl ?_;intro w1 vals hC1 hi0 hf E hE;have hI1:(fun u=>u.cell? ⟨w.heap.size,0,none⟩=some (.pointer (some ⟨r,0,none⟩))∧u.cell? ⟨w.heap.size+2,4,none⟩=some (.slice A2 ks.length c2)) w1:=hi0 false rfl
      try dsimp only at hI1
      clear hi0;clear hf;simp only [sP] at hE ⊢;go_wp2;exact .mk (hE _ _ rfl hC1 rfl)
     ·refine qab [(0,some 63)] (fun _=>rfl) rfl ?_;intro w1 vals hC1 hi0 hf E hE;have hI1:(fun u=>u.cell? ⟨w.heap.size,0,none⟩=some (.pointer (some ⟨r,0,none⟩))∧u.cell? ⟨w.heap.size+2,4,none⟩=some (.slice A2 ks.length c2)) w1:=hi0 false rfl
      try dsimp only at hI1
      clear hi0;have f0:vals 0=_:=hf 0 rfl
      try dsimp only at f0
      clear hf;obtain ⟨d1,d0⟩:=hI1;simp only [sP,f0] at hE ⊢;clear f0;go_wp2;exact .mk (hE _ _ rfl hC1 rfl)
     ·refine qab [] (fun _=>rfl) rfl ?_;intro w1 vals hC1 hi0 hf E hE;have hI1:(fun u=>u.cell? ⟨w.heap.size,0,none⟩=some (.pointer (some ⟨r,0,none⟩))∧u.cell? ⟨w.heap.size+2,4,none⟩=some (.slice A2 ks.length c2)) w1:=hi0 false rfl
      try dsimp only at hI1
      have hJ1:(fun u=>Ls w w.heap.size r s (D+1) (treeV m A1' ns'.length c1' A2 ks.length c2) A1' c1' ns' A2 c2 ks u a5 e5) w1:=hi0 true rfl
      try dsimp only at hJ1
      clear hi0;clear hf;obtain ⟨d1,d0⟩:=hI1;simp only [sP] at hE ⊢;go_wp2;exact .mk (hE _ _ rfl hC1 rfl)
     ·refine qab [(2,some 65)] (fun _=>rfl) rfl ?_;intro w1 vals hC1 hi0 hf E hE;have hI1:(fun u=>u.cell? ⟨w.heap.size,0,none⟩=some (.pointer (some ⟨r,0,none⟩))∧u.cell? ⟨w.heap.size+2,4,none⟩=some (.slice A2 ks.length c2)) w1:=hi0 false rfl
      try dsimp only at hI1
      have hJ1:(fun u=>Ls w w.heap.size r s (D+1) (treeV m A1' ns'.length c1' A2 ks.length c2) A1' c1' ns' A2 c2 ks u a5 e5) w1:=hi0 true rfl
      try dsimp only at hJ1
      clear hi0;have f2:vals 2=_:=hf 2 rfl
      try dsimp only at f2
      clear hf;have HJ1:=zY hJ1;clear hJ1;simp only [sP,f2] at hE ⊢;clear f2;go_wp2_with fail;refine qaa (CV.out _ HJ1.out) ?_;rintro y w5 ⟨v,a6,e6,rfl,hq,hl,hj,hg⟩;have HQ:=zY hq;have HL:=zY hl;have HJ:=zY hj;have HG:=zY hg;clear hq hl hg hj;go_wp2_with fail;exact .mk (hE _ _ ⟨v,a6,e6,rfl,HQ.out,HL.out,HJ.out⟩ hC1 HG.out)
     ·refine qab [(3,some 66)] (fun _=>rfl) rfl ?_;intro w1 vals hC1 hi0 hf E hE;have hI1:(fun u=>u.cell? ⟨w.heap.size,0,none⟩=some (.pointer (some ⟨r,0,none⟩))∧u.cell? ⟨w.heap.size+2,4,none⟩=some (.slice A2 ks.length c2)) w1:=hi0 false rfl
      try dsimp only at hI1
      clear hi0;have f3:(fun z u=>∃ (v:JV) (a6:Nat) (e6:Int),z 3=.agg (jvCells v)∧VlQ s a3 E4 ns' a6 e6∧Ls w w.heap.size r s (D+1) (treeV m A1' ns'.length c1' A2 ks.length c2) A1' c1' ns' A2 c2 ks u a6 e6∧(∀ x k r4,E4=.ok (x,k,r4)→JRep u (KS w.heap.size (.slice A1' ns'.length c1') (.slice A2 ks.length c2)) k v)) vals w1:=hf 3 rfl
      try dsimp only at f3
      clear hf;obtain ⟨v,a6,e6,hx,hq,hl,hj⟩:=f3;have HQ:=zY hq;have HL:=zY hl;have HJ:=zY hj;clear hq hl hj;simp only [sP,hx] at hE ⊢;clear hx;unfold jvCells;go_wp2;exact .mk (hE _ _ ⟨v,a6,e6,_,rfl,Blk.new _ _ _,HQ.out,HL.out.new ((Below.refl _ _).alloc (Nat.le_refl _) _),fun x k r4 h=>(HJ.out x k r4 h).heap fun b hb _=>Below.heap_alloc _ _ _ hb⟩ hC1 ((Below.refl _ _).alloc (Nat.le_refl _) _))
     ·refine qab [(1,some 64),(4,some 67),(3,some 66)] (fun _=>rfl) rfl ?_;intro w1 vals hC1 hi0 hf E hE;have hI1:(fun u=>u.cell? ⟨w.heap.size,0,none⟩=some (.pointer (some ⟨r,0,none⟩))∧u.cell? ⟨w.heap.size+2,4,none⟩=some (.slice A2 ks.length c2)) w1:=hi0 false rfl
      try dsimp only at hI1
      clear hi0;have f1:vals 1=_:=hf 1 rfl;have f4:(fun z u=>∃ (v:JV) (a6:Nat) (e6:Int) (ad:Nat),z 4=.slice (some ⟨ad,0,none⟩) 1 1∧Blk u ad 44 (jvCells v)∧VlQ s a3 E4 ns' a6 e6∧Ls w w.heap.size r s (D+1) (treeV m A1' ns'.length c1' A2 ks.length c2) A1' c1' ns' A2 c2 ks u a6 e6∧(∀ x k r4,E4=.ok (x,k,r4)→JRep u (KS w.heap.size (.slice A1' ns'.length c1') (.slice A2 ks.length c2)) k v)) vals w1:=hf 4 rfl
      try dsimp only at f1 f4
      clear hf;obtain ⟨v,a6,e6,ad,hx,hk,hq,hl,hj⟩:=f4;have HQ:=zY hq;have HL:=zY hl;have HK:=zY hk;have HJ:=zY hj;obtain ⟨kv,hv1,hv2,hv3⟩:=HL.out.kids;have HO:=zY hv2;have HV1:=zY hv1;have HV3:=zY hv3;clear hq hl hk hj hv1 hv2 hv3;simp only [sP,f1,hx] at hE ⊢;clear f1;clear hx;go_wp2_with (refine qa8 (news:=(jvCells v).toList) (m:=1) sl_jsons rfl rfl HO.out rfl rfl rfl (Rd.of_blk (l:=(jvCells v).toList) HK.out (HK.out.lt)) (by simp [jvCells,Value.oneCell']) (by unfold maxLen; omega) (by omega) (HL.out.m.size) ?_; intro A' c' w5 ho hg hn);exact .mk (hE _ _ ⟨a6,e6,A',c',rfl,HQ.out,HL.out.m.grown hg (fun k hk=>(HO.out.lt k hk).1),fun x k r4 h=>HL.out.kid (HJ.out x k r4 h) HV1.out HO.out HV3.out ho hg hn⟩ hC1 ⟨_,hg,fun k hk=>(HO.out.lt k hk).1⟩)
     ·refine qab [(0,some 63),(1,some 64),(2,some 65),(3,some 66),(4,some 67),(5,some 68)] (fun _=>rfl) rfl ?_;intro w1 vals hC1 hi0 hf E hE;have hI1:(fun u=>u.cell? ⟨w.heap.size,0,none⟩=some (.pointer (some ⟨r,0,none⟩))∧u.cell? ⟨w.heap.size+2,4,none⟩=some (.slice A2 ks.length c2)) w1:=hi0 false rfl
      try dsimp only at hI1
      clear hi0;have f0:vals 0=_:=hf 0 rfl;have f1:vals 1=_:=hf 1 rfl;have f2:vals 2=_:=hf 2 rfl;have f5:(fun z u=>∃ (a6:Nat) (e6:Int) (A':Option Addr) (c':Nat),z 5=.slice A' (ks.length+1) c'∧VlQ s a3 E4 ns' a6 e6∧LsM w w.heap.size r s (D+1) (treeV m A1' ns'.length c1' A2 ks.length c2) u a6 e6∧(∀ x k r4,E4=.ok (x,k,r4)→Ls w w.heap.size r s (D+1) (treeV m A1' ns'.length c1' A2 ks.length c2) A1' c1' ns' A' c' (ks++[k]) u a6 e6)) vals w1:=hf 5 rfl
      try dsimp only at f0 f1 f2 f5
      clear hf;simp only [sP,f0,f1,f2] at hE ⊢;clear f0 f1 f2;go_wp2;exact .mk (hE _ _ rfl hC1 rfl)
     ·refine qab [(6,some 69),(5,some 68),(5,some 68),(0,some 63),(1,some 64),(2,some 65),(3,some 66),(4,some 67),(5,some 68)] (fun _=>rfl) rfl ?_;intro w1 vals hC1 hi0 hf E hE;have hI1:(fun u=>u.cell? ⟨w.heap.size,0,none⟩=some (.pointer (some ⟨r,0,none⟩))∧u.cell? ⟨w.heap.size+2,4,none⟩=some (.slice A2 ks.length c2)) w1:=hi0 false rfl
      try dsimp only at hI1
      clear hi0;have f0:vals 0=_:=hf 0 rfl;have f1:vals 1=_:=hf 1 rfl;have f2:vals 2=_:=hf 2 rfl;have f5:(fun z u=>∃ (a6:Nat) (e6:Int) (A':Option Addr) (c':Nat),z 5=.slice A' (ks.length+1) c'∧VlQ s a3 E4 ns' a6 e6∧LsM w w.heap.size r s (D+1) (treeV m A1' ns'.length c1' A2 ks.length c2) u a6 e6∧(∀ x k r4,E4=.ok (x,k,r4)→Ls w w.heap.size r s (D+1) (treeV m A1' ns'.length c1' A2 ks.length c2) A1' c1' ns' A' c' (ks++[k]) u a6 e6)) vals w1:=hf 5 rfl;have f6:vals 6=_:=hf 6 rfl
      try dsimp only at f0 f1 f2 f5 f6
      clear hf;obtain ⟨a6,e6,A',c',hx,hq,hm,hl⟩:=f5;have HQ:=zY hq;have HL:=zY hl;have HM7:=zY hm;clear hq hl hm;simp only [sP,f0,f1,f2,f6,hx] at hE ⊢;clear f0 f1 f2 f6;clear hx;go_wp2_with (refine qag (x:=.tmp 69) (i:=4) HM7.out.tree rfl rfl rfl rfl (by kernel_rfl) (by simp [jvCells]) rfl ?_; intro w5 hb5 hw5);exact .mk (hE undef _ ⟨a6,e6,A',c',HQ.out,HM7.out.put hw5 hb5,fun x k r4 h=>(HL.out x k r4 h).put hw5 (by rw [List.length_append]; exact hb5)⟩ hC1 trivial)
    intro w1 vals hC1 hf;have f0:vals 0=_:=hf 0 (by decide) rfl;have f1:vals 1=_:=hf 1 (by decide) rfl;have f2:vals 2=_:=hf 2 (by decide) rfl;have f6:vals 6=_:=hf 6 (by decide) rfl;have f7:(fun z u=>∃ (a6:Nat) (e6:Int) (A':Option Addr) (c':Nat),VlQ s a3 E4 ns' a6 e6∧LsM w w.heap.size r s (D+1) (treeV m A1' ns'.length c1' A' (ks.length+1) c') u a6 e6∧(∀ x k r4,E4=.ok (x,k,r4)→Ls w w.heap.size r s (D+1) (treeV m A1' ns'.length c1' A' (ks++[k]).length c') A1' c1' ns' A' c' (ks++[k]) u a6 e6)) vals w1:=hf 7 (by decide) rfl
    try dsimp only at f0 f1 f2 f6 f7
    clear hf;simp only [sP,f0,f1,f2,f6];clear f0 f1 f2 f6;generalize vals 3=x3 at *;generalize vals 4=x4 at *;generalize vals 5=x5 at *;obtain ⟨a6,e6,A',c',hq,hm,hl⟩:=f7;have HQ:=zY hq;have HM8:=zY hm;have HL8:=zY hl;clear hq hm hl HI0 HJ0 hC1 CV;have b1:w1.cell? ⟨w.heap.size,0,none⟩=some (.pointer (some ⟨r,0,none⟩)):=HM8.out.box.cell 0;obtain ⟨-,-,-,c3⟩:=HM8.out.rd.cells
    cases E4 with
    | error e =>
     have HE0:=zY (show e≠0 from kidK_err (fun h=>qbz d h) HE4'.out.symm);have he6:e6=e:=HQ.out.2.1;subst he6;have hne:(e6 != 0)=true:=by simpa using HE0.out
     go_wp2_with (first
      | refine qad (x:=.tmp 3) HM8.out.tree rfl rfl rfl hu rfl qao ?_
      | (refine qae (x:=.tmp 2) (cells:=jvCells (treeV m A1' ns'.length c1' A' (ks.length+1) c')) HM8.out.res rfl rfl rfl rfl qao rfl (qai _) ?_; intro w9 hb9 hw9))
     have HM9:=zY (HM8.out);refine qdo _ w.heap.size (treeV m A1' ns'.length c1' A' (ks.length+1) c') rfl s r a6 D e6 hD0 (by omega) HM9.out.low w9 (hw9.blk HM9.out.box (by omega)) hb9 (hw9.blk HM9.out.rd (by have:=HM9.out.low; omega)) fun u' hrd hw=>?_;have hE:lpOf (d+1) X=.error e6:=by rw [← HLR.out,HLL.out,← HE.out]; rfl
     exact ⟨_,rfl,a6,HQ.out.1,by rw [hE]; exact hrd,(HM9.out.rg.wrote_new hw9 (by omega)).trans (RG.wrote hw),fun j q hq=>by rw [hE] at hq; cases hq⟩
    | ok y =>
     obtain ⟨x,k,r4⟩:=y;have he6:e6=0:=HQ.out.2.1;subst he6;obtain ⟨hx1,hat6⟩:=HQ.out.2.2 x k r4 rfl;subst hx1;have HAT6:=zY hat6;have HLL8:=zY (HL8.out x k r4 rfl);have HLT:=zY (kidK_len HE4'.out.symm);have CS:=zY (sign_any (endC m) (by cases m <;> decide) s HS.out r a6 (D+1) 0 w1 HM8.out.rd (by have:=HQ.out.1; omega));clear hat6 HQ HM8 HL8;go_wp2_with fail;refine qaa CS.out ?_;rintro y w9 ⟨rfl,a7,hat,hrd,hrg⟩;have HLS9:=zY (HLL8.out.step hrg hrd);obtain ⟨hp1,hp2⟩:=sign_parts (endC m) (s.data.toList.drop a6);rw [hp2] at hat;rw [hp1];rw [HAT6.out.rest] at hat ⊢;have HAT9:=zY hat;obtain ⟨b',hb'⟩:∃ b',b'=(signP (endC m) r4).1:=⟨_,rfl⟩;rw [← hb'];have HB':=zY (show signP (endC m) r4=(b',(signP (endC m) r4).2) by rw [hb']);clear hp1 hp2 hrd hrg hat hb' c3 b1;go_wp2_with fail;have hgk:1≤gk:=by have:=HLT.out.1; have:=HLEN.out; omega
     go_roundg (gk - 1)
     case measure=>omega
     case rel =>
      have h1:=HLT.out.1;have h2:=HLEN.out;have h3:=qbJ (endC m) r4
      have h4:a3<a6:=by
       have e1:=congrArg List.length HAT6.out.rest;have e2:=congrArg List.length HRE.out;rw [List.length_drop] at e1 e2;omega
      refine ⟨x,ks++[k],A1',A',c1',c',a7,b',r4,_,rfl,HB'.out,?_,?_,by omega,?_,?_,HLS9.out⟩
      ·exact HAT.out.trans (HAT6.out.trans HAT9.out)
      ·rw [Nat.sub_add_cancel hgk,← HE.out];rfl
      ·rw [List.length_append];have:=HNL5.out
       simpa using this
      ·rw [List.length_append];have:=HKA.out;have:=HAT9.out.le;simp;omega
def TkP (c:UInt8) (f:FuncId) (D:Int) (P:Bs→Except Int (JT × Bs)):Prop:=∀ (s:ByteArray) (hs:(s.size:Int)≤1000000) (r a:Nat) (w:World) (h:RD w r s a D 0) (ha:a≤s.size) (hc:look (s.data.toList.drop a)=c),
 Calls Tryz.prog f #[.pointer (some ⟨r,0,none⟩)] w fun x w'=>∃ v:JV,x=.returned (.agg (jvCells v))∧∃ a':Nat,(a':Int)≤1500000 ∧
  RD w' r s a' D (errE (P (s.data.toList.drop a)))∧RG r w w'∧∀ j r1,P (s.data.toList.drop a)=.ok (j,r1)→At s a a' r1∧JRep w' (fun b=>w.heap.size≤b) j v
theorem tk_word {W:Bs} (hW:W.length=4∨W.length=5) {v:JV} {s:ByteArray} {a:Nat} {e:Ending} {D:Int} {r:Nat} {w w':World} {P:Except Int (JT × Bs)} {k n:Int} (hv:v=⟨k,n,[],none,0,0,none,0,0⟩) (hs:(s.size:Int)≤1000000) (ha:a≤s.size)
  (hP:P=wordR W (s.data.toList.drop a) (.mk k n [] [] []))
  (h:e=.returned (.agg (jvCells (wJ (W.isPrefixOf (s.data.toList.drop a)) v)))∧RD w' r s (wA (W.isPrefixOf (s.data.toList.drop a)) a W.length) D (wE (W.isPrefixOf (s.data.toList.drop a)))∧RG r w w') :
  ∃ v:JV,e=.returned (.agg (jvCells v))∧∃ a':Nat,(a':Int)≤1500000∧RD w' r s a' D (errE P)∧RG r w w'∧∀ j r1,P=.ok (j,r1)→At s a a' r1∧JRep w' (fun b=>w.heap.size≤b) j v:=by
 obtain ⟨h1,h2,h3⟩:=h;refine ⟨_,h1,wA (W.isPrefixOf (s.data.toList.drop a)) a W.length,?_,?_,h3,?_⟩
 ·unfold wA
  split <;> omega
 ·rw [hP];unfold wordR wordP
  cases hp:W.isPrefixOf (s.data.toList.drop a) <;> rw [hp] at h2 <;> exact h2
 ·intro j r1 hj;rw [hP] at hj;unfold wordR wordP at hj
  cases hp:W.isPrefixOf (s.data.toList.drop a) with
  | false=>rw [hp] at hj; cases hj
  | true =>
   rw [hp] at hj
   injection hj with hj
   injection hj with e1 e2
   subst e1 e2;have hl:=List.IsPrefix.length_le (List.isPrefixOf_iff_prefix.1 hp);rw [List.length_drop] at hl;have h5:s.data.toList.length=s.size:=rfl;refine ⟨⟨by unfold wA; rw [if_pos rfl]; omega,.inr (by unfold wA; rw [if_pos rfl]; omega),?_⟩,?_⟩
   ·unfold wA;rw [if_pos rfl,List.drop_drop]
   ·rw [show wJ true v=v from rfl,hv];exact JRep.flat _ _ _ _ _
def pickF (c:UInt8):FuncId :=
 if c=110 then 98 else if c=116 then 100 else if c=102 then 101 else if c=34 then 102
 else if c=91∨c=123 then 104 else 73
theorem pick_any (c:UInt8) (D:Int) (lp:Bs→Except Int (JT × Bs)) (LH:LRd D lp):TkP c (pickF c) D (rawP lp):=by
 intro s hs r a w h ha hc;unfold pickF
 by_cases h1:c=110
 ·rw [if_pos h1];exact (take1_any s hs r a D w h ha).mono fun e w' hq=>tk_word (W:=[110,117,108,108]) (.inl rfl) (v:=nulJ) (k:=0) (n:=0) rfl hs ha (by rw [rawP,if_pos (hc.trans h1)]; rfl) hq
 rw [if_neg h1]
 by_cases h2:c=116
 ·rw [if_pos h2];exact (take2_any s hs r a D w h ha).mono fun e w' hq=>tk_word (W:=[116,114,117,101]) (.inl rfl) (v:=truJ) (k:=1) (n:=1) rfl hs ha (by rw [rawP,if_neg (by rw [hc]; exact h1),if_pos (hc.trans h2)]; rfl) hq
 rw [if_neg h2]
 by_cases h3:c=102
 ·rw [if_pos h3];exact (take3_any s hs r a D w h ha).mono fun e w' hq=>tk_word (W:=[102,97,108,115,101]) (.inr rfl) (v:=falJ) (k:=1) (n:=0) rfl hs ha (by rw [rawP,if_neg (by rw [hc]; exact h1),if_neg (by rw [hc]; exact h2),if_pos (hc.trans h3)]; rfl) hq
 rw [if_neg h3]
 by_cases h4:c=34
 ·rw [if_pos h4];refine (take4_any s hs r a D w h ha).mono ?_;rintro e w' ⟨rfl,a',ha',hat,hrd,hrg⟩
  have hP:rawP lp (s.data.toList.drop a)=optR (textP (s.data.toList.drop a)) jtext:=by
   rw [rawP,if_neg (by rw [hc]; exact h1),if_neg (by rw [hc]; exact h2),if_neg (by rw [hc]; exact h3),if_pos (hc.trans h4)]
  rw [hP];refine ⟨_,rfl,a',by omega,?_,hrg,?_⟩
  ·cases ht:textP (s.data.toList.drop a) with
   | none=>rw [ht] at hrd; exact hrd
   | some p=>rw [ht] at hrd; exact hrd
  ·intro j r1 hj
   cases ht:textP (s.data.toList.drop a) with
   | none=>rw [ht] at hj; cases hj
   | some p =>
    obtain ⟨t,r0⟩:=p;rw [ht] at hj
    injection hj with hj
    injection hj with e1 e2
    subst e1 e2;exact ⟨hat _ _ ht,JRep.flat _ _ _ _ _⟩
 rw [if_neg h4]
 by_cases h5:c=91∨c=123
 ·rw [if_pos h5]
  have hP:rawP lp (s.data.toList.drop a)=lp (s.data.toList.drop a):=by
   rw [rawP,if_neg (by rw [hc]; exact h1),if_neg (by rw [hc]; exact h2),if_neg (by rw [hc]; exact h3),if_neg (by rw [hc]; exact h4),if_pos (by rw [hc]; exact h5)]
  rw [hP];exact LH s hs r a w h (qcb (by rw [hc]; rcases h5 with rfl | rfl <;> decide))
 rw [if_neg h5];refine (number_any s hs r a D w h ha).mono ?_;rintro e w' ⟨rfl,a',hat,hrd,hrg⟩
 have hP:rawP lp (s.data.toList.drop a)=optR (numP (s.data.toList.drop a)) jint:=by
  rw [rawP,if_neg (by rw [hc]; exact h1),if_neg (by rw [hc]; exact h2),if_neg (by rw [hc]; exact h3),if_neg (by rw [hc]; exact h4),if_neg (by rw [hc]; exact h5)]
 rw [hP];refine ⟨_,rfl,a',by have:=hat.top; omega,?_,hrg,?_⟩
 ·cases ht:numP (s.data.toList.drop a) with
  | none=>rw [ht] at hrd; exact hrd
  | some p=>rw [ht] at hrd; exact hrd
 ·intro j r1 hj
  cases ht:numP (s.data.toList.drop a) with
  | none=>rw [ht] at hj; cases hj
  | some p =>
   obtain ⟨t,r0⟩:=p;rw [ht] at hj
   injection hj with hj
   injection hj with e1 e2
   subst e1 e2;rw [(numP_ok ht).2.2];exact ⟨hat,JRep.flat _ _ _ _ _⟩
theorem takers_found (c:UInt8):(∃ i,Instr.findNow (.int .u8) (.int .u8 ((c.toNat:Nat):Int)) takersE.toList 0=some (some (i,.func (.func (pickF c)) #[] #[]))) ∨
  (Instr.findNow (.int .u8) (.int .u8 ((c.toNat:Nat):Int)) takersE.toList 0=some none∧pickF c=73):=by
 by_cases h1:c=110
 ·subst h1; exact .inl ⟨0,rfl⟩
 by_cases h2:c=116
 ·subst h2; exact .inl ⟨1,rfl⟩
 by_cases h3:c=102
 ·subst h3; exact .inl ⟨2,rfl⟩
 by_cases h4:c=34
 ·subst h4; exact .inl ⟨3,rfl⟩
 by_cases h5:c=91
 ·subst h5; exact .inl ⟨4,rfl⟩
 by_cases h6:c=123
 ·subst h6; exact .inl ⟨5,rfl⟩
 refine .inr ⟨?_,by simp [pickF,h1,h2,h3,h4,h5,h6]⟩
 have e:∀ d:UInt8,c≠d→(((c.toNat:Nat):Int) == ((d.toNat:Nat):Int))=false:=fun d hd=>by
  rw [beq_eq_false_iff_ne];intro h;exact hd (UInt8.toNat.inj (by omega))
 have e1:=e 110 h1;have e2:=e 116 h2;have e3:=e 102 h3;have e4:=e 34 h4;have e5:=e 91 h5;have e6:=e 123 h6;simp only [takersE,mF,Instr.findNow,Instr.sameNow,if_true];rw [show ((110:UInt8).toNat:Int)=110 from rfl] at e1;rw [show ((116:UInt8).toNat:Int)=116 from rfl] at e2;rw [show ((102:UInt8).toNat:Int)=102 from rfl] at e3;rw [show ((34:UInt8).toNat:Int)=34 from rfl] at e4;rw [show ((91:UInt8).toNat:Int)=91 from rfl] at e5;rw [show ((123:UInt8).toNat:Int)=123 from rfl] at e6;simp only [e1,e2,e3,e4,e5,e6]
theorem pick_enters (c:UInt8):∀ args w,(callFunc (pickF c) args).run Tryz.prog w=.ok (.enter (pickF c) args) w:=by
 have g1:=enters_of Tryz.func98 (by kernel_rfl) rfl;have g2:=enters_of Tryz.func100 (by kernel_rfl) rfl;have g3:=enters_of Tryz.func101 (by kernel_rfl) rfl;have g4:=enters_of Tryz.func102 (by kernel_rfl) rfl;have g5:=enters_of Tryz.func104 (by kernel_rfl) rfl;have g6:=enters_of Tryz.func73 (by kernel_rfl) rfl;intro args w;unfold pickF
 split
 ·exact g1 args w
 split
 ·exact g2 args w
 split
 ·exact g3 args w
 split
 ·exact g4 args w
 split
 ·exact g5 args w
 ·exact g6 args w
theorem value_step (d:Nat) (LH:∀ D:Int,D+(d:Int)=6→0≤D→LRd D (lpOf d)):VRd d:=by
 intro s hs r a D hD h0 w h ha;have hu:=Tryz.underlying44;have ht:=Tryz.underlying114;have hk:=Tryz.underlying5;obtain ⟨W0,hW0⟩:=eX (w.alloc (.cells (jvCells zJV) 44));have hb0:Below w.heap.size w W0:=by rw [hW0]; exact (Below.refl _ w).alloc (Nat.le_refl _) _
 obtain ⟨G,hG⟩:=eX (w.heap.size);have HKZ:=zY (show Blk W0 G 44 (jvCells zJV) by rw [hW0,hG]; exact Blk.new _ _ _);have HRD:=zY (h.grow hb0);have HRG:=zY (show RG r w W0 from .below hb0);have HRL:=zY (show r<G by rw [hG]; exact Blk.lt h);have HW0:=zY hW0;have HLH:=zY (LH D hD h0);have HA:=zY ha;have HS:=zY hs;obtain ⟨-,-,-,c3⟩:=(h.grow hb0).cells;have CB:=zY (qbB s hs r a D 0 W0 HRD.out (by omega));clear hW0 hb0 h LH ha hs hD h0;rw [hG] at *;clear hG;go_enter Tryz.func40,Tryz.ntmps40
 go_upto_region 1 with (fail)
 rw [show (w.alloc (.cells #[.int .i64 0,.int .i64 0,.string ⟨#[]⟩,.slice none 0 0,.slice none 0 0] 44))=W0 from HW0.out.symm];clear HW0;go_wp2_with fail;refine qaa CB.out ?_;rintro y w1 ⟨rfl,a1,h1,h2,h3,hrd,hrg⟩;have HAT:=zY (show At s a a1 (skip (s.data.toList.drop a)) from ⟨h1,h2,h3⟩);have HA1:=zY (show a1≤s.size by have:=HA.out; omega);have HRD1:=zY hrd;have HRG1:=zY (HRG.out.trans hrg);have HZ1:=zY (show Blk w1 w.heap.size 44 (jvCells zJV) from HKZ.out.grown hrg (by have:=HRL.out; intro h; injection h with h; omega));clear h1 h2 h3 hrd hrg c3 CB;have CT:=zY (takers_any w1);go_wp2_with fail;refine qaa CT.out ?_;rintro y w2 ⟨rfl,hm,hb⟩;have HRD2:=zY (HRD1.out.grow hb);have HRG2:=zY (HRG1.out.trans (RG.below hb));have HZ2:=zY (HZ1.out.below hb HZ1.out.lt);have HMB:=zY hm;have HML:=zY (show r<w1.heap.size from Blk.lt HRD1.out);clear hm hb CT;have CL:=zY (qbD s r a1 D 0 w2 HRD2.out);go_wp2_with fail;refine qaa CL.out ?_;rintro y w3 ⟨rfl,hrd,hrg⟩;have HRD3:=zY hrd;have HRG3:=zY (HRG2.out.trans hrg);have HZ3:=zY (HZ2.out.grown hrg (by have:=HRL.out; intro h; injection h with h; omega));have HMB3:=zY (show MapB w3 w1.heap.size takersE from (hrg.block _ HMB.out.lt (by have:=HML.out; intro h; injection h with h; omega)).trans HMB.out);clear hrd hrg CL;obtain ⟨c,hc⟩:=eX (look (s.data.toList.drop a1));have HC:=zY hc.symm;rw [show lookE s a1 0=c by rw [lookE,if_pos rfl,hc]];have HPK:=zY (pick_any c D (lpOf d) HLH.out);have eg:=pick_enters c;have hz:(zeroValue 113).run Tryz.prog w3=.ok .nilFunc w3:=by kernel_rfl
 unfold byteV
 obtain ⟨r0,hf,hr0⟩:∃ r0,Instr.findNow (.int .u8) (.int .u8 ((c.toNat:Nat):Int)) takersE.toList 0=some r0∧((found8 .nilFunc r0).1=.func (.func (pickF c)) #[] #[]∨((found8 .nilFunc r0).1=.nilFunc∧pickF c=73)):=by
  rcases takers_found c with ⟨i,hf⟩ | ⟨hf,hp⟩
  ·exact ⟨_,hf,.inl rfl⟩
  ·exact ⟨_,hf,.inr ⟨rfl,hp⟩⟩
 have hlk:=qc9 false ht hk HMB3.out hf hz;obtain ⟨fv,hfv⟩:=eX ((found8 .nilFunc r0).1);rw [← hfv] at hlk hr0;simp only [Bool.false_eq_true,if_false] at hlk
 obtain ⟨nb,hg1,hg2,hnb⟩:∃ nb,(eqGuard BinOp.eql 113 (Operand.tmp 17) (Operand.const Value.nilFunc) fv Value.nilFunc).run Tryz.prog w3=.ok () w3∧(binOp BinOp.eql 113 fv Value.nilFunc).run Tryz.prog w3=.ok (.bool nb) w3 ∧
   ((nb=false∧fv=.func (.func (pickF c)) #[] #[])∨(nb=true∧pickF c=73)):=by
  rcases hr0 with rfl | ⟨rfl,hp⟩
  ·exact ⟨false,by kernel_rfl,by kernel_rfl,.inl ⟨rfl,rfl⟩⟩
  ·exact ⟨true,by kernel_rfl,by kernel_rfl,.inr ⟨rfl,hp⟩⟩
 have HR0:=zY hnb;clear hf hr0 hfv hc hz hnb
 go_upto_if 18 with (fail)
 go_cut [3] (fun f wx=>f=.func (.func (pickF c)) #[] #[]∧wx=w3)
 case first =>
  rcases HR0.out with ⟨rfl,rfl⟩ | ⟨rfl,hp⟩
  ·go_wp2_with fail
   go_meet
   exact ⟨rfl,rfl⟩
  ·have HP:=zY hp;clear hp;go_wp2_with fail
   go_meet
   exact ⟨by rw [HP.out],rfl⟩
 case rest =>
 obtain ⟨rfl,rfl⟩:=hcut;have CP:=zY (HPK.out s HS.out r a1 wc HRD3.out HA1.out HC.out);clear hlk HR0;obtain ⟨f,hf⟩:=eX (pickF c);rw [← hf] at CP eg ⊢;clear hf HPK;go_wp2_with fail;refine qaa CP.out ?_;rintro y w4 ⟨v,rfl,a2,ha2,hrd,hrg,hok⟩;have HRD4:=zY hrd;have HRG4:=zY (HRG3.out.trans hrg);have HZ4:=zY (HZ3.out.grown hrg (by have:=HRL.out; intro h; injection h with h; omega));have HOK:=zY hok;have HA2:=zY ha2;have HLV:=zY (show w.heap.size+1≤wc.heap.size from HZ3.out.lt);clear hrd hrg hok ha2 CP eg hg1 hg2;have HB5:=zY (show Blk (w4.alloc (.cells #[.int .i64 0,.int .i64 0,.string ⟨#[]⟩,.slice none 0 0,.slice none 0 0] 44)) w4.heap.size 44 (jvCells zJV) from Blk.new _ _ _);have HX:=zY (show r<w4.heap.size from Blk.lt HRD4.out);have CB:=zY (fun u h=>qbB s HS.out r a2 D (errE (rawP (lpOf d) (s.data.toList.drop a1))) u h (by have:=HA2.out; omega));go_wp2_with (refine qae (x:=.tmp 4) (cells:=jvCells v) HB5.out rfl rfl rfl rfl qao rfl (qai _) ?_; intro w6 hb6 hw6);have hb5:=(Below.refl w4.heap.size w4).alloc (Nat.le_refl _) (.cells #[.int .i64 0,.int .i64 0,.string ⟨#[]⟩,.slice none 0 0,.slice none 0 0] 44);have hbl:Below w4.heap.size w4 w6:=hw6.below hb5 (Nat.le_refl _) (by simp);have HRD6:=zY (HRD4.out.grow hbl);have HRG6:=zY (HRG4.out.trans (RG.below hbl));have HZ6:=zY (HZ4.out.below hbl HZ4.out.lt);have HB6:=zY hb6;have HBL:=zY hbl;clear hb5 hbl hb6 hw6;refine qaa (CB.out _ HRD6.out) ?_;rintro y w7 ⟨rfl,a3,h1,h2,h3,hrd,hrg⟩;have HRD7:=zY hrd;have HRG7:=zY (HRG6.out.trans hrg);have HG7:=zY hrg;have HZ7:=zY (HZ6.out.grown hrg (by have:=HRL.out; intro h; injection h with h; omega));have HB7:=zY (HB6.out.grown hrg (by have:=HX.out; intro h; injection h with h; omega));have HAT7:=zY (show At s a2 a3 (skip (s.data.toList.drop a2)) from ⟨h1,h2,h3⟩);clear h1 h2 h3 hrd hrg
 go_wp2_with (first
  | refine qad (x:=.tmp 4) HB7.out rfl rfl rfl hu rfl qao ?_
  | (refine qae (x:=.tmp 2) (cells:=jvCells v) HZ7.out rfl rfl rfl rfl qao rfl (qai _) ?_; intro w9 hb9 hw9))
 have HB9:=zY hb9;have hlow:=HRL.out;refine bodyPost_ret (qau (P:=Tryz.prog) rfl rfl HB9.out hu rfl qao) rfl ?_;have hE:valueP d (s.data.toList.drop a)=skipR (rawP (lpOf d) (s.data.toList.drop a1)):=by rw [valueP_lp,HAT.out.rest]
 refine ⟨v,rfl,a3,HAT7.out.big HS.out HA2.out,?_,HRG7.out.wrote_new hw9 (Nat.le_refl _),fun j q hq=>?_⟩
 ·rw [hE]
  have e1:errE (skipR (rawP (lpOf d) (s.data.toList.drop a1)))=errE (rawP (lpOf d) (s.data.toList.drop a1)):=by
   cases rawP (lpOf d) (s.data.toList.drop a1) <;> rfl
  rw [e1];exact hw9.blk HRD7.out (by omega)
 ·rw [hE] at hq;obtain ⟨q0,hq1,rfl⟩:=qbv hq;obtain ⟨hat2,hj⟩:=HOK.out j q0 hq1;refine ⟨?_,?_⟩
  ·have:=HAT7.out;rw [hat2.rest] at this;exact HAT.out.trans (hat2.trans this)
  ·have h0:=HLV.out;have hj6:JRep w6 (fun b=>w.heap.size+1≤b) j v:=(hj.heap fun b hb _=>HBL.out.block b hb).imp fun b _ hb=>Nat.le_trans h0 hb;exact ((hj6.heap fun b hb hs=>HG7.out.block b hb (by intro h; injection h with h; omega)).heap fun b hb hs=>hw9.grown.block b hb (by intro h; injection h with h; omega)).imp fun b _ hb=>by omega
theorem value_any:∀ d,VRd d
 | 0=>value_step 0 fun D h h0=>list_step 0 D h h0 fun d' hd=>by cases hd
 | d+1=>value_step (d+1) fun D h h0=>list_step (d+1) D h h0 fun d' hd=>by
  have e:d'=d:=by omega
  subst e;exact value_any d'
theorem readP_long {s:Bs} (h:2000<s.length):readP s=.error 4:=by rw [readP,if_pos h]
def endP:Except Int (JT × Bs)→Except Int JT
 | .error e=>.error e
 | .ok (v,[])=>.ok v
 | .ok (_,_ :: _)=>.error 13
theorem readP_end {s:Bs} (h:¬ 2000<s.length):readP s=endP (valueP 6 s):=by
 rw [readP,if_neg h]
 cases valueP 6 s with
 | error e=>rfl
 | ok p =>
  obtain ⟨v,r⟩:=p
  cases r <;> rfl
theorem jread_any (s:ByteArray) (w:World) :
  Calls Tryz.prog 20 #[.string s] w fun x w'=>∃ v:JV,x=.returned (.tuple #[.agg (jvCells v),.int .i64 (errE (readP s.data.toList))])∧Below w.heap.size w w' ∧
   (∀ j,readP s.data.toList=.ok j→JRep w' (fun b=>w.heap.size≤b) j v)∧(∀ e,readP s.data.toList=.error e→v=zJV):=by
 have hu:=Tryz.underlying44;obtain ⟨W0,hW0⟩:=eX (w.alloc (.cells (jvCells zJV) 44));have hb0:Below w.heap.size w W0:=by rw [hW0]; exact (Below.refl _ w).alloc (Nat.le_refl _) _
 obtain ⟨G,hG⟩:=eX (w.heap.size);have HKZ:=zY (show Blk W0 G 44 (jvCells zJV) by rw [hW0,hG]; exact Blk.new _ _ _);have HB0:=zY hb0;have HW0:=zY hW0;have h5:s.data.toList.length=s.size:=rfl
 by_cases hlong:2000<s.size
 ·have hl:(2000:Int)<(s.size:Int):=by omega
  have HE:=zY (readP_long (s:=s.data.toList) (by omega));clear hW0 hb0 hlong h5;rw [hG] at *;clear hG;go_enter Tryz.func20,Tryz.ntmps20
  go_upto_region 1 with (fail)
  rw [show (w.alloc (.cells #[.int .i64 0,.int .i64 0,.string ⟨#[]⟩,.slice none 0 0,.slice none 0 0] 44))=W0 from HW0.out.symm];clear HW0;go_wp2_with (refine qae (x:=.tmp 2) (cells:=jvCells zJV) HKZ.out rfl rfl rfl rfl qao rfl (qai _) ?_; intro w9 hb9 hw9);have HB9:=zY hb9;refine bodyPost_ret (qax (P:=Tryz.prog) rfl rfl HB9.out hu rfl qao) rfl ?_;exact ⟨zJV,by rw [HE.out]; rfl,HB0.out.trans ((hw9.below (Below.refl _ _) (Nat.le_refl _) (Nat.le_of_lt HKZ.out.lt))),fun j h=>by (rw [HE.out] at h; cases h),fun e h=>rfl⟩
 ·have hl:¬ (2000:Int)<(s.size:Int):=by omega
  have HE:=zY (readP_end (s:=s.data.toList) (by omega));have HL:=zY (show s.size≤2000 by omega);have HC:=zY (fun (r:Nat) (u:World) (h:RD u r s 0 0 0)=>value_any 6 s (by omega) r 0 0 (by omega) (by omega) u h (Nat.zero_le _));clear hW0 hb0 hlong h5;rw [hG] at *;clear hG;go_enter Tryz.func20,Tryz.ntmps20
  go_upto_region 1 with (fail)
  rw [show (w.alloc (.cells #[.int .i64 0,.int .i64 0,.string ⟨#[]⟩,.slice none 0 0,.slice none 0 0] 44))=W0 from HW0.out.symm];clear HW0
  go_upto_region 4 with (fail)
  obtain ⟨R,hR⟩:=eX (W0.heap.size);obtain ⟨W1,hW1⟩:=eX (W0.alloc (.cells #[.string s,.int .i64 0,.int .i64 0,.int .i64 0] 76));rw [← hW1,← hR];have hb1:Below W0.heap.size W0 W1:=by rw [hW1]; exact (Below.refl _ W0).alloc (Nat.le_refl _) _
  have HRD1:=zY (show RD W1 R s 0 0 0 by rw [hW1,hR]; exact Blk.new _ _ _);have HZ1:=zY (HKZ.out.below hb1 HKZ.out.lt);have HRL:=zY (show w.heap.size<R by rw [hR]; exact HKZ.out.lt);have HF1:=zY (show Below w.heap.size w W1 from HB0.out.trans (hb1.mono HB0.out.size));have CV:=zY (HC.out R W1 HRD1.out);rw [show s.data.toList.drop 0=s.data.toList from rfl] at CV;obtain ⟨E,hE⟩:=eX (valueP 6 s.data.toList);rw [← hE] at CV HE;have HEE:=zY hE.symm;clear hR hW1 hb1 hE;go_wp2_with fail;refine qaa CV.out ?_;rintro y w2 ⟨v,rfl,a,ha,hrd,hrg,hok⟩;have HRD2:=zY hrd;have HG2:=zY hrg;have HZ2:=zY (show Blk w2 w.heap.size 44 (jvCells zJV) from HZ1.out.grown hrg (by have:=HRL.out; intro h; injection h with h; omega));have HF2:=zY (show Below w.heap.size w w2 from HF1.out.grown hrg HF1.out.size (by intro k hk; injection hk with hk; have:=HRL.out; omega));have HOK:=zY hok;have HA:=zY ha;have HSZ:=zY (show R<w2.heap.size from Blk.lt HRD2.out);have HS1:=zY (show R<W1.heap.size from Blk.lt HRD1.out);have HB5:=zY (show Blk (w2.alloc (.cells #[.int .i64 0,.int .i64 0,.string ⟨#[]⟩,.slice none 0 0,.slice none 0 0] 44)) w2.heap.size 44 (jvCells zJV) from Blk.new _ _ _);clear hrd hrg hok ha CV HC
  go_upto_region 5 with (refine qae (x:=.tmp 5) (cells:=jvCells v) HB5.out rfl rfl rfl rfl qao rfl (qai _) ?_; intro w6 hb6 hw6)
  have hb5:=(Below.refl w2.heap.size w2).alloc (Nat.le_refl _) (.cells #[.int .i64 0,.int .i64 0,.string ⟨#[]⟩,.slice none 0 0,.slice none 0 0] 44);have hbl:Below w2.heap.size w2 w6:=hw6.below hb5 (Nat.le_refl _) (by simp);have HRD6:=zY (HRD2.out.grow hbl);have HZ6:=zY (HZ2.out.below hbl HZ2.out.lt);have HB6:=zY hb6;have HBL:=zY hbl;have HF6:=zY (HF2.out.trans (hbl.mono HF2.out.size));obtain ⟨-,c1,-,-⟩:=HRD6.out.cells;clear hb5 hbl hb6 hw6 HB5
  go_upto_if 21 with (fail)
  go_cut [] (fun wx=>RD wx R s a 0 (errE (endP E))∧RG R w6 wx)
  case first =>
   cases hq:E with
   | error e =>
    have HN:=zY (show e≠0 from qbz 6 (HEE.out.trans hq));have HR7:=zY (show RD w6 R s a 0 e by have:=HRD6.out; rw [hq] at this; exact this);have HQ:=zY hq;clear hq
    by_cases hlt:a<s.size
    ·have hlt':(a:Int)<(s.size:Int):=by omega
     clear hlt;go_wp2_with fail;refine qaa (qbd 13 s R a 0 e w6 HR7.out) ?_;rintro y w7 ⟨rfl,hrd,hrg⟩;rw [if_neg HN.out] at hrd;have HR8:=zY hrd;have HG8:=zY hrg;clear hrd hrg;go_wp2_with fail
     go_meet
     exact ⟨by rw [HQ.out]; exact HR8.out,HG8.out⟩
    ·have hlt':¬ (a:Int)<(s.size:Int):=by omega
     clear hlt;go_wp2_with fail
     go_meet
     exact ⟨by rw [HQ.out]; exact HR7.out,RG.refl _ _⟩
   | ok p =>
    obtain ⟨j,rest⟩:=p;have HAT:=zY (HOK.out j rest hq).1;have HR7:=zY (show RD w6 R s a 0 0 by have:=HRD6.out; rw [hq] at this; exact this);have HQ:=zY hq;clear hq;have h5:s.data.toList.length=s.size:=rfl
    cases rest with
    | nil =>
     have hlt':¬ (a:Int)<(s.size:Int):=by
      have:=congrArg List.length HAT.out.rest;rw [List.length_drop] at this;simp only [List.length_nil] at this;omega
     clear h5;go_wp2_with fail
     go_meet
     exact ⟨by rw [HQ.out]; exact HR7.out,RG.refl _ _⟩
    | cons x l =>
     have hlt':(a:Int)<(s.size:Int):=by
      have:=congrArg List.length HAT.out.rest;rw [List.length_drop] at this;simp only [List.length_cons] at this;omega
     clear h5;go_wp2_with fail;refine qaa (qbd 13 s R a 0 0 w6 HR7.out) ?_;rintro y w7 ⟨rfl,hrd,hrg⟩;have HR8:=zY (show RD w7 R s a 0 13 from hrd);have HG8:=zY hrg;clear hrd hrg;go_wp2_with fail
     go_meet
     exact ⟨by rw [HQ.out]; exact HR8.out,HG8.out⟩
  case rest =>
  obtain ⟨hrd,hrg⟩:=hcut;have HRD7:=zY hrd;have HG7:=zY hrg;have HZ7:=zY (HZ6.out.grown hrg (by have:=HRL.out; intro h; injection h with h; omega));have HB7:=zY (HB6.out.grown hrg (by have:=HSZ.out; intro h; injection h with h; omega));have HF7:=zY (show Below w.heap.size w wc from HF6.out.grown hrg HF6.out.size (by intro k hk; injection hk with hk; have:=HRL.out; omega));clear hrd hrg c1
  cases hq:endP E with
  | error e =>
   have HQ:=zY hq
   have HN:=zY (show e≠0 by
    unfold endP at hq
    split at hq
    ·rename_i hv
     injection hq with hq
     subst hq;exact qbz 6 HEE.out
    ·cases hq
    ·injection hq with hq
     omega)
   have HR8:=zY (show RD wc R s a 0 e by have:=HRD7.out; rw [hq] at this; exact this);obtain ⟨-,-,-,c3⟩:=HR8.out.cells;have hne:(e != 0)=true:=by simpa using HN.out
   clear hq;go_wp2_with fail;have HC0:RD wc.drew R s a 0 e∧Blk wc.drew w.heap.size 44 (jvCells zJV)∧Below w.heap.size w wc.drew:=⟨HR8.out,HZ7.out,HF7.out.drew⟩;clear c3;refine qah (fun u=>RD u R s a 0 e∧Blk u w.heap.size 44 (jvCells zJV)∧Below w.heap.size w u) (fun u=>RD u R s a 0 e∧Blk u w.heap.size 44 (jvCells zJV)∧Below w.heap.size w u) [(0,some 29),(1,some 30),(2,some 31),(3,some 32),(4,some 33),(5,none),(6,some 3)] (by kernel_rfl) (by kernel_rfl) (by decide) (by kernel_rfl) (fun _=>rfl) HC0 ?_;apply yN_
   ·apply dP [];exact fun _=>rfl;rfl;rintro vals - w1 hC1 E hE;simp only [sP] at hE ⊢;go_wp2;exact .mk (hE _ hC1)
   apply yN_
   ·apply dP [];exact fun _=>rfl;rfl;rintro vals ⟨-,-⟩ w1 hC1 E hE;simp only [sP] at hE ⊢;go_wp2;exact .mk (hE _ hC1)
   apply yN_
   ·apply dP [(1,some 30)];exact fun _=>rfl;rfl;intro vals vq w1 hC1 E hE;simp only [sP,vq] at hE ⊢;clear vq;go_wp2;exact .mk (hE _ hC1)
   apply yN_
   ·apply dP [(2,some 31)];exact fun _=>rfl;rfl;intro vals vq w1 hC1 E hE;simp only [sP,vq] at hE ⊢;clear vq;go_wp2;exact .mk (hE _ hC1)
   apply yN_
   ·apply dP [(3,some 32)];exact fun _=>rfl;rfl;intro vals vq w1 hC1 E hE;have d3:=hC1.1.cells.2.2.2;simp only [sP,vq] at hE ⊢;clear vq;go_wp2;exact .mk (hE _ hC1)
   apply yN_ (v:=undef)
   ·apply dP [(0,some 29),(0,some 29)];exact fun _=>rfl;rfl;intro vals vq w1 hC1 E hE;have HC1:=zY hC1;simp only [sP,vq] at hE ⊢;clear vq;go_wp2_with (refine qae (x:=.tmp 2) (cells:=jvCells zJV) HC1.out.2.1 rfl rfl rfl rfl qao rfl (qai _) ?_; intro w9 hb9 hw9);exact .mk (hE _ ⟨hw9.blk HC1.out.1 (by have:=HRL.out; omega),hb9,hw9.below HC1.out.2.2 (Nat.le_refl _) HC1.out.2.2.size⟩)
   apply yL_
   ·apply dP [(4,some 33),(5,none),(0,some 29),(1,some 30),(2,some 31),(3,some 32),(4,some 33),(5,none)];exact fun _=>rfl;rfl;intro vals vq w1 hC1 E hE;simp only [sP,vq] at hE ⊢;clear vq;go_wp2;exact .mk (hE _ hC1)
   intro vals vq w1 hC1;simp only [sP,vq];clear vq;obtain ⟨h1,h2,h3⟩:=hC1;have HB9:=zY h2;have HF9:=zY h3;clear h1 h2 h3 HC0;go_wp2_with fail;refine bodyPost_ret (qax (P:=Tryz.prog) rfl rfl HB9.out hu rfl qao) rfl ?_;exact ⟨zJV,by rw [HE.out,HQ.out]; rfl,HF9.out,fun j h=>by (rw [HE.out,HQ.out] at h; cases h),fun e h=>rfl⟩
  | ok j =>
   have HQ:=zY hq;have HR8:=zY (show RD wc R s a 0 0 by have:=HRD7.out; rw [hq] at this; exact this)
   have HJ:=zY (show E=.ok (j,[]) by
    cases hE:E with
    | error e=>rw [hE] at hq; cases hq
    | ok p =>
     obtain ⟨j1,r1⟩:=p;rw [hE] at hq
     cases r1 with
     | nil=>injection hq with hq; subst hq; rfl
     | cons x l=>cases hq)
   obtain ⟨-,-,-,c3⟩:=HR8.out.cells;clear hq
   go_wp2_with (first
    | refine qad (x:=.tmp 5) HB7.out rfl rfl rfl hu rfl qao ?_
    | (refine qae (x:=.tmp 2) (cells:=jvCells v) HZ7.out rfl rfl rfl rfl qao rfl (qai _) ?_; intro w9 hb9 hw9))
   have HB9:=zY hb9;refine bodyPost_ret (qax (P:=Tryz.prog) rfl rfl HB9.out hu rfl qao) rfl ?_;refine ⟨v,by rw [HE.out,HQ.out]; rfl,hw9.below HF7.out (Nat.le_refl _) HF7.out.size,fun j' hj'=>?_,fun e he=>by (rw [HE.out,HQ.out] at he; cases he)⟩;rw [HE.out,HQ.out] at hj'
   injection hj' with hj'
   subst hj';have hj:=(HOK.out j [] HJ.out).2;have h0:=HS1.out;have h1:=HRL.out;exact ((((hj.heap fun b hb _=>HBL.out.block b hb).heap fun b hb hs=>HG7.out.block b hb (by intro h; injection h with h; omega)).heap fun b hb hs=>hw9.grown.block b hb (by intro h; injection h with h; omega))).imp fun b _ hb=>by omega
structure Kr (w0:World) (K:Nat) (D:Bs) (num:Int) (A1:Option Addr) (c1:Nat) (ks:List (Bs × Bs)) (u:World):Prop where
 low:Below K w0 u
 box:Blk u K 24 (bC D num A1 ks.length c1)
 row:OwnR u (K+1) 38 2 A1 c1 ks.length (rowsV kCell ks)
section
variable {w0:World} {K:Nat} {D:Bs} {num:Int} {A1:Option Addr} {c1:Nat} {ks:List (Bs × Bs)} {u u':World}
theorem Kr.new (h:Kr w0 K D num A1 c1 ks u) (hb:Below u.heap.size u u'):Kr w0 K D num A1 c1 ks u' :=
 ⟨h.low.trans (hb.mono (by have:=h.box.lt; omega)),h.box.below hb h.box.lt,h.row.below hb⟩
end
def keyOfJ (j:JT):Bs × Bs:=(textJ (getJ j [107,105,100]),decB (textJ (getJ j [120])))
theorem read1_any (kid x:Bs) (hx:x.length≤100000) (w0:World) (K:Nat) (D:Bs) (num:Int) (A1:Option Addr) (c1:Nat) (ks:List (Bs × Bs)) (hl:ks.length≤100000) (w:World) (hk:Kr w0 K D num A1 c1 ks w) :
  Calls Tryz.prog 23 #[.string (bs kid),.string (bs x),.pointer (some ⟨K,0,none⟩)] w fun e w'=>e=.returned (.tuple #[])∧∃ A' c',Kr w0 K D num A' c' (ks++[(kid,decB x)]) w':=by
 have CD:=zY (decode_any x hx w);have HK:=zY hk;obtain ⟨n,hn⟩:=eX (ks.length);have hn1:(n:Int)≤100000:=by omega
 have HN:=zY hn;have hus:=Tryz.underlying9;have hub8:=Tryz.underlying40;have hu8:=Tryz.underlying5;obtain ⟨b,hb⟩:=eX (decB x);rw [← hb] at CD ⊢;obtain ⟨de,hde⟩:=eX (decE x);rw [← hde] at CD;clear hk hl hx hb hde hn;go_enter Tryz.func23,Tryz.ntmps23;go_wp2_with fail;refine qaa CD.out ?_;rintro e w2 ⟨A2,c2,rfl,hc2,hr2,hb2⟩;have HK2:=zY (HK.out.new hb2);have HR2:=zY hr2;have a2:w2.cell? ⟨K,2,none⟩=some (.slice A1 n c1):=by rw [HN.out]; exact HK2.out.box.cell 2
 have HRW:=zY (show OwnR w2 (K+1) 38 2 A1 c1 n (rowsV kCell ks) by rw [HN.out]; exact HK2.out.row);have HKB:=zY (show Blk w2 K 24 (bC D num A1 n c1) by rw [HN.out]; exact HK2.out.box);clear hc2 hr2 hb2
 go_wp2_with (first
  | refine qbC (l:=b) HR2.out hub8 hu8 hus rfl rfl rfl ?_
  | (refine qaU (ys:=[.string (bs kid),.string (bs b)]) sl_jwks rfl rfl HRW.out rfl rfl rfl rfl (by simp [Value.oneCell']) (by unfold maxLen; omega) (by omega) (HK2.out.box.lt) ?_; intro A5 c5 w5 ho hg hn5; have HB5:=zY (HKB.out.grown hg (fun he=>by have:=(HRW.out.lt K he.symm).1; omega)))
  | (refine qag (x:=.tmp 20) (i:=2) HB5.out rfl rfl rfl rfl (by kernel_rfl) (by simp [bC]) rfl ?_; intro w6 hb6 hw6))
 go_end0
 refine ⟨rfl,A5,c5,⟨hw6.below (HK2.out.low.grown hg (by have:=HK2.out.box.lt; omega) (fun k hk=>by have:=(HRW.out.lt k hk).1; omega)) (Nat.le_refl _) (by have:=HB5.out.lt; omega),?_,?_⟩⟩
 ·rw [List.length_append,← HN.out];exact hb6
 ·have ho2:OwnR w5 (K+1) 38 2 A5 c5 (ks++[(kid,b)]).length (rowsV kCell (ks++[(kid,b)])):=by rw [qbf,qbM,List.length_append,← HN.out]; exact ho
  exact ho2.heap fun k cs hq hl=>(hw6.grown.block k (Array.getElem?_eq_some_iff.1 hq).1 (by intro h; injection h with h; omega)).trans hq
theorem each_any (j:JT) (v:JV) (M:Nat) (hM:4≤M) (hM2:M≤100000) (hok:OkJ M j) (w0:World) (K:Nat) (hK:K≤w0.heap.size) (D:Bs) (num:Int) (w:World) (hj:JRep w0 (fun b=>b<K) j v) (hk:Kr w0 K D num none 0 [] w) :
  Calls Tryz.prog 22 #[.agg (jvCells v),.func (.func 23) #[] #[.pointer (some ⟨K,0,none⟩)]] w fun e w'=>e=.returned (.tuple #[])∧∃ A' c',Kr w0 K D num A' c' ((kidsJ j).map keyOfJ) w':=by
 have hu:=Tryz.underlying44;have eg:∀ args w,(callFunc 23 args).run Tryz.prog w=.ok (.enter 23 args) w:=enters_of Tryz.func23 (by kernel_rfl) rfl;obtain ⟨ns,ks,kv,rfl,h1,h1c,hrn,h2,h2c,hkv,hrk,hkids⟩:=hj.inv;obtain ⟨W1,hW1⟩:=eX (w.alloc (.cells (jvCells v) 44));have hb1:Below w.heap.size w W1:=by rw [hW1]; exact (Below.refl _ w).alloc (Nat.le_refl _) _
 have HK1:=zY (show Blk W1 w.heap.size 44 (jvCells v) by rw [hW1]; exact Blk.new _ _ _);have HKR:=zY (hk.new hb1);have HW1:=zY hW1;obtain ⟨n,hn⟩:=eX (ks.length);have HN:=zY hn;have HOK:=zY (fun (x:JT) (hx:x ∈ ks)=>hok.kid (x:=x) hx);have hn9:(n:Int)≤4096:=by have h:=hok.counts; have h2:(kidsJ (.mk v.k v.n v.t ns ks)).length=ks.length:=rfl; omega
 have HKD:=zY (fun (u:World) (h:Below K w0 u)=>show ∀ (i:Nat) (hi:i<ks.length) (hi':i<kv.length),JRep u (fun b=>b<K) ks[i] kv[i] from fun i hi hi'=>(hkids i hi hi').heap fun b _ hb=>h.block b hb);have HRK:=zY (fun (u:World) (h:Below K w0 u)=>show Rd u K v.kA (rowsV jvCells kv) from (hrk.rd (B:=K) fun b _ hb=>hb).below h);have HKV:=zY hkv;have HM:=zY (show 4≤M∧M≤100000 from ⟨hM,hM2⟩);have a4:W1.cell? ⟨w.heap.size,4,none⟩=some (.slice v.kA n v.kc):=by rw [hn,← h2]; exact HK1.out.cell 4
 show Calls _ _ _ w fun e w'=>e=.returned (.tuple #[])∧∃ A' c',Kr w0 K D num A' c' (ks.map keyOfJ) w';clear hW1 hb1 hj hrn hrk hkids h1 h1c h2 h2c hn hkv hk hok hM hM2 hK;go_enter Tryz.func22,Tryz.ntmps22
 go_upto_region 1 with (fail)
 rw [show w.alloc (.cells (jvCells v) 44)=W1 from HW1.out.symm];generalize Value.agg (jvCells v)=AV;go_wp2_with fail
 go_loopw [13] (fun x wr=>∃ (i:Nat) (A1:Option Addr) (c1:Nat),i≤n∧x=.int .i64 (i:Int)∧Kr w0 K D num A1 c1 ((ks.take i).map keyOfJ) wr) (fun x _=>n - (intOf x).toNat)
 case atStart=>exact ⟨0,none,0,Nat.zero_le _,rfl,HKR.out⟩
 case round =>
  obtain ⟨i,A1,c1,hi,rfl,hkr⟩:=hrel;have HKI:=zY hkr
  by_cases hlt:i<n
  ·have hil:i<ks.length:=by rw [← HN.out]; exact hlt
   have hilv:i<kv.length:=by rw [HKV.out]; exact hil
   have hlt':(i:Int)<(n:Int):=by omega
   obtain ⟨ad,hA,hadb,hcell⟩:=qaX (f:=jvCells) (m:=5) (fun _=>rfl) (by decide) (HRK.out wr hkr.low) hilv;obtain ⟨Y,hY⟩:=eX (kv[i]);obtain ⟨X,hX⟩:=eX (ks[i]);have HJX:=zY (fun (u:World) (h:Below K w0 u)=>show JRep u (fun b=>b<K) X Y by rw [hX,hY]; exact HKD.out u h i hil hilv);have HOX:=zY (show OkJ M X from HOK.out X (by rw [hX]; exact List.getElem_mem hil));rw [← hY] at hcell;have HCL:=zY (show ∀ j u,(jvCells Y).toList[j]?=some u→wr.cell? ((ad.add (i*5)).add j)=some u from fun j u hu=>hcell j u (by simpa using hu));have HXS:=zY (show (ks.take (i+1)).map keyOfJ=(ks.take i).map keyOfJ++[keyOfJ X] by rw [List.take_succ_eq_append_getElem hil,List.map_append,hX]; rfl);have HLL:=zY (show ((ks.take i).map keyOfJ).length≤4096 by simp; omega);obtain ⟨L,hL⟩:=eX ((ks.take i).map keyOfJ);rw [← hL] at HKI HXS HLL;have HLT:=zY hlt;have HAE:=zY hA;rw [hA];have HGY:=zY (fun (x:Bs) (u:World) (h:Below K w0 u)=>get_any X Y x (fun b=>b<K) u (HJX.out u h) (qbZ (HJX.out u h) HOX.out).1 (qbZ (HJX.out u h) HOX.out).2);clear hcell hY hX hL hil hilv hadb hA hkr hlt
   go_upto_region 4 with (first
    | refine qaD (r:=(jvCells Y).toList) HCL.out rfl rfl rfl hu rfl qav ?_
    | (refine qae (cells:=jvCells Y) (Blk.new _ _ _) rfl rfl rfl rfl qav rfl (qai _) ?_; intro w5 hb5 hw5))
   obtain ⟨H5,hH5⟩:=eX (wr.heap.size);have hbw5:Below wr.heap.size wr w5:=qaN hw5;have HK5:=zY (HKI.out.new hbw5);rw [← hH5] at hb5 ⊢;have HX5:=zY hb5;clear hbw5 hb5 hw5 hH5;go_wp2_with (refine qad (x:=.tmp 5) (cs:=jvCells Y) HX5.out rfl rfl rfl hu rfl qav ?_);refine qaa (HGY.out [107,105,100] w5 HK5.out.low) ?_;rintro e w6 ⟨v1,b1,rfl,hj1,hb6⟩;have HK6:=zY (HK5.out.new hb6);have HX6:=zY (HX5.out.below hb6 HX5.out.lt);have HT1:=zY (show bs v1.t=bs (textJ (getJ X [107,105,100])) by rw [(qcQ hj1).1]);clear hj1 hb6
   go_upto_region 5 with (refine qae (cells:=jvCells v1) (Blk.new _ _ _) rfl rfl rfl rfl qav rfl (qai _) ?_; intro w7 hb7 hw7)
   obtain ⟨H7,hH7⟩:=eX (w6.heap.size);have hbw7:Below w6.heap.size w6 w7:=qaN hw7;have HK7:=zY (HK6.out.new hbw7);have HX7:=zY (HX6.out.below hbw7 HX6.out.lt);rw [← hH7] at hb7 ⊢;have HV7:=zY hb7;clear hbw7 hb7 hw7 hH7;go_wp2_with (refine qad (x:=.tmp 5) (cs:=jvCells Y) HX7.out rfl rfl rfl hu rfl qav ?_);refine qaa (HGY.out [120] w7 HK7.out.low) ?_;rintro e w8 ⟨v2,b2,rfl,hj2,hb8⟩;have HK8:=zY (HK7.out.new hb8);have HV8:=zY (HV7.out.below hb8 HV7.out.lt);have HT2:=zY (show bs v2.t=bs (textJ (getJ X [120])) by rw [(qcQ hj2).1]);clear hj2 hb8
   go_upto_region 6 with (refine qae (cells:=jvCells v2) (Blk.new _ _ _) rfl rfl rfl rfl qav rfl (qai _) ?_; intro w9 hb9 hw9)
   obtain ⟨H9,hH9⟩:=eX (w8.heap.size);have hbw9:Below w8.heap.size w8 w9:=qaN hw9;have HK9:=zY (HK8.out.new hbw9);have HV9:=HV8.out.below hbw9 HV8.out.lt;rw [← hH9] at hb9 ⊢;have c7:w9.cell? ⟨H7,2,none⟩=some (.string (bs (textJ (getJ X [107,105,100])))):=by rw [← HT1.out]; exact HV9.cell 2
   have c9:w9.cell? ⟨H9,2,none⟩=some (.string (bs (textJ (getJ X [120])))):=by rw [← HT2.out]; exact hb9.cell 2
   have CR:=zY (read1_any (textJ (getJ X [107,105,100])) (textJ (getJ X [120])) (by have:=((HOX.out.get HM.out.1 [120]).text); have:=HM.out.2; omega) w0 K D num A1 c1 L (by have:=HLL.out; omega) w9 HK9.out);obtain ⟨T1,hT1⟩:=eX (textJ (getJ X [107,105,100]));obtain ⟨T2,hT2⟩:=eX (textJ (getJ X [120]));have HKX:=zY (show keyOfJ X=(T1,decB T2) by rw [hT1,hT2]; rfl);rw [← hT1] at c7 CR;rw [← hT2] at c9 CR;clear HV9 hbw9 hb9 hw9 hH9 hT1 hT2;go_wp2_with (go_at_call 23; refine qaa CR.out ?_; rintro e wz ⟨rfl,A5,c5,hkz⟩; have HKZ:=zY hkz; clear hkz)
   go_roundw
   case rel=>exact ⟨i+1,A5,c5,HLT.out,by go_num,by rw [HXS.out,HKX.out]; exact HKZ.out⟩
   case measure=>have:=HLT.out; simp [intOf]; omega
  ·obtain rfl:i=n:=by omega
   have HTK:=zY (show ks.take i=ks from List.take_of_length_le (by rw [← HN.out]; exact Nat.le_refl _));rw [HTK.out] at HKI;clear hkr;go_wp2_with fail
   go_end0
   exact ⟨rfl,A1,c1,HKI.out⟩
end Go.Proofs.YtlkikjeccamheaaGreatDoor.Js
namespace Go.Proofs.YtlkikjeccamheaaGreatDoor.Js
set_option linter.unusedSimpArgs false
set_option linter.unusedVariables false
set_option maxRecDepth 100000
set_option maxHeartbeats 4000000
theorem quoteC_le (c:UInt8):(quoteC c).length≤6:=by
 unfold quoteC
 split
 ·simp
 split <;> simp
theorem quote_le (s:Bs):(quote s).length≤6*s.length+2:=by
 have h:∀ l:Bs,(l.flatMap quoteC).length≤6*l.length:=by
  intro l
  induction l with
  | nil=>simp
  | cons c r ih =>
   have:=quoteC_le c;rw [List.flatMap_cons,List.length_append,List.length_cons];omega
 have:=h s;unfold quote;simp only [List.length_cons,List.length_append,List.length_nil];omega
theorem digB_le:∀ f n:Nat,(digB f n).length≤f
 | 0,n=>by simp [digB]
 | f+1,n=>by
  have:=digB_le f (n/10);unfold digB
  split <;> simp; omega
theorem intB_le (n:Int):(intB n).length≤17:=by
 have:=digB_le 16 n.natAbs;unfold intB
 split <;> simp <;> omega
theorem qc2:∀ (n:Nat) (acc r:Bs) {s r':Bs},strA n acc r=some (s,r')→s.length+r'.length+1≤acc.length+r.length
 | 0,acc,r,s,r',h=>by simp [strA] at h
 | n+1,acc,[],s,r',h=>by simp [strA] at h
 | n+1,acc,c :: r,s,r',h=>by
  unfold strA at h
  split at h
  ·simp at h
  ·split at h
   ·injection h with h; injection h with h1 h2; subst h1 h2; simp; omega
   ·split at h
    ·split at h
     ·rename_i b r1 he
      have h1:=escP_len he;have h2:=qc2 n _ _ h;simp at h2 ⊢; omega
     ·simp at h
    ·have h2:=qc2 n _ _ h;simp at h2 ⊢; omega
theorem textP_len2 {r s r':Bs} (h:textP r=some (s,r')):s.length+r'.length+2≤r.length:=by
 unfold textP at h
 split at h
 ·have h1:=qc2 _ _ _ h
  cases r with
  | nil=>simp [strA] at h
  | cons c l=>simp at h1 ⊢; omega
 ·simp at h
theorem qcc {d:Nat} {m:Bool} (hv:∀ {r v r'},valueP d r=.ok (v,r')→(writeV v).length+20*r'.length≤20*r.length):∀ (n:Nat) {ns ns':List Bs} {ks ks':List JT} {r r':Bs},listL (valueP d) m n ns ks r=.ok (ns',ks',r') →
  (m=true→ns.length=ks.length)→(m=true→ns'.length=ks'.length)∧(itemsV m (if m then ns' else []) ks' true).length+20*r'.length≤(itemsV m (if m then ns else []) ks true).length+20*r.length
 | 0,ns,ns',ks,ks',r,r',h,hl=>by rw [listL] at h; cases h
 | n+1,ns,ns',ks,ks',r,r',h,hl=>by
  have hsl:=qbJ (endC m) r
  rcases hs:signP (endC m) r with ⟨b,r1⟩
  rw [hs] at hsl;dsimp only at hsl
  cases b with
  | true =>
   rw [qcl hs] at h
   injection h with h
   injection h with h1 h
   injection h with h2 h3
   subst h1 h2 h3;exact ⟨hl,by omega⟩
  | false =>
   rw [qb3 hs] at h;unfold moreK at h
   split at h
   ·cases h
   ·rename_i x k r4 hc
    unfold kidK at hc
    split at hc
    ·cases hc
    ·rename_i y r3 hn
     split at hc
     ·cases hc
     ·rename_i k' r4' hv'
      injection hc with hc
      injection hc with e1 hc
      injection hc with e2 e3
      subst e1 e2 e3;have hw:=hv hv';unfold nameK at hn
      split at hn
      ·cases hn
      ·rename_i r2 hcm
       have l2:r2.length+(if ks.isEmpty then 0 else 1)≤r1.length:=by
        unfold commaP at hcm
        split at hcm
        ·rename_i he
         injection hcm with hcm
         subst hcm;rw [he];simp
        ·rename_i he
         rw [if_neg he];unfold mustP at hcm
         split at hcm
         ·rename_i hlk
          injection hcm with hcm
          subst hcm;have h1:=qaJ (skip r1).tail;have h2:=qaJ r1;have h3:(skip r1)≠[]:=fun h=>by rw [h] at hlk; exact absurd hlk (by decide)
          have h4:=List.length_pos_iff.2 h3;simp only [List.length_tail] at h1;omega
         ·cases hcm
       cases m with
       | false =>
        unfold keyP at hn;rw [if_neg (by decide)] at hn
        injection hn with hn
        injection hn with e1 e2
        subst e1 e2;obtain ⟨h1,h2⟩:=qcc hv n h (fun h=>by cases h);refine ⟨h1,?_⟩;have h3:=qbb false ks [] k' [] true (fun h=>by cases h);simp only [Bool.false_eq_true,if_false,Bool.true_and,List.nil_append] at h3 h2 ⊢;rw [h3,List.length_append,List.length_append] at h2;have h4:(if ks.isEmpty=true then ([]:Bs) else [44]).length≤(if ks.isEmpty then 0 else 1):=by split <;> simp
        have h5:(if ks.isEmpty=true then 0 else 1)≤1:=by split <;> omega
        omega
       | true =>
        unfold keyP at hn;rw [if_pos rfl] at hn;unfold nameP at hn
        split at hn
        ·cases hn
        ·rename_i t r5 ht
         have ht2:=textP_len2 ht
         split at hn
         ·cases hn
         ·split at hn
          ·cases hn
          ·rename_i r6 hm
           injection hn with hn
           injection hn with e1 e2
           subst e1 e2;have hm2:=qbN hm;obtain ⟨h1,h2⟩:=qcc hv n h (fun _=>by simp [hl rfl]);refine ⟨h1,?_⟩;have h3:=qbb true ks ns k' t true hl;simp only [if_true,Bool.true_and] at h3 h2 ⊢;rw [h3,List.length_append,List.length_append,List.length_append,List.length_append] at h2;have h4:(if ks.isEmpty=true then ([]:Bs) else [44]).length≤(if ks.isEmpty then 0 else 1):=by split <;> simp
           have h5:(if ks.isEmpty=true then 0 else 1)≤1:=by split <;> omega
           have h6:=quote_le t;simp only [List.length_cons,List.length_nil] at h2;omega
theorem qcL:∀ (d:Nat) {r:Bs} {v:JT} {r':Bs},valueP d r=.ok (v,r')→(writeV v).length+20*r'.length≤20*r.length:=by
 have hraw:∀ {lp:Bs→Except Int (JT × Bs)},(∀ {r v r'},lp r=.ok (v,r')→r≠[]→(writeV v).length+20*r'.length≤20*r.length)→∀ {r v r'},rawP lp r=.ok (v,r')→(writeV v).length+20*r'.length≤20*r.length:=by
  intro lp hl r v r' h;have hlen:r'.length<r.length→(writeV v).length≤20→(writeV v).length+20*r'.length≤20*r.length:=fun h1 h2=>by omega
  unfold rawP at h
  have hw:∀ {w:Bs} {v0:JT},w≠[]→(writeV v0).length≤20→wordR w r v0=.ok (v,r')→(writeV v).length+20*r'.length≤20*r.length:=by
   intro w v0 h0 h1 h2;have h3:=qcf h0 h2;unfold wordR at h2
   split at h2
   ·cases h2
   ·injection h2 with h2
    injection h2 with e1 e2
    subst e1;exact hlen h3 h1
  split at h
  ·exact hw (by simp) (by decide) h
  split at h
  ·exact hw (by simp) (by decide) h
  split at h
  ·exact hw (by simp) (by decide) h
  split at h
  ·unfold optR at h
   split at h
   ·cases h
   ·rename_i t r0 ht
    injection h with h
    injection h with e1 e2
    subst e1 e2;have h1:=textP_len2 ht;have h2:=quote_le t;have h3:writeV (jtext t)=quote t:=rfl;rw [h3];omega
  split at h
  ·rename_i hq
   exact hl h (by rintro rfl; simp [look] at hq)
  ·unfold optR at h
   split at h
   ·cases h
   ·rename_i t r0 ht
    injection h with h
    injection h with e1 e2
    subst e1 e2;have h1:=numP_len ht;have h2:=intB_le t;have h3:writeV (jint t)=intB t:=rfl;rw [h3];omega
 have hskip:∀ {lp:Bs→Except Int (JT × Bs)} {r v r'},(∀ {v r'},rawP lp (skip r)=.ok (v,r')→(writeV v).length+20*r'.length≤20*(skip r).length)→skipR (rawP lp (skip r))=.ok (v,r')→(writeV v).length+20*r'.length≤20*r.length:=by
  intro lp r v r' h h2;obtain ⟨r0,h3,rfl⟩:=qbv h2;have h4:=h h3;have h5:=qaJ r;have h6:=qaJ r0;omega
 intro d
 induction d with
 | zero =>
  intro r v r' h;exact hskip (lp:=fun _=>.error 9) (fun h=>hraw (lp:=fun _=>.error 9) (fun h _=>by cases h) h) h
 | succ d ih =>
  intro r v r' h;refine hskip (lp:=listP (valueP d)) (fun h=>hraw (lp:=listP (valueP d)) (fun {r v r'} h hr=>?_) h) h;rw [qb2] at h;unfold lres at h
  split at h
  ·cases h
  ·rename_i ns ks r2 hc
   injection h with h
   injection h with h1 h2
   subst h1 h2;obtain ⟨h3,h4⟩:=qcc ih _ hc (fun _=>rfl);have h5:itemsV (isMap r) (if isMap r=true then [] else []) [] true=[]:=by simp [itemsV]
   rw [h5] at h4;have hs:=qaJ r.tail;have hr0:=List.length_pos_iff.2 hr;simp only [List.length_tail,List.length_nil] at hs h4;rw [writeV]
   cases hm:isMap r with
   | true =>
    rw [hm] at h4;simp [kindV] at h4 ⊢;omega
   | false =>
    rw [hm] at h4
    have hns:∀ ns ns2 f,itemsV false ns ks f=itemsV false ns2 ks f:=by
     clear h4 h3 hc
     induction ks with
     | nil=>intro ns ns2 f; simp [itemsV]
     | cons k l ihk=>intro ns ns2 f; rw [itemsV,itemsV,ihk ns.tail ns2.tail]; simp
    simp [kindV] at h4 ⊢;rw [hns ns []];omega
theorem qdc {s:Bs} {j:JT} (h:readP s=.ok j):(writeV j).length≤40000:=by
 unfold readP at h
 split at h
 ·cases h
 ·split at h
  ·cases h
  ·rename_i hv
   injection h with h
   subst h;have:=qcL 6 hv;omega
  ·cases h
end Go.Proofs.YtlkikjeccamheaaGreatDoor.Js
