/-
  Joined texts: HsS Blk32 HSum32 OfC Of32 Top2r Rnm Grow Rm Rp Tml Rt Fold Rdv Rf Rg Ri Rw Rv Pm Sm Smc Dge St RegV.
-/
import Derived.Deep.QuietTactic
import Derived.Test.YtcbkaaodmjphdaaGreatDoorJ2
import Derived.Test.YtcbkaaodmjphdaaGreatDoorJ1
namespace Go.Proofs.YtcbkaaodmjphdaaGreatDoor.Sh
set_option linter.unusedSimpArgs false
set_option linter.unusedVariables false
set_option maxRecDepth 100000
set_option maxHeartbeats 4000000
open Go.RowKit
structure HsSt (w0:World) (gf:Nat) (F:ShaF) (p:HP) (dA:Option Addr) (data:List UInt8) (u:World):Prop where
 bel:Below gf w0 u
 h:Blk u gf 108 (hv F p)
 ok:HOk F p u gf
 rd:Rd u gf dA (bytesV data)
structure HsA (w0:World) (gf:Nat) (F:ShaF) (p:HP) (dA:Option Addr) (data:List UInt8) (v:Value) (xs:List UInt8) (u:World):Prop where
 st:HsSt w0 gf F p dA data u
 own:OwnX u (gf+1) 5 1 v xs.length (bytesV xs)
structure HsB (w0:World) (gf:Nat) (F:ShaF) (p:HP) (dA:Option Addr) (data:List UInt8) (v:Value) (xs:List UInt8) (A:Option Addr) (c:Nat) (V:S8) (u:World):Prop where
 a:HsA w0 gf F p dA data v xs u
 s:OwnX u (gf+1) 76 1 (.slice A 8 c) 8 (wordsV .u64 (s8L V))
section
variable {w0 u u':World} {gf:Nat} {F:ShaF} {p:HP} {dA A A':Option Addr} {data xs ys:List UInt8} {v v':Value} {c c':Nat} {V V':S8}
theorem HsSt.keep (h:HsSt w0 gf F p dA data u) (hb:Below (gf+1) u u'):HsSt w0 gf F p dA data u' :=
 ⟨h.bel.trans (hb.mono (by omega)),h.h.below hb (by omega),h.ok.below (hb.mono (by omega)),h.rd.below (hb.mono (by omega))⟩
theorem HsSt.next (h:HsSt w0 gf F p dA data u) (hb:Below u.heap.size u u'):HsSt w0 gf F p dA data u':=h.keep (hb.mono (by have:=h.h.lt; omega))
theorem HsSt.grow {e:TypeId} {s n:Nat} {v:Value} {zs:List Value} (h:HsSt w0 gf F p dA data u) (ho:OwnX u (gf+1) e s v n zs) (hg:u.grownBy u' v.ownBlock):HsSt w0 gf F p dA data u' :=
 h.keep (qbc hg (by have:=h.h.lt; omega) (fun k hk=>(ho.lt k hk).1))
theorem HsA.next (h:HsA w0 gf F p dA data v xs u) (hb:Below u.heap.size u u'):HsA w0 gf F p dA data v xs u':=⟨h.st.next hb,h.own.below hb (Nat.le_refl _)⟩
theorem HsA.drew (h:HsA w0 gf F p dA data v xs u):HsA w0 gf F p dA data v xs u.drew:=h.next (Below.refl _ _).drew
theorem HsA.app (h:HsA w0 gf F p dA data v xs u) (hg:u.grownBy u' v.ownBlock) (ho:OwnX u' (gf+1) 5 1 v' ys.length (bytesV ys)):HsA w0 gf F p dA data v' ys u':=⟨h.st.grow h.own hg,ho⟩
theorem HsB.next (h:HsB w0 gf F p dA data v xs A c V u) (hb:Below u.heap.size u u'):HsB w0 gf F p dA data v xs A c V u':=⟨h.a.next hb,h.s.below hb (Nat.le_refl _)⟩
theorem HsB.drew (h:HsB w0 gf F p dA data v xs A c V u):HsB w0 gf F p dA data v xs A c V u.drew:=h.next (Below.refl _ _).drew
theorem HsB.app (h:HsB w0 gf F p dA data v xs A c V u) (hg:u.grownBy u' v.ownBlock) (ho:OwnX u' (gf+1) 5 1 v' ys.length (bytesV ys)):HsB w0 gf F p dA data v' ys A c V u' :=
 ⟨h.a.app hg ho,h.s.kept hg (qdt h.s h.a.own (by decide))⟩
end
def zeroR (F:ShaF) (n:Nat):Nat:=(2*F.bits - (n+1+F.bits/4)%(2*F.bits))%(2*F.bits)
def lenB (F:ShaF) (n:Nat):List UInt8:=List.replicate (F.bits/4 - 8) 0++be8 (n*8) 8
theorem padR32 (data:List UInt8) (_:data.length≤1000):oneZ data (zeroR F32 data.length)++lenB F32 data.length=padS F32 data:=by
 have h:zeroR F32 data.length=zeroN F32 data.length:=by simp only [zeroR,zeroN,F32]; omega
 simp [padS,lenB,oneZ,moreN,F32] at *;rw [h]
theorem padR64 (data:List UInt8) (_:data.length≤1000):oneZ data (zeroR F64 data.length)++lenB F64 data.length=padS F64 data:=by
 have h:zeroR F64 data.length+8=zeroN F64 data.length+moreN F64 data.length:=by
  by_cases hm:112≤data.length%128∧data.length%128<120
  ·have e:moreN F64 data.length=128:=if_pos (show _∧_∧_ from ⟨by decide,hm.1,hm.2⟩);rw [e]; simp only [zeroR,zeroN,F64]; omega
  ·have e:moreN F64 data.length=0:=if_neg (fun h=>hm ⟨h.2.1,h.2.2⟩);rw [e]; simp only [zeroR,zeroN,F64]; omega
 have h2:List.replicate (zeroR F64 data.length) (0:UInt8)++List.replicate 8 0=List.replicate (zeroN F64 data.length) 0++List.replicate (moreN F64 data.length) 0:=by
  rw [List.replicate_append_replicate,List.replicate_append_replicate,h]
 rw [padS,lenB,oneZ];simp only [List.append_assoc];rw [show F64.bits/4 - 8=8 from rfl,← List.append_assoc (List.replicate (zeroR F64 data.length) 0),h2];simp only [List.append_assoc]
theorem be8_get (n:Nat):∀ (k i:Nat),i<k→(be8 n k)[i]?=some (UInt8.ofNat (n/2^(56 - 8*i)))
 | k+1,i,h=>by
  rw [be8,List.getElem?_append,qa8]
  split
  ·rename_i h2; exact be8_get n k i h2
  ·obtain rfl:i=k:=by omega
   simp
theorem lenB32_get (n i j:Nat) (h:i+j+1=8):(bytesV (lenB F32 n))[i]?=some (.int .u8 ((n*8/256^j%256:Nat):Int)):=by
 have e:lenB F32 n=be8 (n*8) 8:=rfl;rw [e,bytesV,List.getElem?_map,be8_get _ _ _ (by omega),show 56 - 8*i=8*j by omega,Nat.pow_mul];simp [byteV]
theorem lenB64_get (n i j:Nat) (hn:n≤1000) (h:i+j+1=16):(bytesV (lenB F64 n))[i]?=some (.int .u8 ((n*8/256^j%256:Nat):Int)):=by
 have e:lenB F64 n=List.replicate 8 0++be8 (n*8) 8:=rfl;rw [e,bytesV,List.getElem?_map,List.getElem?_append,List.length_replicate]
 split
 ·rename_i h8
  rw [List.getElem?_replicate,if_pos h8];have:n*8/256^j=0:=Nat.div_eq_of_lt (Nat.lt_of_lt_of_le (show n*8<256^8 by omega) (Nat.pow_le_pow_right (by decide) (by omega)));rw [this]; rfl
 ·rw [be8_get _ _ _ (by omega),show 56 - 8*(i - 8)=8*j by omega,Nat.pow_mul];simp [byteV]
theorem qdj (e:Nat) (ws:List UInt8) (j i:Nat) (v:Value) (R:Array Value) (hw:ws.length=e) (hi:i+j+1=e) (hv:(bytesV ws)[i]?=some v):(backC e ws j++R).setIfInBounds i v=backC e ws (j+1)++R:=by
 rw [← qeA e ws j i v hw hi hv];apply Array.ext';rw [Array.toList_setIfInBounds,Array.toList_append,Array.toList_append,Array.toList_setIfInBounds,List.set_append_left];rw [Array.length_toList,qcR e ws j hw (by omega)]; omega
theorem qdl (e:Nat) (ws:List UInt8) (j i:Nat) (R:Array Value) (hw:ws.length=e) (hi:i+j+1=e):∃ v,(backC e ws j++R)[i]?=some v:=by
 have h:=qcR e ws j hw (by omega);refine ⟨_,Array.getElem?_eq_getElem (by rw [Array.size_append,h]; omega)⟩
theorem own_blk {w:World} {base e n c:Nat} {A:Option Addr} {xs:List Value} (h:w.ownsRow base e 1 (.slice A n c) n xs) (hn:0<n):∃ g R,A=some ⟨g,0,none⟩∧base≤g∧n≤c∧Blk w g e (xs.toArray++R):=by
 rcases h.2 with ⟨_,h0⟩ | ⟨g,cap,cur,hv,hb,hg,hnc,_,_,ht⟩
 ·omega
 ·injection hv with h1 _ h3
  subst h1; subst h3;refine ⟨g,(cur.toList.drop n).toArray,rfl,hb,hnc,?_⟩
  have:xs.toArray++(cur.toList.drop n).toArray=cur:=by
   apply Array.ext';rw [Array.toList_append,← ht,Nat.mul_one];simp
  rw [this]; exact hg
theorem _root_.Go.Proofs.YtcbkaaodmjphdaaGreatDoor.Rd.of_blk_app {w:World} {g B:Nat} {t:TypeId} {l:List Value} {R:Array Value} (h:Blk w g t (l.toArray++R)) (hB:g<B):Rd w B (some ⟨g,0,none⟩) l:=fun i u hu=>by
 refine ⟨_,rfl,hB,?_⟩;have hadd:(⟨g,0,none⟩:Addr).add i=⟨g,i,none⟩:=by unfold Addr.add; split <;> simp_all
 have hlt:=(List.getElem?_eq_some_iff.1 hu).1;rw [hadd,h.cell i,Array.getElem?_append_left (by simpa using hlt)]
 simpa using hu
def HSumPost (F:ShaF) (m:Nat) (data:List UInt8) (w:World) (e:Ending) (w':World):Prop :=
 ∃ A c,e=.returned (.slice A m c)∧OwnX w' w.heap.size 5 1 (.slice A m c) m (bytesV (digS F data))∧Below w.heap.size w w'
theorem block32_any (p:HP) (S:S8) (blk:List UInt8) (bA sA:Option Addr) (bc sc B:Nat) (w:World) (hok:HOk F32 p w B) (hB:B≤w.heap.size) (hrb:Rd w B bA (bytesV blk)) (hrs:Rd w B sA (wordsV .u64 (s8L S)))
  (hbl:blk.length=64) (hbc:blk.length≤bc) (hsc:8≤sc) (hS:S.Lt (2^32)) :
  Calls Tryz.prog 79 #[.agg (hv F32 p),.slice sA 8 sc,.slice bA blk.length bc] w (BlockPost F32 S blk w):=by
 obtain ⟨W0,hW0⟩:=eX (w.alloc (.cells (hv F32 p) 108))
 have hst:BkSt w w.heap.size F32 p bA blk sA S W0:=by
  have hb:=below_new w (.cells (hv F32 p) 108);rw [hW0]; exact ⟨hb,Blk.new _ _ _,(hok.mono hB).below hb,(hrb.mono hB).below hb,(hrs.mono hB).below hb⟩
 obtain ⟨sad,rfl,hz1,hz2⟩:=hrs.at_ (k:=0) (by simp [wordsV,s8L]);obtain ⟨bad,rfl,hz3,hz4⟩:=hrb.at_ (k:=0) (by rw [qap,hbl]; decide);clear hz1 hz2 hz3 hz4;have hst0:=hst;rw [hW0] at hst0;have HST:=zY hst0;have HBL:=zY hbl;have HS:=zY hS;have hbc2:64≤bc:=by omega
 rw [hbl];obtain ⟨hh,hhh⟩:=eX (hv F32 p);obtain ⟨gf,hgf⟩:=eX (w.heap.size);have c0:=hst.h.cell 0;have c1:=hst.h.cell 1;rw [hW0,← hgf] at c0 c1;simp only [hv,hC,List.getElem?_toArray,List.getElem?_cons_zero,List.getElem?_cons_succ] at c0 c1;rw [← hgf] at hst0;clear HST;have HST:=zY hst0;have HH:=zY hhh;have HGF:=zY hgf;clear hst hst0 hbl hS hok hB hrb hrs hbc hW0 hhh hgf W0 c0 c1;go_enter Tryz.func79,Tryz.ntmps79;go_wp2;rw [show w.heap.size=gf from HGF.out.symm];have hst0:=HST.out;have hown0:OwnX (w.alloc (.cells (hv F32 p) 108)) (gf+1) 76 1 (.slice none 0 0) 0 (wordsV .u64 (rowW F32 blk 0)):=OwnX.nil _ _ _ _;clear HST
 go_loopw [7,8] (fun v i wr=>∃ (t:Nat) (A:Option Addr) (c:Nat),t≤16∧i=.int .i64 t∧v=.slice A t c∧BkSt w gf F32 p (some bad) blk (some sad) S wr∧OwnX wr (gf+1) 76 1 (.slice A t c) t (wordsV .u64 (rowW F32 blk t))) (fun _ i _=>16 - (intOf i).toNat)
 case atStart=>exact ⟨0,none,0,by omega,rfl,rfl,hst0,hown0⟩
 case round =>
  obtain ⟨t,A,c,ht,rfl,rfl,hst,hown⟩:=hrel;clear hst0 hown0;have c0:=hst.h.cell 0;simp only [hv,hC,List.getElem?_toArray,List.getElem?_cons_zero,F32] at c0
  by_cases hlt:t<16
  ·have hlt':(t:Int)<16:=by omega
   obtain ⟨tE,htE⟩:∃ tE:Nat,tE=t*4:=⟨_,rfl⟩;have hq:(t:Int)*32/8=(tE:Int):=by omega
   obtain ⟨pc,hpc⟩:=eX ((blk.drop tE).take 4);have hpl:pc.length=4:=by rw [hpc]; simp; rw [HBL.out]; omega
   have hrp:∀ u,BkSt w gf F32 p (some bad) blk (some sad) S u→∀ j z,pc[j]?=some z→u.cell? (bad.add (tE+j))=some (.int .u8 (z.toNat:Int)):=fun u hu j z hz=>by
    refine hu.rb.val ?_;rw [hpc,List.getElem?_take] at hz
    split at hz
    ·rw [List.getElem?_drop] at hz;rw [bytesV,List.getElem?_map,hz]; rfl
    ·cases hz
   have HST:=zY hst;have HOWN:=zY hown;have HPC:=zY hpc;have HPL:=zY hpl;have HRP:=zY hrp;have HTE:=zY htE;have htE2:tE≤64 - 4:=by omega
   clear hst hown hpc hpl hrp htE;go_wp2_with fail;obtain ⟨wo,rfl⟩:∃ wo:World,wo=wr:=⟨_,rfl⟩
   go_loop [9,10] (fun v i=>∃ j:Nat,j≤4∧i=.int .i64 j∧v=.int .u64 (beN (pc.take j):Nat)) (fun _ i=>4 - (intOf i).toNat)
   case atStart=>exact ⟨0,by omega,rfl,rfl⟩
   case round =>
    obtain ⟨j,hj,rfl,rfl⟩:=hrel;obtain ⟨x,hx⟩:=eX (beN (pc.take j));rw [← hx]
    by_cases hjl:j<4
    ·have hjl':(j:Int)<4:=by omega
     have hpj:j<pc.length:=by rw [HPL.out]; exact hjl
     obtain ⟨z,hz⟩:=eX (pc[j]);have hcl:=HRP.out _ HST.out j z (by rw [hz]; exact List.getElem?_eq_getElem hpj);have hzl:=z.toNat_lt
     have hxl:x<256^(4 - 1):=by
      rw [hx];have h1:=beN_lt (pc.take j);have h2:(pc.take j).length≤j:=List.length_take_le _ _;exact Nat.lt_of_lt_of_le h1 (Nat.pow_le_pow_right (by omega) (by omega))
     have hs2:beN (pc.take (j+1))=x*256+z.toNat:=by
      rw [List.take_succ_eq_append_getElem hpj,qdV,hx,hz]
     have hb1:(x:Int)*256+(z.toNat:Int)<18446744073709551616:=by omega
     have hb2:(x:Int)*256<18446744073709551616:=by omega
     obtain ⟨ix,hix⟩:=eX (tE+j);have hlx:tE+j<64:=by omega
     have HS2:=zY hs2;clear hx hz hs2 hpj hxl hix;go_wp2_with fail;exact ⟨⟨j+1,by omega,by go_num,by rw [HS2.out]; go_num⟩,by simp [intOf]; omega⟩
    ·have hge:¬ (j:Int)<4:=by omega
     obtain rfl:j=4:=by omega
     have hpc2:pieceN (F32.bits/8) blk t=x:=by rw [hx,List.take_of_length_le (by rw [HPL.out]; omega),HPC.out,HTE.out]; rfl
     have HX:=zY hpc2;clear hx hpc2;go_wp2_with (refine qao qb7 rfl rfl HOWN.out rfl rfl rfl rfl (by unfold maxLen; omega) (by omega) (by have:=HST.out.h.lt; omega) ?_; intro A2 c2 w2 hown2 hg2 hn2; have HOWN2:=zY hown2; have HG2:=zY hg2; clear hown2 hg2 hn2);refine ⟨⟨t+1,A2,c2,by omega,by go_num,rfl,HST.out.grow HOWN.out HG2.out,?_⟩,by simp [intOf]; omega⟩;rw [rowW,if_pos hlt,HX.out,qby];exact HOWN2.out
  ·obtain rfl:t=16:=by omega
   have hsw:BkW w gf F32 p (some bad) blk (some sad) S (.slice A 16 c) (rowW F32 blk 16) wr:=⟨hst,by rw [qaC]; exact hown⟩;clear hst hown;go_wp2_with fail;rw [show ((16:Nat):Int)=16 from rfl];obtain ⟨wo,rfl⟩:∃ wo:World,wo=wr:=⟨_,rfl⟩
   go_loopw [7,11] (fun v i wr=>∃ (t:Nat) (A:Option Addr) (c:Nat),16≤t∧t≤64∧i=.int .i64 t∧v=.slice A t c∧BkW w gf F32 p (some bad) blk (some sad) S (.slice A t c) (rowW F32 blk t) wr) (fun _ i _=>64 - (intOf i).toNat)
   case atStart=>exact ⟨16,A,c,by omega,by omega,rfl,rfl,hsw⟩
   case round =>
    clear hsw;clear c0;obtain ⟨t,A,c,ht16,htM,rfl,rfl,hsw⟩:=hrel;have c1:=hsw.st.h.cell 1;simp only [hv,hC,List.getElem?_toArray,List.getElem?_cons_zero,List.getElem?_cons_succ,F32] at c1
    by_cases hlt:t<64
    ·have hlt':(t:Int)<64:=by omega
     obtain ⟨g,rfl,hgb,hgl⟩:=(show OwnX wr (gf+1) 76 1 (.slice A t c) t (wordsV .u64 (rowW F32 blk t)) by have:=hsw.own; rwa [qaC] at this).ptr (by omega)
     have hct:t≤c:=by
      have ho:OwnX wr (gf+1) 76 1 (.slice (some ⟨g,0,none⟩) t c) t (wordsV .u64 (rowW F32 blk t)):=by have:=hsw.own; rwa [qaC] at this
      exact ho.le_cap
     obtain ⟨l,hl⟩:=eX (rowW F32 blk t);have hlen:l.length=t:=by rw [hl]; exact qaC _ _ _
     have hlw:∀ i,l.getD i 0<2^32:=by rw [hl]; exact qbZ (qci F32 (by decide) blk t) (by decide)
     rw [← hl] at hsw;obtain ⟨a16,h16⟩:=eX (l.getD (t - 16) 0);obtain ⟨a15,h15⟩:=eX (l.getD (t - 15) 0);obtain ⟨a7,h7⟩:=eX (l.getD (t - 7) 0);obtain ⟨a2,h2⟩:=eX (l.getD (t - 2) 0);obtain ⟨m1,hm1⟩:=eX (allF F32 a15 F32.t0 true);obtain ⟨m2,hm2⟩:=eX (allF F32 a2 F32.t1 true);obtain ⟨s1,hs1⟩:=eX ((a16+m1)%2^64);obtain ⟨s2,hs2⟩:=eX ((s1+a7)%2^64);obtain ⟨s3,hs3⟩:=eX ((s2+m2)%2^64);have W15:Hid (a15<2^32):=zY (by rw [h15]; exact hlw _);have W2:Hid (a2<2^32):=zY (by rw [h2]; exact hlw _);have hnw:nextW F32 l t=s3%2^32:=by rw [hs3,hs2,hs1,hm1,hm2,h16,h15,h7,h2]; exact next_32 _ _ _ _
     have hs3l:s3<18446744073709551616:=by rw [hs3]; exact Nat.mod_lt _ (by decide)
     have HL:=zY hl;have HLEN:=zY hlen;have H16:=zY h16;have H15:=zY h15;have H7:=zY h7;have H2:=zY h2;have HM1:=zY hm1;have HM2:=zY hm2;have HS1:=zY hs1;have HS2:=zY hs2;have HS3:=zY hs3;have HNW:=zY hnw;have HS3L:=zY hs3l;clear hl hlen hlw h16 h15 h7 h2 hm1 hm2 hs1 hs2 hs3 hnw hs3l;have hu:=Tryz.underlying108;have HC0:=hsw.drew;have HSW:=zY hsw;clear hsw;go_wp2_with fail;refine qal (fun u=>BkW w gf F32 p (some bad) blk (some sad) S (.slice (some ⟨g,0,none⟩) t c) l u) (fun u=>BkW w gf F32 p (some bad) blk (some sad) S (.slice (some ⟨g,0,none⟩) t c) l u) [(0,some 57),(1,some 58),(2,some 59),(3,some 60),(4,some 61),(5,some 62),(6,some 63),(7,some 64),(8,some 65),(9,some 66),(10,some 67),(11,some 68),(12,some 69),(13,some 70),(14,some 71),(15,some 72),(16,some 73),(17,some 74),(18,some 75),(19,some 76),(20,some 77),(21,some 78),(22,some 79),(23,some 80),(24,some 81),(25,some 82),(26,some 83),(27,some 84),(28,some 85),(29,some 86),(30,some 87),(31,some 12)] (by kernel_rfl) (by kernel_rfl) (by decide) (by kernel_rfl) (fun _=>rfl) HC0 ?_;apply yN_
     ·apply dP [];exact fun _=>rfl;rfl;rintro vals - w1 hC1 E hE;simp only [puts,qae,qaa,sIB,sCZ,sCS] at hE ⊢;go_wp2;exact .mk (hE _ hC1)
     apply yN_
     ·apply dP [];exact fun _=>rfl;rfl;rintro vals ⟨-,-⟩ w1 hC1 E hE;simp only [puts,qae,qaa,sIB,sCZ,sCS] at hE ⊢;go_wp2;exact .mk (hE _ hC1)
     apply yN_
     ·apply dP [(1,some 58)];exact fun _=>rfl;rfl;rintro vals ⟨⟨-,-⟩,f1⟩ w1 hC1 E hE;simp only [puts,qae,qaa,sIB,sCZ,sCS,f1] at hE ⊢;clear f1;go_wp2;exact .mk (hE _ hC1)
     apply yN_
     ·apply dP [(0,some 57),(2,some 59)];exact fun _=>rfl;rfl;rintro vals ⟨⟨⟨-,f0⟩,-⟩,f2⟩ w1 hC1 E hE;simp only [puts,qae,qaa,sIB,sCZ,sCS,f0,f2] at hE ⊢;clear f0 f2;go_wp2;exact .mk (hE _ hC1)
     apply yN_
     ·apply dP [(3,some 60)];exact fun _=>rfl;rfl;intro vals vq w1 hC1 E hE;have f3:=vq.2;clear vq;have d0:=hC1.at_ (i:=t - 16) HLEN.out (by omega);rw [← H16.out] at d0;simp only [puts,qae,qaa,sIB,sCZ,sCS,f3] at hE ⊢;clear f3;go_wp2;exact .mk (hE _ hC1)
     apply yN_
     ·apply dP [];exact fun _=>rfl;rfl;intro vals vq w1 hC1 E hE;clear vq;simp only [puts,qae,qaa,sIB,sCZ,sCS] at hE ⊢;refine qac hC1.st.h rfl rfl rfl hu rfl qaJ ?_;go_wp2_with fail;exact .mk (hE _ hC1)
     apply yN_
     ·apply dP [];exact fun _=>rfl;rfl;intro vals vq w1 hC1 E hE;clear vq;simp only [puts,qae,qaa,sIB,sCZ,sCS] at hE ⊢;go_wp2;exact .mk (hE _ hC1)
     apply yN_
     ·apply dP [];exact fun _=>rfl;rfl;intro vals vq w1 hC1 E hE;clear vq;simp only [puts,qae,qaa,sIB,sCZ,sCS] at hE ⊢;go_wp2;exact .mk (hE _ hC1)
     apply yN_
     ·apply dP [(7,some 64)];exact fun _=>rfl;rfl;intro vals vq w1 hC1 E hE;have f7:=vq.2;clear vq;simp only [puts,qae,qaa,sIB,sCZ,sCS,f7] at hE ⊢;clear f7;go_wp2;exact .mk (hE _ hC1)
     apply yN_
     ·apply dP [(6,some 63),(8,some 65)];exact fun _=>rfl;rfl;intro vals vq w1 hC1 E hE;have f6:=vq.1.1.2;have f8:=vq.2;clear vq;simp only [puts,qae,qaa,sIB,sCZ,sCS,f6,f8] at hE ⊢;clear f6 f8;go_wp2;exact .mk (hE _ hC1)
     apply yN_
     ·apply dP [(9,some 66)];exact fun _=>rfl;rfl;intro vals vq w1 hC1 E hE;have f9:=vq.2;clear vq;have d0:=hC1.at_ (i:=t - 15) HLEN.out (by omega);rw [← H15.out] at d0;simp only [puts,qae,qaa,sIB,sCZ,sCS,f9] at hE ⊢;clear f9;go_wp2;exact .mk (hE _ hC1)
     apply yN_
     ·apply dP [];exact fun _=>rfl;rfl;intro vals vq w1 hC1 E hE;clear vq;simp only [puts,qae,qaa,sIB,sCZ,sCS] at hE ⊢;go_wp2;exact .mk (hE _ hC1)
     apply yN_
     ·apply dP [(11,some 68)];exact fun _=>rfl;rfl;intro vals vq w1 hC1 E hE;have f11:=vq.2;clear vq;have d0:=hC1.st.h.cell 4;simp [hv,hC] at d0;simp only [puts,qae,qaa,sIB,sCZ,sCS,f11] at hE ⊢;clear f11;go_wp2;exact .mk (hE _ hC1)
     apply yN_
     ·apply dP [(5,some 62),(10,some 67),(12,some 69)];exact fun _=>rfl;rfl;intro vals vq w1 hC1 E hE;have f5:=vq.1.1.1.1.1.1.1.2;have f10:=vq.1.1.2;have f12:=vq.2;clear vq;simp only [puts,qae,qaa,sIB,sCZ,sCS,f5,f10,f12] at hE ⊢;clear f5 f10 f12;go_wp2_with fail;refine qab (qbS 32 64 _ _ _ _ _ _ _ (.inl rfl) a15 _ _ _ true W15.out (by decide) (by decide) (by decide) _ _ gf hC1.st.ok.c (by have:=hC1.st.h.lt; omega) hC1.st.ok.cc) ?_;rintro e w2 ⟨rfl,hb2⟩;rw [show allN 32 a15 _ _ _ true=m1 from HM1.out.symm];go_wp2_with fail;exact .mk (hE _ (hC1.next hb2))
     apply yN_
     ·apply dP [(4,some 61),(13,some 70)];exact fun _=>rfl;rfl;intro vals vq w1 hC1 E hE;have f4:=vq.1.1.1.1.1.1.1.1.1.2;have f13:=vq.2;clear vq;simp only [puts,qae,qaa,sIB,sCZ,sCS,f4,f13] at hE ⊢;clear f4 f13;go_wp2;rw [qaQ a16 m1,← HS1.out];exact .mk (hE _ hC1)
     apply yN_
     ·apply dP [];exact fun _=>rfl;rfl;intro vals vq w1 hC1 E hE;clear vq;simp only [puts,qae,qaa,sIB,sCZ,sCS] at hE ⊢;go_wp2;exact .mk (hE _ hC1)
     apply yN_
     ·apply dP [];exact fun _=>rfl;rfl;intro vals vq w1 hC1 E hE;clear vq;simp only [puts,qae,qaa,sIB,sCZ,sCS] at hE ⊢;go_wp2;exact .mk (hE _ hC1)
     apply yN_
     ·apply dP [(16,some 73)];exact fun _=>rfl;rfl;intro vals vq w1 hC1 E hE;have f16:=vq.2;clear vq;simp only [puts,qae,qaa,sIB,sCZ,sCS,f16] at hE ⊢;clear f16;go_wp2;exact .mk (hE _ hC1)
     apply yN_
     ·apply dP [(15,some 72),(17,some 74)];exact fun _=>rfl;rfl;intro vals vq w1 hC1 E hE;have f15:=vq.1.1.2;have f17:=vq.2;clear vq;simp only [puts,qae,qaa,sIB,sCZ,sCS,f15,f17] at hE ⊢;clear f15 f17;go_wp2;exact .mk (hE _ hC1)
     apply yN_
     ·apply dP [(18,some 75)];exact fun _=>rfl;rfl;intro vals vq w1 hC1 E hE;have f18:=vq.2;clear vq;have d0:=hC1.at_ (i:=t - 7) HLEN.out (by omega);rw [← H7.out] at d0;simp only [puts,qae,qaa,sIB,sCZ,sCS,f18] at hE ⊢;clear f18;go_wp2;exact .mk (hE _ hC1)
     apply yN_
     ·apply dP [(14,some 71),(19,some 76)];exact fun _=>rfl;rfl;intro vals vq w1 hC1 E hE;have f14:=vq.1.1.1.1.1.2;have f19:=vq.2;clear vq;simp only [puts,qae,qaa,sIB,sCZ,sCS,f14,f19] at hE ⊢;clear f14 f19;go_wp2;rw [qaQ s1 a7,← HS2.out];exact .mk (hE _ hC1)
     apply yN_
     ·apply dP [];exact fun _=>rfl;rfl;intro vals vq w1 hC1 E hE;clear vq;simp only [puts,qae,qaa,sIB,sCZ,sCS] at hE ⊢;refine qac hC1.st.h rfl rfl rfl hu rfl qaJ ?_;go_wp2_with fail;exact .mk (hE _ hC1)
     apply yN_
     ·apply dP [];exact fun _=>rfl;rfl;intro vals vq w1 hC1 E hE;clear vq;simp only [puts,qae,qaa,sIB,sCZ,sCS] at hE ⊢;go_wp2;exact .mk (hE _ hC1)
     apply yN_
     ·apply dP [];exact fun _=>rfl;rfl;intro vals vq w1 hC1 E hE;clear vq;simp only [puts,qae,qaa,sIB,sCZ,sCS] at hE ⊢;go_wp2;exact .mk (hE _ hC1)
     apply yN_
     ·apply dP [(23,some 80)];exact fun _=>rfl;rfl;intro vals vq w1 hC1 E hE;have f23:=vq.2;clear vq;simp only [puts,qae,qaa,sIB,sCZ,sCS,f23] at hE ⊢;clear f23;go_wp2;exact .mk (hE _ hC1)
     apply yN_
     ·apply dP [(22,some 79),(24,some 81)];exact fun _=>rfl;rfl;intro vals vq w1 hC1 E hE;have f22:=vq.1.1.2;have f24:=vq.2;clear vq;simp only [puts,qae,qaa,sIB,sCZ,sCS,f22,f24] at hE ⊢;clear f22 f24;go_wp2;exact .mk (hE _ hC1)
     apply yN_
     ·apply dP [(25,some 82)];exact fun _=>rfl;rfl;intro vals vq w1 hC1 E hE;have f25:=vq.2;clear vq;have d0:=hC1.at_ (i:=t - 2) HLEN.out (by omega);rw [← H2.out] at d0;simp only [puts,qae,qaa,sIB,sCZ,sCS,f25] at hE ⊢;clear f25;go_wp2;exact .mk (hE _ hC1)
     apply yN_
     ·apply dP [];exact fun _=>rfl;rfl;intro vals vq w1 hC1 E hE;clear vq;simp only [puts,qae,qaa,sIB,sCZ,sCS] at hE ⊢;go_wp2;exact .mk (hE _ hC1)
     apply yN_
     ·apply dP [(27,some 84)];exact fun _=>rfl;rfl;intro vals vq w1 hC1 E hE;have f27:=vq.2;clear vq;have d0:=hC1.st.h.cell 5;simp [hv,hC] at d0;simp only [puts,qae,qaa,sIB,sCZ,sCS,f27] at hE ⊢;clear f27;go_wp2;exact .mk (hE _ hC1)
     apply yN_
     ·apply dP [(21,some 78),(26,some 83),(28,some 85),(13,some 70)];exact fun _=>rfl;rfl;intro vals vq w1 hC1 E hE;have f13:=vq.1.1.1.1.1.1.1.1.1.1.1.1.1.1.1.2;have f21:=vq.1.1.1.1.1.1.1.2;have f26:=vq.1.1.2;have f28:=vq.2;clear vq;simp only [puts,qae,qaa,sIB,sCZ,sCS,f13,f21,f26,f28] at hE ⊢;clear f13 f21 f26 f28;go_wp2_with fail;refine qab (qbS 32 64 _ _ _ _ _ _ _ (.inl rfl) a2 _ _ _ true W2.out (by decide) (by decide) (by decide) _ _ gf hC1.st.ok.d (by have:=hC1.st.h.lt; omega) hC1.st.ok.cd) ?_;rintro e w2 ⟨rfl,hb2⟩;rw [show allN 32 a2 _ _ _ true=m2 from HM2.out.symm];go_wp2_with fail;exact .mk (hE _ (hC1.next hb2))
     apply yN_
     ·apply dP [(20,some 77),(29,some 86)];exact fun _=>rfl;rfl;intro vals vq w1 hC1 E hE;have f20:=vq.1.1.1.1.1.1.1.1.1.2;have f29:=vq.2;clear vq;simp only [puts,qae,qaa,sIB,sCZ,sCS,f20,f29] at hE ⊢;clear f20 f29;go_wp2;rw [qaQ s2 m2,← HS3.out];exact .mk (hE _ hC1)
     apply yL_
     ·apply dP [(30,some 87),(29,some 86),(0,some 57),(1,some 58),(2,some 59),(3,some 60),(4,some 61),(5,some 62),(6,some 63),(7,some 64),(8,some 65),(9,some 66),(10,some 67),(11,some 68),(12,some 69),(13,some 70),(14,some 71),(15,some 72),(16,some 73),(17,some 74),(18,some 75),(19,some 76),(20,some 77),(21,some 78),(22,some 79),(23,some 80),(24,some 81),(25,some 82),(26,some 83),(27,some 84),(28,some 85),(29,some 86),(30,some 87)];exact fun _=>rfl;rfl;rintro vals ⟨⟨⟨⟨⟨⟨⟨⟨⟨⟨⟨⟨⟨⟨⟨⟨⟨⟨⟨⟨⟨⟨⟨⟨⟨⟨⟨⟨⟨⟨⟨-,f0⟩,f1⟩,f2⟩,f3⟩,f4⟩,f5⟩,f6⟩,f7⟩,f8⟩,f9⟩,f10⟩,f11⟩,f12⟩,f13⟩,f14⟩,f15⟩,f16⟩,f17⟩,f18⟩,f19⟩,f20⟩,f21⟩,f22⟩,f23⟩,f24⟩,f25⟩,f26⟩,f27⟩,f28⟩,f29⟩,f30⟩ w1 hC1 E hE;simp only [puts,qae,qaa,sIB,sCZ,sCS,f0,f1,f2,f3,f4,f5,f6,f7,f8,f9,f10,f11,f12,f13,f14,f15,f16,f17,f18,f19,f20,f21,f22,f23,f24,f25,f26,f27,f28,f29,f30] at hE ⊢;clear f0 f1 f2 f3 f4 f5 f6 f7 f8 f9 f10 f11 f12 f13 f14 f15 f16 f17 f18 f19 f20 f21 f22 f23 f24 f25 f26 f27 f28 f29 f30;go_wp2;exact .mk (hE _ hC1)
     rintro vals ⟨⟨⟨⟨⟨⟨⟨⟨⟨⟨⟨⟨⟨⟨⟨⟨⟨⟨⟨⟨⟨⟨⟨⟨⟨⟨⟨⟨⟨⟨⟨⟨-,f0⟩,f1⟩,f2⟩,f3⟩,f4⟩,f5⟩,f6⟩,f7⟩,f8⟩,f9⟩,f10⟩,f11⟩,f12⟩,f13⟩,f14⟩,f15⟩,f16⟩,f17⟩,f18⟩,f19⟩,f20⟩,f21⟩,f22⟩,f23⟩,f24⟩,f25⟩,f26⟩,f27⟩,f28⟩,f29⟩,f30⟩,f31⟩ w1 hC1;simp only [puts,qae,qaa,sIB,sCZ,sCS,f0,f1,f2,f3,f4,f5,f6,f7,f8,f9,f10,f11,f12,f13,f14,f15,f16,f17,f18,f19,f20,f21,f22,f23,f24,f25,f26,f27,f28,f29,f30,f31];clear f0 f1 f2 f3 f4 f5 f6 f7 f8 f9 f10 f11 f12 f13 f14 f15 f16 f17 f18 f19 f20 f21 f22 f23 f24 f25 f26 f27 f28 f29 f30 f31;clear HC0;have HC1:=zY hC1;clear hC1 HSW;go_wp2_with (refine qac (x:=.tmp 3) HC1.out.st.h rfl rfl rfl hu rfl qaJ ?_);obtain ⟨nv,hnv⟩:=eX (s3%2^32);refine qab (qbJ 32 64 _ _ _ _ _ _ _ (.inl rfl) s3 HS3L.out) ?_;rintro e w2 ⟨rfl,hb2⟩;rw [← hnv];have hw2:=HC1.out.next hb2;have HO2:Hid (OwnX w2 (gf+1) 76 1 (.slice (some ⟨g,0,none⟩) t c) t (wordsV .u64 l)):=zY (by have:=hw2.own; rwa [HLEN.out] at this);have HW2:=zY hw2;have HNV:=zY hnv;clear hw2 hb2 hnv HC1;go_wp2_with (refine qao qb7 rfl rfl HO2.out rfl rfl rfl rfl (by unfold maxLen; omega) (by omega) (by have:=HW2.out.st.h.lt; omega) ?_; intro A3 c3 w3 hown3 hg3 hn3; have HOWN3:=zY hown3; have HG3:=zY hg3; clear hown3 hg3 hn3);refine ⟨⟨t+1,A3,c3,by omega,by omega,by go_num,rfl,?_⟩,by simp [intOf]; omega⟩;have h:=HW2.out.app (v':=.slice A3 (t+1) c3) (x:=nv) (by rw [HLEN.out]; exact HOWN3.out) HG3.out;rw [rowW,if_neg (show ¬ t<16 by omega),← HL.out,HNW.out,← HNV.out];exact h
    ·obtain rfl:t=64:=by omega
     obtain ⟨g,rfl,hgb,hgl⟩:=(show OwnX wr (gf+1) 76 1 (.slice A 64 c) 64 (wordsV .u64 (rowW F32 blk 64)) by have:=hsw.own; rwa [qaC] at this).ptr (by omega)
     have hct:64≤c:=by
      have ho:OwnX wr (gf+1) 76 1 (.slice (some ⟨g,0,none⟩) 64 c) 64 (wordsV .u64 (rowW F32 blk 64)):=by have:=hsw.own; rwa [qaC] at this
      exact ho.le_cap
     obtain ⟨RW,hRW⟩:=eX (rowW F32 blk 64);have hlen:RW.length=64:=by rw [hRW]; exact qaC _ _ _
     have hlw:∀ i,RW.getD i 0<2^32:=by rw [hRW]; exact qbZ (qci F32 (by decide) blk 64) (by decide)
     rw [← hRW] at hsw;have hwx:(wordsV .u64 (s8L S)).length=8:=rfl;have HSW:=zY hsw;have HLEN:=zY hlen;have HRW:=zY hRW;have HLW:=zY hlw;clear hsw hlen hRW hlw;go_wp2_with (refine qaz (base:=gf+1) (n:=0) (v:=.slice none 0 0) (xs:=[]) (news:=wordsV .u64 (s8L S)) qb7 rfl rfl (OwnX.nil _ _ _ _) rfl rfl rfl HSW.out.st.rs (by intro u hu; simp [wordsV] at hu; obtain ⟨_,_,rfl⟩:=hu; rfl) (by unfold maxLen; omega) (by omega) (by have:=HSW.out.st.h.lt; omega) ?_; intro A4 c4 w4 hown4 hg4 hn4; have HOWN4:=zY hown4; have HG4:=zY hg4; clear hown4 hg4 hn4);obtain ⟨g2,rfl,hgb2,hgl2⟩:=(show OwnX w4 (gf+1) 76 1 (.slice A4 8 c4) 8 (wordsV .u64 (s8L S)) by simpa using HOWN4.out).ptr (by omega)
     have hsr:BkR w gf F32 p (some bad) blk (some sad) S (.slice (some ⟨g,0,none⟩) 64 c) RW g2 c4 (mixTo F32 RW S 0) w4:=by
      have hnx:=HSW.out.own;have hg5:=HG4.out;refine ⟨⟨HSW.out.st.keep (qbc hg5 (by have:=HSW.out.st.h.lt; omega) (by intro k hk; simp [Value.ownBlock] at hk)),hnx.kept hg5 (.inr (by simp [Value.ownBlock]))⟩,?_⟩;show OwnX w4 (gf+1) 76 1 (.slice (some ⟨g2,0,none⟩) 8 c4) 8 (wordsV .u64 (s8L S))
      simpa using HOWN4.out
     have HSR:=zY hsr;clear hsr HOWN4 HG4 HSW c1 hgb hgl hgb2 hgl2;obtain ⟨wo2,rfl⟩:∃ wo2:World,wo2=w4:=⟨_,rfl⟩;go_wp2_with fail
     go_loopw [13,14] (fun v i wr=>∃ t g2 c2:Nat,t≤64∧i=.int .i64 t∧v=.slice (some ⟨g2,0,none⟩) 8 c2∧BkR w gf F32 p (some bad) blk (some sad) S (.slice (some ⟨g,0,none⟩) 64 c) RW g2 c2 (mixTo F32 RW S t) wr) (fun _ i _=>64 - (intOf i).toNat)
     case atStart=>exact ⟨0,g2,c4,by omega,rfl,rfl,HSR.out⟩
     case round =>
      obtain ⟨t,g2,c2,ht,rfl,rfl,hsr⟩:=hrel;have c1:=hsr.w.st.h.cell 1;simp only [hv,hC,List.getElem?_toArray,List.getElem?_cons_zero,List.getElem?_cons_succ,F32] at c1;have hc8:=hsr.le
      by_cases hlt:t<64
      ·have hlt':(t:Int)<64:=by omega
       obtain ⟨vv,hvv⟩:=eX (mixTo F32 RW S t);have hvl:vv.Lt (2^32):=by rw [hvv]; exact qc9 HS.out t
       rw [← hvv] at hsr;have HVV:=zY hvv;obtain ⟨va,vb,vc,vd,ve,vf,vg,vh⟩:=vv;have HL8:=zY hvl;obtain ⟨wk,hwk⟩:=eX (RW.getD t 0);obtain ⟨kk,hkk⟩:=eX (kN F32 t);obtain ⟨big,hbig⟩:∃ x:Nat,x=18446744073709551615:=⟨_,rfl⟩;obtain ⟨on,hon⟩:=eX (big%2^32);obtain ⟨XA,hXA⟩:=eX (allF F32 ve F32.s1 false);obtain ⟨p1,hp1⟩:=eX ((vh+XA)%2^64);obtain ⟨af,haf⟩:=eX (ve &&& vf);obtain ⟨ne,hne⟩:=eX (on ^^^ ve);obtain ⟨ng,hng⟩:=eX (ne &&& vg);obtain ⟨ch,hch⟩:=eX (af ^^^ ng);obtain ⟨p2,hp2⟩:=eX ((p1+ch)%2^64);obtain ⟨p3,hp3⟩:=eX ((p2+kk)%2^64);obtain ⟨p4,hp4⟩:=eX ((p3+wk)%2^64);obtain ⟨xx,hxx⟩:=eX (p4%2^32);obtain ⟨YA,hYA⟩:=eX (allF F32 va F32.s0 false);obtain ⟨ab,hab⟩:=eX (va &&& vb);obtain ⟨ac,hac⟩:=eX (va &&& vc);obtain ⟨bc2,hbc2'⟩:∃ x,x=vb &&& vc:=⟨_,rfl⟩;obtain ⟨x1,hx1⟩:=eX (ab ^^^ ac);obtain ⟨mj,hmj⟩:=eX (x1 ^^^ bc2);obtain ⟨q1,hq1⟩:=eX ((YA+mj)%2^64);obtain ⟨yy,hyy⟩:=eX (q1%2^32);obtain ⟨z1,hz1⟩:=eX ((xx+yy)%2^64);obtain ⟨za,hza⟩:=eX (z1%2^32);obtain ⟨z2,hz2⟩:=eX ((vd+xx)%2^64);obtain ⟨ze,hze⟩:=eX (z2%2^32);have lon:on<2^64:=by rw [hon,hbig]; decide
       have l64:∀ z,z<2^32→z<2^64:=fun z hz=>Nat.lt_of_lt_of_le hz (by decide);have laf:af<2^64:=by rw [haf]; exact qbF (l64 _ hvl.e)
       have lne:ne<2^64:=by rw [hne]; exact Nat.xor_lt_two_pow lon (l64 _ hvl.e)
       have lng:ng<2^64:=by rw [hng]; exact qbF lne
       have lab:ab<2^64:=by rw [hab]; exact qbF (l64 _ hvl.a)
       have lac:ac<2^64:=by rw [hac]; exact qbF (l64 _ hvl.a)
       have lbc:bc2<2^64:=by rw [hbc2']; exact qbF (l64 _ hvl.b)
       have lx1:x1<2^64:=by rw [hx1]; exact Nat.xor_lt_two_pow lab lac
       have hmx:mixX F32 ⟨va,vb,vc,vd,ve,vf,vg,vh⟩ kk wk=xx:=by
        rw [hxx,hp4,hp3,hp2,hp1,hch,hng,hne,hon,hbig,haf,hXA];rw [show 18446744073709551615%2^32=2^32 - 1 by decide,ones_xor 32 ve hvl.e];exact mixX_r32 _ _ _ _ _
       have hmy:mixY F32 ⟨va,vb,vc,vd,ve,vf,vg,vh⟩=yy:=by
        rw [hyy,hq1,hmj,hx1,hab,hac,hbc2',hYA];exact mod_r32 _ _
       have hstp:stepS F32 ⟨va,vb,vc,vd,ve,vf,vg,vh⟩ kk wk=⟨za,va,vb,vc,ze,ve,vf,vg⟩:=by
        have e1:(xx+yy)%2^32=za:=by rw [hza,hz1]; exact mod_r32 _ _
        have e2:(vd+xx)%2^32=ze:=by rw [hze,hz2]; exact mod_r32 _ _
        rw [stepS,hmx,hmy];show S8.mk ((xx+yy)%2^32) va vb vc ((vd+xx)%2^32) ve vf vg=_;rw [e1,e2]
       have hm1:mixTo F32 RW S (t+1)=⟨za,va,vb,vc,ze,ve,vf,vg⟩:=by rw [mixTo,← HVV.out,← hkk,← hwk]; exact hstp
       have HM1:=zY hm1;have LP4:Hid (p4<18446744073709551616):=zY (by rw [hp4]; exact Nat.mod_lt _ (by decide));have LQ1:Hid (q1<18446744073709551616):=zY (by rw [hq1]; exact Nat.mod_lt _ (by decide));have LZ1:Hid (z1<18446744073709551616):=zY (by rw [hz1]; exact Nat.mod_lt _ (by decide));have LZ2:Hid (z2<18446744073709551616):=zY (by rw [hz2]; exact Nat.mod_lt _ (by decide));have LON:=zY lon;have L64:=zY l64;have LAF:=zY laf;have LNE:=zY lne;have LNG:=zY lng;have LAB:=zY lab;have LAC:=zY lac;have LBC:=zY lbc;have LX1:=zY lx1;have HWK:=zY hwk;have HKK:=zY hkk;have HON:=zY hon;have HBIG:=zY hbig;have HXA:=zY hXA;have HP1:=zY hp1;have HAF:=zY haf;have HNE:=zY hne;have HNG:=zY hng;have HCH:=zY hch;have HP2:=zY hp2;have HP3:=zY hp3;have HP4:=zY hp4;have HXX:=zY hxx;have HYA:=zY hYA;have HAB:=zY hab;have HAC:=zY hac;have HBC:=zY hbc2';have HX1:=zY hx1;have HMJ:=zY hmj;have HQ1:=zY hq1;have HYY:=zY hyy;have HZ1:=zY hz1;have HZA:=zY hza;have HZ2:=zY hz2;have HZE:=zY hze;have hu:=Tryz.underlying108;have d4:=hsr.r.atN (i:=4) (v:=.int .u64 (ve:Int)) rfl;have d0:=hsr.r.atN (i:=0) (v:=.int .u64 (va:Int)) rfl;have HSR2:=zY hsr;clear hvv hvl hwk hkk hon hbig hXA hp1 haf hne hng hch hp2 hp3 hp4 hxx hYA hab hac hbc2' hx1 hmj hq1 hyy hz1 hza hz2 hze lon l64 laf lne lng lab lac lbc lx1 hmx hmy hstp hm1 hsr HSR;go_wp2_with (refine qac (x:=.tmp 3) HSR2.out.w.st.h rfl rfl rfl hu rfl qaJ ?_);have hlo:=qbJ 32 64 (.slice (some p.a) 3 p.ca) (.slice (some p.b) 3 p.cb) (.slice (some p.c) 3 p.cc) (.slice (some p.d) 3 p.cd) (.slice (some p.k) 64 p.ck) (.slice (some p.f) 8 p.cf) wr (.inl rfl) big (by rw [HBIG.out]; decide);rw [← HON.out,show (big:Int)=18446744073709551615 by rw [HBIG.out]; rfl] at hlo;refine qab hlo ?_;rintro e w2 ⟨rfl,hb2⟩;have hsr2:=HSR2.out.next hb2;clear hlo hb2 HSR2 d4 d0;go_wp2_with fail;have HC0:=hsr2.drew;clear hsr2;refine qal (fun u=>BkR w gf F32 p (some bad) blk (some sad) S (.slice (some ⟨g,0,none⟩) 64 c) RW g2 c2 ⟨va,vb,vc,vd,ve,vf,vg,vh⟩ u) (fun u=>BkR w gf F32 p (some bad) blk (some sad) S (.slice (some ⟨g,0,none⟩) 64 c) RW g2 c2 ⟨va,vb,vc,vd,ve,vf,vg,vh⟩ u) [(0,some 111),(1,some 112),(2,some 113),(3,some 114),(4,some 115),(5,some 116),(6,some 117),(7,some 118),(8,some 119),(9,some 120),(10,some 121),(11,some 122),(12,some 123),(13,some 124),(14,some 125),(15,some 126),(16,some 127),(17,some 128),(18,some 129),(19,some 130),(20,some 131),(21,some 132),(22,some 133),(23,some 134),(24,some 135),(25,some 136),(26,some 137),(27,some 138),(28,some 139),(29,some 140),(30,some 141),(31,some 142),(32,some 143),(33,some 144),(34,some 145),(35,some 146),(36,some 18)] (by kernel_rfl) (by kernel_rfl) (by decide) (by kernel_rfl) (fun _=>rfl) HC0 ?_;apply yN_
       ·apply dP [];exact fun _=>rfl;rfl;rintro vals - w1 hC1 E hE;simp only [puts,qae,qaa,sIB,sCZ,sCS] at hE ⊢;refine qac hC1.w.st.h rfl rfl rfl hu rfl qaJ ?_;go_wp2_with fail;exact .mk (hE _ hC1)
       apply yN_
       ·apply dP [];exact fun _=>rfl;rfl;rintro vals ⟨-,-⟩ w1 hC1 E hE;simp only [puts,qae,qaa,sIB,sCZ,sCS] at hE ⊢;go_wp2;exact .mk (hE _ hC1)
       apply yN_
       ·apply dP [(1,some 112)];exact fun _=>rfl;rfl;rintro vals ⟨⟨-,-⟩,f1⟩ w1 hC1 E hE;simp only [puts,qae,qaa,sIB,sCZ,sCS,f1] at hE ⊢;clear f1;go_wp2;exact .mk (hE _ hC1)
       apply yN_
       ·apply dP [(2,some 113)];exact fun _=>rfl;rfl;intro vals vq w1 hC1 E hE;have f2:=vq.2;clear vq;have d0:=hC1.r.atN (i:=7) (v:=.int .u64 (vh:Int)) rfl;simp only [puts,qae,qaa,sIB,sCZ,sCS,f2] at hE ⊢;clear f2;go_wp2;exact .mk (hE _ hC1)
       apply yN_
       ·apply dP [];exact fun _=>rfl;rfl;intro vals vq w1 hC1 E hE;clear vq;simp only [puts,qae,qaa,sIB,sCZ,sCS] at hE ⊢;refine qac hC1.w.st.h rfl rfl rfl hu rfl qaJ ?_;go_wp2_with fail;exact .mk (hE _ hC1)
       apply yN_
       ·apply dP [];exact fun _=>rfl;rfl;intro vals vq w1 hC1 E hE;clear vq;simp only [puts,qae,qaa,sIB,sCZ,sCS] at hE ⊢;go_wp2;exact .mk (hE _ hC1)
       apply yN_
       ·apply dP [];exact fun _=>rfl;rfl;intro vals vq w1 hC1 E hE;clear vq;simp only [puts,qae,qaa,sIB,sCZ,sCS] at hE ⊢;go_wp2;exact .mk (hE _ hC1)
       apply yN_
       ·apply dP [(6,some 117)];exact fun _=>rfl;rfl;intro vals vq w1 hC1 E hE;have f6:=vq.2;clear vq;have d0:=hC1.w.st.h.cell 3;simp [hv,hC] at d0;simp only [puts,qae,qaa,sIB,sCZ,sCS,f6] at hE ⊢;clear f6;go_wp2;exact .mk (hE _ hC1)
       apply yN_
       ·apply dP [(4,some 115),(5,some 116),(7,some 118)];exact fun _=>rfl;rfl;intro vals vq w1 hC1 E hE;have f4:=vq.1.1.1.2;have f5:=vq.1.1.2;have f7:=vq.2;clear vq;simp only [puts,qae,qaa,sIB,sCZ,sCS,f4,f5,f7] at hE ⊢;clear f4 f5 f7;go_wp2_with fail;refine qab (qbS 32 64 _ _ _ _ _ _ _ (.inl rfl) ve _ _ _ false HL8.out.e (by decide) (by decide) (by decide) _ _ gf hC1.w.st.ok.b (by have:=hC1.w.st.h.lt; omega) hC1.w.st.ok.cb) ?_;rintro e w2 ⟨rfl,hb2⟩;rw [show allN 32 ve _ _ _ false=XA from HXA.out.symm];go_wp2_with fail;exact .mk (hE _ (hC1.next hb2))
       apply yN_
       ·apply dP [(3,some 114),(8,some 119)];exact fun _=>rfl;rfl;intro vals vq w1 hC1 E hE;have f3:=vq.1.1.1.1.1.2;have f8:=vq.2;clear vq;simp only [puts,qae,qaa,sIB,sCZ,sCS,f3,f8] at hE ⊢;clear f3 f8;go_wp2;rw [qaQ vh XA,← HP1.out];exact .mk (hE _ hC1)
       apply yN_
       ·apply dP [];exact fun _=>rfl;rfl;intro vals vq w1 hC1 E hE;clear vq;simp only [puts,qae,qaa,sIB,sCZ,sCS] at hE ⊢;go_wp2;exact .mk (hE _ hC1)
       apply yN_
       ·apply dP [];exact fun _=>rfl;rfl;intro vals vq w1 hC1 E hE;clear vq;simp only [puts,qae,qaa,sIB,sCZ,sCS] at hE ⊢;go_wp2;exact .mk (hE _ hC1)
       apply yN_
       ·apply dP [(11,some 122)];exact fun _=>rfl;rfl;intro vals vq w1 hC1 E hE;have f11:=vq.2;clear vq;simp only [puts,qae,qaa,sIB,sCZ,sCS,f11] at hE ⊢;clear f11;go_wp2;exact .mk (hE _ hC1)
       apply yN_
       ·apply dP [(12,some 123)];exact fun _=>rfl;rfl;intro vals vq w1 hC1 E hE;have f12:=vq.2;clear vq;have d0:=hC1.r.atN (i:=5) (v:=.int .u64 (vf:Int)) rfl;simp only [puts,qae,qaa,sIB,sCZ,sCS,f12] at hE ⊢;clear f12;go_wp2;exact .mk (hE _ hC1)
       apply yN_
       ·apply dP [(10,some 121),(13,some 124)];exact fun _=>rfl;rfl;intro vals vq w1 hC1 E hE;have f10:=vq.1.1.1.2;have f13:=vq.2;clear vq;simp only [puts,qae,qaa,sIB,sCZ,sCS,f10,f13] at hE ⊢;clear f10 f13;go_wp2;rw [and64 ve vf (L64.out _ HL8.out.e) (L64.out _ HL8.out.f),← HAF.out];exact .mk (hE _ hC1)
       apply yN_
       ·apply dP [];exact fun _=>rfl;rfl;intro vals vq w1 hC1 E hE;clear vq;simp only [puts,qae,qaa,sIB,sCZ,sCS] at hE ⊢;go_wp2;exact .mk (hE _ hC1)
       apply yN_
       ·apply dP [];exact fun _=>rfl;rfl;intro vals vq w1 hC1 E hE;clear vq;simp only [puts,qae,qaa,sIB,sCZ,sCS] at hE ⊢;go_wp2;exact .mk (hE _ hC1)
       apply yN_
       ·apply dP [(15,some 126),(16,some 127)];exact fun _=>rfl;rfl;intro vals vq w1 hC1 E hE;have f15:=vq.1.2;have f16:=vq.2;clear vq;simp only [puts,qae,qaa,sIB,sCZ,sCS,f15,f16] at hE ⊢;clear f15 f16;go_wp2;rw [xor64 on ve LON.out (L64.out _ HL8.out.e),← HNE.out];exact .mk (hE _ hC1)
       apply yN_
       ·apply dP [];exact fun _=>rfl;rfl;intro vals vq w1 hC1 E hE;clear vq;simp only [puts,qae,qaa,sIB,sCZ,sCS] at hE ⊢;go_wp2;exact .mk (hE _ hC1)
       apply yN_
       ·apply dP [(18,some 129)];exact fun _=>rfl;rfl;intro vals vq w1 hC1 E hE;have f18:=vq.2;clear vq;simp only [puts,qae,qaa,sIB,sCZ,sCS,f18] at hE ⊢;clear f18;go_wp2;exact .mk (hE _ hC1)
       apply yN_
       ·apply dP [(19,some 130)];exact fun _=>rfl;rfl;intro vals vq w1 hC1 E hE;have f19:=vq.2;clear vq;have d0:=hC1.r.atN (i:=6) (v:=.int .u64 (vg:Int)) rfl;simp only [puts,qae,qaa,sIB,sCZ,sCS,f19] at hE ⊢;clear f19;go_wp2;exact .mk (hE _ hC1)
       apply yN_
       ·apply dP [(17,some 128),(20,some 131)];exact fun _=>rfl;rfl;intro vals vq w1 hC1 E hE;have f17:=vq.1.1.1.2;have f20:=vq.2;clear vq;simp only [puts,qae,qaa,sIB,sCZ,sCS,f17,f20] at hE ⊢;clear f17 f20;go_wp2;rw [and64 ne vg LNE.out (L64.out _ HL8.out.g),← HNG.out];exact .mk (hE _ hC1)
       apply yN_
       ·apply dP [(14,some 125),(21,some 132)];exact fun _=>rfl;rfl;intro vals vq w1 hC1 E hE;have f14:=vq.1.1.1.1.1.1.1.2;have f21:=vq.2;clear vq;simp only [puts,qae,qaa,sIB,sCZ,sCS,f14,f21] at hE ⊢;clear f14 f21;go_wp2;rw [xor64 af ng LAF.out LNG.out,← HCH.out];exact .mk (hE _ hC1)
       apply yN_
       ·apply dP [(9,some 120),(22,some 133)];exact fun _=>rfl;rfl;intro vals vq w1 hC1 E hE;have f9:=vq.1.1.1.1.1.1.1.1.1.1.1.1.1.2;have f22:=vq.2;clear vq;simp only [puts,qae,qaa,sIB,sCZ,sCS,f9,f22] at hE ⊢;clear f9 f22;go_wp2;rw [qaQ p1 ch,← HP2.out];exact .mk (hE _ hC1)
       apply yN_
       ·apply dP [];exact fun _=>rfl;rfl;intro vals vq w1 hC1 E hE;clear vq;simp only [puts,qae,qaa,sIB,sCZ,sCS] at hE ⊢;go_wp2;exact .mk (hE _ hC1)
       apply yN_
       ·apply dP [(24,some 135)];exact fun _=>rfl;rfl;intro vals vq w1 hC1 E hE;have f24:=vq.2;clear vq;have d0:=hC1.w.st.h.cell 6;simp [hv,hC] at d0;simp only [puts,qae,qaa,sIB,sCZ,sCS,f24] at hE ⊢;clear f24;go_wp2;exact .mk (hE _ hC1)
       apply yN_
       ·apply dP [];exact fun _=>rfl;rfl;intro vals vq w1 hC1 E hE;clear vq;simp only [puts,qae,qaa,sIB,sCZ,sCS] at hE ⊢;go_wp2;exact .mk (hE _ hC1)
       apply yN_
       ·apply dP [(25,some 136),(26,some 137)];exact fun _=>rfl;rfl;intro vals vq w1 hC1 E hE;have f25:=vq.1.2;have f26:=vq.2;clear vq;have hck:=hC1.w.st.ok.ck;dsimp only [F32] at hck;simp only [puts,qae,qaa,sIB,sCZ,sCS,f25,f26] at hE ⊢;clear f25 f26;go_wp2;exact .mk (hE _ hC1)
       apply yN_
       ·apply dP [(27,some 138)];exact fun _=>rfl;rfl;intro vals vq w1 hC1 E hE;have f27:=vq.2;clear vq;have d0:=hC1.w.st.ok.k.val (k:=t) (v:=.int .u64 (kk:Int)) (by rw [HKK.out,wordsV,List.getElem?_map,kL_get _ _ hlt]; rfl);simp only [puts,qae,qaa,sIB,sCZ,sCS,f27] at hE ⊢;clear f27;go_wp2;exact .mk (hE _ hC1)
       apply yN_
       ·apply dP [(23,some 134),(28,some 139)];exact fun _=>rfl;rfl;intro vals vq w1 hC1 E hE;have f23:=vq.1.1.1.1.1.2;have f28:=vq.2;clear vq;simp only [puts,qae,qaa,sIB,sCZ,sCS,f23,f28] at hE ⊢;clear f23 f28;go_wp2;rw [qaQ p2 kk,← HP3.out];exact .mk (hE _ hC1)
       apply yN_
       ·apply dP [];exact fun _=>rfl;rfl;intro vals vq w1 hC1 E hE;clear vq;simp only [puts,qae,qaa,sIB,sCZ,sCS] at hE ⊢;go_wp2;exact .mk (hE _ hC1)
       apply yN_
       ·apply dP [];exact fun _=>rfl;rfl;intro vals vq w1 hC1 E hE;clear vq;simp only [puts,qae,qaa,sIB,sCZ,sCS] at hE ⊢;go_wp2;exact .mk (hE _ hC1)
       apply yN_
       ·apply dP [(30,some 141),(31,some 142)];exact fun _=>rfl;rfl;intro vals vq w1 hC1 E hE;have f30:=vq.1.2;have f31:=vq.2;clear vq;simp only [puts,qae,qaa,sIB,sCZ,sCS,f30,f31] at hE ⊢;clear f30 f31;go_wp2;exact .mk (hE _ hC1)
       apply yN_
       ·apply dP [(32,some 143)];exact fun _=>rfl;rfl;intro vals vq w1 hC1 E hE;have f32:=vq.2;clear vq;have d0:=hC1.w.at_ (i:=t) HLEN.out hlt;rw [← HWK.out] at d0;simp only [puts,qae,qaa,sIB,sCZ,sCS,f32] at hE ⊢;clear f32;go_wp2;exact .mk (hE _ hC1)
       apply yN_
       ·apply dP [(29,some 140),(33,some 144)];exact fun _=>rfl;rfl;intro vals vq w1 hC1 E hE;have f29:=vq.1.1.1.1.2;have f33:=vq.2;clear vq;simp only [puts,qae,qaa,sIB,sCZ,sCS,f29,f33] at hE ⊢;clear f29 f33;go_wp2;rw [qaQ p3 wk,← HP4.out];exact .mk (hE _ hC1)
       apply yN_
       ·apply dP [(0,some 111),(34,some 145),(8,some 119)];exact fun _=>rfl;rfl;intro vals vq w1 hC1 E hE;have f0:=vq.1.1.1.1.1.1.1.1.1.1.1.1.1.1.1.1.1.1.1.1.1.1.1.1.1.1.1.1.1.1.1.1.1.1.2;have f8:=vq.1.1.1.1.1.1.1.1.1.1.1.1.1.1.1.1.1.1.1.1.1.1.1.1.1.1.2;have f34:=vq.2;clear vq;simp only [puts,qae,qaa,sIB,sCZ,sCS,f0,f8,f34] at hE ⊢;clear f0 f8 f34;go_wp2_with fail;refine qab (qbJ 32 64 _ _ _ _ _ _ _ (.inl rfl) p4 LP4.out) ?_;rintro e w2 ⟨rfl,hb2⟩;rw [← HXX.out];go_wp2_with fail;exact .mk (hE _ (hC1.next hb2))
       apply yL_
       ·apply dP [(35,some 146),(35,some 146),(0,some 111),(1,some 112),(2,some 113),(3,some 114),(4,some 115),(5,some 116),(6,some 117),(7,some 118),(8,some 119),(9,some 120),(10,some 121),(11,some 122),(12,some 123),(13,some 124),(14,some 125),(15,some 126),(16,some 127),(17,some 128),(18,some 129),(19,some 130),(20,some 131),(21,some 132),(22,some 133),(23,some 134),(24,some 135),(25,some 136),(26,some 137),(27,some 138),(28,some 139),(29,some 140),(30,some 141),(31,some 142),(32,some 143),(33,some 144),(34,some 145),(35,some 146)];exact fun _=>rfl;rfl;rintro vals ⟨⟨⟨⟨⟨⟨⟨⟨⟨⟨⟨⟨⟨⟨⟨⟨⟨⟨⟨⟨⟨⟨⟨⟨⟨⟨⟨⟨⟨⟨⟨⟨⟨⟨⟨⟨-,f0⟩,f1⟩,f2⟩,f3⟩,f4⟩,f5⟩,f6⟩,f7⟩,f8⟩,f9⟩,f10⟩,f11⟩,f12⟩,f13⟩,f14⟩,f15⟩,f16⟩,f17⟩,f18⟩,f19⟩,f20⟩,f21⟩,f22⟩,f23⟩,f24⟩,f25⟩,f26⟩,f27⟩,f28⟩,f29⟩,f30⟩,f31⟩,f32⟩,f33⟩,f34⟩,f35⟩ w1 hC1 E hE;simp only [puts,qae,qaa,sIB,sCZ,sCS,f0,f1,f2,f3,f4,f5,f6,f7,f8,f9,f10,f11,f12,f13,f14,f15,f16,f17,f18,f19,f20,f21,f22,f23,f24,f25,f26,f27,f28,f29,f30,f31,f32,f33,f34,f35] at hE ⊢;clear f0 f1 f2 f3 f4 f5 f6 f7 f8 f9 f10 f11 f12 f13 f14 f15 f16 f17 f18 f19 f20 f21 f22 f23 f24 f25 f26 f27 f28 f29 f30 f31 f32 f33 f34 f35;go_wp2;exact .mk (hE _ hC1)
       rintro vals ⟨⟨⟨⟨⟨⟨⟨⟨⟨⟨⟨⟨⟨⟨⟨⟨⟨⟨⟨⟨⟨⟨⟨⟨⟨⟨⟨⟨⟨⟨⟨⟨⟨⟨⟨⟨⟨-,f0⟩,f1⟩,f2⟩,f3⟩,f4⟩,f5⟩,f6⟩,f7⟩,f8⟩,f9⟩,f10⟩,f11⟩,f12⟩,f13⟩,f14⟩,f15⟩,f16⟩,f17⟩,f18⟩,f19⟩,f20⟩,f21⟩,f22⟩,f23⟩,f24⟩,f25⟩,f26⟩,f27⟩,f28⟩,f29⟩,f30⟩,f31⟩,f32⟩,f33⟩,f34⟩,f35⟩,f36⟩ w1 hC1;simp only [puts,qae,qaa,sIB,sCZ,sCS,f0,f1,f2,f3,f4,f5,f6,f7,f8,f9,f10,f11,f12,f13,f14,f15,f16,f17,f18,f19,f20,f21,f22,f23,f24,f25,f26,f27,f28,f29,f30,f31,f32,f33,f34,f35,f36];clear f0 f1 f2 f3 f4 f5 f6 f7 f8 f9 f10 f11 f12 f13 f14 f15 f16 f17 f18 f19 f20 f21 f22 f23 f24 f25 f26 f27 f28 f29 f30 f31 f32 f33 f34 f35 f36;clear HC0;go_wp2_with fail;have HC0:=hC1.drew;clear hC1;refine qal (fun u=>BkR w gf F32 p (some bad) blk (some sad) S (.slice (some ⟨g,0,none⟩) 64 c) RW g2 c2 ⟨va,vb,vc,vd,ve,vf,vg,vh⟩ u) (fun u=>BkR w gf F32 p (some bad) blk (some sad) S (.slice (some ⟨g,0,none⟩) 64 c) RW g2 c2 ⟨va,vb,vc,vd,ve,vf,vg,vh⟩ u) [(0,some 147),(1,some 148),(2,some 149),(3,some 150),(4,some 151),(5,some 152),(6,some 153),(7,some 154),(8,some 155),(9,some 156),(10,some 157),(11,some 158),(12,some 159),(13,some 160),(14,some 161),(15,some 162),(16,some 163),(17,some 164),(18,some 165),(19,some 166),(20,some 167),(21,some 168),(22,some 169),(23,some 170),(24,some 171),(25,some 172),(26,some 173),(27,some 19)] (by kernel_rfl) (by kernel_rfl) (by decide) (by kernel_rfl) (fun _=>rfl) HC0 ?_;apply yN_
       ·apply dP [];exact fun _=>rfl;rfl;rintro vals - w1 hC1 E hE;simp only [puts,qae,qaa,sIB,sCZ,sCS] at hE ⊢;refine qac hC1.w.st.h rfl rfl rfl hu rfl qaJ ?_;go_wp2_with fail;exact .mk (hE _ hC1)
       apply yN_
       ·apply dP [];exact fun _=>rfl;rfl;rintro vals ⟨-,-⟩ w1 hC1 E hE;simp only [puts,qae,qaa,sIB,sCZ,sCS] at hE ⊢;refine qac hC1.w.st.h rfl rfl rfl hu rfl qaJ ?_;go_wp2_with fail;exact .mk (hE _ hC1)
       apply yN_
       ·apply dP [];exact fun _=>rfl;rfl;intro vals vq w1 hC1 E hE;clear vq;simp only [puts,qae,qaa,sIB,sCZ,sCS] at hE ⊢;go_wp2;exact .mk (hE _ hC1)
       apply yN_
       ·apply dP [];exact fun _=>rfl;rfl;intro vals vq w1 hC1 E hE;clear vq;simp only [puts,qae,qaa,sIB,sCZ,sCS] at hE ⊢;go_wp2;exact .mk (hE _ hC1)
       apply yN_
       ·apply dP [(3,some 150)];exact fun _=>rfl;rfl;intro vals vq w1 hC1 E hE;have f3:=vq.2;clear vq;have d0:=hC1.w.st.h.cell 2;simp [hv,hC] at d0;simp only [puts,qae,qaa,sIB,sCZ,sCS,f3] at hE ⊢;clear f3;go_wp2;exact .mk (hE _ hC1)
       apply yN_
       ·apply dP [(1,some 148),(2,some 149),(4,some 151)];exact fun _=>rfl;rfl;rintro vals ⟨⟨⟨⟨⟨-,-⟩,f1⟩,f2⟩,-⟩,f4⟩ w1 hC1 E hE;simp only [puts,qae,qaa,sIB,sCZ,sCS,f1,f2,f4] at hE ⊢;clear f1 f2 f4;go_wp2_with fail;refine qab (qbS 32 64 _ _ _ _ _ _ _ (.inl rfl) va _ _ _ false HL8.out.a (by decide) (by decide) (by decide) _ _ gf hC1.w.st.ok.a (by have:=hC1.w.st.h.lt; omega) hC1.w.st.ok.ca) ?_;rintro e w2 ⟨rfl,hb2⟩;rw [show allN 32 va _ _ _ false=YA from HYA.out.symm];go_wp2_with fail;exact .mk (hE _ (hC1.next hb2))
       apply yN_
       ·apply dP [];exact fun _=>rfl;rfl;intro vals vq w1 hC1 E hE;clear vq;simp only [puts,qae,qaa,sIB,sCZ,sCS] at hE ⊢;go_wp2;exact .mk (hE _ hC1)
       apply yN_
       ·apply dP [];exact fun _=>rfl;rfl;intro vals vq w1 hC1 E hE;clear vq;simp only [puts,qae,qaa,sIB,sCZ,sCS] at hE ⊢;go_wp2;exact .mk (hE _ hC1)
       apply yN_
       ·apply dP [(7,some 154)];exact fun _=>rfl;rfl;intro vals vq w1 hC1 E hE;have f7:=vq.2;clear vq;simp only [puts,qae,qaa,sIB,sCZ,sCS,f7] at hE ⊢;clear f7;go_wp2;exact .mk (hE _ hC1)
       apply yN_
       ·apply dP [(8,some 155)];exact fun _=>rfl;rfl;intro vals vq w1 hC1 E hE;have f8:=vq.2;clear vq;have d0:=hC1.r.atN (i:=1) (v:=.int .u64 (vb:Int)) rfl;simp only [puts,qae,qaa,sIB,sCZ,sCS,f8] at hE ⊢;clear f8;go_wp2;exact .mk (hE _ hC1)
       apply yN_
       ·apply dP [(6,some 153),(9,some 156)];exact fun _=>rfl;rfl;intro vals vq w1 hC1 E hE;have f6:=vq.1.1.1.2;have f9:=vq.2;clear vq;simp only [puts,qae,qaa,sIB,sCZ,sCS,f6,f9] at hE ⊢;clear f6 f9;go_wp2;rw [and64 va vb (L64.out _ HL8.out.a) (L64.out _ HL8.out.b),← HAB.out];exact .mk (hE _ hC1)
       apply yN_
       ·apply dP [];exact fun _=>rfl;rfl;intro vals vq w1 hC1 E hE;clear vq;simp only [puts,qae,qaa,sIB,sCZ,sCS] at hE ⊢;go_wp2;exact .mk (hE _ hC1)
       apply yN_
       ·apply dP [];exact fun _=>rfl;rfl;intro vals vq w1 hC1 E hE;clear vq;simp only [puts,qae,qaa,sIB,sCZ,sCS] at hE ⊢;go_wp2;exact .mk (hE _ hC1)
       apply yN_
       ·apply dP [(12,some 159)];exact fun _=>rfl;rfl;intro vals vq w1 hC1 E hE;have f12:=vq.2;clear vq;simp only [puts,qae,qaa,sIB,sCZ,sCS,f12] at hE ⊢;clear f12;go_wp2;exact .mk (hE _ hC1)
       apply yN_
       ·apply dP [(13,some 160)];exact fun _=>rfl;rfl;intro vals vq w1 hC1 E hE;have f13:=vq.2;clear vq;have d0:=hC1.r.atN (i:=2) (v:=.int .u64 (vc:Int)) rfl;simp only [puts,qae,qaa,sIB,sCZ,sCS,f13] at hE ⊢;clear f13;go_wp2;exact .mk (hE _ hC1)
       apply yN_
       ·apply dP [(11,some 158),(14,some 161)];exact fun _=>rfl;rfl;intro vals vq w1 hC1 E hE;have f11:=vq.1.1.1.2;have f14:=vq.2;clear vq;simp only [puts,qae,qaa,sIB,sCZ,sCS,f11,f14] at hE ⊢;clear f11 f14;go_wp2;rw [and64 va vc (L64.out _ HL8.out.a) (L64.out _ HL8.out.c),← HAC.out];exact .mk (hE _ hC1)
       apply yN_
       ·apply dP [(10,some 157),(15,some 162)];exact fun _=>rfl;rfl;intro vals vq w1 hC1 E hE;have f10:=vq.1.1.1.1.1.2;have f15:=vq.2;clear vq;simp only [puts,qae,qaa,sIB,sCZ,sCS,f10,f15] at hE ⊢;clear f10 f15;go_wp2;rw [xor64 ab ac LAB.out LAC.out,← HX1.out];exact .mk (hE _ hC1)
       apply yN_
       ·apply dP [];exact fun _=>rfl;rfl;intro vals vq w1 hC1 E hE;clear vq;simp only [puts,qae,qaa,sIB,sCZ,sCS] at hE ⊢;go_wp2;exact .mk (hE _ hC1)
       apply yN_
       ·apply dP [(17,some 164)];exact fun _=>rfl;rfl;intro vals vq w1 hC1 E hE;have f17:=vq.2;clear vq;simp only [puts,qae,qaa,sIB,sCZ,sCS,f17] at hE ⊢;clear f17;go_wp2;exact .mk (hE _ hC1)
       apply yN_
       ·apply dP [(18,some 165)];exact fun _=>rfl;rfl;intro vals vq w1 hC1 E hE;have f18:=vq.2;clear vq;have d0:=hC1.r.atN (i:=1) (v:=.int .u64 (vb:Int)) rfl;simp only [puts,qae,qaa,sIB,sCZ,sCS,f18] at hE ⊢;clear f18;go_wp2;exact .mk (hE _ hC1)
       apply yN_
       ·apply dP [];exact fun _=>rfl;rfl;intro vals vq w1 hC1 E hE;clear vq;simp only [puts,qae,qaa,sIB,sCZ,sCS] at hE ⊢;go_wp2;exact .mk (hE _ hC1)
       apply yN_
       ·apply dP [(20,some 167)];exact fun _=>rfl;rfl;intro vals vq w1 hC1 E hE;have f20:=vq.2;clear vq;simp only [puts,qae,qaa,sIB,sCZ,sCS,f20] at hE ⊢;clear f20;go_wp2;exact .mk (hE _ hC1)
       apply yN_
       ·apply dP [(21,some 168)];exact fun _=>rfl;rfl;intro vals vq w1 hC1 E hE;have f21:=vq.2;clear vq;have d0:=hC1.r.atN (i:=2) (v:=.int .u64 (vc:Int)) rfl;simp only [puts,qae,qaa,sIB,sCZ,sCS,f21] at hE ⊢;clear f21;go_wp2;exact .mk (hE _ hC1)
       apply yN_
       ·apply dP [(19,some 166),(22,some 169)];exact fun _=>rfl;rfl;intro vals vq w1 hC1 E hE;have f19:=vq.1.1.1.2;have f22:=vq.2;clear vq;simp only [puts,qae,qaa,sIB,sCZ,sCS,f19,f22] at hE ⊢;clear f19 f22;go_wp2;rw [and64 vb vc (L64.out _ HL8.out.b) (L64.out _ HL8.out.c),← HBC.out];exact .mk (hE _ hC1)
       apply yN_
       ·apply dP [(16,some 163),(23,some 170)];exact fun _=>rfl;rfl;intro vals vq w1 hC1 E hE;have f16:=vq.1.1.1.1.1.1.1.2;have f23:=vq.2;clear vq;simp only [puts,qae,qaa,sIB,sCZ,sCS,f16,f23] at hE ⊢;clear f16 f23;go_wp2;rw [xor64 x1 bc2 LX1.out LBC.out,← HMJ.out];exact .mk (hE _ hC1)
       apply yN_
       ·apply dP [(5,some 152),(24,some 171)];exact fun _=>rfl;rfl;intro vals vq w1 hC1 E hE;have f5:=vq.1.1.1.1.1.1.1.1.1.1.1.1.1.1.1.1.1.1.1.2;have f24:=vq.2;clear vq;simp only [puts,qae,qaa,sIB,sCZ,sCS,f5,f24] at hE ⊢;clear f5 f24;go_wp2;rw [qaQ YA mj,← HQ1.out];exact .mk (hE _ hC1)
       apply yN_
       ·apply dP [(0,some 147),(25,some 172),(5,some 152)];exact fun _=>rfl;rfl;intro vals vq w1 hC1 E hE;have f0:=vq.1.1.1.1.1.1.1.1.1.1.1.1.1.1.1.1.1.1.1.1.1.1.1.1.1.2;have f5:=vq.1.1.1.1.1.1.1.1.1.1.1.1.1.1.1.1.1.1.1.1.2;have f25:=vq.2;clear vq;simp only [puts,qae,qaa,sIB,sCZ,sCS,f0,f5,f25] at hE ⊢;clear f0 f5 f25;go_wp2_with fail;refine qab (qbJ 32 64 _ _ _ _ _ _ _ (.inl rfl) q1 LQ1.out) ?_;rintro e w2 ⟨rfl,hb2⟩;rw [← HYY.out];go_wp2_with fail;exact .mk (hE _ (hC1.next hb2))
       apply yL_
       ·apply dP [(26,some 173),(26,some 173),(0,some 147),(1,some 148),(2,some 149),(3,some 150),(4,some 151),(5,some 152),(6,some 153),(7,some 154),(8,some 155),(9,some 156),(10,some 157),(11,some 158),(12,some 159),(13,some 160),(14,some 161),(15,some 162),(16,some 163),(17,some 164),(18,some 165),(19,some 166),(20,some 167),(21,some 168),(22,some 169),(23,some 170),(24,some 171),(25,some 172),(26,some 173)];exact fun _=>rfl;rfl;rintro vals ⟨⟨⟨⟨⟨⟨⟨⟨⟨⟨⟨⟨⟨⟨⟨⟨⟨⟨⟨⟨⟨⟨⟨⟨⟨⟨⟨-,f0⟩,f1⟩,f2⟩,f3⟩,f4⟩,f5⟩,f6⟩,f7⟩,f8⟩,f9⟩,f10⟩,f11⟩,f12⟩,f13⟩,f14⟩,f15⟩,f16⟩,f17⟩,f18⟩,f19⟩,f20⟩,f21⟩,f22⟩,f23⟩,f24⟩,f25⟩,f26⟩ w1 hC1 E hE;simp only [puts,qae,qaa,sIB,sCZ,sCS,f0,f1,f2,f3,f4,f5,f6,f7,f8,f9,f10,f11,f12,f13,f14,f15,f16,f17,f18,f19,f20,f21,f22,f23,f24,f25,f26] at hE ⊢;clear f0 f1 f2 f3 f4 f5 f6 f7 f8 f9 f10 f11 f12 f13 f14 f15 f16 f17 f18 f19 f20 f21 f22 f23 f24 f25 f26;go_wp2;exact .mk (hE _ hC1)
       rintro vals ⟨⟨⟨⟨⟨⟨⟨⟨⟨⟨⟨⟨⟨⟨⟨⟨⟨⟨⟨⟨⟨⟨⟨⟨⟨⟨⟨⟨-,f0⟩,f1⟩,f2⟩,f3⟩,f4⟩,f5⟩,f6⟩,f7⟩,f8⟩,f9⟩,f10⟩,f11⟩,f12⟩,f13⟩,f14⟩,f15⟩,f16⟩,f17⟩,f18⟩,f19⟩,f20⟩,f21⟩,f22⟩,f23⟩,f24⟩,f25⟩,f26⟩,f27⟩ w1 hC1;simp only [puts,qae,qaa,sIB,sCZ,sCS,f0,f1,f2,f3,f4,f5,f6,f7,f8,f9,f10,f11,f12,f13,f14,f15,f16,f17,f18,f19,f20,f21,f22,f23,f24,f25,f26,f27];clear f0 f1 f2 f3 f4 f5 f6 f7 f8 f9 f10 f11 f12 f13 f14 f15 f16 f17 f18 f19 f20 f21 f22 f23 f24 f25 f26 f27;clear HC0;go_wp2_with fail;have HC0:=hC1.drew;clear hC1;refine qbe (fun u=>BkR w gf F32 p (some bad) blk (some sad) S (.slice (some ⟨g,0,none⟩) 64 c) RW g2 c2 ⟨va,vb,vc,vd,ve,vf,vg,vh⟩ u) (fun _=>false) 26 [(0,some 174),(1,some 175),(2,some 176),(3,some 177),(4,some 178),(5,some 179),(6,some 180),(7,some 181),(8,some 182),(9,some 183),(10,some 184),(11,some 185),(12,some 186),(13,some 187),(14,some 188),(15,some 189),(16,some 190),(17,some 191),(18,some 192),(19,some 193),(20,some 194),(21,some 195),(22,some 196),(23,some 197),(24,some 198),(25,some 199),(26,some 200),(27,some 13)] (by kernel_rfl) (by kernel_rfl) (by decide) (by kernel_rfl) (fun _=>rfl) HC0 ?_;apply DetQ.next
       ·apply dQ;apply dP [];exact fun _=>rfl;rfl;rintro vals - w1 hC1 E hE;simp only [puts,qae,qaa,sIB,sCZ,sCS] at hE ⊢;refine qac hC1.w.st.h rfl rfl rfl hu rfl qaJ ?_;go_wp2_with fail;exact .mk (hE _ hC1)
       apply DetQ.next
       ·apply dQ;apply dP [];exact fun _=>rfl;rfl;rintro vals ⟨-,-⟩ w1 hC1 E hE;simp only [puts,qae,qaa,sIB,sCZ,sCS] at hE ⊢;go_wp2;exact .mk (hE _ hC1)
       apply DetQ.next
       ·apply dQ;apply dP [];exact fun _=>rfl;rfl;intro vals vq w1 hC1 E hE;clear vq;simp only [puts,qae,qaa,sIB,sCZ,sCS] at hE ⊢;go_wp2;exact .mk (hE _ hC1)
       apply DetQ.next
       ·apply dQ;apply dP [(1,some 175),(2,some 176)];exact fun _=>rfl;rfl;rintro vals ⟨⟨⟨-,-⟩,f1⟩,f2⟩ w1 hC1 E hE;simp only [puts,qae,qaa,sIB,sCZ,sCS,f1,f2] at hE ⊢;clear f1 f2;go_wp2;rw [qaQ xx yy,← HZ1.out];exact .mk (hE _ hC1)
       apply DetQ.next
       ·apply dQ;apply dP [(0,some 174),(3,some 177)];exact fun _=>rfl;rfl;rintro vals ⟨⟨⟨⟨-,f0⟩,-⟩,-⟩,f3⟩ w1 hC1 E hE;simp only [puts,qae,qaa,sIB,sCZ,sCS,f0,f3] at hE ⊢;clear f0 f3;go_wp2_with fail;refine qab (qbJ 32 64 _ _ _ _ _ _ _ (.inl rfl) z1 LZ1.out) ?_;rintro e w2 ⟨rfl,hb2⟩;rw [← HZA.out];go_wp2_with fail;exact .mk (hE _ (hC1.next hb2))
       apply DetQ.next
       ·apply dQ;apply dP [];exact fun _=>rfl;rfl;intro vals vq w1 hC1 E hE;clear vq;simp only [puts,qae,qaa,sIB,sCZ,sCS] at hE ⊢;go_wp2;exact .mk (hE _ hC1)
       apply DetQ.next
       ·apply dQ;apply dP [];exact fun _=>rfl;rfl;intro vals vq w1 hC1 E hE;clear vq;simp only [puts,qae,qaa,sIB,sCZ,sCS] at hE ⊢;go_wp2;exact .mk (hE _ hC1)
       apply DetQ.next
       ·apply dQ;apply dP [(6,some 180)];exact fun _=>rfl;rfl;intro vals vq w1 hC1 E hE;have f6:=vq.2;clear vq;simp only [puts,qae,qaa,sIB,sCZ,sCS,f6] at hE ⊢;clear f6;go_wp2;exact .mk (hE _ hC1)
       apply DetQ.next
       ·apply dQ;apply dP [(7,some 181)];exact fun _=>rfl;rfl;intro vals vq w1 hC1 E hE;have f7:=vq.2;clear vq;have d0:=hC1.r.atN (i:=1) (v:=.int .u64 (vb:Int)) rfl;simp only [puts,qae,qaa,sIB,sCZ,sCS,f7] at hE ⊢;clear f7;go_wp2;exact .mk (hE _ hC1)
       apply DetQ.next
       ·apply dQ;apply dP [];exact fun _=>rfl;rfl;intro vals vq w1 hC1 E hE;clear vq;simp only [puts,qae,qaa,sIB,sCZ,sCS] at hE ⊢;go_wp2;exact .mk (hE _ hC1)
       apply DetQ.next
       ·apply dQ;apply dP [(9,some 183)];exact fun _=>rfl;rfl;intro vals vq w1 hC1 E hE;have f9:=vq.2;clear vq;simp only [puts,qae,qaa,sIB,sCZ,sCS,f9] at hE ⊢;clear f9;go_wp2;exact .mk (hE _ hC1)
       apply DetQ.next
       ·apply dQ;apply dP [(10,some 184)];exact fun _=>rfl;rfl;intro vals vq w1 hC1 E hE;have f10:=vq.2;clear vq;have d0:=hC1.r.atN (i:=2) (v:=.int .u64 (vc:Int)) rfl;simp only [puts,qae,qaa,sIB,sCZ,sCS,f10] at hE ⊢;clear f10;go_wp2;exact .mk (hE _ hC1)
       apply DetQ.next
       ·apply dQ;apply dP [];exact fun _=>rfl;rfl;intro vals vq w1 hC1 E hE;clear vq;simp only [puts,qae,qaa,sIB,sCZ,sCS] at hE ⊢;refine qac hC1.w.st.h rfl rfl rfl hu rfl qaJ ?_;go_wp2_with fail;exact .mk (hE _ hC1)
       apply DetQ.next
       ·apply dQ;apply dP [];exact fun _=>rfl;rfl;intro vals vq w1 hC1 E hE;clear vq;simp only [puts,qae,qaa,sIB,sCZ,sCS] at hE ⊢;go_wp2;exact .mk (hE _ hC1)
       apply DetQ.next
       ·apply dQ;apply dP [(13,some 187)];exact fun _=>rfl;rfl;intro vals vq w1 hC1 E hE;have f13:=vq.2;clear vq;simp only [puts,qae,qaa,sIB,sCZ,sCS,f13] at hE ⊢;clear f13;go_wp2;exact .mk (hE _ hC1)
       apply DetQ.next
       ·apply dQ;apply dP [(14,some 188)];exact fun _=>rfl;rfl;intro vals vq w1 hC1 E hE;have f14:=vq.2;clear vq;have d0:=hC1.r.atN (i:=3) (v:=.int .u64 (vd:Int)) rfl;simp only [puts,qae,qaa,sIB,sCZ,sCS,f14] at hE ⊢;clear f14;go_wp2;exact .mk (hE _ hC1)
       apply DetQ.next
       ·apply dQ;apply dP [];exact fun _=>rfl;rfl;intro vals vq w1 hC1 E hE;clear vq;simp only [puts,qae,qaa,sIB,sCZ,sCS] at hE ⊢;go_wp2;exact .mk (hE _ hC1)
       apply DetQ.next
       ·apply dQ;apply dP [(15,some 189),(16,some 190)];exact fun _=>rfl;rfl;intro vals vq w1 hC1 E hE;have f15:=vq.1.2;have f16:=vq.2;clear vq;simp only [puts,qae,qaa,sIB,sCZ,sCS,f15,f16] at hE ⊢;clear f15 f16;go_wp2;rw [qaQ vd xx,← HZ2.out];exact .mk (hE _ hC1)
       apply DetQ.next
       ·apply dQ;apply dP [(12,some 186),(17,some 191),(4,some 178)];exact fun _=>rfl;rfl;intro vals vq w1 hC1 E hE;have f4:=vq.1.1.1.1.1.1.1.1.1.1.1.1.1.2;have f12:=vq.1.1.1.1.1.2;have f17:=vq.2;clear vq;simp only [puts,qae,qaa,sIB,sCZ,sCS,f4,f12,f17] at hE ⊢;clear f4 f12 f17;go_wp2_with fail;refine qab (qbJ 32 64 _ _ _ _ _ _ _ (.inl rfl) z2 LZ2.out) ?_;rintro e w2 ⟨rfl,hb2⟩;rw [← HZE.out];go_wp2_with fail;exact .mk (hE _ (hC1.next hb2))
       apply DetQ.next
       ·apply dQ;apply dP [];exact fun _=>rfl;rfl;intro vals vq w1 hC1 E hE;clear vq;simp only [puts,qae,qaa,sIB,sCZ,sCS] at hE ⊢;go_wp2;exact .mk (hE _ hC1)
       apply DetQ.next
       ·apply dQ;apply dP [];exact fun _=>rfl;rfl;intro vals vq w1 hC1 E hE;clear vq;simp only [puts,qae,qaa,sIB,sCZ,sCS] at hE ⊢;go_wp2;exact .mk (hE _ hC1)
       apply DetQ.next
       ·apply dQ;apply dP [(20,some 194)];exact fun _=>rfl;rfl;intro vals vq w1 hC1 E hE;have f20:=vq.2;clear vq;simp only [puts,qae,qaa,sIB,sCZ,sCS,f20] at hE ⊢;clear f20;go_wp2;exact .mk (hE _ hC1)
       apply DetQ.next
       ·apply dQ;apply dP [(21,some 195)];exact fun _=>rfl;rfl;intro vals vq w1 hC1 E hE;have f21:=vq.2;clear vq;have d0:=hC1.r.atN (i:=5) (v:=.int .u64 (vf:Int)) rfl;simp only [puts,qae,qaa,sIB,sCZ,sCS,f21] at hE ⊢;clear f21;go_wp2;exact .mk (hE _ hC1)
       apply DetQ.next
       ·apply dQ;apply dP [];exact fun _=>rfl;rfl;intro vals vq w1 hC1 E hE;clear vq;simp only [puts,qae,qaa,sIB,sCZ,sCS] at hE ⊢;go_wp2;exact .mk (hE _ hC1)
       apply DetQ.next
       ·apply dQ;apply dP [(23,some 197)];exact fun _=>rfl;rfl;intro vals vq w1 hC1 E hE;have f23:=vq.2;clear vq;simp only [puts,qae,qaa,sIB,sCZ,sCS,f23] at hE ⊢;clear f23;go_wp2;exact .mk (hE _ hC1)
       apply DetQ.next
       ·apply dQ;apply dP [(24,some 198)];exact fun _=>rfl;rfl;intro vals vq w1 hC1 E hE;have f24:=vq.2;clear vq;have d0:=hC1.r.atN (i:=6) (v:=.int .u64 (vg:Int)) rfl;simp only [puts,qae,qaa,sIB,sCZ,sCS,f24] at hE ⊢;clear f24;go_wp2;exact .mk (hE _ hC1)
       apply DetQ.done;rintro vals ⟨⟨⟨⟨⟨⟨⟨⟨⟨⟨⟨⟨⟨⟨⟨⟨⟨⟨⟨⟨⟨⟨⟨⟨⟨⟨-,f0⟩,f1⟩,f2⟩,f3⟩,f4⟩,f5⟩,f6⟩,f7⟩,f8⟩,f9⟩,f10⟩,f11⟩,f12⟩,f13⟩,f14⟩,f15⟩,f16⟩,f17⟩,f18⟩,f19⟩,f20⟩,f21⟩,f22⟩,f23⟩,f24⟩,f25⟩ w1 hC1;refine qa9 [(4,some 178),(5,some 179),(8,some 182),(11,some 185),(18,some 192),(19,some 193),(22,some 196),(25,some 199)] (fun _=>rfl) rfl ?_;intro E hE;simp only [puts,qae,qaa,sIB,sCZ,sCS,f4,f5,f8,f11,f18,f19,f22,f25] at hE ⊢;go_wp2;refine .mk (hE _ _ ?_);clear hE E;generalize hval:upd _ 26 _=vals26;replace f0:=uP hval (by decide) f0;replace f1:=uP hval (by decide) f1;replace f2:=uP hval (by decide) f2;replace f3:=uP hval (by decide) f3;replace f4:=uP hval (by decide) f4;replace f5:=uP hval (by decide) f5;replace f6:=uP hval (by decide) f6;replace f7:=uP hval (by decide) f7;replace f8:=uP hval (by decide) f8;replace f9:=uP hval (by decide) f9;replace f10:=uP hval (by decide) f10;replace f11:=uP hval (by decide) f11;replace f12:=uP hval (by decide) f12;replace f13:=uP hval (by decide) f13;replace f14:=uP hval (by decide) f14;replace f15:=uP hval (by decide) f15;replace f16:=uP hval (by decide) f16;replace f17:=uP hval (by decide) f17;replace f18:=uP hval (by decide) f18;replace f19:=uP hval (by decide) f19;replace f20:=uP hval (by decide) f20;replace f21:=uP hval (by decide) f21;replace f22:=uP hval (by decide) f22;replace f23:=uP hval (by decide) f23;replace f24:=uP hval (by decide) f24;replace f25:=uP hval (by decide) f25;have f26:=(congrFun hval 26).symm.trans (qay _ _ _);clear hval;refine qa9 [(26,some 200),(18,some 192),(0,some 174),(1,some 175),(2,some 176),(3,some 177),(4,some 178),(5,some 179),(6,some 180),(7,some 181),(8,some 182),(9,some 183),(10,some 184),(11,some 185),(12,some 186),(13,some 187),(14,some 188),(15,some 189),(16,some 190),(17,some 191),(18,some 192),(19,some 193),(20,some 194),(21,some 195),(22,some 196),(23,some 197),(24,some 198),(25,some 199),(26,some 200)] (fun _=>rfl) rfl ?_;intro E hE;simp only [puts,qae,qaa,sIB,sCZ,sCS,f0,f1,f2,f3,f4,f5,f6,f7,f8,f9,f10,f11,f12,f13,f14,f15,f16,f17,f18,f19,f20,f21,f22,f23,f24,f25,f26] at hE ⊢;go_wp2;refine .mk (hE _ _ ?_);clear hE E;generalize hval:upd _ 27 _=vals27;replace f0:=uP hval (by decide) f0;replace f1:=uP hval (by decide) f1;replace f2:=uP hval (by decide) f2;replace f3:=uP hval (by decide) f3;replace f4:=uP hval (by decide) f4;replace f5:=uP hval (by decide) f5;replace f6:=uP hval (by decide) f6;replace f7:=uP hval (by decide) f7;replace f8:=uP hval (by decide) f8;replace f9:=uP hval (by decide) f9;replace f10:=uP hval (by decide) f10;replace f11:=uP hval (by decide) f11;replace f12:=uP hval (by decide) f12;replace f13:=uP hval (by decide) f13;replace f14:=uP hval (by decide) f14;replace f15:=uP hval (by decide) f15;replace f16:=uP hval (by decide) f16;replace f17:=uP hval (by decide) f17;replace f18:=uP hval (by decide) f18;replace f19:=uP hval (by decide) f19;replace f20:=uP hval (by decide) f20;replace f21:=uP hval (by decide) f21;replace f22:=uP hval (by decide) f22;replace f23:=uP hval (by decide) f23;replace f24:=uP hval (by decide) f24;replace f25:=uP hval (by decide) f25;replace f26:=uP hval (by decide) f26;have f27:=(congrFun hval 27).symm.trans (qay _ _ _);clear hval;refine qcJ ?_;simp only [puts,qae,qaa,sIB,sCZ,sCS,f0,f1,f2,f3,f4,f5,f6,f7,f8,f9,f10,f11,f12,f13,f14,f15,f16,f17,f18,f19,f20,f21,f22,f23,f24,f25,f26,f27];clear f0 f1 f2 f3 f4 f5 f6 f7 f8 f9 f10 f11 f12 f13 f14 f15 f16 f17 f18 f19 f20 f21 f22 f23 f24 f25 f26 f27;clear HC0;have hfin:BkR w gf F32 p (some bad) blk (some sad) S (.slice (some ⟨g,0,none⟩) 64 c) RW w1.heap.size 8 (mixTo F32 RW S (t+1)) _:=hC1.turn (V':=mixTo F32 RW S (t+1)) (fz:=(0,0));rw [HM1.out] at hfin;have HFIN:=zY hfin;clear hfin hC1;go_wp2_with fail;refine ⟨⟨t+1,w1.heap.size,8,by omega,by go_num,rfl,?_⟩,by simp [intOf]; omega⟩;rw [HM1.out]; exact HFIN.out
      ·obtain rfl:t=64:=by omega
       obtain ⟨R,hR⟩:=eX (mixTo F32 RW S 64);rw [← hR] at hsr;have ho:BkO w gf F32 p (some bad) blk (some sad) S (.slice (some ⟨g,0,none⟩) 64 c) RW g2 c2 R (.slice none 0 0) ((s8L (addS F32 S R)).take 0) wr:=⟨hsr,OwnX.nil _ _ _ _,.inl rfl⟩;have HR:=zY hR;have HO:=zY ho;clear hR ho hsr HSR;go_wp2_with fail;obtain ⟨wo3,rfl⟩:∃ wo3:World,wo3=wr:=⟨_,rfl⟩
       go_loopw [20,21] (fun v i wr=>∃ (k:Nat) (A5:Option Addr) (c5:Nat),k≤8∧i=.int .i64 k∧v=.slice A5 k c5∧BkO w gf F32 p (some bad) blk (some sad) S (.slice (some ⟨g,0,none⟩) 64 c) RW g2 c2 R (.slice A5 k c5) ((s8L (addS F32 S R)).take k) wr) (fun _ i _=>8 - (intOf i).toNat)
       case atStart=>exact ⟨0,none,0,by omega,rfl,rfl,HO.out⟩
       case round =>
        obtain ⟨k,A5,c5,hk,rfl,rfl,hbo⟩:=hrel
        by_cases hk8:k<8
        ·have hk8':(k:Int)<8:=by omega
         obtain ⟨rj,hrj⟩:=eX ((s8L R).getD k 0);obtain ⟨sj,hsj⟩:=eX ((s8L S).getD k 0);obtain ⟨s1,hs1⟩:=eX ((rj+sj)%2^64);obtain ⟨aj,haj⟩:=eX (s1%2^32);obtain ⟨XS,hXS⟩:=eX ((s8L (addS F32 S R)).take k);have hxl:XS.length=k:=by rw [hXS]; exact qch _ _ hk
         have hnx:(s8L (addS F32 S R)).take (k+1)=XS++[aj]:=by
          rw [s8_take _ _ hk8,addS_get _ _ _ _ hk8,hXS,haj,hs1,hrj,hsj];exact congrArg (fun z=>(s8L (addS F32 S R)).take k++[z]) (mod_r32 _ _)
         have ER:Hid ((wordsV .u64 (s8L R))[k]?=some (.int .u64 (rj:Int))):=zY (by rw [hrj]; exact qbM _ _ _ (by show k<8; exact hk8));have ES:Hid ((wordsV .u64 (s8L S))[k]?=some (.int .u64 (sj:Int))):=zY (by rw [hsj]; exact qbM _ _ _ (by show k<8; exact hk8));have LS1:Hid (s1<18446744073709551616):=zY (by rw [hs1]; exact Nat.mod_lt _ (by decide));rw [← hXS] at hbo;have HS1:=zY hs1;have HAJ:=zY haj;have HXL:=zY hxl;have HNX:=zY hnx;have hu:=Tryz.underlying108;have HC0:=hbo.drew;clear hrj hsj hs1 haj hXS hxl hnx hbo HO;go_wp2_with fail;refine qbe (fun u=>BkO w gf F32 p (some bad) blk (some sad) S (.slice (some ⟨g,0,none⟩) 64 c) RW g2 c2 R (.slice A5 k c5) XS u) (fun i=>i == 0) 12 [(0,some 205),(1,some 206),(2,some 207),(3,some 208),(4,some 209),(5,some 210),(6,some 211),(7,some 212),(8,some 213),(9,some 214),(10,some 215),(11,some 216),(12,some 217),(13,some 218),(14,some 20)] (by kernel_rfl) (by kernel_rfl) (by decide) (by kernel_rfl) (fun _=>rfl) HC0 ?_;apply DetQ.next
         ·apply qdi [];exact fun _=>rfl;rfl;rintro vals - w1 E hE;simp only [puts,qae,qaa,sIB,sCZ,sCS] at hE ⊢;go_wp2;exact .mk hE
         apply DetQ.next
         ·apply dQ;apply dP [];exact fun _=>rfl;rfl;rintro vals ⟨-,-⟩ w1 hC1 E hE;simp only [puts,qae,qaa,sIB,sCZ,sCS] at hE ⊢;refine qac hC1.r.w.st.h rfl rfl rfl hu rfl qaJ ?_;go_wp2_with fail;exact .mk (hE _ hC1)
         apply DetQ.next
         ·apply dQ;apply dP [];exact fun _=>rfl;rfl;intro vals vq w1 hC1 E hE;clear vq;simp only [puts,qae,qaa,sIB,sCZ,sCS] at hE ⊢;go_wp2;exact .mk (hE _ hC1)
         apply DetQ.next
         ·apply dQ;apply dP [];exact fun _=>rfl;rfl;intro vals vq w1 hC1 E hE;clear vq;simp only [puts,qae,qaa,sIB,sCZ,sCS] at hE ⊢;go_wp2;exact .mk (hE _ hC1)
         apply DetQ.next
         ·apply dQ;apply dP [(2,some 207),(3,some 208)];exact fun _=>rfl;rfl;rintro vals ⟨⟨⟨⟨-,-⟩,-⟩,f2⟩,f3⟩ w1 hC1 E hE;have hc8:=hC1.r.le;simp only [puts,qae,qaa,sIB,sCZ,sCS,f2,f3] at hE ⊢;clear f2 f3;go_wp2;exact .mk (hE _ hC1)
         apply DetQ.next
         ·apply dQ;apply dP [(4,some 209)];exact fun _=>rfl;rfl;intro vals vq w1 hC1 E hE;have f4:=vq.2;clear vq;have d0:=hC1.r.r.atN ER.out;simp only [puts,qae,qaa,sIB,sCZ,sCS,f4] at hE ⊢;clear f4;go_wp2;exact .mk (hE _ hC1)
         apply DetQ.next
         ·apply dQ;apply dP [];exact fun _=>rfl;rfl;intro vals vq w1 hC1 E hE;clear vq;simp only [puts,qae,qaa,sIB,sCZ,sCS] at hE ⊢;go_wp2;exact .mk (hE _ hC1)
         apply DetQ.next
         ·apply dQ;apply dP [];exact fun _=>rfl;rfl;intro vals vq w1 hC1 E hE;clear vq;simp only [puts,qae,qaa,sIB,sCZ,sCS] at hE ⊢;go_wp2;exact .mk (hE _ hC1)
         apply DetQ.next
         ·apply dQ;apply dP [(6,some 211),(7,some 212)];exact fun _=>rfl;rfl;intro vals vq w1 hC1 E hE;have f6:=vq.1.2;have f7:=vq.2;clear vq;simp only [puts,qae,qaa,sIB,sCZ,sCS,f6,f7] at hE ⊢;clear f6 f7;go_wp2;exact .mk (hE _ hC1)
         apply DetQ.next
         ·apply dQ;apply dP [(8,some 213)];exact fun _=>rfl;rfl;intro vals vq w1 hC1 E hE;have f8:=vq.2;clear vq;have d0:=hC1.r.w.st.rs.val ES.out;simp only [puts,qae,qaa,sIB,sCZ,sCS,f8] at hE ⊢;clear f8;go_wp2;exact .mk (hE _ hC1)
         apply DetQ.next
         ·apply dQ;apply dP [(5,some 210),(9,some 214)];exact fun _=>rfl;rfl;intro vals vq w1 hC1 E hE;have f5:=vq.1.1.1.1.2;have f9:=vq.2;clear vq;simp only [puts,qae,qaa,sIB,sCZ,sCS,f5,f9] at hE ⊢;clear f5 f9;go_wp2;rw [qaQ rj sj,← HS1.out];exact .mk (hE _ hC1)
         apply DetQ.next
         ·apply dQ;apply dP [(1,some 206),(10,some 215)];exact fun _=>rfl;rfl;intro vals vq w1 hC1 E hE;have f1:=vq.1.1.1.1.1.1.1.1.1.2;have f10:=vq.2;clear vq;simp only [puts,qae,qaa,sIB,sCZ,sCS,f1,f10] at hE ⊢;clear f1 f10;go_wp2_with fail;refine qab (qbJ 32 64 _ _ _ _ _ _ _ (.inl rfl) s1 LS1.out) ?_;rintro e w2 ⟨rfl,hb2⟩;rw [← HAJ.out];go_wp2_with fail;exact .mk (hE _ (hC1.next hb2))
         apply DetQ.done;rintro vals ⟨⟨⟨⟨⟨⟨⟨⟨⟨⟨⟨⟨-,f0⟩,f1⟩,f2⟩,f3⟩,f4⟩,f5⟩,f6⟩,f7⟩,f8⟩,f9⟩,f10⟩,f11⟩ w1 hC1;refine qa9 [(11,some 216)] (fun _=>rfl) rfl ?_;intro E hE;simp only [puts,qae,qaa,sIB,sCZ,sCS,f11] at hE ⊢;go_wp2;refine .mk (hE _ _ ?_);clear hE E;generalize hval:upd _ 12 _=vals12;replace f0:=uP hval (by decide) f0;replace f1:=uP hval (by decide) f1;replace f2:=uP hval (by decide) f2;replace f3:=uP hval (by decide) f3;replace f4:=uP hval (by decide) f4;replace f5:=uP hval (by decide) f5;replace f6:=uP hval (by decide) f6;replace f7:=uP hval (by decide) f7;replace f8:=uP hval (by decide) f8;replace f9:=uP hval (by decide) f9;replace f10:=uP hval (by decide) f10;replace f11:=uP hval (by decide) f11;have f12:=(congrFun hval 12).symm.trans (qay _ _ _);clear hval;refine qa9 [(0,some 205),(12,some 217),(11,some 216)] (fun _=>rfl) rfl ?_;intro E hE;simp only [puts,qae,qaa,sIB,sCZ,sCS,f0,f11,f12] at hE ⊢;refine qao qb7 rfl rfl (show OwnX w1 (gf+1) 76 1 (.slice A5 k c5) k (wordsV .u64 XS) by have:=hC1.o; rwa [HXL.out] at this) rfl rfl rfl rfl (by unfold maxLen; omega) (by omega) (by have:=hC1.r.w.st.h.lt; omega) ?_;intro A6 c6 w6 hown6 hg6 hn6;have HOWN6:=zY hown6;have HG6:=zY hg6;have HN6:=zY hn6;clear hown6 hg6 hn6;go_wp2_with fail;refine .mk (hE _ _ ?_);clear hE E;generalize hval:upd _ 13 _=vals13;replace f0:=uP hval (by decide) f0;replace f1:=uP hval (by decide) f1;replace f2:=uP hval (by decide) f2;replace f3:=uP hval (by decide) f3;replace f4:=uP hval (by decide) f4;replace f5:=uP hval (by decide) f5;replace f6:=uP hval (by decide) f6;replace f7:=uP hval (by decide) f7;replace f8:=uP hval (by decide) f8;replace f9:=uP hval (by decide) f9;replace f10:=uP hval (by decide) f10;replace f11:=uP hval (by decide) f11;replace f12:=uP hval (by decide) f12;have f13:=(congrFun hval 13).symm.trans (qay _ _ _);clear hval;refine qa9 [(13,some 218),(13,some 218),(0,some 205),(1,some 206),(2,some 207),(3,some 208),(4,some 209),(5,some 210),(6,some 211),(7,some 212),(8,some 213),(9,some 214),(10,some 215),(11,some 216),(12,some 217),(13,some 218)] (fun _=>rfl) rfl ?_;intro E hE;simp only [puts,qae,qaa,sIB,sCZ,sCS,f0,f1,f2,f3,f4,f5,f6,f7,f8,f9,f10,f11,f12,f13] at hE ⊢;go_wp2;refine .mk (hE _ _ ?_);clear hE E;generalize hval:upd _ 14 _=vals14;replace f0:=uP hval (by decide) f0;replace f1:=uP hval (by decide) f1;replace f2:=uP hval (by decide) f2;replace f3:=uP hval (by decide) f3;replace f4:=uP hval (by decide) f4;replace f5:=uP hval (by decide) f5;replace f6:=uP hval (by decide) f6;replace f7:=uP hval (by decide) f7;replace f8:=uP hval (by decide) f8;replace f9:=uP hval (by decide) f9;replace f10:=uP hval (by decide) f10;replace f11:=uP hval (by decide) f11;replace f12:=uP hval (by decide) f12;replace f13:=uP hval (by decide) f13;have f14:=(congrFun hval 14).symm.trans (qay _ _ _);clear hval;refine qcJ ?_;simp only [puts,qae,qaa,sIB,sCZ,sCS,f0,f1,f2,f3,f4,f5,f6,f7,f8,f9,f10,f11,f12,f13,f14];clear f0 f1 f2 f3 f4 f5 f6 f7 f8 f9 f10 f11 f12 f13 f14;clear HC0;have hbo2:=hC1.app (o':=.slice A6 (k+1) c6) (y:=aj) (by rw [HXL.out]; exact HOWN6.out) HG6.out HN6.out;rw [← HNX.out] at hbo2;have HBO2:=zY hbo2;clear hbo2 hC1;go_wp2_with fail;exact ⟨⟨k+1,A6,c6,by omega,by go_num,rfl,HBO2.out⟩,by simp [intOf]; omega⟩
        ·obtain rfl:k=8:=by omega
         have HBO:=zY hbo;clear hbo HO;go_wp2_with fail;go_ret;refine ⟨A5,c5,rfl,?_,by rw [← HGF.out]; exact HBO.out.r.w.st.bel⟩;have h:=HBO.out.o;rw [qch _ _ (by omega)] at h;have hd:addS F32 S R=mixS F32 S blk:=by rw [mixS,HR.out,HRW.out]; rfl
         rw [← hd,← HGF.out];exact h.mono (by omega)
theorem zeroR32_ne (n k:Nat) (h:k<zeroR F32 n):((((n+1+k:Nat):Int)+8)%64 != 0)=true:=by
 simp only [zeroR,F32] at h;rw [bne_iff_ne];omega
theorem zeroR32_eq (n:Nat):((((n+1+zeroR F32 n:Nat):Int)+8)%64 != 0)=false:=by
 have h:zeroR F32 n=(2*32 - (n+1+32/4)%(2*32))%(2*32):=rfl;rw [bne_eq_false_iff_eq];omega
theorem hsum32_any (p:HP) (data:List UInt8) (A:Option Addr) (c B:Nat) (w:World) (hok:HOk F32 p w B) (hr:Rd w B A (bytesV data)) (hB:B≤w.heap.size) (hl:data.length≤1000) (hc:data.length≤c) :
  Calls Tryz.prog 53 #[.agg (hv F32 p),.slice A data.length c] w (HSumPost F32 32 data w):=by
 have hu:=Tryz.underlying108;obtain ⟨gf,hgf⟩:=eX (w.heap.size)
 have hst0:HsA w gf F32 p A data (.slice none 0 0) [] (w.alloc (.cells (hv F32 p) 108)):=by
  have hb:=below_new w (.cells (hv F32 p) 108);rw [hgf];exact ⟨⟨hb,Blk.new _ _ _,(hok.mono hB).below hb,(hr.mono hB).below hb⟩,OwnX.nil _ _ _ _⟩
 have d0:=hst0.st.h.cell 0;simp [hv,hC,F32] at d0;have HST0:=zY hst0;have HGF:=zY hgf;have hl':(data.length:Int)≤1000:=by omega
 clear hst0 hok hr hB hgf;go_enter Tryz.func53,Tryz.ntmps53;have HOWN0:Hid (OwnX (w.alloc (.cells (hv F32 p) 108)) (gf+1) 5 1 (.slice none 0 0) 0 []):=zY HST0.out.own
 go_wp2_with (first
  | (refine qaz (o:=⟨some 17,_,_,_,_,_⟩) sl_bytes rfl rfl HOWN0.out rfl rfl (by simp [bytesV]) HST0.out.st.rd (by intro u hu; simp [bytesV,byteV] at hu; obtain ⟨_,_,rfl⟩:=hu; rfl) (by unfold maxLen; omega) (by omega) (by have:=HST0.out.st.h.lt; omega) ?_; intro A1 c1 w1 hown1 hg1 hn1; have HOWN1:Hid (OwnX w1 (gf+1) 5 1 (.slice A1 data.length c1) data.length (bytesV data)):=zY (by simpa using hown1); have H641:Hid (gf+1≤w1.heap.size):=zY (by have:=hg1.size; have:=HGF.out; simp at *; omega); have HG1:=zY hg1; clear hown1 hg1 hn1)
  | (refine qao (o:=⟨some 20,_,_,_,_,_⟩) sl_bytes rfl rfl HOWN1.out rfl rfl rfl rfl (by unfold maxLen; omega) (by omega) H641.out ?_; intro A2 c2 w2 hown2 hg2 hn2; have hs2:HsA w gf F32 p A data (.slice A2 (data.length+1) c2) (oneZ data 0) w2:=(HST0.out.app (ys:=data) HG1.out HOWN1.out).app hg2 (by rw [qax,qc7,qaS]; exact hown2); have d2:=hs2.st.h.cell 0; simp [hv,hC,F32] at d2; rw [HGF.out] at d2; have HST2:=zY hs2; clear hs2 hown2 hg2 hn2))
 rw [show w.heap.size=gf from HGF.out.symm] at d2 ⊢;have hzl:zeroR F32 data.length<64:=Nat.mod_lt _ (by decide);clear HST0 HOWN0 HG1 HOWN1 H641 d0 d2
 go_loopw [5] (fun v wr=>∃ (k n:Nat) (A3:Option Addr) (c3:Nat),k≤zeroR F32 data.length∧n=data.length+1+k∧v=.slice A3 n c3∧HsA w gf F32 p A data (.slice A3 n c3) (oneZ data k) wr) (fun v _=>data.length+1+zeroR F32 data.length - lenOf v)
 case atStart=>exact ⟨0,data.length+1,A2,c2,Nat.zero_le _,rfl,rfl,HST2.out⟩
 case round =>
  clear HST2;obtain ⟨k,n,A3,c3,hk,hn,rfl,hst⟩:=hrel;have hn2:n≤2000:=by omega
  have d0:=hst.st.h.cell 0;simp [hv,hC,F32] at d0
  by_cases hlt:k<zeroR F32 data.length
  ·have hne:((((n:Nat):Int)+8)%64 != 0)=true:=by rw [hn]; exact zeroR32_ne _ _ hlt
   have HO:Hid (OwnX wr (gf+1) 5 1 (.slice A3 n c3) n (bytesV (oneZ data k))):=zY (by have:=hst.own; rwa [qax,← hn] at this);have HN:=zY hn;have HST:=zY hst;clear hn hst;go_wp2_with (refine qao (o:=⟨some 35,_,_,_,_,_⟩) sl_bytes rfl rfl HO.out rfl rfl rfl rfl (by unfold maxLen; omega) (by omega) (by have:=HST.out.st.h.lt; omega) ?_; intro A4 c4 w4 hown4 hg4 hn4; have HOWN4:=zY hown4; have HG4:=zY hg4; clear hown4 hg4 hn4);exact ⟨⟨k+1,n+1,A4,c4,hlt,by rw [HN.out]; omega,rfl,HST.out.app HG4.out (by rw [qax,qc8,qaS,← Nat.add_assoc,← HN.out]; exact HOWN4.out)⟩,by simp only [lenOf]; have:=HN.out; omega⟩
  ·obtain rfl:k=zeroR F32 data.length:=by omega
   have hne:((((n:Nat):Int)+8)%64 != 0)=false:=by rw [hn]; exact zeroR32_eq _
   have HN:=zY hn;have HST:=zY hst;clear hn hst;go_wp2_with fail;clear hne;obtain ⟨W1,rfl⟩:∃ x:World,x=wr:=⟨_,rfl⟩;obtain ⟨gl0,hgl0⟩:=eX (W1.heap.size);have HGL:=zY hgl0;clear hgl0
   go_loopw [8,9] (fun v i wr=>∃ (k:Nat) (A4:Option Addr) (c4:Nat),k≤8∧i=.int .i64 k∧v=.slice A4 k c4∧Below gl0 W1 wr∧wr.ownsRow gl0 5 1 (.slice A4 k c4) k (bytesV (List.replicate k 0))∧gl0≤wr.heap.size) (fun _ i _=>8 - (intOf i).toNat)
   case atStart=>exact ⟨0,none,0,by omega,rfl,rfl,Below.refl _ _,World.ownsRow_nil _ _ _ _,by rw [HGL.out]; exact Nat.le_refl _⟩
   case round =>
    obtain ⟨k,A4,c4,hk,rfl,rfl,hb4,ho4,hl4⟩:=hrel
    by_cases hk8:k<8
    ·have hk8':(k:Int)<8:=by omega
     have HB4:=zY hb4;have HO4:=zY ho4;clear hb4 ho4;go_wp2_with (refine qbl sl_bytes rfl rfl HO4.out rfl rfl rfl rfl (by unfold maxLen; omega) (by omega) hl4 ?_; intro A5 c5 w5 hown5 hg5; have HOWN5:=zY hown5; have HG5:=zY hg5; clear hown5 hg5);refine ⟨⟨k+1,A5,c5,hk8,by go_num,rfl,HB4.out.grown HG5.out hl4 (fun k hk=>(own_lt HO4.out k hk).1),?_,by have:=HG5.out.size; omega⟩,by simp [intOf]; omega⟩;rw [List.replicate_succ',qaS];exact HOWN5.out
    ·obtain rfl:k=8:=by omega
     obtain ⟨gl,R,rfl,hgl,hcl,hbk⟩:=own_blk ho4 (by decide);obtain ⟨ws,hws⟩:=eX (lenB F32 data.length);have hwl:ws.length=8:=by rw [hws,lenB,List.length_append,List.length_replicate,qa8]; rfl
     have hbk0:Blk wr gl 5 (backC 8 ws 0++R):=by
      rw [qcQ _ _ hwl];have e:bytesV (List.replicate 8 (0:UInt8))=List.replicate 8 (.int .u8 0):=by simp [bytesV,byteV]
      rw [e] at hbk;exact hbk
     have hget:∀ i j,i+j+1=8→(bytesV ws)[i]?=some (.int .u8 ((data.length*8/256^j%256:Nat):Int)):=fun i j h=>by rw [hws]; exact lenB32_get _ _ _ h
     have HWS:=zY hws;have HWL:=zY hwl;have HB4:=zY hb4;have HBK0:=zY hbk0;have HGET:=zY hget;clear hws hwl hb4 hbk hbk0 hget ho4;go_wp2_with fail;obtain ⟨wo2,rfl⟩:∃ x:World,x=wr:=⟨_,rfl⟩
     go_loopw [7,10] (fun v i wr=>∃ (j y:Nat),j≤8∧y=data.length*8/256^j∧v=.int .i64 y∧i=.int .i64 ((8:Int) - 1 - (j:Int))∧Below gl0 W1 wr∧Blk wr gl 5 (backC 8 ws j++R)) (fun _ i _=>(intOf i+1).toNat)
     case atStart=>exact ⟨0,data.length*8,by omega,by simp,by exact congrArg (Value.int .i64) (by omega),rfl,HB4.out,HBK0.out⟩
     case round =>
      clear HBK0;obtain ⟨j,y,hj,hy,rfl,rfl,hb5,hk5⟩:=hrel;have hyx:y≤data.length*8:=by rw [hy]; exact Nat.div_le_self _ _
      have hy64:(y:Int)≤8000:=by omega
      by_cases hlt2:j<8
      ·obtain ⟨ix,hix⟩:∃ ix:Nat,(8:Int) - 1 - (j:Int)=(ix:Int):=⟨8 - 1 - j,by omega⟩;have hix2:ix+j+1=8:=by omega
       have hval:=HGET.out ix j hix2;rw [← hy] at hval;have hset:=qdj 8 ws j ix _ R HWL.out hix2 hval;obtain ⟨ov,hov⟩:=qdl 8 ws j ix R HWL.out hix2;have hnx:data.length*8/256^(j+1)=y/256:=by rw [hy,Nat.pow_succ,← Nat.div_div_eq_div_mul]
       rw [hix];have dcell:=hk5.cell ix;rw [hov] at dcell;have dfree:=hk5.free ix;have hixl:(ix:Int)<8:=by omega
       have HSET:=zY hset;have HNX:=zY hnx;have HB5:=zY hb5;have HK5:=zY hk5;have HIX:=zY hix;clear hset hnx hb5 hk5 hix hix2 hval hy hov;go_wp2_with fail;refine ⟨⟨j+1,y/256,by omega,by rw [HNX.out],by go_num,by have:=HIX.out; exact congrArg (Value.int .i64) (by omega),(qai _ _ _ _).below HB5.out hgl (by have:=HB5.out.size; rw [HGL.out]; omega),?_⟩,by simp [intOf]⟩;have h:=qak (i:=ix) HK5.out (.int .u8 ((y%256:Nat):Int));rw [HSET.out] at h;exact h
      ·obtain rfl:j=8:=by omega
       rw [qdk] at hk5;have hall:HsA w gf F32 p A data (.slice A3 n c3) (oneZ data (zeroR F32 data.length)) wr:=HST.out.next (by rw [← HGL.out]; exact hb5);have HO5:Hid (OwnX wr (gf+1) 5 1 (.slice A3 n c3) n (bytesV (oneZ data (zeroR F32 data.length)))):=zY (by have:=hall.own; rwa [qax,← HN.out] at this);have hrl:Rd wr wr.heap.size (some ⟨gl,0,none⟩) (bytesV ws):=Rd.of_blk_app hk5 hk5.lt;have HRL:=zY hrl;have HALL0:=zY hall;clear hrl hall hk5 hb5 hy HST
       go_wp2_with (first
        | (refine qaz (o:=⟨some 63,_,_,_,_,_⟩) (m:=8) sl_bytes rfl rfl HO5.out rfl rfl (by rw [qap,HWL.out]) HRL.out (by intro u hu; simp [bytesV,byteV] at hu; obtain ⟨_,_,rfl⟩:=hu; rfl) (by unfold maxLen; omega) (by omega) (by have:=HALL0.out.st.h.lt; omega) ?_; intro A5 c5 w5 hown5 hg5 hn5; have hall5:HsA w gf F32 p A data (.slice A5 (n+8) c5) (oneZ data (zeroR F32 data.length)++ws) w5:=HALL0.out.app hg5 (by rw [List.length_append,qax,HWL.out,← HN.out,qaT]; exact hown5); have d7:=hall5.st.h.cell 7; simp [hv,hC,F32] at d7; have HALL5:=zY hall5; clear hall5 hown5 hg5 hn5)
        | (refine qaz (o:=⟨some 67,_,_,_,_,_⟩) (base:=gf+1) (n:=0) (m:=8) (v:=.slice none 0 0) (xs:=[]) qb7 rfl rfl (OwnX.nil _ _ _ _) rfl rfl rfl HALL5.out.st.ok.f (by intro u hu; simp [wordsV] at hu; obtain ⟨_,_,rfl⟩:=hu; rfl) (by unfold maxLen; omega) (by omega) (by have:=HALL5.out.st.h.lt; omega) ?_; intro A6 c6 w6 hown6 hg6 hn6; have HOWN6:=zY hown6; have HG6:=zY hg6; clear hown6 hg6 hn6))
       obtain ⟨ALL,hALL⟩:=eX (padS F32 data);obtain ⟨m,hm⟩:=eX (n+8);rw [← hm];have hall:ALL=oneZ data (zeroR F32 data.length)++ws:=by rw [hALL,HWS.out]; exact (padR32 data hl).symm
       have hal:ALL.length=m:=by rw [hall,List.length_append,qax,HWL.out,← HN.out,hm]
       have hm4:m≤4000:=by omega
       have hsb:HsB w gf F32 p A data (.slice A5 m c5) ALL A6 c6 (runS F32 ALL 0) w6:=by
        have h5:=HALL5.out;rw [← hm,← hall] at h5;have hg6:=HG6.out;refine ⟨⟨h5.st.keep (qbc hg6 (by have:=h5.st.h.lt; omega) (by intro k hk; simp [Value.ownBlock] at hk)),h5.own.kept hg6 ?_⟩,?_⟩
        ·cases h9:(Value.slice A5 m c5).ownBlock with
         | none=>exact .inl rfl
         | some k=>exact .inr (by simp [Value.ownBlock])
        ·show OwnX w6 (gf+1) 76 1 (.slice A6 8 c6) 8 (wordsV .u64 (s8L (startS F32)))
         simpa using HOWN6.out
       obtain ⟨nb,hnb⟩:∃ nb,m=nb*64:=⟨m/64,by have:=qdA data; rw [← hALL,hal] at this; omega⟩;have hcap:m≤c5∧c5≤9223372036854775807:=qcj (show OwnX w6 (gf+1) 5 1 (.slice A5 m c5) m (bytesV ALL) by have:=hsb.a.own; rwa [hal] at this);obtain ⟨hcap1,hcap2⟩:=hcap;have HALL:=zY hALL;have HAL:=zY hal;have HSB:=zY hsb;have HNB:=zY hnb;clear hALL hm hall hal hsb hnb HALL5 HOWN6 HG6 HALL0 HO5 HRL d7 d0
       go_loopw [11,12] (fun v i wr=>∃ (j a:Nat) (A7:Option Addr) (c7:Nat),j≤nb∧a=j*64∧i=.int .i64 (a:Int)∧v=.slice A7 8 c7∧HsB w gf F32 p A data (.slice A5 m c5) ALL A7 c7 (runS F32 ALL j) wr) (fun _ i _=>m - (intOf i).toNat)
       case atStart=>exact ⟨0,0,A6,c6,by omega,rfl,rfl,rfl,HSB.out⟩
       case round =>
        clear HSB;obtain ⟨j,a,A7,c7,hj,ha,rfl,rfl,hsj⟩:=hrel
        by_cases hjn:j<nb
        ·have ham:a+64≤m:=by rw [HNB.out,ha]; omega
         have hlt3:a<m:=by omega
         have hle1:a+64≤c5:=by omega
         have hla:OwnX wr (gf+1) 5 1 (.slice A5 m c5) m (bytesV ALL):=by have:=hsj.a.own; rwa [HAL.out] at this
         obtain ⟨g5,hg5,_,_⟩:=hla.ptr (by omega);subst hg5;obtain ⟨bk,hbk⟩:=eX ((ALL.drop a).take 64);have hbl:bk.length=64:=by rw [hbk]; simp; rw [HAL.out]; omega
         obtain ⟨sj,hsj2⟩:=eX (runS F32 ALL j);have hsl:sj.Lt (2^32):=by rw [hsj2]; exact qct F32 ALL j
         have hs1:runS F32 ALL (j+1)=mixS F32 sj bk:=by rw [hsj2,hbk,ha]; rfl
         rw [← hsj2] at hsj
         have HRB:Hid (∀ u,HsB w gf F32 p A data (.slice (some ⟨g5,0,none⟩) m c5) ALL A7 c7 sj u→Rd u u.heap.size (some ⟨g5,a,none⟩) (bytesV bk)):=zY fun u hu=>by
          have h1:OwnX u (gf+1) 5 1 (.slice (some ⟨g5,0,none⟩) m c5) m (bytesV ALL):=by have:=hu.a.own; rwa [HAL.out] at this
          have h2:=qcu (qcv (Rd.of_own h1 (Nat.le_refl _)) a) 64;rw [Addr.add_lit,Nat.zero_add] at h2;rw [hbk,bytesV,List.map_take,List.map_drop];exact h2
         have HBL:=zY hbl;have HSL:=zY hsl;have HS1:=zY hs1;have HA:=zY ha;have d0:=hsj.a.st.h.cell 0;simp [hv,hC,F32] at d0;have HC0:=hsj.drew;have D0:=zY d0;have HSJ:=zY hsj;clear hbl hsl hs1 hbk hsj2 ha hla hsj d0;go_wp2_with fail;clear HSJ;refine qbe (fun u=>HsB w gf F32 p A data (.slice (some ⟨g5,0,none⟩) m c5) ALL A7 c7 sj u) (fun _=>false) 10 [(0,some 77),(1,some 78),(2,some 79),(3,some 80),(4,some 81),(5,some 82),(6,some 83),(7,some 84),(8,some 85),(9,some 86),(10,some 87),(11,some 11)] (by kernel_rfl) (by kernel_rfl) (by decide) (by kernel_rfl) (fun _=>rfl) HC0 ?_;apply DetQ.next
         ·apply dQ;apply dP [];exact fun _=>rfl;rfl;rintro vals - w1 hC1 E hE;simp only [sP] at hE ⊢;refine qac hC1.a.st.h rfl rfl rfl hu rfl qaJ ?_;go_wp2_with fail;exact .mk (hE _ hC1)
         apply DetQ.next
         ·apply dQ;apply dP [];exact fun _=>rfl;rfl;rintro vals ⟨-,-⟩ w1 hC1 E hE;simp only [sP] at hE ⊢;go_wp2;exact .mk (hE _ hC1)
         apply DetQ.next
         ·apply dQ;apply dP [];exact fun _=>rfl;rfl;intro vals vq w1 hC1 E hE;clear vq;simp only [sP] at hE ⊢;go_wp2;exact .mk (hE _ hC1)
         apply DetQ.next
         ·apply dQ;apply dP [];exact fun _=>rfl;rfl;intro vals vq w1 hC1 E hE;clear vq;simp only [sP] at hE ⊢;go_wp2;exact .mk (hE _ hC1)
         apply DetQ.next
         ·apply dQ;apply dP [];exact fun _=>rfl;rfl;intro vals vq w1 hC1 E hE;clear vq;simp only [sP] at hE ⊢;go_wp2;exact .mk (hE _ hC1)
         apply DetQ.next
         ·apply dQ;apply dP [];exact fun _=>rfl;rfl;intro vals vq w1 hC1 E hE;clear vq;simp only [sP] at hE ⊢;go_wp2;exact .mk (hE _ hC1)
         apply DetQ.next
         ·apply dQ;apply dP [(5,some 82)];exact fun _=>rfl;rfl;intro vals vq w1 hC1 E hE;have d0:=hC1.a.st.h.cell 0;simp [hv,hC,F32] at d0;simp only [sP,vq] at hE ⊢;clear vq;go_wp2;exact .mk (hE _ hC1)
         apply DetQ.next
         ·apply dQ;apply dP [(6,some 83)];exact fun _=>rfl;rfl;intro vals vq w1 hC1 E hE;simp only [sP,vq] at hE ⊢;clear vq;go_wp2;exact .mk (hE _ hC1)
         apply DetQ.next
         ·apply dQ;apply dP [(4,some 81),(7,some 84)];exact fun _=>rfl;rfl;intro vals vq w1 hC1 E hE;simp only [sP,vq] at hE ⊢;clear vq;go_wp2;exact .mk (hE _ hC1)
         apply DetQ.next
         ·apply dQ;apply dP [(2,some 79),(3,some 80),(8,some 85)];exact fun _=>rfl;rfl;intro vals vq w1 hC1 E hE;simp only [sP,vq] at hE ⊢;clear vq;go_wp2;rw [show a+64 - a=64 by omega];exact .mk (hE _ hC1)
         apply DetQ.done;rintro vals ⟨⟨⟨⟨⟨⟨⟨⟨⟨⟨-,f0⟩,f1⟩,f2⟩,f3⟩,f4⟩,f5⟩,f6⟩,f7⟩,f8⟩,f9⟩ w1 hC1;refine qa9 [(0,some 77),(1,some 78),(9,some 86)] (fun _=>rfl) rfl ?_;intro E hE;simp only [sP,f0,f1,f9] at hE ⊢;go_wp2_with fail;have hmx:=block32_any p sj bk (some ⟨g5,a,none⟩) A7 (c5 - a) c7 w1.heap.size w1 (hC1.a.st.ok.mono (by have:=hC1.a.st.h.lt; omega)) (Nat.le_refl _) (HRB.out _ hC1) (Rd.of_own hC1.s (Nat.le_refl _)) HBL.out (by rw [HBL.out]; omega) hC1.s.le_cap HSL.out;rw [HBL.out] at hmx;refine qab hmx ?_;rintro e w2 ⟨A8,c8,rfl,hown8,hb8⟩;go_wp2_with fail;refine .mk (hE _ _ ?_);clear hE E;generalize hval:upd _ 10 _=vals10;replace f0:=uP hval (by decide) f0;replace f1:=uP hval (by decide) f1;replace f2:=uP hval (by decide) f2;replace f3:=uP hval (by decide) f3;replace f4:=uP hval (by decide) f4;replace f5:=uP hval (by decide) f5;replace f6:=uP hval (by decide) f6;replace f7:=uP hval (by decide) f7;replace f8:=uP hval (by decide) f8;replace f9:=uP hval (by decide) f9;have f10:=(congrFun hval 10).symm.trans (qay _ _ _);clear hval;refine qa9 [(10,some 87),(10,some 87),(0,some 77),(1,some 78),(2,some 79),(3,some 80),(4,some 81),(5,some 82),(6,some 83),(7,some 84),(8,some 85),(9,some 86),(10,some 87)] (fun _=>rfl) rfl ?_;intro E hE;simp only [sP,f0,f1,f2,f3,f4,f5,f6,f7,f8,f9,f10] at hE ⊢;go_wp2;refine .mk (hE _ _ ?_);clear hE E;generalize hval:upd _ 11 _=vals11;replace f0:=uP hval (by decide) f0;replace f1:=uP hval (by decide) f1;replace f2:=uP hval (by decide) f2;replace f3:=uP hval (by decide) f3;replace f4:=uP hval (by decide) f4;replace f5:=uP hval (by decide) f5;replace f6:=uP hval (by decide) f6;replace f7:=uP hval (by decide) f7;replace f8:=uP hval (by decide) f8;replace f9:=uP hval (by decide) f9;replace f10:=uP hval (by decide) f10;have f11:=(congrFun hval 11).symm.trans (qay _ _ _);clear hval;refine qcJ ?_;simp only [sP,f0,f1,f2,f3,f4,f5,f6,f7,f8,f9,f10,f11];clear f0 f1 f2 f3 f4 f5 f6 f7 f8 f9 f10 f11
         have hfin:HsB w gf F32 p A data (.slice (some ⟨g5,0,none⟩) m c5) ALL A8 c8 (runS F32 ALL (j+1)) w2:=by
          rw [HS1.out];exact ⟨hC1.a.next hb8,hown8.mono (by have:=hC1.a.st.h.lt; omega)⟩
         have d0:=hfin.a.st.h.cell 0;simp [hv,hC,F32] at d0;have HFIN:=zY hfin;clear hfin hC1 HC0 hown8 hb8;go_wp2_with fail;exact ⟨⟨j+1,a+64,A8,c8,hjn,by rw [HA.out]; omega,by go_num,rfl,HFIN.out⟩,by simp [intOf]; omega⟩
        ·obtain rfl:j=nb:=by omega
         have hge:¬ a<m:=by rw [HNB.out,ha]; omega
         obtain ⟨sv,hsv⟩:=eX (runS F32 ALL j);have hsl:sv.Lt (2^32):=by rw [hsv]; exact qct F32 ALL j
         rw [← hsv] at hsj;obtain ⟨g7,rfl,_,_⟩:=hsj.s.ptr (by decide);have hc7:=hsj.s.le_cap;have hso:HsB w gf F32 p A data (.slice none 0 0) (outW 32 4 sv 0) (some ⟨g7,0,none⟩) c7 sv wr:=⟨⟨hsj.a.st,OwnX.nil _ _ _ _⟩,hsj.s⟩;have HSV:=zY hsv;have HSL:=zY hsl;have HSO:=zY hso;have HA:=zY ha;clear hsv hsl hso hsj ha;go_wp2_with fail;obtain ⟨wo5,rfl⟩:∃ x:World,x=wr:=⟨_,rfl⟩
         go_loopw [13,14] (fun v i wr=>∃ (k q:Nat) (A8:Option Addr) (c8:Nat),k≤8∧q=k*4∧i=.int .i64 k∧v=.slice A8 q c8∧HsB w gf F32 p A data (.slice A8 q c8) (outW 32 4 sv k) (some ⟨g7,0,none⟩) c7 sv wr) (fun _ i _=>8 - (intOf i).toNat)
         case atStart=>exact ⟨0,0,none,0,by omega,by omega,rfl,rfl,HSO.out⟩
         case round =>
          clear HSO;obtain ⟨k,q,A8,c8,hk,hq,rfl,rfl,hso⟩:=hrel
          by_cases hk8:k<8
          ·have hk8':(k:Int)<8:=by omega
           obtain ⟨x,hx⟩:=eX ((s8L sv).getD k 0);have hxl:x<2^32:=by rw [hx]; exact s8L_lt HSL.out (by decide) k
           have ex:(wordsV .u64 (s8L sv))[k]?=some (.int .u64 (x:Int)):=by rw [hx]; exact qbM _ _ _ (show k<8 from hk8)
           have hol:(outW 32 4 sv k).length=q:=by rw [outW_length _ _ _ _ hk,hq]
           have hnx:outW 32 4 sv (k+1)=outW 32 4 sv k++wordB 32 x 4:=by rw [qc6 _ _ _ _ hk8,hx]
           obtain ⟨XS,hXS⟩:=eX (outW 32 4 sv k);rw [← hXS] at hol hnx hso;have HXL:=zY hxl;have EX:=zY ex;have HOL:=zY hol;have HNX:=zY hnx;have HQ:=zY hq;have hq9:q≤64:=by omega
           have HC0:=hso.drew;clear hx hxl ex hol hnx hXS hq hso;go_wp2_with fail;refine qbf (fun u=>HsB w gf F32 p A data (.slice A8 q c8) XS (some ⟨g7,0,none⟩) c7 sv u) (fun i=>i == 0) 6 7 [(0,some 92),(1,some 93),(2,some 94),(3,some 95),(4,some 96),(5,some 97),(6,some 98),(7,some 99),(8,some 13)] (by kernel_rfl) (by kernel_rfl) (by decide) (by kernel_rfl) (fun _=>rfl) HC0 (fun _ _ hb h=>h.next hb) (by decide) ?_;apply DetR.next
           ·apply qaY [];exact fun _=>rfl;rfl;rintro vals - w1 hC1 E hE;simp only [sP] at hE ⊢;go_wp2;exact .mk hE
           apply DetR.next
           ·apply qaq;apply dP [];exact fun _=>rfl;rfl;rintro vals ⟨-,-⟩ w1 hC1 E hE;simp only [sP] at hE ⊢;refine qac hC1.a.st.h rfl rfl rfl hu rfl qaJ ?_;go_wp2_with fail;exact .mk (hE _ hC1)
           apply DetR.next
           ·apply qaq;apply dP [];exact fun _=>rfl;rfl;intro vals vq w1 hC1 E hE;clear vq;simp only [sP] at hE ⊢;go_wp2;exact .mk (hE _ hC1)
           apply DetR.next
           ·apply qaq;apply dP [];exact fun _=>rfl;rfl;intro vals vq w1 hC1 E hE;clear vq;simp only [sP] at hE ⊢;go_wp2;exact .mk (hE _ hC1)
           apply DetR.next
           ·apply qaq;apply dP [(2,some 94),(3,some 95)];exact fun _=>rfl;rfl;intro vals vq w1 hC1 E hE;simp only [sP,vq] at hE ⊢;clear vq;go_wp2;exact .mk (hE _ hC1)
           apply DetR.next
           ·apply qaq;apply dP [(4,some 96)];exact fun _=>rfl;rfl;intro vals vq w1 hC1 E hE;have d0:=hC1.s.atN EX.out;simp only [sP,vq] at hE ⊢;clear vq;go_wp2;exact .mk (hE _ hC1)
           apply DetR.done;rintro vals ⟨⟨⟨⟨⟨⟨-,f0⟩,f1⟩,f2⟩,f3⟩,f4⟩,f5⟩ w1 hC1;refine qaB [(1,some 93),(5,some 97)] (fun _=>rfl) rfl ?_;intro E hE;simp only [sP,f1,f5] at hE ⊢;go_wp2_with fail;have hct:=bytes_any 32 64 (.slice (some p.a) 3 p.ca) (.slice (some p.b) 3 p.cb) (.slice (some p.c) 3 p.cc) (.slice (some p.d) 3 p.cd) (.slice (some p.k) 64 p.ck) (.slice (some p.f) 8 p.cf) w1 (.inl rfl) x HXL.out;refine qab hct ?_;rintro e w2 ⟨g9,he9,hg9,hb9,hbel9⟩;have he9':e=.returned (.slice (some ⟨g9,0,none⟩) 4 4):=he9;clear he9;subst he9';have hb9':Blk w2 g9 5 (bytesV (wordB 32 x 4)).toArray:=hb9;clear hb9;go_wp2_with fail;refine .mk (hE _ _ (fun _=>hbel9) ?_);clear hE E;generalize hval:upd _ 6 _=vals6;replace f0:=uP hval (by decide) f0;replace f1:=uP hval (by decide) f1;replace f2:=uP hval (by decide) f2;replace f3:=uP hval (by decide) f3;replace f4:=uP hval (by decide) f4;replace f5:=uP hval (by decide) f5;have f6:=(congrFun hval 6).symm.trans (qay _ _ _);clear hval;refine qaB [(0,some 92),(6,some 98),(6,some 98)] (fun _=>rfl) rfl ?_;intro E hE;simp only [sP,f0,f6] at hE ⊢;refine qaz (m:=4) sl_bytes rfl rfl (show OwnX w2 (gf+1) 5 1 (.slice A8 q c8) q (bytesV XS) by have:=(hC1.next hbel9).a.own; rwa [HOL.out] at this) rfl rfl (by rw [qap,wordB_length]) (Rd.of_blk hb9' hb9'.lt) (by intro u hu; simp [bytesV,byteV] at hu; obtain ⟨_,_,rfl⟩:=hu; rfl) (by unfold maxLen; omega) (by omega) (by have:=(hC1.next hbel9).a.st.h.lt; omega) ?_;intro A9 c9 w9 hown9 hg9' hn9;have hap:=(hC1.next hbel9).app (ys:=XS++wordB 32 x 4) hg9' (by rw [List.length_append,HOL.out,wordB_length,qaT]; exact hown9);have HAP:=zY hap;clear hap hown9 hg9' hn9 hb9';go_wp2_with fail;refine .mk (hE _ _ (fun h=>absurd h (by decide)) ?_);clear hE E;generalize hval:upd _ 7 _=vals7;replace f0:=uP hval (by decide) f0;replace f1:=uP hval (by decide) f1;replace f2:=uP hval (by decide) f2;replace f3:=uP hval (by decide) f3;replace f4:=uP hval (by decide) f4;replace f5:=uP hval (by decide) f5;replace f6:=uP hval (by decide) f6;have f7:=(congrFun hval 7).symm.trans (qay _ _ _);clear hval;refine qaB [(7,some 99),(7,some 99),(0,some 92),(1,some 93),(2,some 94),(3,some 95),(4,some 96),(5,some 97),(6,some 98),(7,some 99)] (fun _=>rfl) rfl ?_;intro E hE;simp only [sP,f0,f1,f2,f3,f4,f5,f6,f7] at hE ⊢;go_wp2;refine .mk (hE _ _ (fun h=>absurd h (by decide)) ?_);clear hE E;generalize hval:upd _ 8 _=vals8;replace f0:=uP hval (by decide) f0;replace f1:=uP hval (by decide) f1;replace f2:=uP hval (by decide) f2;replace f3:=uP hval (by decide) f3;replace f4:=uP hval (by decide) f4;replace f5:=uP hval (by decide) f5;replace f6:=uP hval (by decide) f6;replace f7:=uP hval (by decide) f7;have f8:=(congrFun hval 8).symm.trans (qay _ _ _);clear hval;refine qce ?_;simp only [sP,f0,f1,f2,f3,f4,f5,f6,f7,f8];clear f0 f1 f2 f3 f4 f5 f6 f7 f8;clear HC0 hC1 hbel9;go_wp2_with fail;refine ⟨⟨k+1,q+4,A9,c9,by omega,by rw [HQ.out]; omega,by go_num,rfl,?_⟩,by simp [intOf]; omega⟩;rw [HNX.out];exact HAP.out
          ·obtain rfl:k=8:=by omega
           obtain rfl:q=8*4:=hq;have HSO:=zY hso;clear hso;go_wp2_with fail;go_ret;refine ⟨A8,c8,rfl,?_,by rw [← HGF.out]; exact HSO.out.a.st.bel⟩;have h:=HSO.out.a.own;rw [outW_length _ _ _ _ (by omega)] at h
           have hd:outW 32 4 sv 8=digS F32 data:=by
            rw [HSV.out,digS,← HALL.out,HAL.out,HNB.out];show _=(s8L (runS F32 ALL (j*64/64))).flatMap _;rw [Nat.mul_div_cancel _ (by decide)];rfl
           rw [← hd,← HGF.out];exact h.mono (by omega)
theorem Blk.newAt {w:World} {n:Nat} {t:TypeId} {cs:Array Value} (h:w.heap.size=n):Blk (w.alloc (.cells cs t)) n t cs:=h▸Blk.new w t cs
def zH:Array Value:=#[.int .i64 0,.int .i64 0,.slice none 0 0,.slice none 0 0,.slice none 0 0,.slice none 0 0,.slice none 0 0,.slice none 0 0]
theorem kL_take (F:ShaF) (n:Nat) (h:n<F.many):(kL F).take (n+1)=(kL F).take n++[stepsN.getD n 0/2^(64 - F.bits)%2^F.bits]:=by
 have hl:n<(kL F).length:=by rw [qbn]; exact h
 rw [List.take_succ_eq_append_getElem hl];have:=kL_get F n h;rw [List.getElem?_eq_getElem hl] at this;rw [Option.some.inj this];rfl
theorem start_take (F:ShaF) (n:Nat) (h:n<8):(s8L (startS F)).take (n+1)=(s8L (startS F)).take n++[firstN.getD n 0/2^(64 - F.bits)%2^F.bits]:=by
 rw [s8_take _ _ h,qd0 _ _ h]
def csV (bits many ga gb gc gd:Nat) (vK vF:Value):Array Value:=hC bits many (.slice (some ⟨ga,0,none⟩) 3 3) (.slice (some ⟨gb,0,none⟩) 3 3) (.slice (some ⟨gc,0,none⟩) 3 3) (.slice (some ⟨gd,0,none⟩) 3 3) vK vF
theorem of32_any (w:World):Calls Tryz.prog 52 #[.int .i64 32] w (OfPost F32 w):=by
 have hu:=Tryz.underlying108;obtain ⟨g0,hg0⟩:=eX (w.heap.size);go_enter Tryz.func52,Tryz.ntmps52;go_wp2_with fail;obtain ⟨gh,hgh⟩:=eX (w.heap.size+1+1+1+1+1);obtain ⟨ga,hga⟩:=eX (w.heap.size+1+1+1+1+1+1);obtain ⟨gb,hgb⟩:=eX (w.heap.size+1+1+1+1+1+1+1);obtain ⟨gc,hgc⟩:=eX (w.heap.size+1+1+1+1+1+1+1+1);obtain ⟨gd,hgd⟩:=eX (w.heap.size+1+1+1+1+1+1+1+1+1);have hd:ga≠gh∧gb≠gh∧gc≠gh∧gd≠gh:=by omega
 have hlt:g0<gh∧g0<ga∧g0<gb∧g0<gc∧g0<gd:=by omega
 refine qab (primes_any _) ?_;rintro e wp ⟨P,pc,rfl,hown,hbel⟩;have B0:=(((((((((((Blk.newAt (n:=w.heap.size) (t:=108) (cs:=zH) (by simp)).alloc _).alloc _).alloc _).alloc _).alloc _).alloc _).alloc _).alloc _).alloc _)).below hbel (by simp <;> omega);have Bh:=((((((Blk.newAt (n:=w.heap.size+1+1+1+1+1) (t:=108) (cs:=#[.int .i64 32,.int .i64 64,.slice (some ⟨w.heap.size+1+1+1+1+1+1,0,none⟩) 3 3,.slice (some ⟨w.heap.size+1+1+1+1+1+1+1,0,none⟩) 3 3,.slice (some ⟨w.heap.size+1+1+1+1+1+1+1+1,0,none⟩) 3 3,.slice (some ⟨w.heap.size+1+1+1+1+1+1+1+1+1,0,none⟩) 3 3,.slice none 0 0,.slice none 0 0]) (by simp)).alloc _).alloc _).alloc _).alloc _)).below hbel (by simp <;> omega);have Ba:=(((((Blk.newAt (n:=w.heap.size+1+1+1+1+1+1) (t:=3) (cs:=(tri F32.s0).toArray) (by simp)).alloc _).alloc _).alloc _)).below hbel (by simp <;> omega);have Bb:=((((Blk.newAt (n:=w.heap.size+1+1+1+1+1+1+1) (t:=3) (cs:=(tri F32.s1).toArray) (by simp)).alloc _).alloc _)).below hbel (by simp <;> omega);have Bc:=(((Blk.newAt (n:=w.heap.size+1+1+1+1+1+1+1+1) (t:=3) (cs:=(tri F32.t0).toArray) (by simp)).alloc _)).below hbel (by simp <;> omega);have Bd:=((Blk.newAt (n:=w.heap.size+1+1+1+1+1+1+1+1+1) (t:=3) (cs:=(tri F32.t1).toArray) (by simp))).below hbel (by simp <;> omega);have hbl:=(((((((((((below_new w _).alloc (by simp; try omega) _).alloc (by simp; try omega) _).alloc (by simp; try omega) _).alloc (by simp; try omega) _).alloc (by simp; try omega) _).alloc (by simp; try omega) _).alloc (by simp; try omega) _).alloc (by simp; try omega) _).alloc (by simp; try omega) _):Below w.heap.size w _).trans (hbel.mono (by simp <;> omega));have hown':=hown.mono (show w.heap.size≤_ by simp <;> omega);rw [← hgd,← hgc,← hgb,← hga,← hgh] at Bh ⊢;rw [← hg0] at B0 hbl hown' ⊢;rw [← hga] at Ba;rw [← hgb] at Bb;rw [← hgc] at Bc;rw [← hgd] at Bd;obtain ⟨gp,rfl,hgp1,hgp2⟩:=hown'.ptr (by decide);have hpc:=hown'.le_cap
 have hst0:OfSt w ⟨g0,gh,ga,gb,gc,gd⟩ F32 zH (.slice (some ⟨gp,0,none⟩) 80 pc) (csV 32 64 ga gb gc gd (.slice none 0 0) (.slice none 0 0)) (.slice none 0 0) ((kL F32).take 0) (.slice none 0 0) [] wp :=
  ⟨hbl,B0,Bh,Ba,Bb,Bc,Bd,hown',OwnX.nil _ _ _ _,OwnX.nil _ _ _ _,.inl rfl,hlt.1⟩
 have HD:=zY hd;have HLT:=zY hlt;have HG0:=zY hg0;have HST0:=zY hst0;clear B0 Bh Ba Bb Bc Bd hbl hown' hown hbel hd hlt hgp1 hgp2 hgh hga hgb hgc hgd hg0 hst0;go_wp2_with fail
 go_loopw [5] (fun i wr=>∃ (n:Nat) (A:Option Addr) (c:Nat),n≤64∧i=.int .i64 n∧OfSt w ⟨g0,gh,ga,gb,gc,gd⟩ F32 zH (.slice (some ⟨gp,0,none⟩) 80 pc) (csV 32 64 ga gb gc gd (.slice A n c) (.slice none 0 0)) (.slice A n c) ((kL F32).take n) (.slice none 0 0) [] wr) (fun i _=>64 - (intOf i).toNat)
 case atStart=>exact ⟨0,none,0,by omega,rfl,HST0.out⟩
 case round =>
  clear HST0;obtain ⟨n,A,c,hn,rfl,hst⟩:=hrel;have d1:=hst.h.cell 1;simp [csV,hC] at d1
  by_cases hnl:n<64
  ·have hnl':(n:Int)<64:=by omega
   obtain ⟨L,hL⟩:=eX ((kL F32).take n);have hLl:L.length=n:=by rw [hL,List.length_take,qbn,show F32.many=64 from rfl]; omega
   obtain ⟨pn,hpn⟩:=eX (primes80.getD n 0);have hpl:pn<65536:=by rw [hpn]; exact qdN n (by omega)
   have hrt:rootN pn 3=stepsN.getD n 0:=by rw [hpn]; exact rootN3 n (by omega)
   obtain ⟨rt,hrt2⟩:=eX (rootN pn 3);have hrl:rt<18446744073709551616:=by rw [hrt2,rootN]; exact Nat.mod_lt _ (by decide)
   obtain ⟨kn,hkn⟩:=eX (rt/2^(64 - 32)%2^32)
   have hnx:(kL F32).take (n+1)=L++[kn]:=by
    rw [hkn,hrt2,hrt,hL];exact kL_take F32 n hnl
   have ep:(wordsV .i64 primes80)[n]?=some (.int .i64 (pn:Int)):=by rw [hpn]; exact qaF (show n<80 by omega)
   rw [← hL] at hst;have HL:=zY hLl;have HPL:=zY hpl;have HRT:=zY hrt2;have HRL:=zY hrl;have HKN:=zY hkn;have HNX:=zY hnx;have EP:=zY ep;have hn80:n<80:=by omega
   have HC0:=hst.drew;have HST1:=zY hst;clear hL hLl hpn hpl hrt hrt2 hrl hkn hnx ep hst;go_wp2_with fail;clear HST1 d1;refine qbf (fun u=>OfSt w ⟨g0,gh,ga,gb,gc,gd⟩ F32 zH (.slice (some ⟨gp,0,none⟩) 80 pc) (csV 32 64 ga gb gc gd (.slice A n c) (.slice none 0 0)) (.slice A n c) L (.slice none 0 0) [] u) (fun i=>i == 0 || i == 1) 9 10 [(0,some 26),(1,some 27),(2,some 28),(3,some 29),(4,some 30),(5,some 31),(6,some 32),(7,some 33),(8,some 34),(9,some 35),(10,some 36),(11,some 37),(12,none)] (by kernel_rfl) (by kernel_rfl) (by decide) (by kernel_rfl) (fun _=>rfl) HC0 (fun _ _ hb h=>h.next hb) (by decide) ?_;apply DetR.next
   ·apply qaY [];exact fun _=>rfl;rfl;rintro vals - w1 hC1 E hE;simp only [sP] at hE ⊢;go_wp2;exact .mk hE
   apply DetR.next
   ·apply qaY [(0,some 26)];exact fun _=>rfl;rfl;intro vals vq w1 hC1 E hE;have d0:=hC1.h.cell 6;simp [csV,hC] at d0;simp only [sP,vq] at hE ⊢;clear vq;go_wp2;exact .mk hE
   apply DetR.next
   ·apply qaq;apply dP [];exact fun _=>rfl;rfl;intro vals vq w1 hC1 E hE;clear vq;simp only [sP] at hE ⊢;refine qac hC1.h rfl rfl rfl hu rfl qaJ ?_;go_wp2_with fail;exact .mk (hE _ hC1)
   apply DetR.next
   ·apply qaq;apply dP [];exact fun _=>rfl;rfl;intro vals vq w1 hC1 E hE;clear vq;simp only [sP] at hE ⊢;go_wp2;exact .mk (hE _ hC1)
   apply DetR.next
   ·apply qaq;apply dP [];exact fun _=>rfl;rfl;intro vals vq w1 hC1 E hE;clear vq;simp only [sP] at hE ⊢;go_wp2;exact .mk (hE _ hC1)
   apply DetR.next
   ·apply qaq;apply dP [(3,some 29),(4,some 30)];exact fun _=>rfl;rfl;intro vals vq w1 hC1 E hE;simp only [sP,vq] at hE ⊢;clear vq;go_wp2;exact .mk (hE _ hC1)
   apply DetR.next
   ·apply qaq;apply dP [(5,some 31)];exact fun _=>rfl;rfl;intro vals vq w1 hC1 E hE;have d0:=hC1.p.atN EP.out;simp only [sP,vq] at hE ⊢;clear vq;go_wp2;exact .mk (hE _ hC1)
   apply DetR.next
   ·apply qaq;apply dP [(6,some 32)];exact fun _=>rfl;rfl;intro vals vq w1 hC1 E hE;simp only [sP,vq] at hE ⊢;clear vq;go_wp2_with fail;refine qab (root3_any pn _ HPL.out) ?_;rintro e w2 ⟨rfl,hb2⟩;rw [← HRT.out];go_wp2_with fail;exact .mk (hE _ (hC1.next hb2))
   apply DetR.next
   ·apply qaq;apply dP [(2,some 28),(7,some 33),(7,some 33)];exact fun _=>rfl;rfl;intro vals vq w1 hC1 E hE;simp only [sP,vq] at hE ⊢;clear vq;go_wp2_with fail;refine qab (top_any 32 64 _ _ _ _ _ _ _ (.inl rfl) rt HRL.out) ?_;rintro e w2 ⟨rfl,hb2⟩;rw [← HKN.out];go_wp2_with fail;exact .mk (hE _ (hC1.next hb2))
   apply DetR.done;rintro vals ⟨⟨⟨⟨⟨⟨⟨⟨⟨-,f0⟩,f1⟩,f2⟩,f3⟩,f4⟩,f5⟩,f6⟩,f7⟩,f8⟩ w1 hC1;refine qaB [(8,some 34)] (fun _=>rfl) rfl ?_;intro E hE;simp only [sP,f8] at hE ⊢;go_wp2;refine .mk (hE _ _ (fun _=>below_new _ _) ?_);clear hE E;generalize hval:upd _ 9 _=vals9;replace f0:=uP hval (by decide) f0;replace f1:=uP hval (by decide) f1;replace f2:=uP hval (by decide) f2;replace f3:=uP hval (by decide) f3;replace f4:=uP hval (by decide) f4;replace f5:=uP hval (by decide) f5;replace f6:=uP hval (by decide) f6;replace f7:=uP hval (by decide) f7;replace f8:=uP hval (by decide) f8;have f9:=(congrFun hval 9).symm.trans (qay _ _ _);clear hval;refine qaB [(1,some 27),(9,some 35),(8,some 34)] (fun _=>rfl) rfl ?_;intro E hE;simp only [sP,f1,f8,f9] at hE ⊢;refine qao qb7 rfl rfl (show OwnX w1 g0 76 1 (.slice A n c) n (wordsV .u64 L) by have:=hC1.k; rwa [HL.out] at this) rfl rfl rfl rfl (by unfold maxLen; omega) (by omega) (by have:=hC1.res.lt; dsimp only at this; omega) ?_;intro A6 c6 w6 hown6 hg6 hn6;have hap:=hC1.appK (v':=.slice A6 (n+1) c6) (x:=kn) (by rw [HL.out]; exact hown6) hg6 (rfl);have HAP:=zY hap;clear hap hown6 hg6 hn6;go_wp2_with fail;refine .mk (hE _ _ (fun h=>absurd h (by decide)) ?_);clear hE E;generalize hval:upd _ 10 _=vals10;replace f0:=uP hval (by decide) f0;replace f1:=uP hval (by decide) f1;replace f2:=uP hval (by decide) f2;replace f3:=uP hval (by decide) f3;replace f4:=uP hval (by decide) f4;replace f5:=uP hval (by decide) f5;replace f6:=uP hval (by decide) f6;replace f7:=uP hval (by decide) f7;replace f8:=uP hval (by decide) f8;replace f9:=uP hval (by decide) f9;have f10:=(congrFun hval 10).symm.trans (qay _ _ _);clear hval;refine qaB [(0,some 26),(1,some 27),(2,some 28),(3,some 29),(4,some 30),(5,some 31),(6,some 32),(7,some 33),(8,some 34),(9,some 35),(10,some 36)] (fun _=>rfl) rfl ?_;intro E hE;simp only [sP,f0,f1,f2,f3,f4,f5,f6,f7,f8,f9,f10] at hE ⊢;go_wp2;refine .mk (hE _ _ (fun h=>absurd h (by decide)) ?_);clear hE E;generalize hval:upd _ 11 _=vals11;replace f0:=uP hval (by decide) f0;replace f1:=uP hval (by decide) f1;replace f2:=uP hval (by decide) f2;replace f3:=uP hval (by decide) f3;replace f4:=uP hval (by decide) f4;replace f5:=uP hval (by decide) f5;replace f6:=uP hval (by decide) f6;replace f7:=uP hval (by decide) f7;replace f8:=uP hval (by decide) f8;replace f9:=uP hval (by decide) f9;replace f10:=uP hval (by decide) f10;have f11:=(congrFun hval 11).symm.trans (qay _ _ _);clear hval;refine qaB [(11,some 37),(10,some 36),(10,some 36),(0,some 26),(1,some 27),(2,some 28),(3,some 29),(4,some 30),(5,some 31),(6,some 32),(7,some 33),(8,some 34),(9,some 35),(10,some 36)] (fun _=>rfl) rfl ?_;intro E hE;simp only [sP,f0,f1,f2,f3,f4,f5,f6,f7,f8,f9,f10,f11] at hE ⊢;refine qam (i:=6) (v:=.slice A6 (n+1) c6) HAP.out.h rfl rfl rfl rfl qdJ (show 6<8 by decide) rfl ?_;intro w7 hb7 hw7;have HFIN:=zY (HAP.out.put hw7 hb7 HD.out);clear hb7 hw7;go_wp2_with fail;refine .mk (hE undef _ (fun h=>absurd h (by decide)) ?_);clear hE E;generalize hval:upd _ 12 _=vals12;replace f0:=uP hval (by decide) f0;replace f1:=uP hval (by decide) f1;replace f2:=uP hval (by decide) f2;replace f3:=uP hval (by decide) f3;replace f4:=uP hval (by decide) f4;replace f5:=uP hval (by decide) f5;replace f6:=uP hval (by decide) f6;replace f7:=uP hval (by decide) f7;replace f8:=uP hval (by decide) f8;replace f9:=uP hval (by decide) f9;replace f10:=uP hval (by decide) f10;replace f11:=uP hval (by decide) f11;have f12:=(congrFun hval 12).symm.trans (qay _ _ _);clear hval;refine qce ?_;simp only [sP,f0,f1,f2,f3,f4,f5,f6,f7,f8,f9,f10,f11,f12];clear f0 f1 f2 f3 f4 f5 f6 f7 f8 f9 f10 f11 f12;clear HC0 HAP hC1;go_wp2_with fail;refine ⟨⟨n+1,A6,c6,by omega,by go_num,?_⟩,by simp [intOf]; omega⟩;rw [HNX.out];exact HFIN.out
  ·obtain rfl:n=64:=by omega
   rw [List.take_of_length_le (by rw [qbn]; exact Nat.le_refl _)] at hst;obtain ⟨gk,rfl,hk1,hk2⟩:=(show OwnX wr g0 76 1 (.slice A 64 c) 64 (wordsV .u64 (kL F32)) by have:=hst.k; rwa [qbn] at this).ptr (by decide)
   have hck:64≤c:=by
    have ho:OwnX wr g0 76 1 (.slice (some ⟨gk,0,none⟩) 64 c) 64 (wordsV .u64 (kL F32)):=by have:=hst.k; rwa [qbn] at this
    exact ho.le_cap
   have hst1:OfSt w ⟨g0,gh,ga,gb,gc,gd⟩ F32 zH (.slice (some ⟨gp,0,none⟩) 80 pc) (csV 32 64 ga gb gc gd (.slice (some ⟨gk,0,none⟩) 64 c) (.slice none 0 0)) (.slice (some ⟨gk,0,none⟩) 64 c) (kL F32) (.slice none 0 0) ((s8L (startS F32)).take 0) wr:=hst;have HST0:=zY hst1;have HK1:=zY hk1;clear hst hst1 hk1 hk2;obtain ⟨ck,rfl⟩:=eX c;go_wp2_with fail;clear d1;obtain ⟨wo,rfl⟩:∃ wo:World,wo=wr:=⟨_,rfl⟩
   go_loopw [6] (fun i wr=>∃ (n:Nat) (A:Option Addr) (c:Nat),n≤8∧i=.int .i64 n∧OfSt w ⟨g0,gh,ga,gb,gc,gd⟩ F32 zH (.slice (some ⟨gp,0,none⟩) 80 pc) (csV 32 64 ga gb gc gd (.slice (some ⟨gk,0,none⟩) 64 ck) (.slice A n c)) (.slice (some ⟨gk,0,none⟩) 64 ck) (kL F32) (.slice A n c) ((s8L (startS F32)).take n) wr) (fun i _=>8 - (intOf i).toNat)
   case atStart=>exact ⟨0,none,0,by omega,rfl,HST0.out⟩
   case round =>
    clear HST0;obtain ⟨n,A,c,hn,rfl,hst⟩:=hrel
    by_cases hnl:n<8
    ·have hnl':(n:Int)<8:=by omega
     obtain ⟨L,hL⟩:=eX ((s8L (startS F32)).take n);have hLl:L.length=n:=by rw [hL,List.length_take,show (s8L (startS F32)).length=8 from rfl]; omega
     obtain ⟨pn,hpn⟩:=eX (primes80.getD n 0);have hpl:pn<65536:=by rw [hpn]; exact qdN n (by omega)
     have hrt:rootN pn 2=firstN.getD n 0:=by rw [hpn]; exact rootN2 n hnl
     obtain ⟨rt,hrt2⟩:=eX (rootN pn 2);have hrl:rt<18446744073709551616:=by rw [hrt2,rootN]; exact Nat.mod_lt _ (by decide)
     obtain ⟨kn,hkn⟩:=eX (rt/2^(64 - 32)%2^32)
     have hnx:(s8L (startS F32)).take (n+1)=L++[kn]:=by
      rw [hkn,hrt2,hrt,hL];exact start_take F32 n hnl
     have ep:(wordsV .i64 primes80)[n]?=some (.int .i64 (pn:Int)):=by rw [hpn]; exact qaF (show n<80 by omega)
     rw [← hL] at hst;have HL:=zY hLl;have HPL:=zY hpl;have HRT:=zY hrt2;have HRL:=zY hrl;have HKN:=zY hkn;have HNX:=zY hnx;have EP:=zY ep;have hn80:n<80:=by omega
     have HC0:=hst.drew;have HST1:=zY hst;clear hL hLl hpn hpl hrt hrt2 hrl hkn hnx ep hst;go_wp2_with fail;clear HST1;refine qbf (fun u=>OfSt w ⟨g0,gh,ga,gb,gc,gd⟩ F32 zH (.slice (some ⟨gp,0,none⟩) 80 pc) (csV 32 64 ga gb gc gd (.slice (some ⟨gk,0,none⟩) 64 ck) (.slice A n c)) (.slice (some ⟨gk,0,none⟩) 64 ck) (kL F32) (.slice A n c) L u) (fun i=>i == 0 || i == 1) 9 10 [(0,some 42),(1,some 43),(2,some 44),(3,some 45),(4,some 46),(5,some 47),(6,some 48),(7,some 49),(8,some 50),(9,some 51),(10,some 52),(11,some 53),(12,none)] (by kernel_rfl) (by kernel_rfl) (by decide) (by kernel_rfl) (fun _=>rfl) HC0 (fun _ _ hb h=>h.next hb) (by decide) ?_;apply DetR.next
     ·apply qaY [];exact fun _=>rfl;rfl;rintro vals - w1 hC1 E hE;simp only [sP] at hE ⊢;go_wp2;exact .mk hE
     apply DetR.next
     ·apply qaY [(0,some 42)];exact fun _=>rfl;rfl;intro vals vq w1 hC1 E hE;have d0:=hC1.h.cell 7;simp [csV,hC] at d0;simp only [sP,vq] at hE ⊢;clear vq;go_wp2;exact .mk hE
     apply DetR.next
     ·apply qaq;apply dP [];exact fun _=>rfl;rfl;intro vals vq w1 hC1 E hE;clear vq;simp only [sP] at hE ⊢;refine qac hC1.h rfl rfl rfl hu rfl qaJ ?_;go_wp2_with fail;exact .mk (hE _ hC1)
     apply DetR.next
     ·apply qaq;apply dP [];exact fun _=>rfl;rfl;intro vals vq w1 hC1 E hE;clear vq;simp only [sP] at hE ⊢;go_wp2;exact .mk (hE _ hC1)
     apply DetR.next
     ·apply qaq;apply dP [];exact fun _=>rfl;rfl;intro vals vq w1 hC1 E hE;clear vq;simp only [sP] at hE ⊢;go_wp2;exact .mk (hE _ hC1)
     apply DetR.next
     ·apply qaq;apply dP [(3,some 45),(4,some 46)];exact fun _=>rfl;rfl;intro vals vq w1 hC1 E hE;simp only [sP,vq] at hE ⊢;clear vq;go_wp2;exact .mk (hE _ hC1)
     apply DetR.next
     ·apply qaq;apply dP [(5,some 47)];exact fun _=>rfl;rfl;intro vals vq w1 hC1 E hE;have d0:=hC1.p.atN EP.out;simp only [sP,vq] at hE ⊢;clear vq;go_wp2;exact .mk (hE _ hC1)
     apply DetR.next
     ·apply qaq;apply dP [(6,some 48)];exact fun _=>rfl;rfl;intro vals vq w1 hC1 E hE;simp only [sP,vq] at hE ⊢;clear vq;go_wp2_with fail;refine qab (root2_any pn _ HPL.out) ?_;rintro e w2 ⟨rfl,hb2⟩;rw [← HRT.out];go_wp2_with fail;exact .mk (hE _ (hC1.next hb2))
     apply DetR.next
     ·apply qaq;apply dP [(2,some 44),(7,some 49),(7,some 49)];exact fun _=>rfl;rfl;intro vals vq w1 hC1 E hE;simp only [sP,vq] at hE ⊢;clear vq;go_wp2_with fail;refine qab (top_any 32 64 _ _ _ _ _ _ _ (.inl rfl) rt HRL.out) ?_;rintro e w2 ⟨rfl,hb2⟩;rw [← HKN.out];go_wp2_with fail;exact .mk (hE _ (hC1.next hb2))
     apply DetR.done;rintro vals ⟨⟨⟨⟨⟨⟨⟨⟨⟨-,f0⟩,f1⟩,f2⟩,f3⟩,f4⟩,f5⟩,f6⟩,f7⟩,f8⟩ w1 hC1;refine qaB [(8,some 50)] (fun _=>rfl) rfl ?_;intro E hE;simp only [sP,f8] at hE ⊢;go_wp2;refine .mk (hE _ _ (fun _=>below_new _ _) ?_);clear hE E;generalize hval:upd _ 9 _=vals9;replace f0:=uP hval (by decide) f0;replace f1:=uP hval (by decide) f1;replace f2:=uP hval (by decide) f2;replace f3:=uP hval (by decide) f3;replace f4:=uP hval (by decide) f4;replace f5:=uP hval (by decide) f5;replace f6:=uP hval (by decide) f6;replace f7:=uP hval (by decide) f7;replace f8:=uP hval (by decide) f8;have f9:=(congrFun hval 9).symm.trans (qay _ _ _);clear hval;refine qaB [(1,some 43),(9,some 51),(8,some 50)] (fun _=>rfl) rfl ?_;intro E hE;simp only [sP,f1,f8,f9] at hE ⊢;refine qao qb7 rfl rfl (show OwnX w1 g0 76 1 (.slice A n c) n (wordsV .u64 L) by have:=hC1.f; rwa [HL.out] at this) rfl rfl rfl rfl (by unfold maxLen; omega) (by omega) (by have:=hC1.res.lt; dsimp only at this; omega) ?_;intro A6 c6 w6 hown6 hg6 hn6;have hap:=hC1.appF (v':=.slice A6 (n+1) c6) (x:=kn) (by rw [HL.out]; exact hown6) hg6 (hn6);have HAP:=zY hap;clear hap hown6 hg6 hn6;go_wp2_with fail;refine .mk (hE _ _ (fun h=>absurd h (by decide)) ?_);clear hE E;generalize hval:upd _ 10 _=vals10;replace f0:=uP hval (by decide) f0;replace f1:=uP hval (by decide) f1;replace f2:=uP hval (by decide) f2;replace f3:=uP hval (by decide) f3;replace f4:=uP hval (by decide) f4;replace f5:=uP hval (by decide) f5;replace f6:=uP hval (by decide) f6;replace f7:=uP hval (by decide) f7;replace f8:=uP hval (by decide) f8;replace f9:=uP hval (by decide) f9;have f10:=(congrFun hval 10).symm.trans (qay _ _ _);clear hval;refine qaB [(0,some 42),(1,some 43),(2,some 44),(3,some 45),(4,some 46),(5,some 47),(6,some 48),(7,some 49),(8,some 50),(9,some 51),(10,some 52)] (fun _=>rfl) rfl ?_;intro E hE;simp only [sP,f0,f1,f2,f3,f4,f5,f6,f7,f8,f9,f10] at hE ⊢;go_wp2;refine .mk (hE _ _ (fun h=>absurd h (by decide)) ?_);clear hE E;generalize hval:upd _ 11 _=vals11;replace f0:=uP hval (by decide) f0;replace f1:=uP hval (by decide) f1;replace f2:=uP hval (by decide) f2;replace f3:=uP hval (by decide) f3;replace f4:=uP hval (by decide) f4;replace f5:=uP hval (by decide) f5;replace f6:=uP hval (by decide) f6;replace f7:=uP hval (by decide) f7;replace f8:=uP hval (by decide) f8;replace f9:=uP hval (by decide) f9;replace f10:=uP hval (by decide) f10;have f11:=(congrFun hval 11).symm.trans (qay _ _ _);clear hval;refine qaB [(11,some 53),(10,some 52),(10,some 52),(0,some 42),(1,some 43),(2,some 44),(3,some 45),(4,some 46),(5,some 47),(6,some 48),(7,some 49),(8,some 50),(9,some 51),(10,some 52)] (fun _=>rfl) rfl ?_;intro E hE;simp only [sP,f0,f1,f2,f3,f4,f5,f6,f7,f8,f9,f10,f11] at hE ⊢;refine qam (i:=7) (v:=.slice A6 (n+1) c6) HAP.out.h rfl rfl rfl rfl qdJ (show 7<8 by decide) rfl ?_;intro w7 hb7 hw7;have HFIN:=zY (HAP.out.put hw7 hb7 HD.out);clear hb7 hw7;go_wp2_with fail;refine .mk (hE undef _ (fun h=>absurd h (by decide)) ?_);clear hE E;generalize hval:upd _ 12 _=vals12;replace f0:=uP hval (by decide) f0;replace f1:=uP hval (by decide) f1;replace f2:=uP hval (by decide) f2;replace f3:=uP hval (by decide) f3;replace f4:=uP hval (by decide) f4;replace f5:=uP hval (by decide) f5;replace f6:=uP hval (by decide) f6;replace f7:=uP hval (by decide) f7;replace f8:=uP hval (by decide) f8;replace f9:=uP hval (by decide) f9;replace f10:=uP hval (by decide) f10;replace f11:=uP hval (by decide) f11;have f12:=(congrFun hval 12).symm.trans (qay _ _ _);clear hval;refine qce ?_;simp only [sP,f0,f1,f2,f3,f4,f5,f6,f7,f8,f9,f10,f11,f12];clear f0 f1 f2 f3 f4 f5 f6 f7 f8 f9 f10 f11 f12;clear HC0 HAP hC1;go_wp2_with fail;refine ⟨⟨n+1,A6,c6,by omega,by go_num,?_⟩,by simp [intOf]; omega⟩;rw [HNX.out];exact HFIN.out
    ·obtain rfl:n=8:=by omega
     rw [show (s8L (startS F32)).take 8=s8L (startS F32) from rfl] at hst;obtain ⟨gz,rfl,hz1,hz2⟩:=(show OwnX wr g0 76 1 (.slice A 8 c) 8 (wordsV .u64 (s8L (startS F32))) from hst.f).ptr (by decide);have hcz:8≤c:=(show OwnX wr g0 76 1 (.slice (some ⟨gz,0,none⟩) 8 c) 8 (wordsV .u64 (s8L (startS F32))) from hst.f).le_cap;have HST2:=zY hst;clear hz1 hz2 hst
     go_wp2_with (first
      | (refine qac (x:=.tmp 3) HST2.out.h rfl rfl rfl hu rfl qaJ ?_)
      | (refine qad (x:=.tmp 2) (cells:=csV 32 64 ga gb gc gd (.slice (some ⟨gk,0,none⟩) 64 ck) (.slice (some ⟨gz,0,none⟩) 8 c)) HST2.out.res rfl rfl rfl rfl qaJ rfl (by simp [csV,hC,Value.oneCell']) ?_; intro w5 hb5 hw5))
     refine bodyPost_ret (qau (P:=Tryz.prog) rfl rfl hb5 hu rfl qaJ) rfl ?_;have h2:=HST2.out;have hdl:=HLT.out;refine ⟨⟨⟨ga,0,none⟩,⟨gb,0,none⟩,⟨gc,0,none⟩,⟨gd,0,none⟩,⟨gk,0,none⟩,⟨gz,0,none⟩,3,3,3,3,ck,c⟩,rfl,?_,?_⟩
     ·have k1:=hw5.blk h2.a (by dsimp only; omega);have k2:=hw5.blk h2.b (by dsimp only; omega);have k3:=hw5.blk h2.c (by dsimp only; omega);have k4:=hw5.blk h2.d (by dsimp only; omega);have k5:=hw5.own h2.k (qaI h2.k h2.res (by decide));have k6:=hw5.own h2.f (qaI h2.f h2.res (by decide));exact ⟨Rd.of_blk k1 k1.lt,Rd.of_blk k2 k2.lt,Rd.of_blk k3 k3.lt,Rd.of_blk k4 k4.lt,Rd.of_own (n:=64) (by rw [qbn] at k5; exact k5) (Nat.le_refl _),Rd.of_own (n:=8) k6 (Nat.le_refl _),Nat.le_refl _,Nat.le_refl _,Nat.le_refl _,Nat.le_refl _,hck,hcz⟩
     ·rw [← HG0.out];exact hw5.below h2.bel (Nat.le_refl _) (by have:=h2.res.lt; dsimp only at this; omega)
theorem r256_any (data:List UInt8) (A:Option Addr) (c B:Nat) (w:World) (hr:Rd w B A (bytesV data)) (hB:B≤w.heap.size) (hl:data.length≤1000) (hc:data.length≤c) :
  Calls Tryz.prog 35 #[.slice A data.length c] w (HSumPost F32 32 data w):=by
 have HR:=zY hr;have hu:=Tryz.underlying108;clear hr;go_enter Tryz.func35,Tryz.ntmps35;go_wp2_with fail;refine qab (of32_any w) ?_;rintro e w1 ⟨p,rfl,hok,hb1⟩;have HOK:=zY hok;have HB1:=zY hb1;clear hok hb1
 go_wp2_with (first
  | (refine qad (x:=.tmp 3) (cells:=hv F32 p) (Blk.new w1 108 zH) rfl rfl rfl rfl qaJ rfl (by simp [hv,hC,Value.oneCell']) ?_; intro w2 hb2 hw2; have HB2:=zY hb2; have HW2:=zY hw2; clear hb2 hw2)
  | (refine qac (x:=.tmp 3) HB2.out rfl rfl rfl hu rfl qaJ ?_))
 have hbel:Below w1.heap.size w1 w2:=HW2.out.below (below_new _ _) (Nat.le_refl _) (by simp);have hsz:w1.heap.size+1=w2.heap.size:=by rw [HW2.out.size]; simp
 refine qab (hsum32_any p data A c w1.heap.size w2 (HOK.out.below hbel) (((HR.out.mono hB).below HB1.out).mono HB1.out.size |>.below hbel) (by omega) hl hc) ?_;rintro e w3 ⟨A3,c3,rfl,ho3,hb3⟩;have HO3:=zY ho3;have HB3:=zY hb3;have HBEL:=zY hbel;have HSZ:=zY hsz;clear ho3 hb3 hbel hsz;go_wp2_with fail;go_ret;exact ⟨A3,c3,rfl,HO3.out.mono (by have:=HB1.out.size; have:=HSZ.out; omega),HB1.out.trans ((HBEL.out.mono HB1.out.size).trans (HB3.out.mono (by have:=HB1.out.size; have:=HSZ.out; omega)))⟩
end Go.Proofs.YtcbkaaodmjphdaaGreatDoor.Sh
namespace Go.Proofs.YtcbkaaodmjphdaaGreatDoor
set_option linter.unusedSimpArgs false
set_option linter.unusedVariables false
set_option maxRecDepth 100000
set_option maxHeartbeats 4000000
open Go.RowKit
theorem hexA_cut (n:Nat) (h:n<16):(⟨#[48,49,50,51,52,53,54,55,56,57,97,98,99,100,101,102]⟩:ByteArray).extract n (n+1)=⟨#[UInt8.ofNat (hexD n)]⟩:=by
 have:n=0∨n=1∨n=2∨n=3∨n=4∨n=5∨n=6∨n=7∨n=8∨n=9∨n=10∨n=11∨n=12∨n=13∨n=14∨n=15:=by omega
 rcases this with h | h | h | h | h | h | h | h | h | h | h | h | h | h | h | h <;> subst h <;> decide
theorem name_snoc (L:List UInt8) (a b:UInt8):(⟨L.toArray⟩:ByteArray)++⟨#[a]⟩++⟨#[b]⟩=⟨(L++[a,b]).toArray⟩:=by
 apply ByteArray.ext;rw [ByteArray.data_append,ByteArray.data_append];simp
theorem rname_any (data:List UInt8) (hl:data.length≤1000) (A:Option Addr) (c:Nat) (w:World) (hr:Rd w w.heap.size A (bytesV data)) (hc:data.length≤c) (hH32:(Sh.digS Sh.F32 data).length=32) :
  Calls Tryz.prog 26 #[.slice A data.length c] w (fun e w'=>e=.returned (.string (nameS data))∧Below w.heap.size w w'):=by
 have HS:=zY (Sh.r256_any data A c w.heap.size w hr (Nat.le_refl _) hl hc);obtain ⟨n,hn⟩:=eX (data.length);rw [← hn] at HS ⊢;clear hr hl hc hn;obtain ⟨H,hH⟩:=eX (Sh.digS Sh.F32 data);rw [← hH] at hH32;have HH:=zY hH;have HLH:=zY hH32;clear hH32;go_enter Tryz.func26,Tryz.ntmps26;go_wp2_with fail;refine qab HS.out ?_;rintro e u1 ⟨A1,c1,rfl,ho,hb1⟩;rw [← hH] at ho;have HRD:=zY (Rd.of_own ho (Nat.le_refl _));obtain ⟨ad0,hA1,-,-⟩:=HRD.out.at_ (k:=0) (by rw [qap,HLH.out]; decide);have HB1:=zY hb1;subst hA1;clear hb1 ho hH HS;go_wp2_with fail
 go_loopw [5,6] (fun s i wr=>∃ (k:Nat),k≤4∧i=.int .i64 (k:Int)∧s=.string ⟨(nameK H k).toArray⟩∧Below u1.heap.size u1 wr) (fun _ i _=>4 - (intOf i).toNat)
 case atStart=>exact ⟨0,by omega,rfl,rfl,Below.refl _ _⟩
 case round =>
  obtain ⟨k,hk,rfl,rfl,hbel⟩:=hrel
  by_cases hlt:k<4
  ·have hlt':(k:Int)<4:=by omega
   have hkH:k<H.length:=by rw [HLH.out]; omega
   obtain ⟨ad',hA',-,hcell⟩:=(HRD.out.below hbel).at_ (k:=k) (by rw [qap]; exact hkH)
   injection hA' with hA'
   subst hA';obtain ⟨x,hx⟩:=eX (H[k].toNat);have hxl:x<256:=by have:=H[k].toNat_lt; omega
   have hbv:(bytesV H)[k]'(by rw [qap]; exact hkH)=.int .u8 (x:Int):=by
    rw [hx]; simp [bytesV,byteV]
   rw [hbv] at hcell;obtain ⟨L,hL⟩:=eX (nameK H k);have HN:=zY (show nameK H (k+1)=L++hexB x by rw [qdu hkH,← hx,hL]);have hLl:L.length=2*k:=by rw [hL]; exact qcy (by omega)
   rw [← hL];have hd4:decide ((k:Int)<4)=true:=by simp; omega
   obtain ⟨SL,hSL⟩:∃ s:ByteArray,s=⟨L.toArray⟩:=⟨_,rfl⟩;rw [← hSL];clear hx hbv hL hkH;go_wp2_with fail;obtain ⟨a,ha⟩:=eX (x/16);obtain ⟨b,hb⟩:=eX (x%16);rw [show (x:Int)/16=(a:Int) by omega,show (x:Int)%16=(b:Int) by omega];have ha16:a<16:=by omega
   have hb16:b<16:=by omega
   have HA:=zY ha;have HB:=zY hb;have HX:=zY hxl;clear ha hb hxl
   go_quiet (fail)
   rw [hexA_cut a ha16,hexA_cut b hb16,name_snoc];go_wp2_with fail
   go_roundw
   case rel=>exact ⟨k+1,by omega,by go_num,by rw [HN.out,hexB,← HA.out,← HB.out],by first | exact hbel | exact hbel.drew | exact qbV hbel _⟩
   case measure=>simp [intOf]; omega
  ·obtain rfl:k=4:=by omega
   have HF:=zY (HB1.out.trans (hbel.mono HB1.out.size));have hd4:decide (((4:Nat):Int)<4)=false:=by decide
   clear hbel;go_wp2_with fail;go_ret;exact ⟨by rw [nameS,← HH.out]; rfl,HF.out⟩
theorem own_none {w:World} {base e m c:Nat} {A:Option Addr} {xs:List Value} (h:w.ownsRow base e 1 (.slice A m c) m xs):w.ownsRow base e 1 (.slice A 0 c) 0 []:=by
 refine ⟨rfl,?_⟩
 rcases h.2 with ⟨hv,rfl⟩ | ⟨g,cap,cur,hv,hb,hg,hn,hm,hs,_⟩
 ·exact .inl ⟨hv,rfl⟩
 ·injection hv with h1 h2 h3
  subst h1 h3;exact .inr ⟨g,c,cur,rfl,hb,hg,Nat.zero_le _,hm,hs,by simp⟩
theorem u8z:∃ i,Tryz.prog.info? 5=some i∧i.zero=some (.int .u8 0):=by
 obtain ⟨i,hi,h0,_,_⟩:=info_parts (show (Tryz.prog.info? 5).map (fun i=>(i.zero,i.size,i.bytes))=some (some (.int .u8 0),1,1) by kernel_rfl);exact ⟨i,hi,h0⟩
def GrowPost (w:World) (e:Ending) (w':World):Prop :=
 ∃ A c,e=.returned (.slice A 0 c)∧w'.ownsRow w.heap.size 5 1 (.slice A 0 c) 0 []∧Below w.heap.size w w'
theorem grow_any (n:Nat) (hn:n≤40000) (w:World) :
  Calls Tryz.prog 91 #[.slice none 0 0,.int .i64 (n:Int)] w (GrowPost w):=by
 have h0:(0:Int)≤n:=by omega
 have h1:(n:Int)≤40000:=by omega
 have hu8:∃ i,Tryz.prog.info? 5=some i∧i.zero=some (.int .u8 0):=u8z
 rcases Nat.eq_zero_or_pos n with h00 | hp
 ·have h2:(n:Int)≤0:=by omega
  clear h00;go_enter Tryz.func91,Tryz.ntmps91;go_wp2_with fail;go_ret;exact ⟨_,_,rfl,⟨rfl,.inl ⟨rfl,rfl⟩⟩,Below.refl _ _⟩
 ·have h2:(0:Int)<n:=by omega
  have HP:=zY hp;clear hp;go_enter Tryz.func91,Tryz.ntmps91;have hg:=qed (w:=w) (base:=w.heap.size) (e:=5) (n:=0) (m:=n) (old:=0) (z:=.int .u8 0) (xs:=[]) (news:=List.replicate n (Value.int .u8 0)) (size:=1) (by simp) (by simp) rfl (by unfold maxLen; omega) (Nat.le_refl _);simp only [Nat.zero_add,List.nil_append,Array.empty_append] at hg;have hzc:Builtin.zeroCells #[.int .u8 0] n=(List.replicate n (Value.int .u8 0)).toArray:=by apply Array.ext'; exact qco n
  rw [← hzc] at hg;have HO:=zY (own_none hg);have hcap:=(qcj (OwnX.of hg)).1;have HB:=zY (fun o=>qbc (B:=w.heap.size) (v:=.slice none 0 0) (qbY w o _) (Nat.le_refl _) (by intro k hk; simp [Value.ownBlock] at hk))
  have h48:¬ (281474976710656<Builtin.nextslicecap n 0*Tryz.t5.bytes):=by
   have:=growslice_fits (bytes:=Tryz.t5.bytes) (need:=n) (old:=0) (by omega) (by show n*1≤_; omega);omega
  have h63:¬ (9223372036854775807<(n:Int)):=by omega
  have hbb:¬ (281474976710656<(n:Int)*(Tryz.t5.bytes:Int)):=by show ¬ (281474976710656<(n:Int)*1); omega
  have hmm:¬ (281474976710656<(n:Int)):=by omega
  have hn0:¬ n=0:=by omega
  clear hg hzc;go_wp2_with fail;go_ret;exact ⟨_,_,rfl,HO.out,HB.out _⟩
theorem qbK {w:World} {A:Option Addr} {a:List Nat} (h:Rd w w.heap.size A (dV a)) {k:Nat} (hk:k<a.length):∃ ad,A=some ad∧w.cell? (ad.add k)=some (.int .i64 ((a.getD k 0:Nat):Int)):=by
 obtain ⟨ad,h1,_,h3⟩:=h.at_ (k:=k) (by rw [qbL]; exact hk);rw [dV_at hk] at h3;refine ⟨ad,h1,?_⟩;rw [h3,List.getD_eq_getElem?_getD,List.getElem?_eq_getElem hk];rfl
theorem qdg {a:List Nat} {k:Nat} (h:¬ k<a.length):a.getD k 0=0:=by
 rw [List.getD_eq_getElem?_getD,List.getElem?_eq_none (by omega)]; rfl
theorem qej (a b:List Nat) (ha:Dg a) (hb:Dg b) (hle:leV b≤leV a) (A B:Option Addr) (c d:Nat) (w:World) (hra:Rd w w.heap.size A (dV a)) (hrb:Rd w w.heap.size B (dV b)) (hla:a.length≤1000000) (hlb:b.length≤1000000) :
  Calls Tryz.prog 85 #[.slice A a.length c,.slice B b.length d] w (DigPost (digN a.length (leV a - leV b)) w):=by
 obtain ⟨n,hn⟩:=eX (a.length);obtain ⟨m,hm⟩:=eX (b.length);rw [← hn,← hm];have hn63:(n:Int)≤1000000:=by omega
 have hm63:(m:Int)≤1000000:=by omega
 have hmk:=qcf n (by omega);have hst0:D1 w w.heap.size (partL [] n) _:=qdF (partL [] n) (Below.refl w.heap.size w);have HRA:=zY hra;have HRB:=zY hrb;have HA:=zY ha;have HB:=zY hb;have HN:=zY hn;have HM:=zY hm;have HLE:=zY hle;have HST0:=zY hst0;clear hra hrb ha hb hn hm hla hlb hle hst0;go_enter Tryz.func85,Tryz.ntmps85;go_wp2_with fail;generalize hg:w.heap.size=g at HST0 HRA HRB ⊢;have HG:=zY hg;clear hg hmk
 go_loopw [6,7] (fun s i wr=>∃ (k bor:Nat) (out:List Nat),k≤n∧i=.int .i64 k∧bor≤1∧s=.int .i64 bor∧out.length=k∧Dg out∧leV out+leV (b.take k)=leV (a.take k)+256^k*bor∧D1 w g (partL out n) wr) (fun _ i _=>n - (intOf i).toNat)
 case atStart=>exact ⟨0,0,[],by omega,rfl,by omega,rfl,rfl,by unfold Dg; simp,by simp [leV],HST0.out⟩
 case round =>
  clear HST0;obtain ⟨k,s,out,hk,rfl,hs,rfl,hol,hod,heq,hst⟩:=hrel
  by_cases hlt:k<n
  ·have hlt':(k:Int)<(n:Int):=by omega
   have hel:Below g w wr:=by have h:=hst.bel; rw [HG.out] at h; exact h
   have hgs:g≤wr.heap.size:=by rw [← HG.out]; exact hst.bel.size
   obtain ⟨ad,rfl,hca⟩:=qbK ((HRA.out.below hel).mono hgs) (k:=k) (by rw [← HN.out]; exact hlt);obtain ⟨x,hx⟩:=eX (a.getD k 0);obtain ⟨y,hy⟩:=eX (b.getD k 0);have hxl:x<256:=by rw [hx]; exact qa3 HA.out k
   have hyl:y<256:=by rw [hy]; exact qa3 HB.out k
   rw [← hx] at hca;have hstep:=minus_step (a:=a) HB.out hs hol heq;rw [← hx,← hy] at hstep;have hdl:=subD_lt hxl hyl hs;have hset:=qc5 out n k (subD x y s) hol hlt;have hod2:=qew hod hdl;have hol2:(out++[subD x y s]).length=k+1:=by rw [List.length_append,hol]; rfl
   have HSTEP:=zY hstep;have HSET:=zY hset;have HOD:=zY hod2;have HOL:=zY hol2;have HST:=zY hst;have HSZ:=zY (qa4 out n (by omega));have hx':(x:Int)<256:=by omega
   have hy':(y:Int)<256:=by omega
   have hs':(s:Int)≤1:=by omega
   have hKM:(k<m→∃ bd,B=some bd∧wr.cell? (bd.add k)=some (.int .i64 (y:Int)))∧(¬ k<m→y=0):=⟨fun h=>by
    obtain ⟨bd,h1,h2⟩:=qbK ((HRB.out.below hel).mono hgs) (k:=k) (by rw [← HM.out]; exact h);rw [← hy] at h2;exact ⟨bd,h1,h2⟩,fun h=>by rw [hy]; exact qdg (by rw [← HM.out]; exact h)⟩
   obtain ⟨hk1,hk2⟩:=hKM;clear hst hstep hset hod hod2 hol hol2 heq hx hy hxl hyl hs hdl hel hgs;obtain ⟨dd,hDD⟩:∃ dd,subD x y s=dd:=⟨_,rfl⟩
   by_cases hkm:k<m <;> by_cases hlo:x<s+y
   ·obtain ⟨bd,rfl,hcb⟩:=hk1 hkm;have hkm':(k:Int)<(m:Int):=by omega
    clear hk1 hk2;have hv0:(x:Int) - (s:Int) - (y:Int)<0:=by omega
    have hdd:subD x y s=dd:=hDD;have hv:(x:Int) - (s:Int) - (y:Int)+256=(dd:Int):=by rw [← hdd]; unfold subD; rw [if_pos hlo]; omega
    have hc1:subC x y s=1:=by unfold subC; rw [if_pos hlo]
    have hdl:(dd:Int)<256:=by omega
    rw [hdd] at HSTEP HSET HOD HOL;rw [hc1] at HSTEP;have HD:=zY hdd;clear hdd hDD hc1 hlo hkm;go_wp2_with (refine qam (x:=.tmp 41) (i:=k) (v:=.int .i64 (dd:Int)) HST.out.out rfl rfl rfl rfl qbr (by rw [qbP,HSZ.out]; exact hlt) rfl ?_; intro w5 hb5 hw5; have hst5:=HST.out.put (l':=partL (out++[dd]) n) hw5 (by rw [qbt,HSET.out] at hb5; exact hb5); have HST5:=zY hst5; clear hst5 hb5 hw5);exact ⟨⟨k+1,1,out++[dd],by omega,by go_num,by omega,rfl,HOL.out,HOD.out,HSTEP.out,HST5.out⟩,by simp [intOf]; omega⟩
   ·obtain ⟨bd,rfl,hcb⟩:=hk1 hkm;have hkm':(k:Int)<(m:Int):=by omega
    clear hk1 hk2;have hv0:¬ (x:Int) - (s:Int) - (y:Int)<0:=by omega
    have hdd:subD x y s=dd:=hDD;have hv:(x:Int) - (s:Int) - (y:Int)=(dd:Int):=by rw [← hdd]; unfold subD; rw [if_neg hlo]; omega
    have hc1:subC x y s=0:=by unfold subC; rw [if_neg hlo]
    have hdl:(dd:Int)<256:=by omega
    rw [hdd] at HSTEP HSET HOD HOL;rw [hc1] at HSTEP;have HD:=zY hdd;clear hdd hDD hc1 hlo hkm;go_wp2_with (refine qam (x:=.tmp 41) (i:=k) (v:=.int .i64 (dd:Int)) HST.out.out rfl rfl rfl rfl qbr (by rw [qbP,HSZ.out]; exact hlt) rfl ?_; intro w5 hb5 hw5; have hst5:=HST.out.put (l':=partL (out++[dd]) n) hw5 (by rw [qbt,HSET.out] at hb5; exact hb5); have HST5:=zY hst5; clear hst5 hb5 hw5);exact ⟨⟨k+1,0,out++[dd],by omega,by go_num,by omega,rfl,HOL.out,HOD.out,HSTEP.out,HST5.out⟩,by simp [intOf]; omega⟩
   ·obtain rfl:=hk2 hkm;have hkm':¬ (k:Int)<(m:Int):=by omega
    clear hk1 hk2;have hv0:(x:Int) - (s:Int)<0:=by omega
    have hdd:subD x 0 s=dd:=hDD;have hv:(x:Int) - (s:Int)+256=(dd:Int):=by rw [← hdd]; unfold subD; rw [if_pos hlo]; omega
    have hc1:subC x 0 s=1:=by unfold subC; rw [if_pos hlo]
    have hdl:(dd:Int)<256:=by omega
    rw [hdd] at HSTEP HSET HOD HOL;rw [hc1] at HSTEP;have HD:=zY hdd;clear hdd hDD hc1 hlo hkm;go_wp2_with (refine qam (x:=.tmp 41) (i:=k) (v:=.int .i64 (dd:Int)) HST.out.out rfl rfl rfl rfl qbr (by rw [qbP,HSZ.out]; exact hlt) rfl ?_; intro w5 hb5 hw5; have hst5:=HST.out.put (l':=partL (out++[dd]) n) hw5 (by rw [qbt,HSET.out] at hb5; exact hb5); have HST5:=zY hst5; clear hst5 hb5 hw5);exact ⟨⟨k+1,1,out++[dd],by omega,by go_num,by omega,rfl,HOL.out,HOD.out,HSTEP.out,HST5.out⟩,by simp [intOf]; omega⟩
   ·obtain rfl:=hk2 hkm;have hkm':¬ (k:Int)<(m:Int):=by omega
    clear hk1 hk2;have hv0:¬ (x:Int) - (s:Int)<0:=by omega
    have hdd:subD x 0 s=dd:=hDD;have hv:(x:Int) - (s:Int)=(dd:Int):=by rw [← hdd]; unfold subD; rw [if_neg hlo]; omega
    have hc1:subC x 0 s=0:=by unfold subC; rw [if_neg hlo]
    have hdl:(dd:Int)<256:=by omega
    rw [hdd] at HSTEP HSET HOD HOL;rw [hc1] at HSTEP;have HD:=zY hdd;clear hdd hDD hc1 hlo hkm;go_wp2_with (refine qam (x:=.tmp 41) (i:=k) (v:=.int .i64 (dd:Int)) HST.out.out rfl rfl rfl rfl qbr (by rw [qbP,HSZ.out]; exact hlt) rfl ?_; intro w5 hb5 hw5; have hst5:=HST.out.put (l':=partL (out++[dd]) n) hw5 (by rw [qbt,HSET.out] at hb5; exact hb5); have HST5:=zY hst5; clear hst5 hb5 hw5);exact ⟨⟨k+1,0,out++[dd],by omega,by go_num,by omega,rfl,HOL.out,HOD.out,HSTEP.out,HST5.out⟩,by simp [intOf]; omega⟩
  ·obtain rfl:k=n:=by omega
   have hfin:=minus_end HA.out HB.out hod hol HN.out.symm HLE.out heq;rw [qdr out _ hol] at hst;have HST:=zY hst;have HFIN:=zY hfin;have HOL:=zY hol;clear hst hfin hol hod heq hs hk hlt;go_wp2_with fail;go_ret;rw [← HFIN.out];exact HST.out.post HOL.out.symm (Nat.le_refl _)
theorem qey {l:List Nat} {k:Nat} (h:k<l.length):(dV l).toArray[k]?=some (.int .i64 ((l.getD k 0:Nat):Int)):=by
 simp [dV,numV,List.getElem?_eq_getElem h,List.getD_eq_getElem?_getD]
theorem qd3 (a b:List Nat) (ha:Dg a) (hb:Dg b) (A B:Option Addr) (c d:Nat) (w:World) (hra:Rd w w.heap.size A (dV a)) (hrb:Rd w w.heap.size B (dV b)) (hla:a.length≤1000000) (hlb:b.length≤1000000) :
  Calls Tryz.prog 100 #[.slice A a.length c,.slice B b.length d] w (DigPost (digN (max a.length b.length+1) (leV a+leV b)) w):=by
 obtain ⟨n,hn⟩:=eX (a.length);obtain ⟨m,hm⟩:=eX (b.length);rw [← hn,← hm];have hn63:(n:Int)≤1000000:=by omega
 have hm63:(m:Int)≤1000000:=by omega
 have HRA:=zY hra;have HRB:=zY hrb;have HA:=zY ha;have HB:=zY hb;have HN:=zY hn;have HM:=zY hm;clear hra hrb ha hb hn hm hla hlb
 by_cases hnm:n<m
 ·have hnm':(m:Int) > (n:Int):=by omega
  have hpp:max n m=m:=Nat.max_eq_right (by omega);have hp1:n≤m:=by omega
  have hp2:m≤m:=Nat.le_refl _;obtain ⟨N,hN⟩:=eX (m+1);have hNi:(m:Int)+1=(N:Int):=by omega
  have hmk:=qcf N (by omega);have hst0:D1 w w.heap.size (partL [] N) _:=qdF (partL [] N) (Below.refl w.heap.size w);have HST0:=zY hst0;have HNN:=zY hN;have Hm:=zY hpp;have HP1:=zY hp1;have HP2:=zY hp2;clear hst0 hN hpp hp1 hp2 hnm;go_enter Tryz.func100,Tryz.ntmps100;go_wp2_with fail;generalize hg:w.heap.size=g at HST0 HRA HRB ⊢;have HG:=zY hg;clear hg hmk
  go_loopw [7,8] (fun s i wr=>∃ (k bor:Nat) (out:List Nat),k≤N∧i=.int .i64 k∧bor≤1∧s=.int .i64 bor∧out.length=k∧Dg out∧leV out+256^k*bor=leV (a.take k)+leV (b.take k)∧D1 w g (partL out N) wr) (fun _ i _=>N - (intOf i).toNat)
  case atStart=>exact ⟨0,0,[],by omega,rfl,by omega,rfl,rfl,by unfold Dg; simp,by simp [leV],HST0.out⟩
  case round =>
   clear HST0;obtain ⟨k,s,out,hk,rfl,hs,rfl,hol,hod,heq,hst⟩:=hrel
   by_cases hlt:k<N
   ·have hlt':(k:Int)≤(m:Int):=by omega
    have hel:Below g w wr:=by have h:=hst.bel; rw [HG.out] at h; exact h
    have hgs:g≤wr.heap.size:=by rw [← HG.out]; exact hst.bel.size
    obtain ⟨x,hx⟩:=eX (a.getD k 0);obtain ⟨y,hy⟩:=eX (b.getD k 0);have hxl:x<256:=by rw [hx]; exact qa3 HA.out k
    have hyl:y<256:=by rw [hy]; exact qa3 HB.out k
    have hstep:=plus_step hol heq;rw [← hx,← hy] at hstep;have hcarry:(s+x+y)/256≤1:=by omega
    obtain ⟨v,hv⟩:∃ v,s+x+y=v:=⟨_,rfl⟩;rw [hv] at hstep hcarry;obtain ⟨dd,hdd⟩:∃ dd,v%256=dd:=⟨_,rfl⟩;obtain ⟨cc,hcc⟩:∃ cc,v/256=cc:=⟨_,rfl⟩;rw [hdd,hcc] at hstep;rw [hcc] at hcarry;have hddi:(v:Int)%256=(dd:Int):=by omega
    have hcci:(v:Int)/256=(cc:Int):=by omega
    have hset:=qc5 out N k dd hol hlt;have hod2:=qew hod (show dd<256 by omega);have hol2:(out++[dd]).length=k+1:=by rw [List.length_append,hol]; rfl
    have HSTEP:=zY hstep;have HSET:=zY hset;have HOD:=zY hod2;have HOL:=zY hol2;have HST:=zY hst;have HCARRY:=zY hcarry;have HSZ:=zY (qa4 out N (by omega));have hx':(x:Int)<256:=by omega
    have hy':(y:Int)<256:=by omega
    have hs':(s:Int)≤1:=by omega
    have hv':(v:Int)≤511:=by omega
    have hKM:(k<m→∃ bd,B=some bd∧wr.cell? (bd.add k)=some (.int .i64 (y:Int)))∧(¬ k<m→y=0):=⟨fun h=>by
     obtain ⟨bd,h1,h2⟩:=qbK ((HRB.out.below hel).mono hgs) (k:=k) (by rw [← HM.out]; exact h);rw [← hy] at h2;exact ⟨bd,h1,h2⟩,fun h=>by rw [hy]; exact qdg (by rw [← HM.out]; exact h)⟩
    have hKN:(k<n→∃ ad,A=some ad∧wr.cell? (ad.add k)=some (.int .i64 (x:Int)))∧(¬ k<n→x=0):=⟨fun h=>by
     obtain ⟨bd,h1,h2⟩:=qbK ((HRA.out.below hel).mono hgs) (k:=k) (by rw [← HN.out]; exact h);rw [← hx] at h2;exact ⟨bd,h1,h2⟩,fun h=>by rw [hx]; exact qdg (by rw [← HN.out]; exact h)⟩
    have d0:=hst.out.cell k;rw [qey (by rw [qa4 out N (by omega)]; exact hlt)] at d0;have q0:=hst.out.free k;obtain ⟨hk1,hk2⟩:=hKM;obtain ⟨hj1,hj2⟩:=hKN;clear hst hstep hset hod hod2 hol hol2 heq hx hy hxl hyl hs hel hgs hcarry hdd hcc
    by_cases hkn:k<n <;> by_cases hkm:k<m
    ·obtain ⟨ad,rfl,hca⟩:=hj1 hkn;have hkn':(k:Int)<(n:Int):=by omega
     obtain ⟨bd,rfl,hcb⟩:=hk1 hkm;have hkm':(k:Int)<(m:Int):=by omega
     have hvi:(s:Int)+(x:Int)+(y:Int)=(v:Int):=by omega
     clear hk1 hk2 hj1 hj2 hv hkn hkm;go_wp2_with fail;exact ⟨⟨k+1,cc,out++[dd],by omega,by go_num,HCARRY.out,rfl,HOL.out,HOD.out,HSTEP.out,HST.out.put (qai _ _ _ _) (by have h:=qak (i:=k) HST.out.out (.int .i64 (dd:Int)); rw [qbt,HSET.out] at h; exact h)⟩,by simp [intOf]; omega⟩
    ·exfalso; omega
    ·obtain rfl:=hj2 hkn;have hkn':¬ (k:Int)<(n:Int):=by omega
     obtain ⟨bd,rfl,hcb⟩:=hk1 hkm;have hkm':(k:Int)<(m:Int):=by omega
     have hvi:(s:Int)+(y:Int)=(v:Int):=by omega
     clear hk1 hk2 hj1 hj2 hv hkn hkm;go_wp2_with fail;exact ⟨⟨k+1,cc,out++[dd],by omega,by go_num,HCARRY.out,rfl,HOL.out,HOD.out,HSTEP.out,HST.out.put (qai _ _ _ _) (by have h:=qak (i:=k) HST.out.out (.int .i64 (dd:Int)); rw [qbt,HSET.out] at h; exact h)⟩,by simp [intOf]; omega⟩
    ·obtain rfl:=hj2 hkn;have hkn':¬ (k:Int)<(n:Int):=by omega
     obtain rfl:=hk2 hkm;have hkm':¬ (k:Int)<(m:Int):=by omega
     obtain rfl:s=v:=by omega
     clear hk1 hk2 hj1 hj2 hv hkn hkm;go_wp2_with fail;exact ⟨⟨k+1,cc,out++[dd],by omega,by go_num,HCARRY.out,rfl,HOL.out,HOD.out,HSTEP.out,HST.out.put (qai _ _ _ _) (by have h:=qak (i:=k) HST.out.out (.int .i64 (dd:Int)); rw [qbt,HSET.out] at h; exact h)⟩,by simp [intOf]; omega⟩
   ·obtain rfl:k=N:=by omega
    have hge:¬ (k:Int)≤(m:Int):=by omega
    have hfin:=plus_end (n:=m) HA.out HB.out hod (by rw [hol]; exact HNN.out) (by rw [← HN.out]; exact HP1.out) (by rw [← HM.out]; exact HP2.out) (by rw [← HNN.out]; exact heq);rw [qdr out _ hol] at hst;have HST:=zY hst;have HFIN:=zY hfin;have HOL:=zY hol;clear hst hfin hol hod heq hs hk hlt;go_wp2_with fail;go_ret;rw [Hm.out,← HFIN.out];exact HST.out.post HOL.out.symm (Nat.le_refl _)
 ·have hnm':¬ (m:Int) > (n:Int):=by omega
  have hpp:max n m=n:=Nat.max_eq_left (by omega);have hp1:n≤n:=Nat.le_refl _;have hp2:m≤n:=by omega
  obtain ⟨N,hN⟩:=eX (n+1);have hNi:(n:Int)+1=(N:Int):=by omega
  have hmk:=qcf N (by omega);have hst0:D1 w w.heap.size (partL [] N) _:=qdF (partL [] N) (Below.refl w.heap.size w);have HST0:=zY hst0;have HNN:=zY hN;have Hn:=zY hpp;have HP1:=zY hp1;have HP2:=zY hp2;clear hst0 hN hpp hp1 hp2 hnm;go_enter Tryz.func100,Tryz.ntmps100;go_wp2_with fail;generalize hg:w.heap.size=g at HST0 HRA HRB ⊢;have HG:=zY hg;clear hg hmk
  go_loopw [7,8] (fun s i wr=>∃ (k bor:Nat) (out:List Nat),k≤N∧i=.int .i64 k∧bor≤1∧s=.int .i64 bor∧out.length=k∧Dg out∧leV out+256^k*bor=leV (a.take k)+leV (b.take k)∧D1 w g (partL out N) wr) (fun _ i _=>N - (intOf i).toNat)
  case atStart=>exact ⟨0,0,[],by omega,rfl,by omega,rfl,rfl,by unfold Dg; simp,by simp [leV],HST0.out⟩
  case round =>
   clear HST0;obtain ⟨k,s,out,hk,rfl,hs,rfl,hol,hod,heq,hst⟩:=hrel
   by_cases hlt:k<N
   ·have hlt':(k:Int)≤(n:Int):=by omega
    have hel:Below g w wr:=by have h:=hst.bel; rw [HG.out] at h; exact h
    have hgs:g≤wr.heap.size:=by rw [← HG.out]; exact hst.bel.size
    obtain ⟨x,hx⟩:=eX (a.getD k 0);obtain ⟨y,hy⟩:=eX (b.getD k 0);have hxl:x<256:=by rw [hx]; exact qa3 HA.out k
    have hyl:y<256:=by rw [hy]; exact qa3 HB.out k
    have hstep:=plus_step hol heq;rw [← hx,← hy] at hstep;have hcarry:(s+x+y)/256≤1:=by omega
    obtain ⟨v,hv⟩:∃ v,s+x+y=v:=⟨_,rfl⟩;rw [hv] at hstep hcarry;obtain ⟨dd,hdd⟩:∃ dd,v%256=dd:=⟨_,rfl⟩;obtain ⟨cc,hcc⟩:∃ cc,v/256=cc:=⟨_,rfl⟩;rw [hdd,hcc] at hstep;rw [hcc] at hcarry;have hddi:(v:Int)%256=(dd:Int):=by omega
    have hcci:(v:Int)/256=(cc:Int):=by omega
    have hset:=qc5 out N k dd hol hlt;have hod2:=qew hod (show dd<256 by omega);have hol2:(out++[dd]).length=k+1:=by rw [List.length_append,hol]; rfl
    have HSTEP:=zY hstep;have HSET:=zY hset;have HOD:=zY hod2;have HOL:=zY hol2;have HST:=zY hst;have HCARRY:=zY hcarry;have HSZ:=zY (qa4 out N (by omega));have hx':(x:Int)<256:=by omega
    have hy':(y:Int)<256:=by omega
    have hs':(s:Int)≤1:=by omega
    have hv':(v:Int)≤511:=by omega
    have hKM:(k<m→∃ bd,B=some bd∧wr.cell? (bd.add k)=some (.int .i64 (y:Int)))∧(¬ k<m→y=0):=⟨fun h=>by
     obtain ⟨bd,h1,h2⟩:=qbK ((HRB.out.below hel).mono hgs) (k:=k) (by rw [← HM.out]; exact h);rw [← hy] at h2;exact ⟨bd,h1,h2⟩,fun h=>by rw [hy]; exact qdg (by rw [← HM.out]; exact h)⟩
    have hKN:(k<n→∃ ad,A=some ad∧wr.cell? (ad.add k)=some (.int .i64 (x:Int)))∧(¬ k<n→x=0):=⟨fun h=>by
     obtain ⟨bd,h1,h2⟩:=qbK ((HRA.out.below hel).mono hgs) (k:=k) (by rw [← HN.out]; exact h);rw [← hx] at h2;exact ⟨bd,h1,h2⟩,fun h=>by rw [hx]; exact qdg (by rw [← HN.out]; exact h)⟩
    have d0:=hst.out.cell k;rw [qey (by rw [qa4 out N (by omega)]; exact hlt)] at d0;have q0:=hst.out.free k;obtain ⟨hk1,hk2⟩:=hKM;obtain ⟨hj1,hj2⟩:=hKN;clear hst hstep hset hod hod2 hol hol2 heq hx hy hxl hyl hs hel hgs hcarry hdd hcc
    by_cases hkn:k<n <;> by_cases hkm:k<m
    ·obtain ⟨ad,rfl,hca⟩:=hj1 hkn;have hkn':(k:Int)<(n:Int):=by omega
     obtain ⟨bd,rfl,hcb⟩:=hk1 hkm;have hkm':(k:Int)<(m:Int):=by omega
     have hvi:(s:Int)+(x:Int)+(y:Int)=(v:Int):=by omega
     clear hk1 hk2 hj1 hj2 hv hkn hkm;go_wp2_with fail;exact ⟨⟨k+1,cc,out++[dd],by omega,by go_num,HCARRY.out,rfl,HOL.out,HOD.out,HSTEP.out,HST.out.put (qai _ _ _ _) (by have h:=qak (i:=k) HST.out.out (.int .i64 (dd:Int)); rw [qbt,HSET.out] at h; exact h)⟩,by simp [intOf]; omega⟩
    ·obtain ⟨ad,rfl,hca⟩:=hj1 hkn;have hkn':(k:Int)<(n:Int):=by omega
     obtain rfl:=hk2 hkm;have hkm':¬ (k:Int)<(m:Int):=by omega
     have hvi:(s:Int)+(x:Int)=(v:Int):=by omega
     clear hk1 hk2 hj1 hj2 hv hkn hkm;go_wp2_with fail;exact ⟨⟨k+1,cc,out++[dd],by omega,by go_num,HCARRY.out,rfl,HOL.out,HOD.out,HSTEP.out,HST.out.put (qai _ _ _ _) (by have h:=qak (i:=k) HST.out.out (.int .i64 (dd:Int)); rw [qbt,HSET.out] at h; exact h)⟩,by simp [intOf]; omega⟩
    ·exfalso; omega
    ·obtain rfl:=hj2 hkn;have hkn':¬ (k:Int)<(n:Int):=by omega
     obtain rfl:=hk2 hkm;have hkm':¬ (k:Int)<(m:Int):=by omega
     obtain rfl:s=v:=by omega
     clear hk1 hk2 hj1 hj2 hv hkn hkm;go_wp2_with fail;exact ⟨⟨k+1,cc,out++[dd],by omega,by go_num,HCARRY.out,rfl,HOL.out,HOD.out,HSTEP.out,HST.out.put (qai _ _ _ _) (by have h:=qak (i:=k) HST.out.out (.int .i64 (dd:Int)); rw [qbt,HSET.out] at h; exact h)⟩,by simp [intOf]; omega⟩
   ·obtain rfl:k=N:=by omega
    have hge:¬ (k:Int)≤(n:Int):=by omega
    have hfin:=plus_end (n:=n) HA.out HB.out hod (by rw [hol]; exact HNN.out) (by rw [← HN.out]; exact HP1.out) (by rw [← HM.out]; exact HP2.out) (by rw [← HNN.out]; exact heq);rw [qdr out _ hol] at hst;have HST:=zY hst;have HFIN:=zY hfin;have HOL:=zY hol;clear hst hfin hol hod heq hs hk hlt;go_wp2_with fail;go_ret;rw [Hn.out,← HFIN.out];exact HST.out.post HOL.out.symm (Nat.le_refl _)
theorem leV_set (d:Nat):∀ (l:List Nat) (p:Nat),p<l.length→leV (l.set p d)+256^p*l.getD p 0=leV l+256^p*d
 | [],p,h=>by simp at h
 | x :: r,0,_=>by
  rw [List.set_cons_zero,leV,leV,Nat.pow_zero,List.getD_cons_zero];omega
 | x :: r,p+1,h=>by
  have ih:=leV_set d r p (by simpa using h);rw [List.set_cons_succ,leV,leV,List.getD_cons_succ,Nat.pow_succ,Nat.mul_right_comm,Nat.mul_right_comm (256^p) 256 d];omega
theorem times_step {out:List Nat} {p c z S v:Nat} (hp:p<out.length) (hv:v=out.getD p 0+z+c) (h:leV out+256^p*c=S) :
  leV (out.set p (v%256))+256^(p+1)*(v/256)=S+256^p*z:=by
 have h1:=leV_set (v%256) out p hp
 have e:256^p*(v%256)+256^(p+1)*(v/256)=256^p*v:=by
  rw [Nat.pow_succ,Nat.mul_assoc,← Nat.mul_add,Nat.mod_add_div]
 have e2:256^p*v=256^p*out.getD p 0+256^p*z+256^p*c:=by rw [hv,Nat.mul_add,Nat.mul_add]
 omega
theorem times_row {b:List Nat} {i j x S:Nat}:S+256^i*(x*leV (b.take j))+256^(i+j)*(x*b.getD j 0)=S+256^i*(x*leV (b.take (j+1))):=by
 rw [qbb,Nat.mul_add,Nat.mul_add,Nat.pow_add]
 have e:256^i*256^j*(x*b.getD j 0)=256^i*(x*(256^j*b.getD j 0)):=by
  rw [Nat.mul_assoc,Nat.mul_left_comm (256^j)]
 omega
theorem times_next {a b:List Nat} {i:Nat}:leV (a.take i)*leV b+256^i*(a.getD i 0*leV b)=leV (a.take (i+1))*leV b:=by
 rw [qbb,Nat.add_mul,Nat.mul_assoc]
theorem times_big {a b:List Nat} {i:Nat} (ha:Dg a) (hb:Dg b):leV (a.take i)*leV b<256^(a.length+b.length+1):=by
 have h1:=qdB a ha;have h2:=qdB b hb;have h3:=leV_take_le a i;have h4:leV (a.take i)*leV b≤256^a.length*256^b.length:=Nat.mul_le_mul (by omega) (by omega);rw [Nat.pow_succ,Nat.pow_add];have h5:0<256^a.length*256^b.length:=Nat.mul_pos (Nat.pow_pos (by decide)) (Nat.pow_pos (by decide));omega
theorem qdq {out:List Nat} {k c S T:Nat} (h:leV out+256^k*c=S) (hS:S<256^T) (hc:0<c):k<T:=by
 apply Nat.lt_of_not_le;intro hle;have h1:256^T≤256^k:=Nat.pow_le_pow_right (by decide) hle;have h2:=Nat.mul_le_mul_left (256^k) hc;omega
theorem times_end {out a b:List Nat} (ho:Dg out) (hl:out.length=a.length+b.length+1) (h:leV out=leV (a.take a.length)*leV b):out=digN (a.length+b.length+1) (leV a*leV b):=by
 rw [List.take_length] at h;exact digN_eq ho hl h
theorem times_any (a b:List Nat) (ha:Dg a) (hb:Dg b) (A B:Option Addr) (c d:Nat) (w:World) (hra:Rd w w.heap.size A (dV a)) (hrb:Rd w w.heap.size B (dV b)) (hla:a.length≤1000000) (hlb:b.length≤1000000) :
  Calls Tryz.prog 87 #[.slice A a.length c,.slice B b.length d] w (DigPost (digN (a.length+b.length+1) (leV a*leV b)) w):=by
 obtain ⟨n,hn⟩:=eX (a.length);obtain ⟨m,hm⟩:=eX (b.length);rw [← hn,← hm];have hn63:(n:Int)≤1000000:=by omega
 have hm63:(m:Int)≤1000000:=by omega
 obtain ⟨T,hT⟩:=eX (n+m+1);have hTi:(n:Int)+(m:Int)+1=(T:Int):=by omega
 have hmk:=qcf T (by omega);have hst0:D1 w w.heap.size (partL [] T) _:=qdF (partL [] T) (Below.refl w.heap.size w);have hz:leV (partL [] T)=0:=by rw [qeb,qck]
 have hzd:Dg (partL [] T):=fun d h=>by rw [List.eq_of_mem_replicate h]; decide
 have HRA:=zY hra;have HRB:=zY hrb;have HA:=zY ha;have HB:=zY hb;have HN:=zY hn;have HM:=zY hm;have HT:=zY hT;have HST0:=zY hst0;have HZ:=zY hz;have HZD:=zY hzd;have HZL:=zY (qa4 [] T (Nat.zero_le _));clear hra hrb ha hb hn hm hla hlb hst0 hT hz hzd;go_enter Tryz.func87,Tryz.ntmps87;go_wp2_with fail;generalize hg:w.heap.size=g at HST0 HRA HRB ⊢;have HG:=zY hg;clear hg hmk
 go_loopw [6] (fun i wr=>∃ (k:Nat) (out:List Nat),k≤n∧i=.int .i64 k∧out.length=T∧Dg out∧leV out=leV (a.take k)*leV b∧D1 w g out wr) (fun i _=>n - (intOf i).toNat)
 case atStart=>exact ⟨0,partL [] T,by omega,rfl,HZL.out,HZD.out,by rw [HZ.out]; simp [leV],HST0.out⟩
 case round =>
  clear HST0 HZ HZD HZL;obtain ⟨i,out,hi,rfl,hol,hod,heq,hst⟩:=hrel
  by_cases hlt:i<n
  ·have hlt':(i:Int)<(n:Int):=by omega
   obtain ⟨x,hx⟩:=eX (a.getD i 0);have hxl:x<256:=by rw [hx]; exact qa3 HA.out i
   obtain ⟨S,hS⟩:=eX (leV (a.take i)*leV b);have hxl':(x:Int)<256:=by omega
   have HX:=zY hx;have HXL:=zY hxl;have HS:=zY hS;have hin:leV out+256^(i+0)*0=S+256^i*(x*leV (b.take 0)):=by rw [heq,hS]; simp [leV]
   have HIN:=zY hin;have HOL:=zY hol;have HOD:=zY hod;have HST:=zY hst;clear hx hxl hS hin hol hod hst heq;go_wp2_with fail;obtain ⟨wo,rfl⟩:=eX wr
   go_loopw [7,8] (fun c i8 wr=>∃ (j cy:Nat) (out:List Nat),j≤m∧i8=.int .i64 j∧c=.int .i64 cy∧cy≤255∧out.length=T∧Dg out∧leV out+256^(i+j)*cy=S+256^i*(x*leV (b.take j))∧D1 w g out wr) (fun _ i8 _=>m - (intOf i8).toNat)
   case atStart=>exact ⟨0,0,out,by omega,rfl,rfl,by omega,HOL.out,HOD.out,HIN.out,HST.out⟩
   case round =>
    clear HOL HOD HIN HST;obtain ⟨j,cy,out,hj,rfl,rfl,hcy,hol,hod,heq,hst⟩:=hrel
    by_cases hltj:j<m
    ·have hltj':(j:Int)<(m:Int):=by omega
     obtain ⟨p,hp⟩:=eX (i+j);have hpi:(i:Int)+(j:Int)=(p:Int):=by omega
     have hpT:p<T:=by have:=HT.out; omega
     have hpT':(p:Int)<(T:Int):=by omega
     obtain ⟨y,hy⟩:=eX (b.getD j 0);have hyl:y<256:=by rw [hy]; exact qa3 HB.out j
     obtain ⟨od,hodd⟩:=eX (out.getD p 0);have hodl:od<256:=by rw [hodd]; exact qa3 hod p
     obtain ⟨z,hz⟩:=eX (x*y);have hzi:(x:Int)*(y:Int)=(z:Int):=by rw [hz]; simp
     have hzl:z≤255*255:=by rw [hz]; exact Nat.mul_le_mul (by have:=HXL.out; omega) (by omega)
     obtain ⟨v,hv⟩:=eX (od+z+cy);have hvi:(od:Int)+(z:Int)+(cy:Int)=(v:Int):=by omega
     rw [← hp] at heq;have hstep:=times_step (v:=v) (by rw [hol]; exact hpT) (by rw [hv,hodd]) heq;rw [hz,hy,hp,times_row,← hp,show p+1=i+(j+1) by omega] at hstep;obtain ⟨dd,hdd⟩:∃ dd,v%256=dd:=⟨_,rfl⟩;obtain ⟨cc,hcc⟩:∃ cc,v/256=cc:=⟨_,rfl⟩;have hddi:(v:Int)%256=(dd:Int):=by omega
     have hcci:(v:Int)/256=(cc:Int):=by omega
     rw [hdd,hcc] at hstep;have hod2:=qex hod p dd (by omega);have hol2:(out.set p dd).length=T:=by rw [List.length_set]; exact hol
     have hca:∀ u,D1 w g out u→∃ ad,A=some ad∧u.cell? (ad.add i)=some (.int .i64 (x:Int)):=fun u hu=>by
      have hel:Below g w u:=by have h:=hu.bel; rw [HG.out] at h; exact h
      have h:=qbK ((HRA.out.below hel).mono (by rw [← HG.out]; exact hu.bel.size)) (k:=i) (by rw [← HN.out]; exact hlt);rw [← HX.out] at h; exact h
     have hcb:∀ u,D1 w g out u→∃ ad,B=some ad∧u.cell? (ad.add j)=some (.int .i64 (y:Int)):=fun u hu=>by
      have hel:Below g w u:=by have h:=hu.bel; rw [HG.out] at h; exact h
      have h:=qbK ((HRB.out.below hel).mono (by rw [← HG.out]; exact hu.bel.size)) (k:=j) (by rw [← HM.out]; exact hltj);rw [← hy] at h; exact h
     obtain ⟨ad,rfl,_⟩:=hca wr hst;obtain ⟨bd,rfl,_⟩:=hcb wr hst
     have hca2:∀ u,D1 w g out u→u.cell? (ad.add i)=some (.int .i64 (x:Int)):=fun u hu=>by
      obtain ⟨ad2,h1,h2⟩:=hca u hu
      injection h1 with h1
      rw [h1]; exact h2
     have hcb2:∀ u,D1 w g out u→u.cell? (bd.add j)=some (.int .i64 (y:Int)):=fun u hu=>by
      obtain ⟨ad2,h1,h2⟩:=hcb u hu
      injection h1 with h1
      rw [h1]; exact h2
     have hco:∀ u,D1 w g out u→u.cell? ⟨g,p,none⟩=some (.int .i64 (od:Int)):=fun u hu=>by
      have d0:=hu.out.cell p;rw [qey (by rw [hol]; exact hpT),← hodd] at d0;exact d0
     have HCA:=zY hca2;have HCB:=zY hcb2;have HCO:=zY hco;have HSTEP:=zY hstep;have HOD:=zY hod2;have HOL:=zY hol2;have HOLD:=zY hol;have HXL2:=zY hxl';have hyl':(y:Int)<256:=by omega
     have hzl':(z:Int)≤65025:=by omega
     have hodl':(od:Int)<256:=by omega
     have hcyl':(cy:Int)≤255:=by omega
     have hvl':(v:Int)<65536:=by omega
     have hccl:cc≤255:=by omega
     have HCC:=zY hccl;have HHJ:=zY hltj;have HPT:=zY hpT;have HC0:=hst.drew;clear hca hcb hca2 hcb2 hco hstep hod2 hol2 hol hod hst heq hodd hz hy hv hdd hcc hzl hyl hodl hcy hccl hj hltj hp hpT;go_wp2_with fail;refine qal (fun u=>D1 w g out u) (fun u=>D1 w g out u) [(0,some 31),(1,some 32),(2,some 33),(3,some 34),(4,some 35),(5,some 36),(6,some 37),(7,some 38),(8,some 39),(9,some 40),(10,some 41),(11,some 42),(12,some 43),(13,some 44),(14,some 45),(15,some 46),(16,some 47),(17,some 48),(18,some 9)] (by kernel_rfl) (by kernel_rfl) (by decide) (by kernel_rfl) (fun _=>rfl) HC0 ?_;apply yN_
     ·apply dP [];exact fun _=>rfl;rfl;rintro vals - w1 hC1 E hE;simp only [sP] at hE ⊢;go_wp2;exact .mk (hE _ hC1)
     apply yN_
     ·apply dP [];exact fun _=>rfl;rfl;rintro vals ⟨-,-⟩ w1 hC1 E hE;simp only [sP] at hE ⊢;go_wp2;exact .mk (hE _ hC1)
     apply yN_
     ·apply dP [];exact fun _=>rfl;rfl;intro vals vq w1 hC1 E hE;clear vq;simp only [sP] at hE ⊢;go_wp2;exact .mk (hE _ hC1)
     apply yN_
     ·apply dP [(1,some 32),(2,some 33)];exact fun _=>rfl;rfl;intro vals vq w1 hC1 E hE;simp only [sP,vq] at hE ⊢;clear vq;go_wp2;exact .mk (hE _ hC1)
     apply yN_
     ·apply dP [(0,some 31),(3,some 34)];exact fun _=>rfl;rfl;intro vals vq w1 hC1 E hE;simp only [sP,vq] at hE ⊢;clear vq;go_wp2;exact .mk (hE _ hC1)
     apply yN_
     ·apply dP [(4,some 35)];exact fun _=>rfl;rfl;intro vals vq w1 hC1 E hE;have d0:=HCO.out _ hC1;simp only [sP,vq] at hE ⊢;clear vq;go_wp2;exact .mk (hE _ hC1)
     apply yN_
     ·apply dP [];exact fun _=>rfl;rfl;intro vals vq w1 hC1 E hE;clear vq;simp only [sP] at hE ⊢;go_wp2;exact .mk (hE _ hC1)
     apply yN_
     ·apply dP [];exact fun _=>rfl;rfl;intro vals vq w1 hC1 E hE;clear vq;simp only [sP] at hE ⊢;go_wp2;exact .mk (hE _ hC1)
     apply yN_
     ·apply dP [(6,some 37),(7,some 38)];exact fun _=>rfl;rfl;intro vals vq w1 hC1 E hE;simp only [sP,vq] at hE ⊢;clear vq;go_wp2;exact .mk (hE _ hC1)
     apply yN_
     ·apply dP [(8,some 39)];exact fun _=>rfl;rfl;intro vals vq w1 hC1 E hE;have d0:=HCA.out _ hC1;simp only [sP,vq] at hE ⊢;clear vq;go_wp2;exact .mk (hE _ hC1)
     apply yN_
     ·apply dP [];exact fun _=>rfl;rfl;intro vals vq w1 hC1 E hE;clear vq;simp only [sP] at hE ⊢;go_wp2;exact .mk (hE _ hC1)
     apply yN_
     ·apply dP [];exact fun _=>rfl;rfl;intro vals vq w1 hC1 E hE;clear vq;simp only [sP] at hE ⊢;go_wp2;exact .mk (hE _ hC1)
     apply yN_
     ·apply dP [(10,some 41),(11,some 42)];exact fun _=>rfl;rfl;intro vals vq w1 hC1 E hE;simp only [sP,vq] at hE ⊢;clear vq;go_wp2;exact .mk (hE _ hC1)
     apply yN_
     ·apply dP [(12,some 43)];exact fun _=>rfl;rfl;intro vals vq w1 hC1 E hE;have d0:=HCB.out _ hC1;simp only [sP,vq] at hE ⊢;clear vq;go_wp2;exact .mk (hE _ hC1)
     apply yN_
     ·apply dP [(9,some 40),(13,some 44)];exact fun _=>rfl;rfl;intro vals vq w1 hC1 E hE;simp only [sP,vq] at hE ⊢;clear vq;go_wp2;exact .mk (hE _ hC1)
     apply yN_
     ·apply dP [(5,some 36),(14,some 45)];exact fun _=>rfl;rfl;intro vals vq w1 hC1 E hE;simp only [sP,vq] at hE ⊢;clear vq;go_wp2;exact .mk (hE _ hC1)
     apply yN_
     ·apply dP [];exact fun _=>rfl;rfl;intro vals vq w1 hC1 E hE;clear vq;simp only [sP] at hE ⊢;go_wp2;exact .mk (hE _ hC1)
     apply yN_
     ·apply dP [(15,some 46),(16,some 47)];exact fun _=>rfl;rfl;intro vals vq w1 hC1 E hE;simp only [sP,vq] at hE ⊢;clear vq;go_wp2;exact .mk (hE _ hC1)
     apply yL_
     ·apply dP [(17,some 48),(0,some 31),(1,some 32),(2,some 33),(3,some 34),(4,some 35),(5,some 36),(6,some 37),(7,some 38),(8,some 39),(9,some 40),(10,some 41),(11,some 42),(12,some 43),(13,some 44),(14,some 45),(15,some 46),(16,some 47),(17,some 48)];exact fun _=>rfl;rfl;intro vals vq w1 hC1 E hE;simp only [sP,vq] at hE ⊢;clear vq;go_wp2;exact .mk (hE _ hC1)
     intro vals vq w1 hC1;simp only [sP,vq];clear vq;have d0:=HCO.out _ hC1;have q0:=hC1.out.free p;have HST:=zY hC1;clear hC1 HC0;go_wp2_with fail;exact ⟨⟨j+1,cc,out.set p dd,HHJ.out,by go_num,rfl,HCC.out,HOL.out,HOD.out,HSTEP.out,HST.out.put (qai _ _ _ _) (by have h:=qak (i:=p) HST.out.out (.int .i64 (dd:Int)); rw [qbt] at h; exact h)⟩,by have:=HHJ.out; simp [intOf]; omega⟩
    ·obtain rfl:j=m:=by omega
     obtain ⟨p,hp⟩:=eX (i+j);have hpi:(i:Int)+(j:Int)=(p:Int):=by omega
     have hpT:p≤T:=by have:=HT.out; omega
     obtain ⟨S2,hS2⟩:=eX (leV (a.take (i+1))*leV b)
     have hbig:S2<256^T:=by
      have h:=times_big (i:=i+1) HA.out HB.out;rw [hS2,HT.out,HN.out,HM.out]; exact h
     have htot:leV out+256^p*cy=S2:=by
      rw [hp,heq,hS2,← times_next,HS.out,HX.out,List.take_of_length_le (Nat.le_of_eq HM.out.symm)]
     have HTOT:=zY htot;have HBIG:=zY hbig;have HS2:=zY hS2;have HOL:=zY hol;have HOD:=zY hod;have HST:=zY hst;have HCY:=zY hcy;have HPT:=zY hpT;clear htot hbig hS2 hol hod hst heq hp hcy hpT;go_wp2_with fail;obtain ⟨wi,rfl⟩:=eX wr
     go_loopw [7,10] (fun c k10 wr=>∃ (k cy:Nat) (out:List Nat),k≤T∧k10=.int .i64 k∧c=.int .i64 cy∧cy≤255∧out.length=T∧Dg out∧leV out+256^k*cy=S2∧D1 w g out wr) (fun _ k10 _=>T+1 - (intOf k10).toNat)
     case atStart=>exact ⟨p,cy,out,HPT.out,rfl,rfl,HCY.out,HOL.out,HOD.out,HTOT.out,HST.out⟩
     case round =>
      clear HOL HOD HTOT HST HCY HPT hpi;obtain ⟨k,cy,out,hk,rfl,rfl,hcy,hol,hod,heq,hst⟩:=hrel
      by_cases hc0:0<cy
      ·have hc0':(cy:Int) > 0:=by omega
       have hkT:=qdq heq HBIG.out hc0;have hkT':(k:Int)<(T:Int):=by omega
       obtain ⟨od,hodd⟩:=eX (out.getD k 0);have hodl:od<256:=by rw [hodd]; exact qa3 hod k
       obtain ⟨v,hv⟩:=eX (od+0+cy);have hvi:(od:Int)+(cy:Int)=(v:Int):=by omega
       have hstep:=times_step (v:=v) (by rw [hol]; exact hkT) (by rw [hv,hodd]) heq;rw [Nat.mul_zero,Nat.add_zero] at hstep;obtain ⟨dd,hdd⟩:∃ dd,v%256=dd:=⟨_,rfl⟩;obtain ⟨cc,hcc⟩:∃ cc,v/256=cc:=⟨_,rfl⟩;have hddi:(v:Int)%256=(dd:Int):=by omega
       have hcci:(v:Int)/256=(cc:Int):=by omega
       rw [hdd,hcc] at hstep;have hod2:=qex hod k dd (by omega);have hol2:(out.set k dd).length=T:=by rw [List.length_set]; exact hol
       have d0:=hst.out.cell k;rw [qey (by rw [hol]; exact hkT),← hodd] at d0;have q0:=hst.out.free k;have HSTEP:=zY hstep;have HOD:=zY hod2;have HOL:=zY hol2;have HST:=zY hst;have hodl':(od:Int)<256:=by omega
       have hcyl':(cy:Int)≤255:=by omega
       have hvl':(v:Int)<65536:=by omega
       have HCC:=zY (show cc≤255 by omega);have HKT:=zY hkT;clear hstep hod2 hol2 hol hod hst heq hodd hv hdd hcc hodl hcy hk hkT hc0;clear hvl';go_wp2_with fail;exact ⟨⟨k+1,cc,out.set k dd,HKT.out,by go_num,rfl,HCC.out,HOL.out,HOD.out,HSTEP.out,HST.out.put (qai _ _ _ _) (by have h:=qak (i:=k) HST.out.out (.int .i64 (dd:Int)); rw [qbt] at h; exact h)⟩,by have:=HKT.out; simp [intOf]; omega⟩
      ·obtain rfl:cy=0:=by omega
       have hout:leV out=leV (a.take (i+1))*leV b:=by rw [← HS2.out,← heq]; simp
       have HOUT:=zY hout;have HOL:=zY hol;have HOD:=zY hod;have HST:=zY hst;clear hout hol hod hst heq hc0 hcy;go_wp2_with fail;exact ⟨⟨i+1,out,hlt,by go_num,HOL.out,HOD.out,HOUT.out,HST.out⟩,by simp [intOf]; omega⟩
  ·obtain rfl:i=n:=by omega
   have hfin:=times_end (a:=a) (b:=b) hod (by rw [hol,HT.out,HN.out,HM.out]) (by rw [← HN.out]; exact heq);rw [← HN.out,← HM.out] at hfin;have HST:=zY hst;have HFIN:=zY hfin;have HOL:=zY hol;clear hst hfin hol hod heq hi hlt;go_wp2_with fail;go_ret;rw [← HFIN.out];exact HST.out.post HOL.out.symm (Nat.le_refl _)
def digVal (v:Value) (u:World):Nat :=
 match v with
 | .slice (some ad) n _=>leV ((List.range n).map fun i=>match u.cell? (ad.add i) with | some (.int _ z)=>z.toNat | _=>0)
 | _=>0
theorem qdh {u:World} {B:Nat} {A:Option Addr} {l:List Nat} (c:Nat) (h:Rd u B A (dV l)):digVal (.slice A l.length c) u=leV l:=by
 cases A with
 | none =>
  cases l with
  | nil=>rfl
  | cons d r =>
   obtain ⟨ad,h1,_⟩:=h 0 (numV d) (by simp [dV])
   cases h1
 | some ad =>
  rw [digVal]
  congr 1
  apply List.ext_getElem?;intro j
  by_cases hj:j<l.length
  ·obtain ⟨ad2,h1,_,h3⟩:=h.at_ (k:=j) (by rw [qbL]; exact hj)
   injection h1 with h1
   subst h1;rw [dV_at hj] at h3;rw [List.getElem?_map,List.getElem?_range hj,List.getElem?_eq_getElem hj];simp only [Option.map_some,h3,Int.toNat_natCast]
  ·rw [List.getElem?_eq_none (by simp; omega),List.getElem?_eq_none (by omega)]
theorem fold_split (l:List Nat) (h:32<l.length):leV l=leV (l.take 32)+256^32*leV (l.drop 32):=by
 conv=>lhs; rw [← List.take_append_drop 32 l,qb1,List.length_take,Nat.min_eq_left (by omega)]
theorem fold_mod (a b:Nat):(a+b*38)%PN=(a+256^32*b)%PN:=by
 rw [show (256:Nat)^32=38+PN*2 by decide,Nat.add_mul,← Nat.add_assoc,Nat.mul_assoc,Nat.add_mul_mod_self_left,Nat.mul_comm 38]
theorem fold_less (l:List Nat) (hl:Dg l) (h:32<l.length) (h0:l.getD (l.length - 1) 0≠0):leV (l.take 32)+leV (l.drop 32)*38<leV l:=by
 rw [fold_split l h]
 have hpos:0<leV (l.drop 32):=by
  rcases Nat.eq_zero_or_pos (leV (l.drop 32)) with e | e
  ·exfalso
   have h1:=qdC (l.drop 32) (dg_drop hl 32) (l.length - 33);rw [e,Nat.zero_div] at h1;apply h0
   have h2:(l.drop 32).getD (l.length - 33) 0=l.getD (l.length - 1) 0:=by
    rw [List.getD_eq_getElem?_getD,List.getD_eq_getElem?_getD,List.getElem?_drop,show 32+(l.length - 33)=l.length - 1 by omega]
   rw [← h2,← h1]
  ·exact e
 have e:256^32*leV (l.drop 32)=leV (l.drop 32)*38+leV (l.drop 32)*(256^32 - 38):=by
  rw [← Nat.mul_add,Nat.mul_comm]
 rw [e];have h3:0<leV (l.drop 32)*(256^32 - 38):=Nat.mul_pos hpos (by decide);omega
theorem times_val {a b:List Nat} (ha:Dg a) (hb:Dg b):leV (digN (a.length+b.length+1) (leV a*leV b))=leV a*leV b:=by
 have h:=times_big (i:=a.length) ha hb;rw [List.take_length] at h;exact qbk _ _ h
theorem plus_val {a b:List Nat} (ha:Dg a) (hb:Dg b):leV (digN (max a.length b.length+1) (leV a+leV b))=leV a+leV b:=by
 have h1:=qcl ha (Nat.le_max_left a.length b.length);have h2:=qcl hb (Nat.le_max_right a.length b.length);apply qbk;rw [Nat.pow_succ];omega
theorem mod_less {N V:Nat} (h:V%PN=N%PN) (hv:V<PN):V=N%PN:=by rw [← h,Nat.mod_eq_of_lt hv]
theorem sub_mod {V:Nat} (h:PN≤V):(V - PN)%PN=V%PN:=by
 conv=>rhs; rw [show V=(V - PN)+PN by omega,Nat.add_mod_right]
def RdV (n:Nat) (xs:List Value) (v:Value) (u:World):Prop:=∃ A c,v=.slice A n c∧n≤c∧Rd u u.heap.size A xs
theorem RdV.next {n:Nat} {xs:List Value} {v:Value} {u u':World} (h:RdV n xs v u) (hb:Below u.heap.size u u'):RdV n xs v u':=by
 obtain ⟨A,c,h1,h2,h3⟩:=h;exact ⟨A,c,h1,h2,(h3.below hb).mono hb.size⟩
theorem RdV.of_own {n:Nat} {xs:List Value} {A:Option Addr} {c base:Nat} {e:TypeId} {u:World} (h:OwnX u base e 1 (.slice A n c) n xs):RdV n xs (.slice A n c) u :=
 ⟨A,c,rfl,h.le_cap,Rd.of_own h (Nat.le_refl _)⟩
theorem qd5 (l:List Nat):(refB l).length=32:=by simp [refB]
theorem len_eq {α:Type} {l:List α} {n:Nat} (h:l.length=n) (A:Option Addr) (c:Nat):Value.slice A n c=.slice A l.length c:=by rw [h]
theorem qdL {l:List Nat} {w:World} {A:Option Addr} (h:Rd w w.heap.size A (dV l)) {w':World} (hb:Below w.heap.size w w'):Rd w' w'.heap.size A (dV l):=(h.below hb).mono hb.size
def lenF:Value→Nat | .slice _ n _=>n | _=>0
theorem add32 (ad:Addr):some (⟨ad.block,ad.off+32,none⟩:Addr)=some (ad.add 32):=by simp [Addr.add]
theorem rd_digs {w:World} {B n:Nat} {A:Option Addr} {l:List Nat} (h:Rd w B A (dV l)):Rd w B A (dV (l.take n)):=by
 have h1:=qcu h n;rw [dV,← List.map_take] at h1;exact h1
theorem rd_digs_drop {w:World} {B n:Nat} {ad:Addr} {l:List Nat} (h:Rd w B (some ad) (dV l)):Rd w B (some (ad.add n)) (dV (l.drop n)):=by
 have h1:=qcv h n;rw [dV,← List.map_drop] at h1;exact h1
theorem qdb (a:List Nat) (ha:Dg a) (A:Option Addr) (c:Nat) (w:World) (hra:Rd w w.heap.size A (dV a)) (hc:a.length≤c) (hla:a.length≤1000000) :
  Calls Tryz.prog 81 #[.slice A a.length c] w (DigPost (digN 32 (leV a%PN)) w):=by
 obtain ⟨n,hn⟩:=eX (a.length);obtain ⟨N0,hN0⟩:=eX (leV a);rw [← hn,← hN0]
 have hst0:∃ (l:List Nat) (A1:Option Addr) (c1:Nat),Value.slice A n c=.slice A1 l.length c1∧Dg l∧l.length≤1000000∧l.length≤c1∧leV l%PN=N0%PN∧Rd w w.heap.size A1 (dV l)∧Below w.heap.size w w :=
  ⟨a,A,c,by rw [hn],ha,hla,hc,by rw [hN0],hra,Below.refl _ _⟩
 have HST0:=zY hst0;clear hst0 hn hN0 ha hra hc hla;go_enter Tryz.func81,Tryz.ntmps81;go_wp2_with fail;generalize hg:w.heap.size=g at HST0 ⊢;have HG:=zY hg;clear hg
 go_loopw [0] (fun v wr=>∃ (l:List Nat) (A1:Option Addr) (c1:Nat),v=.slice A1 l.length c1∧Dg l∧l.length≤1000000∧l.length≤c1∧leV l%PN=N0%PN∧Rd wr wr.heap.size A1 (dV l)∧Below g w wr) (fun v wr=>digVal v wr)
 case atStart=>have h:=HST0.out; rw [HG.out]; exact h
 case round =>
  clear HST0;obtain ⟨l,A1,c1,rfl,hl,hlen,hlc,hmod,hrd,hbel⟩:=hrel;obtain ⟨m,hm⟩:=eX (l.length);rw [← hm];have hm63:(m:Int)≤1000000:=by omega
  have hmc:(m:Int)≤(c1:Int):=by omega
  have hin0:leV (l.take m)=leV l:=by rw [hm,List.take_length]
  have HL:=zY hl;have HM:=zY hm;have HMOD:=zY hmod;have HRD:=zY hrd;have HBEL:=zY hbel;have HIN0:=zY hin0;clear hl hlen hlc hm hmod hrd hbel hin0;go_wp2_with fail
  go_loop [0] (fun v=>∃ k:Nat,k≤m∧v=.slice A1 k c1∧leV (l.take k)=leV l) (fun v=>lenF v)
  case atStart=>exact ⟨m,Nat.le_refl _,rfl,HIN0.out⟩
  case round =>
   clear HIN0;obtain ⟨k,hk,rfl,hin⟩:=hrel
   by_cases h32:32<k
   ·have h32':(k:Int) > 32:=by omega
    obtain ⟨p,hp⟩:∃ p,k=p+1:=⟨k - 1,by omega⟩;have hpi:(k:Int) - 1=(p:Int):=by omega
    obtain ⟨ad,rfl,hcell⟩:=qbK HRD.out (k:=p) (by rw [← HM.out]; omega);obtain ⟨x,hx⟩:=eX (l.getD p 0);rw [← hx] at hcell;have hpk:(p:Int)<(k:Int):=by omega
    have hkm:(k:Int)≤(m:Int):=by omega
    by_cases hx0:x=0
    ·subst hx0
     have hnext:leV (l.take p)=leV l:=by
      rw [← hin,hp,qbb,← hx]; simp
     have HNEXT:=zY hnext;have HK:=zY hk;have HP:=zY hp;clear hnext hx hin hk hp h32;go_wp2_with fail;exact ⟨⟨p,by have:=HK.out; have:=HP.out; omega,rfl,HNEXT.out⟩,by have:=HP.out; simp [lenF]; omega⟩
    ·have hx0':¬ (x:Int)=0:=by omega
     obtain ⟨q,hq⟩:∃ q,k=q+32:=⟨k - 32,by omega⟩;have hqi:(k:Int) - 32=(q:Int):=by omega
     have hkc:(k:Int)≤(c1:Int):=by omega
     obtain ⟨L,hL⟩:=eX (l.take k);have hLl:L.length=k:=by rw [hL,List.length_take,Nat.min_eq_left (by rw [← HM.out]; exact hk)]
     have hLd:Dg L:=by rw [hL]; exact dg_take HL.out k
     have hrL:Rd wr wr.heap.size (some ad) (dV L):=by rw [hL]; exact rd_digs HRD.out
     obtain ⟨l1,hl1⟩:=eX (digN (q+1+1) (leV (L.drop 32)*leV [38]));have h38:Dg [38]:=by unfold Dg; decide
     have hdl:(L.drop 32).length=q:=by rw [List.length_drop]; omega
     have htl:(L.take 32).length=32:=by rw [List.length_take]; omega
     have hl1v:leV l1=leV (L.drop 32)*38:=by
      have h:=times_val (dg_drop hLd 32) h38;rw [hdl] at h;rw [hl1]; exact h
     have hl1d:Dg l1:=by rw [hl1]; exact qa0 _ _
     have hl1l:l1.length=q+2:=by rw [hl1,qaj]
     obtain ⟨l2,hl2⟩:=eX (digN (max 32 (q+2)+1) (leV (L.take 32)+leV l1))
     have hl2v:leV l2=leV (L.take 32)+leV (L.drop 32)*38:=by
      have h:=plus_val (dg_take hLd 32) hl1d;rw [htl,hl1l,hl1v] at h;rw [hl2,hl1v]; exact h
     have hl2d:Dg l2:=by rw [hl2]; exact qa0 _ _
     have hl2l:l2.length≤k:=by rw [hl2,qaj]; omega
     have hless:=fold_less L hLd (by omega) (by rw [hLl,hL,List.getD_eq_getElem?_getD,List.getElem?_take,if_pos (by omega),show k - 1=p by omega,← List.getD_eq_getElem?_getD,← hx]; exact hx0);rw [← hl2v,hL,hin] at hless
     have hmod2:leV l2%PN=N0%PN:=by
      rw [hl2v,fold_mod,← fold_split L (by omega),hL,hin]; exact HMOD.out
     have c1':∀ u,Below wr.heap.size wr u→∀ A3 c3 A4 c4,Rd u u.heap.size A4 (dV [38])→A3=some (ad.add 32)→Calls Tryz.prog 87 #[.slice A3 q c3,.slice A4 1 c4] u (DigPost l1 u):=fun u hu A3 c3 A4 c4 h4 hA3=>by
      have h:=times_any (L.drop 32) [38] (dg_drop hLd 32) h38 A3 A4 c3 c4 u (by rw [hA3]; exact rd_digs_drop ((hrL.below hu).mono hu.size)) h4 (by omega) (by decide);rw [hdl] at h;rw [hl1]; exact h
     have c2':∀ u,Below wr.heap.size wr u→∀ c3 A4 c4,Rd u u.heap.size A4 (dV l1)→Calls Tryz.prog 100 #[.slice (some ad) 32 c3,.slice A4 (q+2) c4] u (DigPost l2 u):=fun u hu c3 A4 c4 h4=>by
      have h:=qd3 (L.take 32) l1 (dg_take hLd 32) hl1d (some ad) A4 c3 c4 u (rd_digs ((hrL.below hu).mono hu.size)) h4 (by omega) (by omega);rw [htl,hl1l] at h;rw [hl2]; exact h
     have HKQ:=zY (show k - 32=q by omega);have CT:=zY c1';have CP:=zY c2';have HL2:=zY (show l2.length≤1000000 by omega);have HLESS:=zY hless;have HMOD2:=zY hmod2;have HD2:=zY hl2d;have HL1L:=zY hl1l;have HIN:=zY hin;have HK:=zY hk;have HC0:Below g w wr.drew∧Below wr.heap.size wr wr.drew∧g≤wr.heap.size:=⟨HBEL.out.drew,(Below.refl _ _).drew,by have h:=HBEL.out; rw [← HG.out] at h ⊢; exact h.size⟩;clear hx0 hq hL hLl hLd hrL hl1 h38 hdl htl hl1v hl1d hl1l hl2 hl2v hl2d hl2l hless hmod2 c1' c2' hin hk hx hp h32;go_wp2_with fail
     refine qaD (fun u=>Below g w u∧Below wr.heap.size wr u∧g≤wr.heap.size) (fun | false=>(fun _=>True) | true=>(fun _=>True)) (fun | false,_=>false | true,_=>false)
      [fun z _=>z 0=.slice (some ad) k c1,
       fun z _=>z 1=.slice (some ad) 32 c1,
       fun z _=>z 2=.slice (some ad) k c1,
       fun z u=>(fun v u=>∃ c3,v=.slice (some ⟨ad.block,ad.off+32,none⟩) q c3) (z 3) u,
       fun z u=>(RdV 1 (dV [38])) (z 4) u,
       fun z u=>(RdV l1.length (dV l1)) (z 5) u,
       fun z u=>(RdV l2.length (dV l2)) (z 6) u,
       fun z u=>(RdV l2.length (dV l2)) (z 7) u]
      [Eq,Eq,Eq,Eq,fun u u'=>Below u.heap.size u u',fun u u'=>Below u.heap.size u u',fun u u'=>Below u.heap.size u u',Eq]
      (fun _ _=>false) [(0,some 26),(1,some 27),(2,some 28),(3,some 29),(4,some 30),(5,some 31),(6,some 32),(7,some 0)] (by kernel_rfl) (by kernel_rfl) rfl (fun _=>rfl) ?_ ?_ ?_ ?_ ?_ ?_
     ·exact HC0
     ·intro m; cases m; exact trivial; exact trivial
     ·intro m; cases m
      ·refine ⟨?_,?_,?_,?_,?_,?_,?_,?_,trivial⟩ <;> first | exact .inr fun _ _ h h0=>h▸h0 | exact .inr fun _ _ _ h=>h
      ·refine ⟨?_,?_,?_,?_,?_,?_,?_,?_,trivial⟩ <;> first | exact .inr fun _ _ h h0=>h▸h0 | exact .inr fun _ _ _ h=>h
     ·refine ⟨⟨.inl rfl,?_,?_,?_,?_,?_,?_,?_,trivial⟩,⟨?_,.inl rfl,?_,?_,?_,?_,?_,?_,trivial⟩,⟨?_,?_,.inl rfl,?_,?_,?_,?_,?_,trivial⟩,⟨?_,?_,?_,.inl rfl,?_,?_,?_,?_,trivial⟩,⟨?_,?_,?_,.inr (.inr (.inr (fun _ _ _ _ h h0=>h0))),.inl rfl,?_,?_,?_,trivial⟩,⟨?_,?_,?_,.inr (.inr (.inr (fun _ _ _ _ h h0=>h0))),.inr (.inr (.inr (fun _ _ _ _ h h0=>h0.next h))),.inl rfl,?_,?_,trivial⟩,⟨?_,?_,?_,.inr (.inr (.inr (fun _ _ _ _ h h0=>h0))),.inr (.inr (.inr (fun _ _ _ _ h h0=>h0.next h))),.inr (.inr (.inr (fun _ _ _ _ h h0=>h0.next h))),.inl rfl,?_,trivial⟩,⟨?_,?_,?_,?_,?_,?_,?_,.inl rfl,trivial⟩,trivial⟩ <;> first | exact .inr (.inr (.inl rfl)) | exact .inr (.inr (.inr fun _ _ _ _ _ h=>h)) | exact .inr (.inr (.inr fun _ _ _ _ h h0=>by cases h; exact h0))
     ·refine ⟨?_,?_,?_,?_,?_,?_,?_,?_,trivial⟩
      ·refine qaf [] (fun _=>rfl) rfl ?_;intro w1 vals hC1 hi0 hf E hE;clear hi0;clear hf;simp only [sP] at hE ⊢;go_wp2;exact .mk (hE _ _ rfl hC1 rfl)
      ·refine qaf [(0,some 26)] (fun _=>rfl) rfl ?_;intro w1 vals hC1 hi0 hf E hE;clear hi0;have f0:vals 0=_:=hf 0 rfl
       try dsimp only at f0
       clear hf;simp only [sP,f0] at hE ⊢;clear f0;go_wp2;exact .mk (hE _ _ rfl hC1 rfl)
      ·refine qaf [] (fun _=>rfl) rfl ?_;intro w1 vals hC1 hi0 hf E hE;clear hi0;clear hf;simp only [sP] at hE ⊢;go_wp2;exact .mk (hE _ _ rfl hC1 rfl)
      ·refine qaf [(2,some 28)] (fun _=>rfl) rfl ?_;intro w1 vals hC1 hi0 hf E hE;clear hi0;have f2:vals 2=_:=hf 2 rfl
       try dsimp only at f2
       clear hf;simp only [sP,f2] at hE ⊢;clear f2;go_wp2;rw [HKQ.out];exact .mk (hE _ _ ⟨_,rfl⟩ hC1 rfl)
      ·refine qaf [] (fun _=>rfl) rfl ?_;intro w1 vals hC1 hi0 hf E hE;clear hi0;clear hf;simp only [sP] at hE ⊢;go_wp2;have hnew:=Blk.new w1 3 (dV [38]).toArray;exact .mk (hE _ _ ⟨_,1,rfl,Nat.le_refl _,Rd.of_blk hnew hnew.lt⟩ ⟨hC1.1.alloc (Nat.le_trans hC1.2.2 hC1.2.1.size) _,hC1.2.1.alloc hC1.2.1.size _,hC1.2.2⟩ (below_new _ _))
      ·refine qaf [(3,some 29),(4,some 30)] (fun _=>rfl) rfl ?_;intro w1 vals hC1 hi0 hf E hE;clear hi0;have f3:(fun v u=>∃ c3,v=.slice (some ⟨ad.block,ad.off+32,none⟩) q c3) (vals 3) w1:=hf 3 rfl;have f4:(RdV 1 (dV [38])) (vals 4) w1:=hf 4 rfl
       try dsimp only at f3 f4
       clear hf;obtain ⟨c3,hx3⟩:=f3;obtain ⟨A4,c4,hx4,hc4,hr4⟩:=f4;simp only [sP,hx3,hx4] at hE ⊢;clear hx3 hx4;go_wp2_with fail;refine qab (CT.out _ hC1.2.1 _ _ _ _ hr4 (add32 ad)) ?_;rintro e w2 ⟨A5,c5,rfl,hc5,hr5,hb5⟩;go_wp2_with fail;exact .mk (hE _ _ ⟨A5,c5,rfl,hc5,hr5⟩ ⟨hC1.1.trans (hb5.mono (Nat.le_trans hC1.2.2 hC1.2.1.size)),hC1.2.1.trans (hb5.mono hC1.2.1.size),hC1.2.2⟩ hb5)
      ·refine qaf [(1,some 27),(5,some 31),(5,some 31)] (fun _=>rfl) rfl ?_;intro w1 vals hC1 hi0 hf E hE;clear hi0;have f1:vals 1=_:=hf 1 rfl;have f5:(RdV l1.length (dV l1)) (vals 5) w1:=hf 5 rfl
       try dsimp only at f1 f5
       clear hf;obtain ⟨A4,c4,hx4,hc4,hr4⟩:=f5;rw [HL1L.out] at hx4;simp only [sP,f1,hx4] at hE ⊢;clear f1;clear hx4;go_wp2_with fail;refine qab (CP.out _ hC1.2.1 _ _ _ hr4) ?_;rintro e w2 ⟨A5,c5,rfl,hc5,hr5,hb5⟩;go_wp2_with fail;exact .mk (hE _ _ ⟨A5,c5,rfl,hc5,hr5⟩ ⟨hC1.1.trans (hb5.mono (Nat.le_trans hC1.2.2 hC1.2.1.size)),hC1.2.1.trans (hb5.mono hC1.2.1.size),hC1.2.2⟩ hb5)
      ·refine qaf [(6,some 32),(6,some 32),(0,some 26),(1,some 27),(2,some 28),(3,some 29),(4,some 30),(5,some 31),(6,some 32)] (fun _=>rfl) rfl ?_;intro w1 vals hC1 hi0 hf E hE;clear hi0;have f0:vals 0=_:=hf 0 rfl;have f1:vals 1=_:=hf 1 rfl;have f2:vals 2=_:=hf 2 rfl;have f3:(fun v u=>∃ c3,v=.slice (some ⟨ad.block,ad.off+32,none⟩) q c3) (vals 3) w1:=hf 3 rfl;have f4:(RdV 1 (dV [38])) (vals 4) w1:=hf 4 rfl;have f5:(RdV l1.length (dV l1)) (vals 5) w1:=hf 5 rfl;have f6:(RdV l2.length (dV l2)) (vals 6) w1:=hf 6 rfl
       try dsimp only at f0 f1 f2 f3 f4 f5 f6
       clear hf;obtain ⟨A4,c4,hx4,hc4,hr4⟩:=f6;simp only [sP,f0,f1,f2,hx4] at hE ⊢;clear f0 f1 f2;clear hx4;go_wp2;exact .mk (hE _ _ ⟨A4,c4,rfl,hc4,hr4⟩ hC1 rfl)
     intro w1 vals hC1 hf;have f0:vals 0=_:=hf 0 (by decide) rfl;have f1:vals 1=_:=hf 1 (by decide) rfl;have f2:vals 2=_:=hf 2 (by decide) rfl;have f3:(fun v u=>∃ c3,v=.slice (some ⟨ad.block,ad.off+32,none⟩) q c3) (vals 3) w1:=hf 3 (by decide) rfl;have f4:(RdV 1 (dV [38])) (vals 4) w1:=hf 4 (by decide) rfl;have f5:(RdV l1.length (dV l1)) (vals 5) w1:=hf 5 (by decide) rfl;have f6:(RdV l2.length (dV l2)) (vals 6) w1:=hf 6 (by decide) rfl;have f7:(RdV l2.length (dV l2)) (vals 7) w1:=hf 7 (by decide) rfl
     try dsimp only at f0 f1 f2 f3 f4 f5 f6 f7
     clear hf;simp only [sP,f0,f1,f2];clear f0 f1 f2;generalize vals 3=x3 at *;generalize vals 4=x4 at *;generalize vals 5=x5 at *;generalize vals 6=x6 at *;generalize vals 7=x7 at *;obtain ⟨A5,c5,rfl,hc5,hr5⟩:=f7;have HC1:=zY hC1;have HC5:=zY hc5;have HR5:=zY hr5;clear hC1 hc5 hr5 HC0;go_wp2_with fail;refine ⟨⟨l2,A5,c5,rfl,HD2.out,HL2.out,HC5.out,HMOD2.out,HR5.out,HC1.out.1⟩,?_⟩;have hm2:=qdh c1 HRD.out;rw [← HM.out] at hm2;rw [qdh c5 HR5.out,hm2];exact HLESS.out
   ·have h32':¬ (k:Int) > 32:=by omega
    have h32'':(k:Int)≤32:=by omega
    obtain ⟨L,hL⟩:=eX (l.take k);have hLl:L.length=k:=by rw [hL,List.length_take,Nat.min_eq_left (by rw [← HM.out]; exact hk)]
    have hLd:Dg L:=by rw [hL]; exact dg_take HL.out k
    have hrL:Rd wr wr.heap.size A1 (dV L):=by rw [hL]; exact rd_digs HRD.out
    have hLv:leV L%PN=N0%PN:=by rw [hL,hin]; exact HMOD.out
    have hmk:=qcf 32 (by decide);have hmk':∀ u:World,(Instr.makeSlice 86 (.int .i64 32) (.int .i64 32)).run Tryz.prog u=.ok (.slice (some ⟨u.heap.size,0,none⟩) 32 32) (u.alloc (.cells (dV (partL (L.take 0) 32)).toArray 3)):=hmk;have hgs:g≤wr.heap.size:=by have h:=HBEL.out; rw [← HG.out] at h ⊢; exact h.size
    have hst0:D1 wr wr.heap.size (partL (L.take 0) 32) _:=qdF (partL (L.take 0) 32) (Below.refl wr.heap.size wr);have HST0:=zY hst0;have HLL:=zY hLl;have HLD:=zY hLd;have HRL:=zY hrL;have HLV:=zY hLv;have HGS:=zY hgs;clear hmk hst0 hL hLl hLd hrL hLv hgs hin hk h32 hm63 hmc;go_wp2_with fail;generalize ho:wr.heap.size=o at HST0 HRL HGS ⊢;have HO:=zY ho;clear ho hmk';obtain ⟨wo,rfl⟩:=eX wr
    go_loopw [4] (fun i wr=>∃ j:Nat,j≤k∧i=.int .i64 j∧D1 wo o (partL (L.take j) 32) wr) (fun i _=>k - (intOf i).toNat)
    case atStart=>exact ⟨0,by omega,rfl,HST0.out⟩
    case round =>
     clear HST0;obtain ⟨j,hj,rfl,hst⟩:=hrel;have hel:Below o wo wr:=by have h:=hst.bel; rw [HO.out] at h; exact h
     by_cases hlt:j<k
     ·have hlt':(j:Int)<(k:Int):=by omega
      obtain ⟨ad,rfl,hca⟩:=qbK ((HRL.out.below hel).mono (by rw [← HO.out]; exact hst.bel.size)) (k:=j) (by rw [HLL.out]; exact hlt);obtain ⟨x,hx⟩:=eX (L.getD j 0);rw [← hx] at hca;have htl:(L.take j).length=j:=by rw [List.length_take,HLL.out]; omega
      have hset:=qc5 (L.take j) 32 j x htl (by omega)
      have hnext:L.take j++[x]=L.take (j+1):=by
       rw [qc1 (by rw [HLL.out]; exact hlt),hx,List.getD_eq_getElem?_getD,List.getElem?_eq_getElem (by rw [HLL.out]; exact hlt)]; rfl
      rw [hnext] at hset;have d0:=hst.out.cell j;rw [qey (by rw [qa4 _ _ (by rw [htl]; omega)]; omega)] at d0;have q0:=hst.out.free j;have HSET:=zY hset;have HST:=zY hst;have hj32:(j:Int)<32:=by omega
      clear hset hst htl hnext hx hel;go_wp2_with fail;exact ⟨⟨j+1,by omega,by go_num,HST.out.put (qai _ _ _ _) (by have h:=qak (i:=j) HST.out.out (.int .i64 (x:Int)); rw [qbt,HSET.out] at h; exact h)⟩,by simp [intOf]; omega⟩
     ·obtain rfl:j=k:=by omega
      have hfull:dV (partL (L.take j) 32)=dV (digN 32 (leV L)):=by
       congr 1
       have e1:L.take j=L:=by rw [List.take_of_length_le (by rw [HLL.out]; exact Nat.le_refl _)]
       rw [e1];refine digN_eq ?_ (qa4 _ _ (by rw [HLL.out]; omega)) ?_
       ·intro d hd
        rcases List.mem_append.1 hd with h | h
        ·exact HLD.out d h
        ·rw [List.eq_of_mem_replicate h]; decide
       ·rw [partL,qb1,qck,Nat.mul_zero,Nat.add_zero]
      have hblk:=hst.out;rw [hfull] at hblk;have hrd:Rd wr wr.heap.size (some ⟨o,0,none⟩) (dV (digN 32 (leV L))):=Rd.of_blk hblk hblk.lt;have hbig:leV L<256^32:=qcl HLD.out (by rw [HLL.out]; omega);have hbel:Below g w wr:=HBEL.out.trans (hel.mono HGS.out);have hfin0:∃ (V:Nat) (A3:Option Addr) (c3:Nat),Value.slice (some ⟨o,0,none⟩) 32 32=.slice A3 32 c3∧32≤c3∧V<256^32∧V%PN=N0%PN∧Rd wr wr.heap.size A3 (dV (digN 32 V))∧Below g w wr:=⟨leV L,_,32,rfl,Nat.le_refl _,hbig,HLV.out,hrd,hbel⟩;have HFIN0:=zY hfin0;have HHR:Hid (g≤wr.heap.size):=zY (by have h:=hbel; rw [← HG.out] at h ⊢; exact h.size);clear hst hel hfull hblk hrd hbig hbel hfin0 hlt hj;go_wp2_with fail;obtain ⟨wq,rfl⟩:=eX wr
      go_loopw [3] (fun v wr=>∃ (V:Nat) (A3:Option Addr) (c3:Nat),v=.slice A3 32 c3∧32≤c3∧V<256^32∧V%PN=N0%PN∧Rd wr wr.heap.size A3 (dV (digN 32 V))∧Below g w wr) (fun v wr=>digVal v wr)
      case atStart=>exact HFIN0.out
      case round =>
       clear HFIN0;obtain ⟨V,A3,c3,rfl,hc3,hV,hVm,hrV,hbel⟩:=hrel;have HC3:=zY hc3;clear hc3;have hgw:g≤wr.heap.size:=by have h:=hbel; rw [← HG.out] at h ⊢; exact h.size
       have HV:=zY hV;have HVM:=zY hVm;have HRV:=zY hrV;have HBW:=zY hbel;have HGW:=zY hgw;clear hV hVm hrV hbel hgw;go_wp2_with fail;refine qab (p_any _) ?_;rintro e w4 ⟨A4,c4,rfl,hc4,hr4,hb4⟩;have hless:=less_any (digN 32 V) pL (qa0 _ _) pL_dg A3 A4 c3 c4 w4 ((HRV.out.below hb4).mono hb4.size) hr4 (by rw [qaj]; decide) (by rw [qec]; decide);rw [qbk _ _ HV.out,pL_val,qaj] at hless;have HLS:=zY hless;have HB4:=zY (HBW.out.trans (hb4.mono HGW.out));have HR4:=zY ((HRV.out.below hb4).mono hb4.size);have HG4:=zY (Nat.le_trans HGW.out hb4.size);clear hc4 hr4 hb4 hless
       by_cases hlp:V<PN
       ·have hls2:=HLS.out;rw [decide_eq_true hlp] at hls2;have HLS2:=zY hls2;have HFV:=zY (mod_less HVM.out hlp);clear hls2 HLS hlp;go_wp2_with fail;refine qab HLS2.out ?_;rintro e w5 ⟨rfl,rfl⟩;go_wp2_with fail;go_ret;rw [← HFV.out];exact ⟨A3,c3,by rw [qaj]; rfl,by rw [qaj]; exact HC3.out,HR4.out,by rw [HG.out]; exact HB4.out⟩
       ·have hls2:=HLS.out;rw [decide_eq_false hlp] at hls2;have HLS2:=zY hls2;have HPV:=zY (Nat.le_of_not_lt hlp);clear hls2 HLS hlp;go_wp2_with fail;refine qab HLS2.out ?_;rintro e w5 ⟨rfl,rfl⟩;go_wp2_with fail;refine qab (p_any _) ?_;rintro e w6 ⟨A6,c6,rfl,hc6,hr6,hb6⟩;have hmin:=qej (digN 32 V) pL (qa0 _ _) pL_dg (by rw [pL_val,qbk _ _ HV.out]; exact HPV.out) A3 A6 c3 c6 w6 ((HR4.out.below hb6).mono hb6.size) hr6 (by rw [qaj]; decide) (by rw [qec]; decide);rw [qbk _ _ HV.out,pL_val,qaj] at hmin;have HMIN:=zY hmin;have HB6:=zY (HB4.out.trans (hb6.mono HG4.out));have HG6:=zY (Nat.le_trans HG4.out hb6.size);clear hc6 hr6 hb6 hmin;go_wp2_with fail;refine qab HMIN.out ?_;rintro e w7 ⟨A7,c7,rfl,hc7,hr7,hb7⟩;rw [qaj] at hc7;rw [qaj];have HC7:=zY hc7;have HB7:=zY (HB6.out.trans (hb7.mono HG6.out));have HR7:=zY hr7;clear hc7 hr7 hb7;go_wp2_with fail;refine ⟨⟨V - PN,A7,c7,rfl,HC7.out,Nat.lt_of_le_of_lt (Nat.sub_le _ _) HV.out,by rw [sub_mod HPV.out]; exact HVM.out,HR7.out,HB7.out⟩,?_⟩;have e1:=qdh c7 HR7.out;have e2:=qdh c3 HRV.out;rw [qaj,qbk _ _ (Nat.lt_of_le_of_lt (Nat.sub_le _ _) HV.out)] at e1;rw [qaj,qbk _ _ HV.out] at e2;rw [e1,e2];exact Nat.sub_lt (Nat.lt_of_lt_of_le (by decide) HPV.out) (by decide)
theorem radd_any (a b:List Nat) (ha:Dg a) (hb:Dg b) (A B:Option Addr) (c d:Nat) (w:World) (hra:Rd w w.heap.size A (dV a)) (hrb:Rd w w.heap.size B (dV b)) (hla:a.length≤100000) (hlb:b.length≤100000) :
  Calls Tryz.prog 83 #[.slice A a.length c,.slice B b.length d] w (DigPost (digN 32 ((leV a+leV b)%PN)) w):=by
 have hp:=qd3 a b ha hb A B c d w hra hrb (by omega) (by omega);obtain ⟨S,hS⟩:=eX (digN (max a.length b.length+1) (leV a+leV b));have hSv:leV S=leV a+leV b:=by rw [hS]; exact plus_val ha hb
 have hSd:Dg S:=by rw [hS]; exact qa0 _ _
 have hSl:S.length≤1000000:=by rw [hS,qaj]; omega
 rw [← hS] at hp;rw [← hSv];have HP:=zY hp;have HSD:=zY hSd;have HSL:=zY hSl;generalize a.length=n at *;generalize b.length=m at *;clear hp hS hSv hSd hSl hra hrb hla hlb ha hb;go_enter Tryz.func83,Tryz.ntmps83;go_wp2_with fail;refine qab HP.out ?_;rintro e w2 ⟨A2,c2,rfl,hc2,hr2,hb2⟩;have hf:=qdb S HSD.out A2 c2 w2 hr2 hc2 HSL.out;have HF:=zY hf;have HB2:=zY hb2;clear hc2 hr2 hf hb2;go_wp2_with fail;refine qab HF.out ?_;rintro e w3 ⟨A3,c3,rfl,hc3,hr3,hb3⟩;have HC:=zY hc3;have HR:=zY hr3;have HB3:=zY (HB2.out.trans (hb3.mono HB2.out.size));clear hc3 hr3 hb3;go_wp2_with fail;go_ret;exact ⟨A3,c3,rfl,HC.out,HR.out,HB3.out⟩
theorem rmul_any (a b:List Nat) (ha:Dg a) (hb:Dg b) (A B:Option Addr) (c d:Nat) (w:World) (hra:Rd w w.heap.size A (dV a)) (hrb:Rd w w.heap.size B (dV b)) (hla:a.length≤100000) (hlb:b.length≤100000) :
  Calls Tryz.prog 60 #[.slice A a.length c,.slice B b.length d] w (DigPost (digN 32 (leV a*leV b%PN)) w):=by
 have hp:=times_any a b ha hb A B c d w hra hrb (by omega) (by omega);obtain ⟨S,hS⟩:=eX (digN (a.length+b.length+1) (leV a*leV b));have hSv:leV S=leV a*leV b:=by rw [hS]; exact times_val ha hb
 have hSd:Dg S:=by rw [hS]; exact qa0 _ _
 have hSl:S.length≤1000000:=by rw [hS,qaj]; omega
 rw [← hS] at hp;rw [← hSv];have HP:=zY hp;have HSD:=zY hSd;have HSL:=zY hSl;generalize a.length=n at *;generalize b.length=m at *;clear hp hS hSv hSd hSl hra hrb hla hlb ha hb;go_enter Tryz.func60,Tryz.ntmps60;go_wp2_with fail;refine qab HP.out ?_;rintro e w2 ⟨A2,c2,rfl,hc2,hr2,hb2⟩;have hf:=qdb S HSD.out A2 c2 w2 hr2 hc2 HSL.out;have HF:=zY hf;have HB2:=zY hb2;clear hc2 hr2 hf hb2;go_wp2_with fail;refine qab HF.out ?_;rintro e w3 ⟨A3,c3,rfl,hc3,hr3,hb3⟩;have HC:=zY hc3;have HR:=zY hr3;have HB3:=zY (HB2.out.trans (hb3.mono HB2.out.size));clear hc3 hr3 hb3;go_wp2_with fail;go_ret;exact ⟨A3,c3,rfl,HC.out,HR.out,HB3.out⟩
theorem rsub_any (a b:List Nat) (ha:Dg a) (hb:Dg b) (hle:leV b≤leV a+PN) (A B:Option Addr) (c d:Nat) (w:World) (hra:Rd w w.heap.size A (dV a)) (hrb:Rd w w.heap.size B (dV b)) (hla:a.length≤100000) (hlb:b.length≤100000) :
  Calls Tryz.prog 82 #[.slice A a.length c,.slice B b.length d] w (DigPost (digN 32 ((leV a+PN - leV b)%PN)) w):=by
 obtain ⟨S,hS⟩:=eX (digN (max a.length pL.length+1) (leV a+leV pL));have hSv:leV S=leV a+PN:=by rw [hS,plus_val ha pL_dg,pL_val]
 have hSd:Dg S:=by rw [hS]; exact qa0 _ _
 have hSl:S.length≤1000000:=by rw [hS,qaj,qec]; omega
 have hp:∀ u,Below w.heap.size w u→∀ A4 c4,Rd u u.heap.size A4 (dV pL)→Calls Tryz.prog 100 #[.slice A a.length c,.slice A4 pL.length c4] u (DigPost S u):=fun u hu A4 c4 h4=>by
  rw [hS];exact qd3 a pL ha pL_dg A A4 c c4 u ((hra.below hu).mono hu.size) h4 (by omega) (by decide)
 obtain ⟨D,hD⟩:=eX (digN S.length (leV S - leV b))
 have hDv:leV D=leV a+PN - leV b:=by
  rw [hD,qbk,hSv];have h:=qdB S hSd;omega
 have hDd:Dg D:=by rw [hD]; exact qa0 _ _
 have hDl:D.length≤1000000:=by rw [hD,qaj]; exact hSl
 have hm:∀ u,Below w.heap.size w u→∀ A4 c4,Rd u u.heap.size A4 (dV S)→Calls Tryz.prog 85 #[.slice A4 S.length c4,.slice B b.length d] u (DigPost D u):=fun u hu A4 c4 h4=>by
  rw [hD];exact qej S b hSd hb (by rw [hSv]; exact hle) A4 B c4 d u h4 ((hrb.below hu).mono hu.size) hSl (by omega)
 rw [← hDv];have HP:=zY hp;have HMI:=zY hm;have HDD:=zY hDd;have HDL:=zY hDl;generalize a.length=n at *;generalize b.length=m at *;clear hp hm hS hSv hSd hSl hD hDv hDd hDl hra hrb hla hlb ha hb hle;go_enter Tryz.func82,Tryz.ntmps82;go_wp2_with fail;refine qab (p_any _) ?_;rintro e w1 ⟨A1,c1,rfl,hc1,hr1,hb1⟩;have HC1:=zY (HP.out w1 hb1 A1 c1 hr1);have HB1:=zY hb1;clear hc1 hr1 hb1;go_wp2_with fail;refine qab HC1.out ?_;rintro e w2 ⟨A2,c2,rfl,hc2,hr2,hb2⟩;have HB2:=zY (HB1.out.trans (hb2.mono HB1.out.size));have HC2:=zY (HMI.out w2 HB2.out A2 c2 hr2);clear hc2 hr2 hb2;go_wp2_with fail;refine qab HC2.out ?_;rintro e w3 ⟨A3,c3,rfl,hc3,hr3,hb3⟩;have HB3:=zY (HB2.out.trans (hb3.mono HB2.out.size));have hf:=qdb D HDD.out A3 c3 w3 hr3 hc3 HDL.out;have HF:=zY hf;clear hc3 hr3 hb3 hf;go_wp2_with fail;refine qab HF.out ?_;rintro e w4 ⟨A4,c4,rfl,hc4,hr4,hb4⟩;have HC:=zY hc4;have HR:=zY hr4;have HB4:=zY (HB3.out.trans (hb4.mono HB3.out.size));clear hc4 hr4 hb4;go_wp2_with fail;go_ret;exact ⟨A4,c4,rfl,HC.out,HR.out,HB4.out⟩
theorem int_step {d:List Nat} {k m N:Nat} (hl:d.length=k) (h:leV d+256^k*m=N):leV (d++[m%256])+256^(k+1)*(m/256)=N:=by
 rw [qdQ,hl,Nat.pow_succ]
 have e:256^k*(m%256)+256^k*256*(m/256)=256^k*m:=by
  rw [Nat.mul_assoc,← Nat.mul_add,Nat.mod_add_div]
 omega
theorem rint_nat (N:Nat) (hN:N<9223372036854775808) (w:World) :
  Calls Tryz.prog 57 #[.int .i64 (N:Int)] w (DigPost (digN 32 (N%PN)) w):=by
 have hbig:N<256^9:=Nat.lt_trans hN (by decide);have hpos:¬ (N:Int)<0:=by omega
 have hs0:∃ (k m:Nat) (A:Option Addr) (c:Nat) (d:List Nat),k≤9∧Value.int .i64 (N:Int)=.int .i64 (m:Int)∧Value.slice none 0 0=.slice A k c∧d.length=k∧Dg d∧leV d+256^k*m=N∧m≤N∧OwnX w w.heap.size 3 1 (.slice A k c) k (dV d)∧Below w.heap.size w w :=
  ⟨0,N,none,0,[],by omega,rfl,rfl,rfl,by unfold Dg; simp,by simp [leV],Nat.le_refl _,OwnX.nil _ _ _ _,Below.refl _ _⟩
 have HS0:=zY hs0;have HBIG:=zY hbig;have HNL:=zY hN;clear hs0 hbig hN;go_enter Tryz.func57,Tryz.ntmps57;go_wp2_with fail;generalize hg:w.heap.size=g at HS0 ⊢;have HG:=zY hg;clear hg
 go_loopw [0,3] (fun n v wr=>∃ (k m:Nat) (A:Option Addr) (c:Nat) (d:List Nat),k≤9∧n=.int .i64 (m:Int)∧v=.slice A k c∧d.length=k∧Dg d∧leV d+256^k*m=N∧m≤N∧OwnX wr g 3 1 (.slice A k c) k (dV d)∧Below g w wr) (fun n _ _=>(intOf n).toNat)
 case atStart=>exact HS0.out
 case round =>
  clear HS0;obtain ⟨k,m,A,c,d,hk,rfl,rfl,hdl,hdd,heq,hmN,hown,hbel⟩:=hrel;have hsz:g≤wr.heap.size:=by have h:=hbel; rw [← HG.out] at h ⊢; exact h.size
  by_cases hm0:0<m
  ·have hm0':¬ (m:Int)=0:=by omega
   have hk9:=qdq heq HBIG.out hm0;obtain ⟨x,hx⟩:∃ x,m%256=x:=⟨_,rfl⟩;obtain ⟨q,hq⟩:∃ q,m/256=q:=⟨_,rfl⟩;have hxi:(m:Int)%256=(x:Int):=by omega
   have hqi:(m:Int)/256=(q:Int):=by omega
   have hx0:¬ (x:Int)<0:=by omega
   have hstep:=int_step hdl heq;rw [hx,hq] at hstep;have HSTEP:=zY hstep;have HDD:=zY (qew hdd (show x<256 by omega));have HDL:=zY (show (d++[x]).length=k+1 by rw [List.length_append,hdl]; rfl);have HQM:=zY (show q<m by omega);have HMN:=zY hmN;have HK9:=zY hk9;have HOWN:=zY hown;have HBEL:=zY hbel;have HSZ:=zY hsz;have hm63:(m:Int)≤9223372036854775807:=by have:=HNL.out; omega
   clear hstep hdl hdd heq hmN hown hbel hsz hm0 hx hq hk hk9;go_wp2_with (refine qao sl_ints rfl rfl HOWN.out rfl rfl rfl rfl (by have:=HK9.out; unfold maxLen; omega) (by have:=HK9.out; omega) HSZ.out ?_; intro A2 c2 w2 hown2 hg2 hn2; have HOWN2:=zY hown2; have HG2:=zY hg2; clear hown2 hg2 hn2);refine ⟨⟨k+1,q,A2,c2,d++[x],HK9.out,rfl,rfl,HDL.out,HDD.out,HSTEP.out,by have:=HQM.out; have:=HMN.out; omega,?_,qbE HBEL.out HOWN.out HSZ.out HG2.out⟩,by have:=HQM.out; simp [intOf]; omega⟩;rw [qez];exact HOWN2.out
  ·obtain rfl:m=0:=by omega
   have hv:leV d=N:=by rw [← heq]; simp
   have hf:=qdb d hdd A c wr (Rd.of_own hown (Nat.le_refl _)) (by rw [hdl]; exact hown.le_cap) (by rw [hdl]; omega);rw [hdl,hv] at hf;have HF:=zY hf;have HBEL:=zY hbel;have HSZ:=zY hsz;clear hf hbel hsz hown heq hdd hdl hv hk hmN hm0;go_wp2_with fail;refine qab HF.out ?_;rintro e w3 ⟨A3,c3,rfl,hc3,hr3,hb3⟩;have HC:=zY hc3;have HR:=zY hr3;have HB3:=zY (HBEL.out.trans (hb3.mono HSZ.out));clear hc3 hr3 hb3;go_wp2_with fail;go_ret;exact ⟨A3,c3,rfl,HC.out,HR.out,by rw [HG.out]; exact HB3.out⟩
theorem rint_neg (N:Nat) (hN:N≤9223372036854775808) (h0:0<N) (w:World) :
  Calls Tryz.prog 57 #[.int .i64 (-(N:Int))] w (DigPost (digN 32 ((PN - N%PN)%PN)) w):=by
 have hbig:N<256^9:=Nat.lt_of_le_of_lt hN (by decide);have hpos:-(N:Int)<0:=by omega
 have hs0:∃ (k m:Nat) (A:Option Addr) (c:Nat) (d:List Nat),k≤9∧Value.int .i64 (-(N:Int))=.int .i64 (-(m:Int))∧Value.slice none 0 0=.slice A k c∧d.length=k∧Dg d∧leV d+256^k*m=N∧m≤N∧OwnX w w.heap.size 3 1 (.slice A k c) k (dV d)∧Below w.heap.size w w :=
  ⟨0,N,none,0,[],by omega,rfl,rfl,rfl,by unfold Dg; simp,by simp [leV],Nat.le_refl _,OwnX.nil _ _ _ _,Below.refl _ _⟩
 have HS0:=zY hs0;have HBIG:=zY hbig;have HNL:=zY hN;clear hs0 hbig hN h0;go_enter Tryz.func57,Tryz.ntmps57;go_wp2_with fail;generalize hg:w.heap.size=g at HS0 ⊢;have HG:=zY hg;clear hg
 go_loopw [0,3] (fun n v wr=>∃ (k m:Nat) (A:Option Addr) (c:Nat) (d:List Nat),k≤9∧n=.int .i64 (-(m:Int))∧v=.slice A k c∧d.length=k∧Dg d∧leV d+256^k*m=N∧m≤N∧OwnX wr g 3 1 (.slice A k c) k (dV d)∧Below g w wr) (fun n _ _=>(-(intOf n)).toNat)
 case atStart=>exact HS0.out
 case round =>
  clear HS0;obtain ⟨k,m,A,c,d,hk,rfl,rfl,hdl,hdd,heq,hmN,hown,hbel⟩:=hrel;have hsz:g≤wr.heap.size:=by have h:=hbel; rw [← HG.out] at h ⊢; exact h.size
  by_cases hm0:0<m
  ·have hm0':¬ (m:Int)=0:=by omega
   have hk9:=qdq heq HBIG.out hm0;obtain ⟨x,hx⟩:∃ x,m%256=x:=⟨_,rfl⟩;obtain ⟨q,hq⟩:∃ q,m/256=q:=⟨_,rfl⟩;have hxi:(m:Int)%256=(x:Int):=by omega
   have hqi:(m:Int)/256=(q:Int):=by omega
   have hstep:=int_step hdl heq;rw [hx,hq] at hstep;have HSTEP:=zY hstep;have HDD:=zY (qew hdd (show x<256 by omega));have HDL:=zY (show (d++[x]).length=k+1 by rw [List.length_append,hdl]; rfl);have HQM:=zY (show q<m by omega);have HMN:=zY hmN;have HK9:=zY hk9;have HOWN:=zY hown;have HBEL:=zY hbel;have HSZ:=zY hsz;have hm63:(m:Int)≤9223372036854775808:=by have:=HNL.out; omega
   clear hstep hdl hdd heq hmN hown hbel hsz hm0 hx hq hk hk9
   by_cases hxz:x=0
   ·subst hxz;go_wp2_with (refine qao sl_ints rfl rfl HOWN.out rfl rfl rfl rfl (by have:=HK9.out; unfold maxLen; omega) (by have:=HK9.out; omega) HSZ.out ?_; intro A2 c2 w2 hown2 hg2 hn2; have HOWN2:=zY hown2; have HG2:=zY hg2; clear hown2 hg2 hn2);refine ⟨⟨k+1,q,A2,c2,d++[0],HK9.out,rfl,rfl,HDL.out,HDD.out,HSTEP.out,by have:=HQM.out; have:=HMN.out; omega,?_,qbE HBEL.out HOWN.out HSZ.out HG2.out⟩,by have:=HQM.out; simp [intOf]; omega⟩;rw [qez];exact HOWN2.out
   ·have hxp:0<x:=Nat.pos_of_ne_zero hxz;clear hxz;go_wp2_with (refine qao sl_ints rfl rfl HOWN.out rfl rfl rfl rfl (by have:=HK9.out; unfold maxLen; omega) (by have:=HK9.out; omega) HSZ.out ?_; intro A2 c2 w2 hown2 hg2 hn2; have HOWN2:=zY hown2; have HG2:=zY hg2; clear hown2 hg2 hn2);refine ⟨⟨k+1,q,A2,c2,d++[x],HK9.out,rfl,rfl,HDL.out,HDD.out,HSTEP.out,by have:=HQM.out; have:=HMN.out; omega,?_,qbE HBEL.out HOWN.out HSZ.out HG2.out⟩,by have:=HQM.out; simp [intOf]; omega⟩;rw [qez];exact HOWN2.out
  ·obtain rfl:m=0:=by omega
   have hv:leV d=N:=by rw [← heq]; simp
   have hf:=qdb d hdd A c wr (Rd.of_own hown (Nat.le_refl _)) (by rw [hdl]; exact hown.le_cap) (by rw [hdl]; omega);rw [hdl,hv] at hf;have HF:=zY hf;have HBEL:=zY hbel;have HSZ:=zY hsz;clear hf hbel hsz hown heq hdd hdl hv hk hmN hm0;go_wp2_with fail;refine qab HF.out ?_;rintro e w3 ⟨A3,c3,rfl,hc3,hr3,hb3⟩;have HC:=zY hc3;have HR:=zY hr3;have HB3:=zY (HBEL.out.trans (hb3.mono HSZ.out));clear hc3 hr3 hb3
   have hz32:DigPost (digN 32 ((PN - N%PN)%PN))=DigPost (digN 32 ((leV (partL [] 32)+PN - leV (digN 32 (N%PN)))%PN)):=by
    rw [qeb,qck,qbk _ _ (Nat.lt_trans (Nat.mod_lt _ (by decide)) (by decide:PN<256^32)),Nat.zero_add]
   have HZ:=zY hz32;have hmk:=qcf 32 (by decide);have hmk':∀ u:World,(Instr.makeSlice 86 (.int .i64 32) (.int .i64 32)).run Tryz.prog u=.ok (.slice (some ⟨u.heap.size,0,none⟩) 32 32) (u.alloc (.cells (dV (partL [] 32)).toArray 3)):=hmk;have hnew:=Blk.new w3 3 (dV (partL [] 32)).toArray;have hbn:Below w3.heap.size w3 (w3.alloc (.cells (dV (partL [] 32)).toArray 3)):=below_new _ _
   have hsub:=rsub_any (partL [] 32) (digN 32 (N%PN)) (fun d h=>by rw [List.eq_of_mem_replicate h]; decide) (qa0 _ _) (by
    rw [qbk _ _ (Nat.lt_trans (Nat.mod_lt _ (by decide)) (by decide:PN<256^32))];have:=Nat.mod_lt N (show 0<PN by decide)
    omega) (some ⟨w3.heap.size,0,none⟩) A3 32 c3 _ (Rd.of_blk hnew hnew.lt) ((HR.out.below hbn).mono hbn.size) (by rw [qa4 _ _ (Nat.zero_le _)]; decide) (by rw [qaj]; decide)
   rw [qa4 _ _ (Nat.zero_le _),qaj] at hsub;have HSUB:=zY hsub;have HBN:=zY (HB3.out.trans (hbn.mono (by have h:=HB3.out; rw [← HG.out] at h ⊢; exact h.size)));clear hz32 hmk hnew hbn hsub;go_wp2_with fail;rw [qaj];refine qab HSUB.out ?_;rintro e w5 ⟨A5,c5,rfl,hc5,hr5,hb5⟩;have HC5:=zY hc5;have HR5:=zY hr5;have HB5:=zY (HBN.out.trans (hb5.mono (by have h:=HBN.out; rw [← HG.out] at h ⊢; exact h.size)));clear hc5 hr5 hb5;go_wp2_with fail;go_ret;rw [HZ.out];exact ⟨A5,c5,rfl,HC5.out,HR5.out,by rw [HG.out]; exact HB5.out⟩
theorem half_pow (b k:Nat) (h:k<8):b/2^(8 - k)=b/2^(7 - k)/2:=by
 rw [show 8 - k=(7 - k)+1 by omega,Nat.pow_succ,Nat.div_div_eq_div_mul]
theorem expo_step (E b k:Nat) (h:k<8):E*2^(k+1)+b/2^(8 - (k+1))=2*(E*2^k+b/2^(8 - k))+b/2^(7 - k)%2:=by
 rw [half_pow b k h,show 8 - (k+1)=7 - k by omega,Nat.pow_succ,Nat.mul_add,← Nat.mul_assoc E,Nat.mul_comm 2 (E*2^k)];omega
theorem sq_mod (x n:Nat):(x^n%PN)*(x^n%PN)%PN=x^(2*n)%PN:=by rw [qd9,Nat.two_mul]
theorem qeh (x n:Nat):(x^n%PN)*x%PN=x^(n+1)%PN:=by rw [Nat.mod_mul_mod,Nat.pow_succ]
theorem drop_val (e:List Nat) (p:Nat) (h:p<e.length):leV (e.drop p)=e.getD p 0+256*leV (e.drop (p+1)):=by
 rw [List.drop_eq_getElem_cons h,leV,List.getD_eq_getElem?_getD,List.getElem?_eq_getElem h]; rfl
theorem rpow_any (a e:List Nat) (ha:Dg a) (he:Dg e) (A B:Option Addr) (c d:Nat) (w:World) (hra:Rd w w.heap.size A (dV a)) (hrb:Rd w w.heap.size B (dV e)) (hla:a.length≤100000) (hlb:e.length≤100000) :
  Calls Tryz.prog 84 #[.slice A a.length c,.slice B e.length d] w (DigPost (digN 32 (leV a^leV e%PN)) w):=by
 obtain ⟨n,hn⟩:=eX (a.length);obtain ⟨m,hm⟩:=eX (e.length);obtain ⟨x,hx⟩:=eX (leV a);rw [← hn,← hm,← hx];have hm63:(m:Int)≤100000:=by omega
 have hmulS:∀ u,Below w.heap.size w u→∀ V,V<PN→∀ A1 c1,Rd u u.heap.size A1 (dV (digN 32 V))→Calls Tryz.prog 60 #[.slice A1 32 c1,.slice A1 32 c1] u (DigPost (digN 32 (V*V%PN)) u):=fun u hu V hV A1 c1 h1=>by
  have h:=rmul_any (digN 32 V) (digN 32 V) (qa0 _ _) (qa0 _ _) A1 A1 c1 c1 u h1 h1 (by rw [qaj]; decide) (by rw [qaj]; decide);rw [qbk _ _ (Nat.lt_trans hV (by decide)),qaj] at h;exact h
 have hmulA:∀ u,Below w.heap.size w u→∀ V,V<PN→∀ A1 c1,Rd u u.heap.size A1 (dV (digN 32 V))→Calls Tryz.prog 60 #[.slice A1 32 c1,.slice A n c] u (DigPost (digN 32 (V*x%PN)) u):=fun u hu V hV A1 c1 h1=>by
  have h:=rmul_any (digN 32 V) a (qa0 _ _) ha A1 A c1 c u h1 (qdL hra hu) (by rw [qaj]; decide) hla;rw [qbk _ _ (Nat.lt_trans hV (by decide)),qaj,← hn,← hx] at h;exact h
 have hcell:∀ u,Below w.heap.size w u→∀ p,p<m→∃ ad,B=some ad∧u.cell? (ad.add p)=some (.int .i64 ((e.getD p 0:Nat):Int)):=fun u hu p hp=>qbK (qdL hrb hu) (by rw [← hm]; exact hp);have h1:=rint_nat 1 (by decide);have MS:=zY hmulS;have MA:=zY hmulA;have HCELL:=zY hcell;have HE:=zY he;have HM:=zY hm;have H1:=zY h1;clear hmulS hmulA hcell ha he hra hrb hla hlb hn hm hx h1;go_enter Tryz.func84,Tryz.ntmps84;go_wp2_with fail;refine qab (H1.out _) ?_;rintro e1 w1 ⟨A1,c1,rfl,hc1,hr1,hb1⟩;rw [qaj] at hc1;rw [qaj]
 have hs0:∃ (j:Nat) (A1':Option Addr) (c1':Nat),j≤m∧Value.slice A1 32 c1=.slice A1' 32 c1'∧32≤c1'∧Value.int .i64 ((m:Int) - 1)=.int .i64 ((m:Int) - 1 - (j:Int))∧Rd w1 w1.heap.size A1' (dV (digN 32 (x^leV (e.drop (m - j))%PN)))∧Below w.heap.size w w1 :=
  ⟨0,A1,c1,Nat.zero_le _,rfl,hc1,by simp,by rw [Nat.sub_zero,HM.out,List.drop_length]; exact hr1,hb1⟩
 have HS0:=zY hs0;clear hc1 hr1 hb1 hs0;go_wp2_with fail
 go_loopw [5,6] (fun v i wr=>∃ (j:Nat) (A1':Option Addr) (c1':Nat),j≤m∧v=.slice A1' 32 c1'∧32≤c1'∧i=.int .i64 ((m:Int) - 1 - (j:Int))∧Rd wr wr.heap.size A1' (dV (digN 32 (x^leV (e.drop (m - j))%PN)))∧Below w.heap.size w wr) (fun _ i _=>(intOf i+1).toNat)
 case atStart=>exact HS0.out
 case round =>
  clear HS0;obtain ⟨j,A2,c2,hj,rfl,hc2,rfl,hrd,hbel⟩:=hrel
  by_cases hlt:j<m
  ·obtain ⟨p,hp⟩:∃ p,p+1+j=m:=⟨m - 1 - j,by omega⟩;have hpi:(m:Int) - 1 - (j:Int)=(p:Int):=by omega
   rw [hpi];obtain ⟨E,hE⟩:=eX (leV (e.drop (m - j)));obtain ⟨b,hb⟩:=eX (e.getD p 0);have hbl:b<256:=by rw [hb]; exact qa3 HE.out p
   have hs0:∃ (k:Nat) (A1':Option Addr) (c1':Nat),k≤8∧Value.slice A2 32 c2=.slice A1' 32 c1'∧32≤c1'∧Value.int .i64 128=.int .i64 ((2^(7 - k):Nat):Int)∧Value.int .i64 0=.int .i64 (k:Int)∧Rd wr wr.heap.size A1' (dV (digN 32 (x^(E*2^k+b/2^(8 - k))%PN)))∧Below w.heap.size w wr :=
    ⟨0,A2,c2,by omega,rfl,hc2,rfl,rfl,by rw [Nat.pow_zero,Nat.mul_one,show b/2^(8 - 0)=0 from Nat.div_eq_of_lt hbl,Nat.add_zero,hE]; exact hrd,hbel⟩
   have HS0:=zY hs0;have HEE:=zY hE;have HB:=zY hb;have HBL:=zY hbl;have HP:=zY hp;have HLT:=zY hlt;have hpm:(p:Int)<(m:Int):=by omega
   clear hs0 hE hb hbl hp hlt hrd hbel hj hc2 hpi;go_wp2_with fail;obtain ⟨wo,rfl⟩:=eX wr
   go_loopw [5,7,8] (fun v dv kv wr=>∃ (k:Nat) (A1':Option Addr) (c1':Nat),k≤8∧v=.slice A1' 32 c1'∧32≤c1'∧dv=.int .i64 ((2^(7 - k):Nat):Int)∧kv=.int .i64 (k:Int)∧Rd wr wr.heap.size A1' (dV (digN 32 (x^(E*2^k+b/2^(8 - k))%PN)))∧Below w.heap.size w wr) (fun _ _ kv _=>8 - (intOf kv).toNat)
   case atStart=>exact HS0.out
   case round =>
    clear HS0;obtain ⟨k,A3,c3,hk,rfl,hc3,rfl,rfl,hrd,hbel⟩:=hrel
    by_cases hltk:k<8
    ·have hltk':(k:Int)<8:=by omega
     obtain ⟨dd,hdd⟩:=eX (2^(7 - k));have hd1:1≤dd:=by rw [hdd]; exact Nat.two_pow_pos _
     have hd128:dd≤128:=by rw [hdd]; exact Nat.pow_le_pow_right (n:=2) (by decide) (show 7 - k≤7 by omega)
     obtain ⟨bq,hbq⟩:=eX (b/dd);have hbqi:(b:Int)/(dd:Int)=(bq:Int):=by rw [hbq]; simp
     obtain ⟨bit,hbit⟩:=eX (bq%2);have hbiti:(bq:Int)%2=(bit:Int):=by omega
     obtain ⟨V,hV⟩:=eX (x^(E*2^k+b/2^(8 - k))%PN);have hVl:V<PN:=by rw [hV]; exact Nat.mod_lt _ (by decide)
     have hsq:V*V%PN=x^(2*(E*2^k+b/2^(8 - k)))%PN:=by rw [hV,sq_mod]
     have hex:=expo_step E b k hltk;rw [← hdd,← hbq,← hbit] at hex;rw [← hV] at hrd;rw [← hdd];obtain ⟨V2,hV2⟩:=eX (V*V%PN);have hV2l:V2<PN:=by rw [hV2]; exact Nat.mod_lt _ (by decide)
     have hd2:(if 1<dd then dd/2 else dd)=2^(7 - (k+1)):=by
      by_cases h7:k=7
      ·rw [hdd,h7]; decide
      ·have e7:dd=2^(7 - (k+1))*2:=by rw [hdd,← Nat.pow_succ]; congr 1; omega
       have e8:0<2^(7 - (k+1)):=Nat.two_pow_pos _;rw [if_pos (by omega),e7];omega
     have hlt8:(b:Int)<256:=by have:=HBL.out; omega
     have hbql:(bq:Int)<256:=by have h:=Nat.div_le_self b dd; rw [← hbq] at h; omega
     have hpm2:p<m:=by omega
     obtain ⟨bd,rfl,_⟩:=HCELL.out wr hbel p hpm2;have CALL:=zY (MS.out wr hbel V hVl A3 c3 hrd);rw [← hV2] at CALL;have HV2:=zY hV2;have HV2L:=zY hV2l;have HSQ:=zY hsq;have HEX:=zY hex;have HBEL:=zY hbel;have HPM:=zY hpm2;have HK8:=zY (show k+1≤8 by omega);have hd1':¬ (dd:Int)=0:=by omega
     have hd1'':(0:Int)<(dd:Int):=by omega
     have hd128':(dd:Int)≤128:=by omega
     have hbitl:bit<2:=by omega
     clear hV2 hV2l hsq hex hbel hpm2 hV hVl hrd hdd hbq hk hltk hc3
     by_cases hbitn:bit=1 <;> by_cases hgtn:1<dd
     ·have hbit1:(bq:Int)%2=1:=by omega
      have hdi:(dd:Int) > 1:=by omega
      obtain ⟨d2,hd2e⟩:=eX (dd/2);have hd2i:(dd:Int)/2=(d2:Int):=by omega
      rw [if_pos (show 1<dd by omega),← hd2e] at hd2;have HD2:=zY hd2;clear hd2 hd2e;have hbb:bit=1:=by omega
      have hfin:V2*x%PN=x^(E*2^(k+1)+b/2^(8 - (k+1)))%PN:=by rw [HEX.out,hbb,HV2.out,HSQ.out,qeh]
      have HFIN:=zY hfin;clear hfin hbb;clear hbitn hgtn hbiti;go_wp2_with fail;refine qab CALL.out ?_;rintro e3 w3 ⟨A4,c4,rfl,hc4,hr4,hb4⟩;rw [qaj] at hc4;rw [qaj];have HB4:=zY (HBEL.out.trans (hb4.mono HBEL.out.size));obtain ⟨ad2,h1,hca⟩:=HCELL.out w3 HB4.out p HPM.out
      injection h1 with h1
      subst h1;rw [← HB.out] at hca;have HC4:=zY hc4;have HR4:=zY hr4;have HMA:=zY (MA.out w3 HB4.out V2 HV2L.out A4 c4 hr4);clear hc4 hr4 hb4;go_wp2_with fail;refine qab HMA.out ?_;rintro e5 w5 ⟨A5,c5,rfl,hc5,hr5,hb5⟩;rw [qaj] at hc5;rw [qaj];rw [HFIN.out] at hr5;have HB5:=zY (HB4.out.trans (hb5.mono HB4.out.size));have HC5:=zY hc5;have HR5:=zY hr5;clear hc5 hr5 hb5;go_wp2_with fail;refine ⟨⟨k+1,A5,c5,HK8.out,rfl,HC5.out,by rw [← HD2.out],by go_num,HR5.out,HB5.out⟩,by have:=HK8.out; simp [intOf]; omega⟩
     ·have hbit1:(bq:Int)%2=1:=by omega
      have hdi:¬ (dd:Int) > 1:=by omega
      rw [if_neg (show ¬ 1<dd by omega)] at hd2;have HD2:=zY hd2;clear hd2;have hbb:bit=1:=by omega
      have hfin:V2*x%PN=x^(E*2^(k+1)+b/2^(8 - (k+1)))%PN:=by rw [HEX.out,hbb,HV2.out,HSQ.out,qeh]
      have HFIN:=zY hfin;clear hfin hbb;clear hbitn hgtn hbiti;go_wp2_with fail;refine qab CALL.out ?_;rintro e3 w3 ⟨A4,c4,rfl,hc4,hr4,hb4⟩;rw [qaj] at hc4;rw [qaj];have HB4:=zY (HBEL.out.trans (hb4.mono HBEL.out.size));obtain ⟨ad2,h1,hca⟩:=HCELL.out w3 HB4.out p HPM.out
      injection h1 with h1
      subst h1;rw [← HB.out] at hca;have HC4:=zY hc4;have HR4:=zY hr4;have HMA:=zY (MA.out w3 HB4.out V2 HV2L.out A4 c4 hr4);clear hc4 hr4 hb4;go_wp2_with fail;refine qab HMA.out ?_;rintro e5 w5 ⟨A5,c5,rfl,hc5,hr5,hb5⟩;rw [qaj] at hc5;rw [qaj];rw [HFIN.out] at hr5;have HB5:=zY (HB4.out.trans (hb5.mono HB4.out.size));have HC5:=zY hc5;have HR5:=zY hr5;clear hc5 hr5 hb5;go_wp2_with fail;refine ⟨⟨k+1,A5,c5,HK8.out,rfl,HC5.out,by rw [← HD2.out],by go_num,HR5.out,HB5.out⟩,by have:=HK8.out; simp [intOf]; omega⟩
     ·have hbit1:(bq:Int)%2=0:=by omega
      have hbz:¬ (bq:Int)%2=1:=by omega
      have hdi:(dd:Int) > 1:=by omega
      obtain ⟨d2,hd2e⟩:=eX (dd/2);have hd2i:(dd:Int)/2=(d2:Int):=by omega
      rw [if_pos (show 1<dd by omega),← hd2e] at hd2;have HD2:=zY hd2;clear hd2 hd2e;have hbb:bit=0:=by omega
      have hfin:V2=x^(E*2^(k+1)+b/2^(8 - (k+1)))%PN:=by rw [HEX.out,hbb,HV2.out,HSQ.out,Nat.add_zero]
      have HFIN:=zY hfin;clear hfin hbb;clear hbitn hgtn hbiti;go_wp2_with fail;refine qab CALL.out ?_;rintro e3 w3 ⟨A4,c4,rfl,hc4,hr4,hb4⟩;rw [qaj] at hc4;rw [qaj];have HB4:=zY (HBEL.out.trans (hb4.mono HBEL.out.size));obtain ⟨ad2,h1,hca⟩:=HCELL.out w3 HB4.out p HPM.out
      injection h1 with h1
      subst h1;rw [← HB.out] at hca;have HC4:=zY hc4;have HR4:=zY hr4;clear hc4 hr4 hb4;go_wp2_with fail;have hr5:=HR4.out;rw [HFIN.out] at hr5;refine ⟨⟨k+1,A4,c4,HK8.out,rfl,HC4.out,by rw [← HD2.out],by go_num,hr5,HB4.out⟩,by have:=HK8.out; simp [intOf]; omega⟩
     ·have hbit1:(bq:Int)%2=0:=by omega
      have hbz:¬ (bq:Int)%2=1:=by omega
      have hdi:¬ (dd:Int) > 1:=by omega
      rw [if_neg (show ¬ 1<dd by omega)] at hd2;have HD2:=zY hd2;clear hd2;have hbb:bit=0:=by omega
      have hfin:V2=x^(E*2^(k+1)+b/2^(8 - (k+1)))%PN:=by rw [HEX.out,hbb,HV2.out,HSQ.out,Nat.add_zero]
      have HFIN:=zY hfin;clear hfin hbb;clear hbitn hgtn hbiti;go_wp2_with fail;refine qab CALL.out ?_;rintro e3 w3 ⟨A4,c4,rfl,hc4,hr4,hb4⟩;rw [qaj] at hc4;rw [qaj];have HB4:=zY (HBEL.out.trans (hb4.mono HBEL.out.size));obtain ⟨ad2,h1,hca⟩:=HCELL.out w3 HB4.out p HPM.out
      injection h1 with h1
      subst h1;rw [← HB.out] at hca;have HC4:=zY hc4;have HR4:=zY hr4;clear hc4 hr4 hb4;go_wp2_with fail;have hr5:=HR4.out;rw [HFIN.out] at hr5;refine ⟨⟨k+1,A4,c4,HK8.out,rfl,HC4.out,by rw [← HD2.out],by go_num,hr5,HB4.out⟩,by have:=HK8.out; simp [intOf]; omega⟩
    ·obtain rfl:k=8:=by omega
     have hval:x^(E*2^8+b/2^(8 - 8))=x^leV (e.drop (m - (j+1))):=by
      have hp:=HP.out;rw [show m - (j+1)=p by omega,drop_val e p (by rw [← HM.out]; omega),← HB.out,show p+1=m - j by omega,← HEE.out]
      congr 1
      rw [show (2:Nat)^8=256 from rfl,Nat.sub_self,Nat.pow_zero,Nat.div_one];omega
     rw [hval] at hrd;have HRD:=zY hrd;have HBEL:=zY hbel;have HC3:=zY hc3;have hp1:(p:Int) - 1=(m:Int) - 1 - ((j+1:Nat):Int):=by have:=HP.out; omega
     have HP1:=zY hp1;clear hval hrd hbel hc3 hk hltk hp1;go_wp2_with fail;exact ⟨⟨j+1,A3,c3,HLT.out,rfl,HC3.out,by rw [HP1.out],HRD.out,HBEL.out⟩,by simp [intOf]⟩
  ·obtain rfl:j=m:=by omega
   rw [Nat.sub_self,List.drop_zero] at hrd;have HRD:=zY hrd;have HBEL:=zY hbel;have HC:=zY hc2;have hpi:(j:Int) - 1 - (j:Int)=-1:=by omega
   rw [hpi];clear hrd hbel hc2 hpi hlt;go_wp2_with fail;go_ret;exact ⟨A2,c2,by rw [qaj]; rfl,by rw [qaj]; exact HC.out,HRD.out,HBEL.out⟩
theorem two_val:leV [2]=2:=rfl
theorem two_dg:Dg [2]:=by unfold Dg; decide
theorem inv_exp:leV (digN 32 (leV pL - leV [2]))=PN - 2:=by rw [pL_val,two_val,qbk _ _ (by decide)]
theorem rinv_any (a:List Nat) (ha:Dg a) (A:Option Addr) (c:Nat) (w:World) (hra:Rd w w.heap.size A (dV a)) (hla:a.length≤100000) :
  Calls Tryz.prog 59 #[.slice A a.length c] w (DigPost (digN 32 (leV a^(PN - 2)%PN)) w):=by
 have cM:∀ u A1 c1 A2 c2,Rd u u.heap.size A1 (dV pL)→Rd u u.heap.size A2 (dV [2])→Calls Tryz.prog 85 #[.slice A1 32 c1,.slice A2 1 c2] u (DigPost (digN 32 (leV pL - leV [2])) u):=fun u A1 c1 A2 c2 h1 h2=>by
  have h:=qej pL [2] pL_dg two_dg (by rw [pL_val,two_val]; decide) A1 A2 c1 c2 u h1 h2 (by rw [qec]; decide) (by decide);rw [qec] at h; exact h
 have cP:∀ u,Below w.heap.size w u→∀ A1 c1,Rd u u.heap.size A1 (dV (digN 32 (leV pL - leV [2])))→Calls Tryz.prog 84 #[.slice A a.length c,.slice A1 32 c1] u (DigPost (digN 32 (leV a^(PN - 2)%PN)) u):=fun u hu A1 c1 h1=>by
  have h:=rpow_any a (digN 32 (leV pL - leV [2])) ha (qa0 _ _) A A1 c c1 u (qdL hra hu) h1 hla (by rw [qaj]; decide);rw [inv_exp,qaj] at h; exact h
 generalize a.length=n at *;have CM:=zY cM;have CP:=zY cP;generalize digN 32 (leV a^(PN - 2)%PN)=R at *;have hmm:(digN 32 (leV pL - leV [2])).length=32:=qaj _ _;generalize digN 32 (leV pL - leV [2])=E at *;have HEL:=zY hmm;clear ha hra hla cM cP hmm;go_enter Tryz.func59,Tryz.ntmps59;go_wp2_with fail;refine qab (p_any _) ?_;rintro e w1 ⟨A1,c1,rfl,hc1,hr1,hb1⟩;have hnew:=Blk.new w1 3 (dV [2]).toArray;have hbn:Below w1.heap.size w1 (w1.alloc (.cells (dV [2]).toArray 3)):=below_new _ _;have HCM:=zY (CM.out (w1.alloc (.cells (dV [2]).toArray 3)) A1 c1 (some ⟨w1.heap.size,0,none⟩) 1 (qdL hr1 hbn) (Rd.of_blk hnew hnew.lt));have HB1:=zY (hb1.trans (hbn.mono hb1.size));clear hc1 hr1 hb1 hnew hbn;rw [qec];go_wp2_with fail;refine qab HCM.out ?_;rintro e w2 ⟨A2,c2,rfl,hc2,hr2,hb2⟩;rw [HEL.out];have HB2:=zY (HB1.out.trans (hb2.mono HB1.out.size));have HCP:=zY (CP.out w2 HB2.out A2 c2 hr2);clear hc2 hr2 hb2;go_wp2_with fail;refine qab HCP.out ?_;rintro e w3 ⟨A3,c3,rfl,hc3,hr3,hb3⟩;have HC:=zY hc3;have HR:=zY hr3;have HB3:=zY (HB2.out.trans (hb3.mono HB2.out.size));clear hc3 hr3 hb3;go_wp2_with fail;go_ret;exact ⟨A3,c3,rfl,HC.out,HR.out,HB3.out⟩
def pm (m x:Nat):List Nat→Nat
 | []=>1%m
 | d :: r=>(x^d%m)*((pm m x r)^256%m)%m
theorem pm_eq (m x:Nat):∀ l,pm m x l=x^leV l%m
 | []=>by rw [pm,leV,Nat.pow_zero]
 | d :: r=>by
  rw [pm,pm_eq m x r,leV,Nat.pow_add,Nat.pow_mul',← Nat.pow_mod,← Nat.mul_mod]
theorem qdS:leV invL=PN - 2:=by decide
theorem invL_dg:Dg invL:=by unfold Dg invL; decide
theorem invE_ok {x:E5} (hx:x.Ok):(invE x).Ok:=pwL_ok hx _ _
theorem invE_val (x:E5):(invE x).val%PN=x.val^(PN - 2)%PN:=by
 have h:=pwL_val x invL invL_dg 32 (by decide);rw [show invL.length - 32=0 by decide,List.drop_zero,qdS] at h;exact h
theorem intE_nat (n:Nat):intE (n:Int)=natE n:=by
 unfold intE;rw [if_neg (by omega),Int.natAbs_natCast]
def Sm (a b:Nat):Prop:=a%PN=b%PN
theorem Sm.refl (a:Nat):Sm a a:=rfl
theorem Sm.symm {a b:Nat} (h:Sm a b):Sm b a:=Eq.symm h
theorem Sm.trans {a b c:Nat} (h:Sm a b) (k:Sm b c):Sm a c:=Eq.trans h k
theorem Sm.add {a b c d:Nat} (h:Sm a b) (k:Sm c d):Sm (a+c) (b+d):=by
 unfold Sm at *;rw [Nat.add_mod,h,k,← Nat.add_mod]
theorem Sm.mul {a b c d:Nat} (h:Sm a b) (k:Sm c d):Sm (a*c) (b*d):=by
 unfold Sm at *;rw [Nat.mul_mod,h,k,← Nat.mul_mod]
theorem Sm.of {a b:Nat} (h:a=b):Sm a b:=by rw [h]; exact Sm.refl _
theorem Sm.back {a b c:Nat} (h:Sm (a+c) (b+c)):Sm a b:=by
 unfold Sm at *;simp only [PN] at *;omega
theorem sm_add (x y:E5):Sm (addE x y).val (x.val+y.val):=add_val x y
theorem sm_mul (x y:E5):Sm (mulE x y).val (x.val*y.val):=mul_val x y
theorem sm_sub {x y:E5} (hy:y.Ok):Sm ((subE x y).val+y.val) x.val:=sub_val hy
theorem mul_c (x y:E5) (w:World) (hx:x.Ok) (hy:y.Ok):Calls Tryz.prog 48 #[.agg (eV x),.agg (eV y)] w (ElemPost (mulE x y) w):=mul_any x y w hx hy
theorem add_c (x y:E5) (w:World) (hx:x.Ok) (hy:y.Ok):Calls Tryz.prog 45 #[.agg (eV x),.agg (eV y)] w (ElemPost (addE x y) w):=add_any x y w (E5.Lt.mono hx (by decide)) (E5.Lt.mono hy (by decide))
theorem sub_c (x y:E5) (w:World) (hx:x.Ok) (hy:y.Ok):Calls Tryz.prog 68 #[.agg (eV x),.agg (eV y)] w (ElemPost (subE x y) w):=sub_any x y w (E5.Lt.mono hx (by decide)) hy.big
def BoolPost (b:Bool) (w:World) (e:Ending) (w':World):Prop:=e=.returned (.bool b)∧Below w.heap.size w w'
theorem odd_c (x:E5) (hx:x.Ok) (u:World):Calls Tryz.prog 50 #[.agg (eV x)] u (BoolPost (decide (x.val%PN%2=1)) u):=by
 have h:=odd_any x u hx.big
 have e:(leastE x).a%2=x.val%PN%2:=by
  rw [← qen hx.big];simp only [E5.val];omega
 rw [e] at h;exact h
theorem refB_dig (V:Nat):refB (digN 32 V)=byB V:=by
 rw [refB,byB,byN_dig];apply List.ext_getElem?;intro j
 by_cases hj:j<32
 ·rw [List.getElem?_map,List.getElem?_map,List.getElem?_range hj,List.getElem?_eq_getElem (by rw [qaj]; exact hj)];simp [List.getD_eq_getElem?_getD,List.getElem?_eq_getElem (show j<(digN 32 V).length by rw [qaj]; exact hj)]
 ·rw [List.getElem?_eq_none (by simp; omega),List.getElem?_eq_none (by simp [qaj]; omega)]
theorem same_any (a b:List Nat) (ha:Dg a) (hb:Dg b) (hla:a.length=32) (hlb:b.length=32) (A B:Option Addr) (c d:Nat) (w:World) (hra:Rd w w.heap.size A (dV a)) (hrb:Rd w w.heap.size B (dV b)) (hc:32≤c) (hd:32≤d) :
  Calls Tryz.prog 89 #[.slice A 32 c,.slice B 32 d] w (BoolPost (refB a == refB b) w):=by
 obtain ⟨Y,hY⟩:=eX (refB a);obtain ⟨Z,hZ⟩:=eX (refB b);have hYl:Y.length=32:=by rw [hY,qd5]
 have hZl:Z.length=32:=by rw [hZ,qd5]
 have cY:∀ u,Below w.heap.size w u→Calls Tryz.prog 55 #[.slice A 32 c] u (OwnPost 5 32 (bytesV Y) u):=fun u hu=>by
  have h:=rbytes_any a ha A c u ((hra.below hu).mono hu.size) (by omega) (by omega);rw [hla,← hY] at h; exact h
 have cZ:∀ u,Below w.heap.size w u→Calls Tryz.prog 55 #[.slice B 32 d] u (OwnPost 5 32 (bytesV Z) u):=fun u hu=>by
  have h:=rbytes_any b hb B d u ((hrb.below hu).mono hu.size) (by omega) (by omega);rw [hlb,← hZ] at h; exact h
 rw [← hY,← hZ];have CY:=zY cY;have CZ:=zY cZ;have HYL:=zY hYl;have HZL:=zY hZl;clear hra hrb ha hb hla hlb hc hd hY hZ hYl hZl cY cZ;go_enter Tryz.func89,Tryz.ntmps89;go_wp2_with fail;have HC0:Below w.heap.size w w.drew:=(Below.refl _ _).drew
 refine qaD (fun u=>Below w.heap.size w u) (fun | false=>(fun _=>True) | true=>(fun _=>True)) (fun | false,_=>false | true,_=>false)
  [fun z _=>z 0=.slice A 32 c,
   fun z u=>(RdV 32 (bytesV Y)) (z 1) u,
   fun z _=>z 2=.string ⟨Y.toArray⟩,
   fun z _=>z 3=.slice B 32 d,
   fun z u=>(RdV 32 (bytesV Z)) (z 4) u,
   fun z _=>z 5=.string ⟨Z.toArray⟩,
   fun z _=>z 6=.bool (Y == Z),
   fun z _=>z 7=.bool (Y == Z)]
  [Eq,fun u u'=>Below u.heap.size u u',Eq,Eq,fun u u'=>Below u.heap.size u u',Eq,Eq,Eq]
  (fun _ _=>false) [(0,some 5),(1,some 6),(2,some 7),(3,some 8),(4,some 9),(5,some 10),(6,some 11),(7,some 4)] (by kernel_rfl) (by kernel_rfl) rfl (fun _=>rfl) ?_ ?_ ?_ ?_ ?_ ?_
 ·exact HC0
 ·intro m; cases m; exact trivial; exact trivial
 ·intro m; cases m
  ·refine ⟨?_,?_,?_,?_,?_,?_,?_,?_,trivial⟩ <;> first | exact .inr fun _ _ h h0=>h▸h0 | exact .inr fun _ _ _ h=>h
  ·refine ⟨?_,?_,?_,?_,?_,?_,?_,?_,trivial⟩ <;> first | exact .inr fun _ _ h h0=>h▸h0 | exact .inr fun _ _ _ h=>h
 ·refine ⟨⟨.inl rfl,?_,?_,?_,?_,?_,?_,?_,trivial⟩,⟨?_,.inl rfl,?_,?_,?_,?_,?_,?_,trivial⟩,⟨?_,?_,.inl rfl,?_,?_,?_,?_,?_,trivial⟩,⟨?_,?_,?_,.inl rfl,?_,?_,?_,?_,trivial⟩,⟨?_,.inr (.inr (.inr (fun _ _ _ _ h h0=>h0.next h))),?_,?_,.inl rfl,?_,?_,?_,trivial⟩,⟨?_,?_,?_,?_,?_,.inl rfl,?_,?_,trivial⟩,⟨?_,?_,?_,?_,?_,?_,.inl rfl,?_,trivial⟩,⟨?_,?_,?_,?_,?_,?_,?_,.inl rfl,trivial⟩,trivial⟩ <;> first | exact .inr (.inr (.inl rfl)) | exact .inr (.inr (.inr fun _ _ _ _ _ h=>h)) | exact .inr (.inr (.inr fun _ _ _ _ h h0=>by cases h; exact h0))
 ·refine ⟨?_,?_,?_,?_,?_,?_,?_,?_,trivial⟩
  ·refine qaf [] (fun _=>rfl) rfl ?_;intro w1 vals hC1 hi0 hf E hE;clear hi0;clear hf;simp only [sP] at hE ⊢;go_wp2;exact .mk (hE _ _ rfl hC1 rfl)
  ·refine qaf [(0,some 5)] (fun _=>rfl) rfl ?_;intro w1 vals hC1 hi0 hf E hE;clear hi0;have f0:vals 0=_:=hf 0 rfl
   try dsimp only at f0
   clear hf;simp only [sP,f0] at hE ⊢;clear f0;go_wp2_with fail;refine qab (CY.out _ hC1) ?_;rintro e w2 ⟨A2,c2,rfl,hown,hb2⟩;have hrv:=RdV.of_own hown;go_wp2_with fail;exact .mk (hE _ _ hrv (hC1.trans (hb2.mono hC1.size)) hb2)
  ·refine qaf [(1,some 6)] (fun _=>rfl) rfl ?_;intro w1 vals hC1 hi0 hf E hE;clear hi0;have f1:(RdV 32 (bytesV Y)) (vals 1) w1:=hf 1 rfl
   try dsimp only at f1
   clear hf;obtain ⟨A2,c2,hx2,hc2,hrd⟩:=f1;simp only [sP,hx2] at hE ⊢;clear hx2;refine qa2 (l:=Y) hrd Tryz.underlying23 Tryz.underlying5 Tryz.underlying9 rfl rfl (len_eq HYL.out _ _) ?_;go_wp2_with fail;exact .mk (hE _ _ rfl hC1 rfl)
  ·refine qaf [] (fun _=>rfl) rfl ?_;intro w1 vals hC1 hi0 hf E hE;clear hi0;clear hf;simp only [sP] at hE ⊢;go_wp2;exact .mk (hE _ _ rfl hC1 rfl)
  ·refine qaf [(3,some 8),(1,some 6)] (fun _=>rfl) rfl ?_;intro w1 vals hC1 hi0 hf E hE;clear hi0;have f1:(RdV 32 (bytesV Y)) (vals 1) w1:=hf 1 rfl;have f3:vals 3=_:=hf 3 rfl
   try dsimp only at f1 f3
   clear hf;simp only [sP,f3] at hE ⊢;clear f3;go_wp2_with fail;refine qab (CZ.out _ hC1) ?_;rintro e w2 ⟨A2,c2,rfl,hown,hb2⟩;have hrv:=RdV.of_own hown;go_wp2_with fail;exact .mk (hE _ _ hrv (hC1.trans (hb2.mono hC1.size)) hb2)
  ·refine qaf [(4,some 9)] (fun _=>rfl) rfl ?_;intro w1 vals hC1 hi0 hf E hE;clear hi0;have f4:(RdV 32 (bytesV Z)) (vals 4) w1:=hf 4 rfl
   try dsimp only at f4
   clear hf;obtain ⟨A2,c2,hx2,hc2,hrd⟩:=f4;simp only [sP,hx2] at hE ⊢;clear hx2;refine qa2 (l:=Z) hrd Tryz.underlying23 Tryz.underlying5 Tryz.underlying9 rfl rfl (len_eq HZL.out _ _) ?_;go_wp2_with fail;exact .mk (hE _ _ rfl hC1 rfl)
  ·refine qaf [(2,some 7),(5,some 10)] (fun _=>rfl) rfl ?_;intro w1 vals hC1 hi0 hf E hE;clear hi0;have f2:vals 2=_:=hf 2 rfl;have f5:vals 5=_:=hf 5 rfl
   try dsimp only at f2 f5
   clear hf;simp only [sP,f2,f5] at hE ⊢;clear f2 f5;go_wp2;exact .mk (hE _ _ rfl hC1 rfl)
  ·refine qaf [(6,some 11),(4,some 9),(0,some 5),(1,some 6),(2,some 7),(3,some 8),(4,some 9),(5,some 10),(6,some 11)] (fun _=>rfl) rfl ?_;intro w1 vals hC1 hi0 hf E hE;clear hi0;have f0:vals 0=_:=hf 0 rfl;have f1:(RdV 32 (bytesV Y)) (vals 1) w1:=hf 1 rfl;have f2:vals 2=_:=hf 2 rfl;have f3:vals 3=_:=hf 3 rfl;have f4:(RdV 32 (bytesV Z)) (vals 4) w1:=hf 4 rfl;have f5:vals 5=_:=hf 5 rfl;have f6:vals 6=_:=hf 6 rfl
   try dsimp only at f0 f1 f2 f3 f4 f5 f6
   clear hf;simp only [sP,f0,f2,f3,f5,f6] at hE ⊢;clear f0 f2 f3 f5 f6;go_wp2;exact .mk (hE _ _ rfl hC1 rfl)
 intro w1 vals hC1 hf;have f0:vals 0=_:=hf 0 (by decide) rfl;have f1:(RdV 32 (bytesV Y)) (vals 1) w1:=hf 1 (by decide) rfl;have f2:vals 2=_:=hf 2 (by decide) rfl;have f3:vals 3=_:=hf 3 (by decide) rfl;have f4:(RdV 32 (bytesV Z)) (vals 4) w1:=hf 4 (by decide) rfl;have f5:vals 5=_:=hf 5 (by decide) rfl;have f6:vals 6=_:=hf 6 (by decide) rfl;have f7:vals 7=_:=hf 7 (by decide) rfl
 try dsimp only at f0 f1 f2 f3 f4 f5 f6 f7
 clear hf;simp only [sP,f0,f2,f3,f5,f6,f7];clear f0 f2 f3 f5 f6 f7;generalize vals 1=x1 at *;generalize vals 4=x4 at *;clear HC0 f1 f4;go_wp2_with fail;go_ret;exact ⟨rfl,hC1⟩
inductive Fc where
 | box (g:Nat) (t:TypeId) (cs:Array Value)
 | rd (A:Option Addr) (xs:List Value)
def Fc.holds:Fc→World→Prop
 | .box g t cs,u=>Blk u g t cs
 | .rd A xs,u=>Rd u u.heap.size A xs
def St:List Fc→World→Prop
 | [],_=>True
 | f :: r,u=>f.holds u∧St r u
theorem Fc.next {f:Fc} {u u':World} (h:f.holds u) (hb:Below u.heap.size u u'):f.holds u':=by
 cases f with
 | box g t cs=>exact Blk.below h hb (Blk.lt h)
 | rd A xs=>exact (Rd.below h hb).mono hb.size
theorem St.next:∀ {fs:List Fc} {u u':World},St fs u→Below u.heap.size u u'→St fs u'
 | [],_,_,_,_=>trivial
 | f :: _,_,_,h,hb=>⟨Fc.next (f:=f) h.1 hb,St.next h.2 hb⟩
def NewBox (B:Nat) (t:TypeId) (cs:Array Value) (v:Value) (u:World):Prop:=∃ o,v=.pointer (some ⟨o,0,none⟩)∧B≤o∧Blk u o t cs
theorem NewBox.next {B:Nat} {t:TypeId} {cs:Array Value} {v:Value} {u u':World} (h:NewBox B t cs v u) (hb:Below u.heap.size u u'):NewBox B t cs v u':=by
 obtain ⟨o,h1,h2,h3⟩:=h;exact ⟨o,h1,h2,h3.below hb h3.lt⟩
theorem NewBox.wrote {B g:Nat} {t:TypeId} {cs:Array Value} {v:Value} {u u':World} (h:NewBox B t cs v u) (hw:Wrote g u u') (hne:v≠.pointer (some ⟨g,0,none⟩)):NewBox B t cs v u':=by
 obtain ⟨o,h1,h2,h3⟩:=h;exact ⟨o,h1,h2,hw.blk h3 fun e=>hne (by rw [h1,e])⟩
theorem NewBox.of {B:Nat} {t:TypeId} {cs:Array Value} {u:World} (hB:B≤u.heap.size):NewBox B t cs (.pointer (some ⟨u.heap.size,0,none⟩)) (u.alloc (.cells cs t)) :=
 ⟨_,rfl,hB,Blk.new _ _ _⟩
theorem qcC {u u':World} {o:Obj} (hw:Wrote u.heap.size (u.alloc o) u'):Below u.heap.size u u' :=
 hw.below (below_new _ _) (Nat.le_refl _) (by simp)
structure Pt4 where
 x:E5
 y:E5
 z:E5
 t:E5
structure Pt4.Ok (p:Pt4):Prop where
 x:p.x.Ok
 y:p.y.Ok
 z:p.z.Ok
 t:p.t.Ok
def ptV (p:Pt4):Array Value:=wV (limbs p.x++limbs p.y++limbs p.z++limbs p.t)
theorem qbj (p:Pt4):(ptV p).size=20:=rfl
theorem qaH:(Tryz.prog.info? 81).map (·.size)=some 20:=by kernel_rfl
def zP:Pt4:=⟨zE,zE,zE,zE⟩
def PtPost (p:Pt4) (w:World) (e:Ending) (w':World):Prop:=e=.returned (.agg (ptV p))∧Below w.heap.size w w'
def sumP (p q:Pt4) (w:E5):Pt4 :=
 let a:=mulE (subE p.y p.x) (subE q.y q.x)
 let b:=mulE (addE p.y p.x) (addE q.y q.x)
 let c:=mulE (mulE p.t w) q.t
 let z:=mulE p.z q.z
 let e:=subE b a
 let h:=addE b a
 let f:=subE (addE z z) c
 let g:=addE (addE z z) c
 ⟨mulE e f,mulE g h,mulE f g,mulE e h⟩
theorem qdZ {p q:Pt4} {w:E5} (hp:p.Ok) (hq:q.Ok) (hw:w.Ok):(sumP p q w).Ok:=by
 have a:=qba (qbR hp.y hp.x) (qbR hq.y hq.x);have b:=qba (qbu hp.y hp.x) (qbu hq.y hq.x);have c:=qba (qba hp.t hw) hq.t;have z:=qba hp.z hq.z;exact ⟨qba (qbR b a) (qbR (qbu z z) c),qba (qbu (qbu z z) c) (qbu b a),qba (qbR (qbu z z) c) (qbu (qbu z z) c),qba (qbR b a) (qbu b a)⟩
def ofP (x y:E5):Pt4:=⟨x,y,intE 1,mulE x y⟩
theorem one_ok:(intE 1).Ok:=intE_ok (by decide) (by decide)
theorem ofP_ok {x y:E5} (hx:x.Ok) (hy:y.Ok):(ofP x y).Ok:=⟨hx,hy,one_ok,qba hx hy⟩
theorem int1_c (u:World):Calls Tryz.prog 66 #[.int .i64 1] u (ElemPost (intE 1) u):=int_any 1 (by decide) (by decide) u
theorem int0_c (u:World):Calls Tryz.prog 66 #[.int .i64 0] u (ElemPost (intE 0) u):=int_any 0 (by decide) (by decide) u
theorem build_pt (a b c d:E5) (u:World):(Instr.build 81 #[(0,.agg (eV a)),(1,.agg (eV b)),(2,.agg (eV c)),(3,.agg (eV d))]).run Tryz.prog u=.ok (.agg (ptV ⟨a,b,c,d⟩)) u:=by kernel_rfl
theorem qcs {w:World} {ops:Array Oper} {rest:List Oper} {o:Oper} {a:Act} {Q:Exit→Act→World→Prop} {x0 x1 x2 x3:Operand} (A B C D:E5)
  (hgd:o.guard=none) (ho:o.op=.build 81 #[(0,x0),(1,x1),(2,x2),(3,x3)]) (h0:a.eval x0=.agg (eV A)) (h1:a.eval x1=.agg (eV B)) (h2:a.eval x2=.agg (eV C)) (h3:a.eval x3=.agg (eV D))
  (h:wpList Tryz.prog ops Q rest (a.put o.dst (.agg (ptV ⟨A,B,C,D⟩))) w):wpList Tryz.prog ops Q (o :: rest) a w:=by
 refine wpList_plain hgd fun K hK=>?_;unfold Oper.wp execOp;simp only [ho,List.map_toArray,List.map_cons,List.map_nil,h0,h1,h2,h3,Sem.run_bind,Sem.run_pure,Result.andThen_ok,build_pt];exact hK _ _ h
def Cs (fs:List Fc) (w u:World):Prop:=St fs u∧Below w.heap.size w u
theorem Cs.next {fs:List Fc} {w u u':World} (h:Cs fs w u) (hb:Below u.heap.size u u'):Cs fs w u':=⟨h.1.next hb,h.2.trans (hb.mono h.2.size)⟩
theorem St.drew:∀ {fs:List Fc} {u:World},St fs u→St fs u.drew
 | [],_,_=>trivial
 | f :: _,_,h=>⟨(by cases f with
  | box g t cs=>exact h.1
  | rd A xs=>exact h.1),St.drew h.2⟩
theorem Cs.drew {fs:List Fc} {w u:World} (h:Cs fs w u):Cs fs w u.drew:=⟨h.1.drew,h.2.drew⟩
theorem pof_any (x y:E5) (hx:x.Ok) (hy:y.Ok) (w:World):Calls Tryz.prog 42 #[.agg (eV x),.agg (eV y)] w (PtPost (ofP x y) w):=by
 have hu:=Tryz.underlying79;have hp:=Tryz.underlying81;have KX:=zY hx;have KY:=zY hy;obtain ⟨w0,hw0⟩:=eX (((w.alloc (.cells (eV x) 79)).alloc (.cells (eV y) 79)).alloc (.cells (ptV zP) 81))
 have hst:Cs [.box w.heap.size 79 (eV x),.box (w.heap.size+1) 79 (eV y),.box (w.heap.size+1+1) 81 (ptV zP)] w w0:=by
  rw [hw0];exact ⟨⟨((Blk.new _ _ _).alloc _).alloc _,(Blk.newAt (by simp)).alloc _,Blk.newAt (by simp),trivial⟩,((below_new _ _).alloc (by simp) _).alloc (by simp; try omega) _⟩
 have HLR:=zY (show w.heap.size≤w.heap.size+1+1 by omega);clear hx hy;have HW:=zY hw0;have HC0':=zY hst;clear hw0 hst;go_enter Tryz.func42,Tryz.ntmps42;go_wp2_with fail;show Code.wp Tryz.prog _ _ _ (((w.alloc (.cells (eV x) _)).alloc (.cells (eV y) _)).alloc (.cells (ptV zP) _));rw [← HW.out];generalize hgr:w.heap.size+1+1=r at *;generalize hgh:w.heap.size+1=h at *;generalize hgg:w.heap.size=g at *;have HG:=zY hgg;clear hgr hgh hgg;have HC0:=HC0'.out.drew;clear HC0' HW;refine qal (fun u=>Cs [.box g 79 (eV x),.box h 79 (eV y),.box r 81 (ptV zP)] w u) (fun u=>Blk u r 81 (ptV (ofP x y))∧Below w.heap.size w u) [(0,some 5),(1,some 6),(2,some 7),(3,some 8),(4,some 9),(5,some 10),(6,some 11),(7,none)] (by kernel_rfl) (by kernel_rfl) (by decide) (by kernel_rfl) (fun _=>rfl) HC0 ?_;apply yN_
 ·apply dP [];exact fun _=>rfl;rfl;rintro vals - w1 hC1 E hE;simp only [sP] at hE ⊢;refine qac ((hC1.1).1) rfl rfl rfl hu rfl qah ?_;go_wp2_with fail;exact .mk (hE _ hC1)
 apply yN_
 ·apply dP [];exact fun _=>rfl;rfl;rintro vals ⟨-,-⟩ w1 hC1 E hE;simp only [sP] at hE ⊢;refine qac ((hC1.1).2.1) rfl rfl rfl hu rfl qah ?_;go_wp2_with fail;exact .mk (hE _ hC1)
 apply yN_
 ·apply dP [];exact fun _=>rfl;rfl;intro vals vq w1 hC1 E hE;clear vq;simp only [sP] at hE ⊢;go_wp2_with fail;refine qab (int1_c _) ?_;rintro e w2 ⟨rfl,hb2⟩;go_wp2_with fail;exact .mk (hE _ (hC1.next hb2))
 apply yN_
 ·apply dP [];exact fun _=>rfl;rfl;intro vals vq w1 hC1 E hE;clear vq;simp only [sP] at hE ⊢;refine qac ((hC1.1).1) rfl rfl rfl hu rfl qah ?_;go_wp2_with fail;exact .mk (hE _ hC1)
 apply yN_
 ·apply dP [];exact fun _=>rfl;rfl;intro vals vq w1 hC1 E hE;clear vq;simp only [sP] at hE ⊢;refine qac ((hC1.1).2.1) rfl rfl rfl hu rfl qah ?_;go_wp2_with fail;exact .mk (hE _ hC1)
 apply yN_
 ·apply dP [(3,some 8),(4,some 9),(2,some 7)];exact fun _=>rfl;rfl;intro vals vq w1 hC1 E hE;simp only [sP,vq] at hE ⊢;clear vq;go_wp2_with fail;refine qab (mul_c x y _ KX.out KY.out) ?_;rintro e w2 ⟨rfl,hb2⟩;go_wp2_with fail;exact .mk (hE _ (hC1.next hb2))
 apply yN_
 ·apply dP [(0,some 5),(1,some 6),(2,some 7),(5,some 10)];exact fun _=>rfl;rfl;intro vals vq w1 hC1 E hE;simp only [sP,vq] at hE ⊢;clear vq;refine qcs x y (intE 1) (mulE x y) rfl rfl rfl rfl rfl rfl ?_;go_wp2_with fail;exact .mk (hE _ hC1)
 apply yL_ (v:=undef)
 ·apply dP [(6,some 11),(5,some 10),(0,some 5),(1,some 6),(2,some 7),(3,some 8),(4,some 9),(5,some 10),(6,some 11)];exact fun _=>rfl;rfl;intro vals vq w1 hC1 E hE;have hlr:=HLR.out;simp only [sP,vq] at hE ⊢;clear vq;refine qad (cells:=ptV (ofP x y)) hC1.1.2.2.1 rfl rfl rfl rfl qaH rfl (by simp [eV,ptV,wV,limbs,Value.oneCell']) ?_;intro w6 hb6 hw6;go_wp2_with fail;exact .mk (hE _ ⟨hb6,hw6.below hC1.2 (by rw [HG.out]; exact hlr) hC1.2.size⟩)
 intro vals vq w1 hC1;simp only [sP,vq];clear vq;go_wp2_with fail;refine bodyPost_ret (qau (P:=Tryz.prog) rfl rfl hC1.1 hp rfl qaH) rfl ⟨rfl,hC1.2⟩
section
variable {P:Program} {ops:Array Oper}
structure RIV (ops:Array Oper) (a0:Act) (C:(Nat→Value)→World→Prop) (I0:Bool→World→Prop) (ik:Bool→Nat→Bool) (F:Nat→(Nat→Value)→World→Prop) (kills:Nat→Nat→Bool) (listed:Array Bool) (a:Act) (w:World) (vals:Nat→Value):Prop where
 size:listed.size=ops.size
 tsize:a.tmps.size=a0.tmps.size
 defers:a.defers=a0.defers
 done:∀ j,listed.getD j false=true→∀ d,dstAt ops j=some d→d<a0.tmps.size→a.tmps[d]?=some (vals j)
 other:∀ t,(∀ j,listed.getD j false=true→dstAt ops j≠some t)→a.tmps[t]?=a0.tmps[t]?
 closed:∀ j,listed.getD j false=true→∀ i ∈ waitsOf ops j,listed.getD i false=true
 c:C vals w
 ini:∀ m,(∀ k,listed.getD k false=true→ik m k=false)→I0 m w
 facts:∀ j,listed.getD j false=true→(∀ k,listed.getD k false=true→k≠j→kills k j=false)→F j vals w
def StepAtV (P:Program) (ops:Array Oper) (a0:Act) (C:(Nat→Value)→World→Prop) (I0:Bool→World→Prop) (ik:Bool→Nat→Bool) (F:Nat→(Nat→Value)→World→Prop) (St:Nat→World→World→Prop) (kills:Nat→Nat→Bool) (i:Nat) (o:Oper):Prop :=
 ∀ (w:World) (vals:Nat→Value),C vals w→(∀ m,availIni ops (ik m) i=true→I0 m w)→(∀ j,availAt ops kills j i=true→F j vals w) →
  wpList P ops (fun e a' w'=>e=.normal∧∃ v,a'=(putAll ops vals (waitsOf ops i) a0).put o.dst v∧F i (upd vals i v) w'∧C (upd vals i v) w'∧St i w w') [o] (putAll ops vals (waitsOf ops i) a0) w
theorem RIV.step {a0:Act} {C:(Nat→Value)→World→Prop} {I0:Bool→World→Prop} {ik:Bool→Nat→Bool} {F:Nat→(Nat→Value)→World→Prop} {St:Nat→World→World→Prop} {kills:Nat→Nat→Bool} {Q:Exit→Act→World→Prop}
  (hok:regionOk ops=true) (hini:∀ m i,ik m i=false→∀ w w',St i w w'→I0 m w→I0 m w') (hpres:∀ i k,i<ops.size→i≠k→kills i k=false→(deepWaits ops 5 k).contains i=false→∀ vals v w w',St i w w'→F k vals w→F k (upd vals i v) w')
  (hstep:∀ i o,ops[i]?=some o→StepAtV P ops a0 C I0 ik F St kills i o)
  {listed:Array Bool} {a:Act} {w:World} {vals:Nat→Value} (h:RIV ops a0 C I0 ik F kills listed a w vals) {i:Nat} (hi:i ∈ Region.ready .any ops listed) :
  wpOp P ops Q i (fun a' w'=>∃ vals',RIV ops a0 C I0 ik F kills (listed.setIfInBounds i true) a' w' vals') a w:=by
 obtain ⟨hun,o,ho,hall⟩:=mem_ready.1 hi;have hlt:i<ops.size:=(Array.getElem?_eq_some_iff.1 ho).1;have hltl:i<listed.size:=by rw [h.size]; exact hlt
 have hunf:listed.getD i false=false:=by
  simp [hltl] at hun ⊢; exact hun
 have ok:=okAt hok ho
 have hdist:∀ i j d,i≠j→dstAt ops i=some d→dstAt ops j≠some d:=fun i j d hij hd=>by
  have hil:=qdE hd;exact (okAt hok (Array.getElem?_eq_getElem hil)).dist j (Ne.symm hij) d hd
 have hw:∀ j ∈ waitsOf ops i,listed.getD j false=true:=fun j hj=>by
  obtain ⟨e,he,hb,rfl⟩:=(qek ho).1 hj;exact hall e he hb
 obtain ⟨p1,p2,p3,p4⟩:=qb3 hdist vals (waitsOf ops i) a0
 have hlook:∀ t ∈ o.looksAt ops,a.tmps[t]?=(putAll ops vals (waitsOf ops i) a0).tmps[t]?:=by
  intro t ht
  by_cases hex:∃ j,dstAt ops j=some t
  ·obtain ⟨j,hj⟩:=hex
   rcases ok.look t ht j hj with hji | hij
   ·by_cases hts:t<a0.tmps.size
    ·rw [h.done j (hw j hji) t hj hts,p3 j hji t hj hts]
    ·rw [Array.getElem?_eq_none (by rw [h.tsize]; exact Nat.le_of_not_lt hts),Array.getElem?_eq_none (by rw [p1]; exact Nat.le_of_not_lt hts)]
   ·have hjl:¬ listed.getD j false=true:=fun hj'=>by rw [h.closed j hj' i hij] at hunf; cases hunf
    rw [h.other t (fun k hk e=>by
     have:k=j:=by
      rcases Nat.decEq k j with hne | he
      ·exact absurd e (hdist j k t (Ne.symm hne) hj)
      ·exact he
     subst this; exact hjl hk)]
    rw [p4 t (fun k hk e=>by
     have:k=j:=by
      rcases Nat.decEq k j with hne | he
      ·exact absurd e (hdist j k t (Ne.symm hne) hj)
      ·exact he
     subst this; exact hjl (hw k hk))]
  ·have hno:∀ j,dstAt ops j≠some t:=fun j e=>hex ⟨j,e⟩;rw [h.other t (fun j _=>hno j),p4 t (fun j _=>hno j)]
 have heval:∀ x ∈ o.op.operands,a.eval x=(putAll ops vals (waitsOf ops i) a0).eval x:=by
  intro x hx
  cases x with
  | tmp t =>
   have:=hlook t (List.mem_append_left _ (List.mem_filterMap.2 ⟨.tmp t,by simpa using hx,rfl⟩));simp only [Act.eval,Array.getD_eq_getD_getElem?,this]
  | _=>rfl
 have hexec:execOp a.eval o=execOp (putAll ops vals (waitsOf ops i) a0).eval o:=execOp_congr o ok.sel heval
 have hwant:Region.wanted o (yielded ops a.tmps)=Region.wanted o (yielded ops (putAll ops vals (waitsOf ops i) a0).tmps):=by
  unfold Region.wanted
  cases hg:o.guard with
  | none=>rfl
  | some gw =>
   obtain ⟨g,want⟩:=gw
   have:yielded ops a.tmps g=yielded ops (putAll ops vals (waitsOf ops i) a0).tmps g:=by
    unfold yielded
    cases ht:(ops[g]?).bind (·.dst) with
    | none=>rfl
    | some t =>
     have:=hlook t (by
      refine List.mem_append_right _ ?_;simp [hg,ht])
     simp only [Option.bind_some,this]
   simp only [this]
 have havail:∀ j,availAt ops kills j i=true→F j vals w:=by
  intro j hj;simp only [availAt,Bool.and_eq_true] at hj;obtain ⟨hj1,hj2⟩:=hj;have hjl:=hw j (by simpa using hj1);refine h.facts j hjl fun k hk hkj=>?_
  have hkl:k<ops.size:=by
   rcases Nat.lt_or_ge k ops.size with h' | h'
   ·exact h'
   ·rw [← h.size] at h'; simp [Array.getElem?_eq_none h'] at hk
  have:=(List.all_eq_true.1 hj2) k (List.mem_range.2 hkl);simp only [Bool.or_eq_true,beq_iff_eq,Bool.not_eq_true'] at this
  rcases this with ((this | this) | this) | this
  ·subst this; rw [hunf] at hk; cases hk
  ·exact absurd this hkj
  ·exact this
  ·have:=qbz (L:=fun j=>listed.getD j false=true) h.closed 5 k hk i (by simpa using this);simp only [hunf] at this; cases this
 have hini0:∀ m,availIni ops (ik m) i=true→I0 m w:=by
  intro m hj2;refine h.ini m fun k hk=>?_
  have hkl:k<ops.size:=by
   rcases Nat.lt_or_ge k ops.size with h' | h'
   ·exact h'
   ·rw [← h.size] at h'; simp [Array.getElem?_eq_none h'] at hk
  have:=(List.all_eq_true.1 hj2) k (List.mem_range.2 hkl);simp only [Bool.or_eq_true,beq_iff_eq,Bool.not_eq_true'] at this
  rcases this with (this | this) | this
  ·subst this; rw [hunf] at hk; cases hk
  ·exact this
  ·have:=qbz (L:=fun j=>listed.getD j false=true) h.closed 5 k hk i (by simpa using this);simp only [hunf] at this; cases this
 have hend:∀ (v:Value) (w':World),(∃ v',(putAll ops vals (waitsOf ops i) a0).put o.dst v=(putAll ops vals (waitsOf ops i) a0).put o.dst v'∧F i (upd vals i v') w'∧C (upd vals i v') w'∧St i w w') →
   ∃ vals',RIV ops a0 C I0 ik F kills (listed.setIfInBounds i true) (a.put o.dst v) w' vals':=by
  rintro v w' ⟨v',hv,hF,hC,hSt⟩;have hdo:dstAt ops i=o.dst:=by simp [dstAt,ho]
  refine ⟨upd vals i v',⟨by simp [h.size],(qdM _ _ _).trans h.tsize,(qbN _ _ _).trans h.defers,?_,?_,?_,hC,?_,?_⟩⟩
  ·intro j hj d hd hlt'
   by_cases hji:j=i
   ·subst hji;rw [hdo] at hd;simp only [upd,if_true];rw [hd] at hv ⊢;rw [qd8 _ _ _ (by rw [h.tsize]; exact hlt')];have:=congrArg (fun a:Act=>a.tmps[d]?) hv;rw [qd8 _ _ _ (by rw [p1]; exact hlt'),qd8 _ _ _ (by rw [p1]; exact hlt')] at this;exact this
   ·simp only [upd,hji,if_false];rw [qaA _ (Ne.symm hji)] at hj;rw [qcw _ _ _ _ (fun e=>hdist j i d hji hd (hdo.trans e))];exact h.done j hj d hd hlt'
  ·intro t ht;rw [qcw _ _ _ _ (fun e=>ht i (qaM _ _ hltl) (hdo.trans e))];refine h.other t fun j hj=>?_
   by_cases hji:j=i
   ·subst hji; rw [hunf] at hj; cases hj
   ·exact ht j (by rw [qaA _ (Ne.symm hji)]; exact hj)
  ·intro j hj k hk
   by_cases hki:k=i
   ·subst hki; exact qaM _ _ hltl
   ·rw [qaA _ (Ne.symm hki)]
    by_cases hji:j=i
    ·subst hji; exact hw k hk
    ·rw [qaA _ (Ne.symm hji)] at hj;exact h.closed j hj k hk
  ·intro m hk;refine hini m i (hk i (qaM _ _ hltl)) _ _ hSt (h.ini m fun k hk'=>hk k ?_)
   by_cases hki:k=i
   ·subst hki; exact qaM _ _ hltl
   ·rw [qaA _ (Ne.symm hki)]; exact hk'
  ·intro j hj hk
   by_cases hji:j=i
   ·subst hji; exact hF
   ·have hj0:=hj;rw [qaA _ (Ne.symm hji)] at hj
    refine hpres i j hlt (Ne.symm hji) (hk i (qaM _ _ hltl) (Ne.symm hji)) (by
     by_cases hc:(deepWaits ops 5 j).contains i=true
     ·have:=qbz (L:=fun j=>listed.getD j false=true) h.closed 5 j hj i (by simpa using hc);simp only [hunf] at this; cases this
     ·simpa using hc) _ _ _ _ hSt (h.facts j hj fun k hk' hkj=>?_)
    refine hk k ?_ hkj
    by_cases hki:k=i
    ·subst hki; exact qaM _ _ hltl
    ·rw [qaA _ (Ne.symm hki)]; exact hk'
 have hs:=hstep i o ho w vals h.c hini0 havail;unfold wpOp;simp only [ho];simp only [wpList] at hs;rw [hwant]
 split
 ·rename_i hwt
  rw [if_pos hwt] at hs
  rcases hs with hs | ⟨_,a₀,w₀,hq⟩
  case inr=>exact absurd hq.1 (by simp)
  refine .inl ?_;unfold Oper.wp at *;rw [hexec];generalize (execOp (putAll ops vals (waitsOf ops i) a0).eval o).run P w=r at *
  cases r with
  | ok n w' =>
   cases n <;> simp only [Oper.upon] at hs ⊢
   case value v=>exact hend v w' hs.2
   case skip=>exact hend _ w' hs.2
   case defer d =>
    obtain ⟨_,v,hv,_⟩:=hs;have:=congrArg Act.defers hv;rw [qbN,qbN] at this;exact absurd this (by simp)
   case enter f args =>
    refine Calls.mono hs fun e w'' he=>?_
    cases e with
    | returned v=>exact hend v w'' he.2
    | panicked c=>exact absurd he.1 (by simp)
    | outgrown=>obtain ⟨_,_,hq⟩:=he; exact absurd hq.1 (by simp)
   case row row args=>exact Rows.mono hs fun v w'' he=>hend v w'' he.2
  | halt x w' =>
   cases x <;> simp only [Oper.upon] at hs ⊢
   exact absurd hs.1 (by simp)
 ·rename_i hwt
  rw [if_neg hwt] at hs;exact hend _ _ hs.2
theorem wp_region_relV {id:Nat} {a0:Act} {w0:World} {Q:Exit→Act→World→Prop} (C:(Nat→Value)→World→Prop) (I0:Bool→World→Prop) (ik:Bool→Nat→Bool) (F:Nat→(Nat→Value)→World→Prop) (St:Nat→World→World→Prop) (kills:Nat→Nat→Bool)
  (hm:P.follows .mixedOrders=true) (hok:regionOk ops=true) (hC:C (fun _=>undef) w0.drew) (hI:∀ m,I0 m w0.drew) (hini:∀ m i,ik m i=false→∀ w w',St i w w'→I0 m w→I0 m w')
  (hpres:∀ i k,i<ops.size→i≠k→kills i k=false→(deepWaits ops 5 k).contains i=false→∀ vals v w w',St i w w'→F k vals w→F k (upd vals i v) w')
  (hstep:∀ i o,ops[i]?=some o→StepAtV P ops a0 C I0 ik F St kills i o)
  (hfin:∀ w vals,C vals w→(∀ j,j<ops.size→aliveAt ops kills j=true→F j vals w)→Q .normal (putAll ops vals (List.range ops.size) a0) w) :
  (Code.region id ops true).wp P Q a0 w0:=by
 have hdist:∀ i j d,i≠j→dstAt ops i=some d→dstAt ops j≠some d:=fun i j d hij hd=>by
  have hil:=qdE hd;exact (okAt hok (Array.getElem?_eq_getElem hil)).dist j (Ne.symm hij) d hd
 have final:∀ listed a w vals,RIV ops a0 C I0 ik F kills listed a w vals→Region.ready .any ops listed=[]→Q .normal a w:=by
  intro listed a w vals h hr;have hall:∀ j,j<ops.size→listed.getD j false=true:=fun j hj=>all_listed hok h.size hr (j+1) j (by omega) hj;obtain ⟨p1,p2,p3,p4⟩:=qb3 hdist vals (List.range ops.size) a0
  have ha:a=putAll ops vals (List.range ops.size) a0:=by
   have ht:a.tmps=(putAll ops vals (List.range ops.size) a0).tmps:=by
    apply Array.ext_getElem?;intro t
    by_cases hex:∃ j,dstAt ops j=some t
    ·obtain ⟨j,hj⟩:=hex;have hjl:=qdE hj
     by_cases hts:t<a0.tmps.size
     ·rw [h.done j (hall j hjl) t hj hts,p3 j (List.mem_range.2 hjl) t hj hts]
     ·rw [Array.getElem?_eq_none (by rw [h.tsize]; exact Nat.le_of_not_lt hts),Array.getElem?_eq_none (by rw [p1]; exact Nat.le_of_not_lt hts)]
    ·have hno:∀ j,dstAt ops j≠some t:=fun j e=>hex ⟨j,e⟩;rw [h.other t (fun j _=>hno j),p4 t (fun j _=>hno j)]
   have hd:a.defers=(putAll ops vals (List.range ops.size) a0).defers:=h.defers.trans p2.symm
   cases a
   simp only at ht hd;rw [ht,hd]
  rw [ha];refine hfin w vals h.c fun j hj hal=>h.facts j (hall j hj) fun k hk hkj=>?_
  have hkl:k<ops.size:=by
   rcases Nat.lt_or_ge k ops.size with h' | h'
   ·exact h'
   ·rw [← h.size] at h'; simp [Array.getElem?_eq_none h'] at hk
  have:=(List.all_eq_true.1 hal) k (List.mem_range.2 hkl)
  simpa [hkj] using this
 refine wp_region_any hm ?_
 have key:∀ (fuel:Nat) (listed:Array Bool) (a:Act) (w:World) (vals:Nat→Value),listed.toList.countP (fun b=>!b)≤fuel→RIV ops a0 C I0 ik F kills listed a w vals→wpAny P .any ops Q fuel listed a w:=by
  intro fuel
  induction fuel with
  | zero =>
   intro listed a w vals hc h
   have hr:Region.ready .any ops listed=[]:=by
    refine List.eq_nil_iff_forall_not_mem.2 fun i hi=>?_;obtain ⟨hun,o,ho,_⟩:=mem_ready.1 hi;have hlt:i<listed.size:=by rw [h.size]; exact (Array.getElem?_eq_some_iff.1 ho).1
    have h0:listed.toList.countP (fun b=>!b)=0:=by omega
    rw [List.countP_eq_zero] at h0;have:=h0 (listed[i]) (by simp);simp [hlt] at hun;simp [hun] at this
   exact ⟨hr,final listed a w vals h hr⟩
  | succ fuel ih =>
   intro listed a w vals hc h;refine ⟨fun hr=>final listed a w vals h hr,fun i hi=>?_⟩;obtain ⟨hun,o,ho,_⟩:=mem_ready.1 hi;have hlt:i<listed.size:=by rw [h.size]; exact (Array.getElem?_eq_some_iff.1 ho).1
   refine wpOp_mono (fun a' w' ⟨vals',h'⟩=>ih _ _ _ vals' (count_set hlt (by simp [hlt] at hun ⊢; exact hun) hc) h') (h.step (Q:=Q) hok hini hpres hstep hi)
 refine key _ _ _ _ (fun _=>undef) ?_ ⟨by simp,rfl,rfl,?_,?_,?_,hC,fun m _=>hI m,?_⟩
 ·have:=List.countP_le_length (p:=fun b:Bool=>!b) (l:=(Array.replicate ops.size false).toList)
  simpa using this
 ·intro j hj; simp [Array.getElem?_replicate] at hj; split at hj <;> simp at hj
 ·intro t _; rfl
 ·intro j hj; simp [Array.getElem?_replicate] at hj; split at hj <;> simp at hj
 ·intro j hj; simp [Array.getElem?_replicate] at hj; split at hj <;> simp at hj
theorem qcp {id:Nat} {l:List Oper} {a0:Act} {w0:World} {Q:Exit→Act→World→Prop} (C:(Nat→Value)→World→Prop) (I0:Bool→World→Prop) (ik:Bool→Nat→Bool) (Fs:List ((Nat→Value)→World→Prop)) (Sts:List (World→World→Prop)) (kills:Nat→Nat→Bool) (ps:List (Nat × Option Tmp))
  (hm:P.follows .mixedOrders=true) (hok:regionOk l.toArray=true) (hlen:Sts.length=l.length) (hps:∀ vals,putAll l.toArray vals (List.range l.toArray.size) a0=puts vals ps a0) (hC:C (fun _=>undef) w0.drew) (hI:∀ m,I0 m w0.drew) (hini:∀ m,IniL (ik m) (I0 m) 0 Sts)
  (hpres:KeepsL kills (fun i k=>(deepWaits l.toArray 5 k).contains i) Fs 0 Sts)
  (hstep:StepsL (StepAtV P l.toArray a0 C I0 ik (fct Fs) (stp Sts) kills) 0 l)
  (hfin:∀ w vals,C vals w→(∀ j,j<l.toArray.size→aliveAt l.toArray kills j=true→fct Fs j vals w)→Q .normal (puts vals ps a0) w) :
  (Code.region id l.toArray true).wp P Q a0 w0 :=
 wp_region_relV C I0 ik (fct Fs) (stp Sts) kills hm hok hC hI (fun m i hi w w' hS h=>by
   have:=qeq (hini m) i (by simpa using hi) w w' hS;exact this h)
  (fun i k hil hik hk hs vals v w w' hS hf=>by
   have:=qcY hpres i k (by simpa using hik) (by simpa using hk) (by simpa using hs) (by rw [hlen]; simpa using hil) vals v w w' hS;rw [Nat.zero_add] at this;exact this hf)
  (fun i o ho=>by
   have:=qcV hstep i o (by simpa using ho)
   simpa using this)
  (fun w vals hc hf=>by rw [hps]; exact hfin w vals hc hf)
theorem qaw {a0:Act} {C:(Nat→Value)→World→Prop} {I0:Bool→World→Prop} {ik:Bool→Nat→Bool} {F:Nat→(Nat→Value)→World→Prop} {St:Nat→World→World→Prop} {kills:Nat→Nat→Bool} {i:Nat} {o:Oper} (ps:List (Nat × Option Tmp))
  (hps:∀ vals,putAll ops vals (waitsOf ops i) a0=puts vals ps a0) (hg:o.guard=none)
  (h:∀ w vals,C vals w→(∀ m,availIni ops (ik m) i=true→I0 m w)→(∀ j,availAt ops kills j i=true→F j vals w) →
   ∀ E:Act→World→Prop,(∀ v w',F i (upd vals i v) w'→C (upd vals i v) w'→St i w w'→E ((puts vals ps a0).put o.dst v) w')→wpList P #[] (EndOf E) [o] (puts vals ps a0) w) :
  StepAtV P ops a0 C I0 ik F St kills i o:=by
 intro w vals hc h0 hf;have h1:=h w vals hc h0 hf (fun a' w'=>∃ v,a'=(puts vals ps a0).put o.dst v∧F i (upd vals i v) w'∧C (upd vals i v) w'∧St i w w') fun v w' h1 h2 h3=>⟨v,rfl,h1,h2,h3⟩;rw [hps];show wpList P ops (EndOf fun a' w'=>∃ v,a'=(puts vals ps a0).put o.dst v∧F i (upd vals i v) w'∧C (upd vals i v) w'∧St i w w') [o] (puts vals ps a0) w;have hw:∀ (O:Array Oper) (t:Array Value),Region.wanted o (yielded O t)=true:=fun O t=>by simp [Region.wanted,hg]
 simp only [wpList,hw,if_true] at h1 ⊢;exact h1
end
def LtV (v:Value) (w:World):Prop:=v=undef∨∃ o,v=.pointer (some ⟨o,0,none⟩)∧o<w.heap.size
structure C2 (ws:World) (i j:Nat) (vals:Nat→Value) (u:World):Prop where
 bel:Below ws.heap.size ws u
 lti:LtV (vals i) u
 ltj:LtV (vals j) u
 ne:vals i=undef∨vals j=undef∨vals i≠vals j
theorem LtV.mono {v:Value} {u u':World} (h:LtV v u) (hs:u.heap.size≤u'.heap.size):LtV v u':=by
 rcases h with h | ⟨o,h1,h2⟩
 ·exact .inl h
 ·exact .inr ⟨o,h1,Nat.lt_of_lt_of_le h2 hs⟩
theorem C2.init {ws u:World} {i j:Nat} (h:Below ws.heap.size ws u):C2 ws i j (fun _=>undef) u:=⟨h,.inl rfl,.inl rfl,.inl rfl⟩
theorem C2.other {ws u u':World} {i j k:Nat} {v:Value} {vals:Nat→Value} (h:C2 ws i j vals u) (hi:i≠k) (hj:j≠k) (hb:Below ws.heap.size ws u') (hs:u.heap.size≤u'.heap.size):C2 ws i j (upd vals k v) u':=by
 have e1:upd vals k v i=vals i:=if_neg hi;have e2:upd vals k v j=vals j:=if_neg hj;exact ⟨hb,by rw [e1]; exact h.lti.mono hs,by rw [e2]; exact h.ltj.mono hs,by rw [e1,e2]; exact h.ne⟩
theorem C2.same {ws u:World} {i j k:Nat} {v:Value} {vals:Nat→Value} (h:C2 ws i j vals u) (hi:i≠k) (hj:j≠k):C2 ws i j (upd vals k v) u:=h.other hi hj h.bel (Nat.le_refl _)
theorem C2.setI {ws u u':World} {i j:Nat} {vals:Nat→Value} (h:C2 ws i j vals u) (hij:j≠i) (hb:Below ws.heap.size ws u') (hs:u.heap.size<u'.heap.size):C2 ws i j (upd vals i (.pointer (some ⟨u.heap.size,0,none⟩))) u':=by
 have e1:upd vals i (.pointer (some ⟨u.heap.size,0,none⟩)) i=.pointer (some ⟨u.heap.size,0,none⟩):=if_pos rfl;have e2:upd vals i (.pointer (some ⟨u.heap.size,0,none⟩)) j=vals j:=if_neg hij;refine ⟨hb,by rw [e1]; exact .inr ⟨_,rfl,hs⟩,by rw [e2]; exact h.ltj.mono (Nat.le_of_lt hs),?_⟩;rw [e1,e2]
 rcases h.ltj with h1 | ⟨o,h1,h2⟩
 ·exact .inr (.inl h1)
 ·refine .inr (.inr ?_);rw [h1];intro e
  injection e with e
  injection e with e
  injection e with e
  omega
theorem C2.setJ {ws u u':World} {i j:Nat} {vals:Nat→Value} (h:C2 ws i j vals u) (hij:i≠j) (hb:Below ws.heap.size ws u') (hs:u.heap.size<u'.heap.size):C2 ws i j (upd vals j (.pointer (some ⟨u.heap.size,0,none⟩))) u':=by
 have e1:upd vals j (.pointer (some ⟨u.heap.size,0,none⟩)) j=.pointer (some ⟨u.heap.size,0,none⟩):=if_pos rfl;have e2:upd vals j (.pointer (some ⟨u.heap.size,0,none⟩)) i=vals i:=if_neg hij;refine ⟨hb,by rw [e2]; exact h.lti.mono (Nat.le_of_lt hs),by rw [e1]; exact .inr ⟨_,rfl,hs⟩,?_⟩;rw [e1,e2]
 rcases h.lti with h1 | ⟨o,h1,h2⟩
 ·exact .inl h1
 ·refine .inr (.inr ?_);rw [h1];intro e
  injection e with e
  injection e with e
  injection e with e
  omega
theorem C2.apart {ws u:World} {i j:Nat} {vals:Nat→Value} (h:C2 ws i j vals u) {o p:Nat} (h1:vals i=.pointer (some ⟨o,0,none⟩)) (h2:vals j=.pointer (some ⟨p,0,none⟩)):o≠p:=by
 rintro rfl
 rcases h.ne with e | e | e
 ·rw [h1] at e; cases e
 ·rw [h2] at e; cases e
 ·exact e (h1.trans h2.symm)
end Go.Proofs.YtcbkaaodmjphdaaGreatDoor
