/-
  Joined texts: MulA MulB Root2 Root3 OfS HsS Blk64 HSum64 OfC Of64 Top5r Rmb Mod Rsc Hsh Fc Rfa Ft Rmu.
-/
import Derived.Test.YtdgheahbafnboaaGreatDoorJ4
import Derived.Test.YtdgheahbafnboaaGreatDoorJ1
import Derived.Test.YtdgheahbafnboaaGreatDoorJ3
import Derived.Test.YtdgheahbafnboaaGreatDoorJ2
namespace Go.Proofs.YtdgheahbafnboaaGreatDoor.Sh
set_option linter.unusedSimpArgs false
set_option linter.unusedVariables false
set_option maxRecDepth 100000
set_option maxHeartbeats 4000000
open Go.RowKit
structure MulStA (w0:World) (gf gw:Nat) (A1 A2:Option Addr) (a b:List Nat) (m:List Nat) (u:World):Prop where
 bel:Below gf w0 u
 r1:Rd u gf A1 (wordsV .i64 a)
 r2:Rd u gf A2 (wordsV .i64 b)
 row:Blk u gw 3 (wordsV .i64 m).toArray
 le:gf≤gw
theorem MulStA.put {w0 u u':World} {gf gw:Nat} {A1 A2:Option Addr} {a b m m':List Nat} (h:MulStA w0 gf gw A1 A2 a b m u) (hw:Wrote gw u u') (hb:Blk u' gw 3 (wordsV .i64 m').toArray):MulStA w0 gf gw A1 A2 a b m' u' :=
 have hx:=hw.below (Below.refl gf u) h.le (by have:=h.row.lt; have:=h.le; omega)
 ⟨h.bel.trans hx,h.r1.below hx,h.r2.below hx,hb,h.le⟩
theorem MulStA.drew {w0 u:World} {gf gw:Nat} {A1 A2:Option Addr} {a b m:List Nat} (h:MulStA w0 gf gw A1 A2 a b m u):MulStA w0 gf gw A1 A2 a b m u.drew :=
 have hx:=(Below.refl gf u).drew
 ⟨h.bel.drew,h.r1.below hx,h.r2.below hx,h.row,h.le⟩
def MulPostA (a b:List Nat) (w:World) (e:Ending) (w':World):Prop :=
 ∃ g,e=.returned (.slice (some ⟨g,0,none⟩) 10 10)∧w.heap.size≤g∧Blk w' g 3 (wordsV .i64 (digs 10 (dval a*dval b))).toArray∧Below w.heap.size w w'
theorem mulA_any (a b:List Nat) (ha:∀ d ∈ a,d<65536) (hb:∀ d ∈ b,d<65536) (A1 A2:Option Addr) (c1 c2 B1 B2:Nat) (w:World) (h1:Rd w B1 A1 (wordsV .i64 a)) (h2:Rd w B2 A2 (wordsV .i64 b)) (hla:a.length=5) (hlb:b.length=5) (hc1:5≤c1) (hc2:5≤c2) (hB1:B1≤w.heap.size) (hB2:B2≤w.heap.size) :
  Calls Tryz.prog 97 #[.slice A1 5 c1,.slice A2 5 c2] w (MulPostA a b w):=by
 obtain ⟨ad1,rfl,hz1,hz2⟩:=h1.at_ (k:=0) (by rw [qaH,hla]; decide);obtain ⟨ad2,rfl,hz3,hz4⟩:=h2.at_ (k:=0) (by rw [qaH,hlb]; decide);clear hz1 hz2 hz3 hz4;have hmk:∀ u:World,(Instr.makeSlice 30 (.int .i64 10) (.int .i64 10)).run Tryz.prog u=.ok (.slice (some ⟨u.heap.size,0,none⟩) 10 10) (u.alloc (.cells (wordsV .i64 (digs 10 0)).toArray 3)):=fun _=>by kernel_rfl
 have H1:=zY (h1.mono hB1);have H2:=zY (h2.mono hB2);have HALN:=zY hla;have HBLN:=zY hlb;have HA:=zY ha;have HB:=zY hb;clear h1 h2 hla hlb ha hb hB1 hB2;go_enter Tryz.func97,Tryz.ntmps97;go_wp2_with fail;obtain ⟨gw,hgw⟩:=eX (w.heap.size)
 have hst0:MulStA w gw gw (some ad1) (some ad2) a b (digs 10 (dval (a.take 0)*dval b)) (w.alloc (.cells (wordsV .i64 (digs 10 0)).toArray 3)):=by
  have hb0:=below_new w (.cells (wordsV .i64 (digs 10 0)).toArray 3);rw [← hgw] at hb0;refine ⟨hb0,?_,?_,?_,Nat.le_refl _⟩
  ·have:=H1.out; rw [← hgw] at this; exact this.below hb0
  ·have:=H2.out; rw [← hgw] at this; exact this.below hb0
  ·rw [hgw]; simp only [List.take_zero,dval,Nat.zero_mul]; exact Blk.new _ _ _
 rw [← hgw];have HGW:=zY hgw;clear hgw hmk H1 H2
 go_loopw [6] (fun i wr=>∃ k:Nat,k≤5∧i=.int .i64 k∧MulStA w gw gw (some ad1) (some ad2) a b (digs 10 (dval (a.take k)*dval b)) wr) (fun i _=>5 - (intOf i).toNat)
 case atStart=>exact ⟨0,by omega,rfl,hst0⟩
 case round =>
  obtain ⟨i,hi,rfl,hst⟩:=hrel;clear hst0
  by_cases hlt:i<5
  ·have hlt':(i:Int)<5:=by omega
   obtain ⟨ai,hai⟩:=eX (a.getD i 0);have hail:ai<65536:=by rw [hai]; exact dig_lt HA.out i
   obtain ⟨P,hP⟩:=eX (dval (a.take i)*dval b)
   have hPl:P<65536^(i+5):=by
    rw [hP,Nat.pow_add];have e1:=qcN (a.take i) fun x hx=>HA.out x (List.mem_of_mem_take hx);have e2:=qcN b HB.out;rw [List.length_take,Nat.min_eq_left (by rw [HALN.out]; exact hi)] at e1;rw [HBLN.out] at e2;exact Nat.mul_lt_mul'' e1 e2
   rw [← hP] at hst;have HAI:=zY hai;have HAIL:=zY hail;have HP:=zY hP;have HPL:=zY hPl;have HST:=zY hst;clear hai hail hP hPl hst;go_wp2_with fail;obtain ⟨wo,rfl⟩:∃ wo:World,wo=wr:=⟨_,rfl⟩;have hPN:P<65536^10:=Nat.lt_of_lt_of_le HPL.out (Nat.pow_le_pow_right (by decide) (by omega))
   have hr0:∃ m:List Nat,m.length=10∧(∀ d ∈ m,d<65536)∧m.getD (i+5) 0=0∧dval m+0*65536^(i+0)=P+ai*dval (b.take 0)*65536^i∧MulStA w gw gw (some ad1) (some ad2) a b m wo:=by
    refine ⟨digs 10 P,qaw _ _,digs_lt _ _,?_,?_,HST.out⟩
    ·rw [qbs _ _ (digs_lt _ _),qaU _ _ hPN,Nat.div_eq_of_lt HPL.out]
    ·rw [qaU _ _ hPN]; simp [dval]
   have HR0:=zY hr0;clear hr0 hPN HST
   go_loopw [7,8] (fun c j wr=>∃ (k cn:Nat) (m:List Nat),k≤5∧j=.int .i64 k∧c=.int .i64 cn∧cn<65536∧m.length=10∧(∀ d ∈ m,d<65536)∧m.getD (i+5) 0=0∧dval m+cn*65536^(i+k)=P+ai*dval (b.take k)*65536^i∧MulStA w gw gw (some ad1) (some ad2) a b m wr) (fun _ j _=>5 - (intOf j).toNat)
   case atStart =>
    obtain ⟨m,q1,q2,q3,q4,q5⟩:=HR0.out;exact ⟨0,0,m,by omega,rfl,rfl,by omega,q1,q2,q3,q4,q5⟩
   case round =>
    clear HR0;obtain ⟨j,c,m,hj,rfl,rfl,hcl,hml,hmd,hm0,hmv,hsm⟩:=hrel
    by_cases hjl:j<5
    ·have hjl':(j:Int)<5:=by omega
     obtain ⟨bj,hbj⟩:=eX (b.getD j 0);have hbjl:bj<65536:=by rw [hbj]; exact dig_lt HB.out j
     obtain ⟨mk,hmk⟩:=eX (m.getD (i+j) 0);have hmkl:mk<65536:=by rw [hmk]; exact dig_lt hmd _
     obtain ⟨pr,hpr⟩:=eX (ai*bj);have hprl:pr≤4294836225:=by rw [hpr]; exact Nat.mul_le_mul (show ai≤65535 by have:=HAIL.out; omega) (show bj≤65535 by omega)
     obtain ⟨v,hv⟩:=eX (mk+pr+c);obtain ⟨mp,hmp⟩:=eX (mk+pr);have hv2:v=mp+c:=by rw [hv,hmp]
     have hnv:=mul_step (n:=dval (m.set (i+j) (v%65536))) (k:=mk) (a:=ai) (b:=bj) hmv (by rw [← hpr,← hv,hmk]; exact qbY m (i+j) (v%65536) (by omega));rw [← hpr,← hv] at hnv;have hbt:dval (b.take (j+1))=dval (b.take j)+bj*65536^j:=by rw [qbp b j (by rw [HBLN.out]; exact hjl),hbj]
     rw [← hbt] at hnv;have hset:=qbv .i64 m (i+j) (v%65536);have hvd:v/65536<65536:=by omega
     have hml2:(m.set (i+j) (v%65536)).length=10:=by rw [List.length_set]; exact hml
     have hmd2:∀ d ∈ m.set (i+j) (v%65536),d<65536:=qdY hmd (Nat.mod_lt _ (by decide));have hm02:(m.set (i+j) (v%65536)).getD (i+5) 0=0:=by rw [getD_set_ne _ _ _ _ (by omega)]; exact hm0
     have e1:(wordsV .i64 a)[i]?=some (.int .i64 (ai:Int)):=by rw [HAI.out]; exact qaG (by rw [HALN.out]; exact hlt)
     have e2:(wordsV .i64 b)[j]?=some (.int .i64 (bj:Int)):=by rw [hbj]; exact qaG (by rw [HBLN.out]; exact hjl)
     have e3:(wordsV .i64 m)[i+j]?=some (.int .i64 (mk:Int)):=by rw [hmk]; exact qaG (by rw [hml]; omega)
     have E1:=zY e1;have E2:=zY e2;have E3:=zY e3;have HMK:=zY hmk;have HBJ:=zY hbj;have HPR:=zY hpr;have HV:=zY hv;have HV2:=zY hv2;have HMP:=zY hmp;have HNV:=zY hnv;have HSET:=zY hset;have HVD:=zY hvd;have HML2:=zY hml2;have HMD2:=zY hmd2;have HM02:=zY hm02;have HML:=zY hml;have HC0:=hsm.drew;have hil:i+j<10:=by omega
     have PRL:=zY hprl;have MKL:=zY hmkl;have CL:=zY hcl;clear hmk hbj hpr hv hv2 hmp hnv hset hvd hml2 hmd2 hm02 hml hmd hm0 hmv hsm hbt e1 e2 e3 hprl hmkl hcl hbjl;go_wp2_with fail;refine qal (fun u=>MulStA w gw gw (some ad1) (some ad2) a b m u) (fun u=>MulStA w gw gw (some ad1) (some ad2) a b m u) [(0,some 28),(1,some 29),(2,some 30),(3,some 31),(4,some 32),(5,some 33),(6,some 34),(7,some 35),(8,some 36),(9,some 37),(10,some 38),(11,some 39),(12,some 40),(13,some 41),(14,some 42),(15,some 43),(16,some 44),(17,some 45),(18,some 9)] (by kernel_rfl) (by kernel_rfl) (by decide) (by kernel_rfl) (fun _=>rfl) HC0 ?_;apply yN_
     ·apply dP [];exact fun _=>rfl;rfl;rintro vals - w1 hC1 E hE;simp only [sP] at hE ⊢;go_wp2;exact .mk (hE _ hC1)
     apply yN_
     ·apply dP [];exact fun _=>rfl;rfl;rintro vals ⟨-,-⟩ w1 hC1 E hE;simp only [sP] at hE ⊢;go_wp2;exact .mk (hE _ hC1)
     apply yN_
     ·apply dP [];exact fun _=>rfl;rfl;intro vals vq w1 hC1 E hE;clear vq;simp only [sP] at hE ⊢;go_wp2;exact .mk (hE _ hC1)
     apply yN_
     ·apply dP [(1,some 29),(2,some 30)];exact fun _=>rfl;rfl;intro vals vq w1 hC1 E hE;simp only [sP,vq] at hE ⊢;clear vq;go_wp2;exact .mk (hE _ hC1)
     apply yN_
     ·apply dP [(0,some 28),(3,some 31)];exact fun _=>rfl;rfl;intro vals vq w1 hC1 E hE;simp only [sP,vq] at hE ⊢;clear vq;go_wp2;exact .mk (hE _ hC1)
     apply yN_
     ·apply dP [(4,some 32)];exact fun _=>rfl;rfl;intro vals vq w1 hC1 E hE;have d0:=hC1.row.cell (i+j);rw [List.getElem?_toArray,E3.out] at d0;simp only [sP,vq] at hE ⊢;clear vq;go_wp2;exact .mk (hE _ hC1)
     apply yN_
     ·apply dP [];exact fun _=>rfl;rfl;intro vals vq w1 hC1 E hE;clear vq;simp only [sP] at hE ⊢;go_wp2;exact .mk (hE _ hC1)
     apply yN_
     ·apply dP [];exact fun _=>rfl;rfl;intro vals vq w1 hC1 E hE;clear vq;simp only [sP] at hE ⊢;go_wp2;exact .mk (hE _ hC1)
     apply yN_
     ·apply dP [(6,some 34),(7,some 35)];exact fun _=>rfl;rfl;intro vals vq w1 hC1 E hE;simp only [sP,vq] at hE ⊢;clear vq;go_wp2;exact .mk (hE _ hC1)
     apply yN_
     ·apply dP [(8,some 36)];exact fun _=>rfl;rfl;intro vals vq w1 hC1 E hE;have d0:=hC1.r1.val E1.out;simp only [sP,vq] at hE ⊢;clear vq;go_wp2;exact .mk (hE _ hC1)
     apply yN_
     ·apply dP [];exact fun _=>rfl;rfl;intro vals vq w1 hC1 E hE;clear vq;simp only [sP] at hE ⊢;go_wp2;exact .mk (hE _ hC1)
     apply yN_
     ·apply dP [];exact fun _=>rfl;rfl;intro vals vq w1 hC1 E hE;clear vq;simp only [sP] at hE ⊢;go_wp2;exact .mk (hE _ hC1)
     apply yN_
     ·apply dP [(10,some 38),(11,some 39)];exact fun _=>rfl;rfl;intro vals vq w1 hC1 E hE;simp only [sP,vq] at hE ⊢;clear vq;go_wp2;exact .mk (hE _ hC1)
     apply yN_
     ·apply dP [(12,some 40)];exact fun _=>rfl;rfl;intro vals vq w1 hC1 E hE;have d0:=hC1.r2.val E2.out;simp only [sP,vq] at hE ⊢;clear vq;go_wp2;exact .mk (hE _ hC1)
     apply yN_
     ·apply dP [(9,some 37),(13,some 41)];exact fun _=>rfl;rfl;intro vals vq w1 hC1 E hE;simp only [sP,vq] at hE ⊢;clear vq;go_wp2;rw [mul_w64 ai bj (by rw [← HPR.out]; have:=PRL.out; omega),← HPR.out];exact .mk (hE _ hC1)
     apply yN_
     ·apply dP [(5,some 33),(14,some 42)];exact fun _=>rfl;rfl;intro vals vq w1 hC1 E hE;simp only [sP,vq] at hE ⊢;clear vq;go_wp2;rw [add_w64 mk pr (by have:=PRL.out; have:=MKL.out; omega),← HMP.out];exact .mk (hE _ hC1)
     apply yN_
     ·apply dP [];exact fun _=>rfl;rfl;intro vals vq w1 hC1 E hE;clear vq;simp only [sP] at hE ⊢;go_wp2;exact .mk (hE _ hC1)
     apply yN_
     ·apply dP [(15,some 43),(16,some 44)];exact fun _=>rfl;rfl;intro vals vq w1 hC1 E hE;simp only [sP,vq] at hE ⊢;clear vq;go_wp2;rw [add_w64 mp c (by have:=HMP.out; have:=PRL.out; have:=MKL.out; have:=CL.out; omega),← HV2.out];exact .mk (hE _ hC1)
     apply yL_
     ·apply dP [(17,some 45),(0,some 28),(1,some 29),(2,some 30),(3,some 31),(4,some 32),(5,some 33),(6,some 34),(7,some 35),(8,some 36),(9,some 37),(10,some 38),(11,some 39),(12,some 40),(13,some 41),(14,some 42),(15,some 43),(16,some 44),(17,some 45)];exact fun _=>rfl;rfl;intro vals vq w1 hC1 E hE;simp only [sP,vq] at hE ⊢;clear vq;go_wp2;exact .mk (hE _ hC1)
     intro vals vq w1 hC1;simp only [sP,vq];clear vq;clear HC0;have dr:=hC1.row.cell (i+j);rw [List.getElem?_toArray,E3.out] at dr;have fr:=hC1.row.free (i+j);have HC1:=zY hC1;clear hC1;have hv63:(v:Int)≤4295032831:=by have:=HV.out; have:=PRL.out; have:=MKL.out; have:=CL.out; omega
     go_wp2_with fail;refine ⟨⟨j+1,v/65536,m.set (i+j) (v%65536),by omega,by go_num,by go_num,HVD.out,HML2.out,HMD2.out,HM02.out,HNV.out,?_⟩,by simp [intOf]; omega⟩;refine HC1.out.put (qah _ _ _ _) ?_;have h:=qaj (i:=i+j) HC1.out.row (.int .i64 ((v%65536:Nat):Int));rw [HSET.out] at h;exact h
    ·obtain rfl:j=5:=by omega
     have hge:¬ ((5:Nat):Int)<5:=by omega
     have hbt:b.take 5=b:=List.take_of_length_le (by rw [HBLN.out]; exact Nat.le_refl _);rw [hbt] at hmv;have hset:=qbv .i64 m (i+5) c;have hnv:=qbY m (i+5) c (by omega);rw [hm0,Nat.zero_mul,Nat.add_zero] at hnv
     have hfin:digs 10 (dval (a.take (i+1))*dval b)=m.set (i+5) c:=by
      have h1:=qc6 (m.set (i+5) c) (qdY hmd hcl);rw [List.length_set,hml] at h1;rw [← h1]
      congr 1
      rw [qbp a i (by rw [HALN.out]; exact hlt),← HAI.out,Nat.add_mul,← HP.out,hnv,hmv,Nat.mul_assoc ai (65536^i),Nat.mul_comm (65536^i),Nat.mul_assoc ai]
     have e3:(wordsV .i64 m)[i+5]?=some (.int .i64 0):=by
      rw [qaG (by rw [hml]; omega),hm0]; rfl
     have dr:=hsm.row.cell (i+5);rw [List.getElem?_toArray,e3] at dr;have fr:=hsm.row.free (i+5);have HSET:=zY hset;have HFIN:=zY hfin;have HSM:=zY hsm;have hil:i+5<10:=by omega
     have hc63:(c:Int)<65536:=by omega
     clear hset hfin hsm hnv hmv hbt e3 hm0 hmd hml hcl;go_wp2_with fail;refine ⟨⟨i+1,by omega,by go_num,?_⟩,by simp [intOf]; omega⟩;rw [HFIN.out];refine HSM.out.put (qah _ _ _ _) ?_;have h:=qaj (i:=i+5) HSM.out.row (.int .i64 (c:Int));rw [HSET.out] at h;exact h
  ·obtain rfl:i=5:=by omega
   have hat:a.take 5=a:=List.take_of_length_le (by rw [HALN.out]; exact Nat.le_refl _);rw [hat] at hst;have HST:=zY hst;clear hst hat;go_wp2_with fail;go_ret;exact ⟨gw,rfl,by rw [HGW.out]; exact Nat.le_refl _,HST.out.row,by rw [← HGW.out]; exact HST.out.bel⟩
structure MulStB (w0:World) (gf gw:Nat) (A1 A2:Option Addr) (a b:List Nat) (m:List Nat) (u:World):Prop where
 bel:Below gf w0 u
 r1:Rd u gf A1 (wordsV .i64 a)
 r2:Rd u gf A2 (wordsV .i64 b)
 row:Blk u gw 3 (wordsV .i64 m).toArray
 le:gf≤gw
theorem MulStB.put {w0 u u':World} {gf gw:Nat} {A1 A2:Option Addr} {a b m m':List Nat} (h:MulStB w0 gf gw A1 A2 a b m u) (hw:Wrote gw u u') (hb:Blk u' gw 3 (wordsV .i64 m').toArray):MulStB w0 gf gw A1 A2 a b m' u' :=
 have hx:=hw.below (Below.refl gf u) h.le (by have:=h.row.lt; have:=h.le; omega)
 ⟨h.bel.trans hx,h.r1.below hx,h.r2.below hx,hb,h.le⟩
theorem MulStB.drew {w0 u:World} {gf gw:Nat} {A1 A2:Option Addr} {a b m:List Nat} (h:MulStB w0 gf gw A1 A2 a b m u):MulStB w0 gf gw A1 A2 a b m u.drew :=
 have hx:=(Below.refl gf u).drew
 ⟨h.bel.drew,h.r1.below hx,h.r2.below hx,h.row,h.le⟩
def MulPostB (a b:List Nat) (w:World) (e:Ending) (w':World):Prop :=
 ∃ g,e=.returned (.slice (some ⟨g,0,none⟩) 15 15)∧w.heap.size≤g∧Blk w' g 3 (wordsV .i64 (digs 15 (dval a*dval b))).toArray∧Below w.heap.size w w'
theorem mulB_any (a b:List Nat) (ha:∀ d ∈ a,d<65536) (hb:∀ d ∈ b,d<65536) (A1 A2:Option Addr) (c1 c2 B1 B2:Nat) (w:World) (h1:Rd w B1 A1 (wordsV .i64 a)) (h2:Rd w B2 A2 (wordsV .i64 b)) (hla:a.length=10) (hlb:b.length=5) (hc1:10≤c1) (hc2:5≤c2) (hB1:B1≤w.heap.size) (hB2:B2≤w.heap.size) :
  Calls Tryz.prog 97 #[.slice A1 10 c1,.slice A2 5 c2] w (MulPostB a b w):=by
 obtain ⟨ad1,rfl,hz1,hz2⟩:=h1.at_ (k:=0) (by rw [qaH,hla]; decide);obtain ⟨ad2,rfl,hz3,hz4⟩:=h2.at_ (k:=0) (by rw [qaH,hlb]; decide);clear hz1 hz2 hz3 hz4;have hmk:∀ u:World,(Instr.makeSlice 30 (.int .i64 15) (.int .i64 15)).run Tryz.prog u=.ok (.slice (some ⟨u.heap.size,0,none⟩) 15 15) (u.alloc (.cells (wordsV .i64 (digs 15 0)).toArray 3)):=fun _=>by kernel_rfl
 have H1:=zY (h1.mono hB1);have H2:=zY (h2.mono hB2);have HALN:=zY hla;have HBLN:=zY hlb;have HA:=zY ha;have HB:=zY hb;clear h1 h2 hla hlb ha hb hB1 hB2;go_enter Tryz.func97,Tryz.ntmps97;go_wp2_with fail;obtain ⟨gw,hgw⟩:=eX (w.heap.size)
 have hst0:MulStB w gw gw (some ad1) (some ad2) a b (digs 15 (dval (a.take 0)*dval b)) (w.alloc (.cells (wordsV .i64 (digs 15 0)).toArray 3)):=by
  have hb0:=below_new w (.cells (wordsV .i64 (digs 15 0)).toArray 3);rw [← hgw] at hb0;refine ⟨hb0,?_,?_,?_,Nat.le_refl _⟩
  ·have:=H1.out; rw [← hgw] at this; exact this.below hb0
  ·have:=H2.out; rw [← hgw] at this; exact this.below hb0
  ·rw [hgw]; simp only [List.take_zero,dval,Nat.zero_mul]; exact Blk.new _ _ _
 rw [← hgw];have HGW:=zY hgw;clear hgw hmk H1 H2
 go_loopw [6] (fun i wr=>∃ k:Nat,k≤10∧i=.int .i64 k∧MulStB w gw gw (some ad1) (some ad2) a b (digs 15 (dval (a.take k)*dval b)) wr) (fun i _=>10 - (intOf i).toNat)
 case atStart=>exact ⟨0,by omega,rfl,hst0⟩
 case round =>
  obtain ⟨i,hi,rfl,hst⟩:=hrel;clear hst0
  by_cases hlt:i<10
  ·have hlt':(i:Int)<10:=by omega
   obtain ⟨ai,hai⟩:=eX (a.getD i 0);have hail:ai<65536:=by rw [hai]; exact dig_lt HA.out i
   obtain ⟨P,hP⟩:=eX (dval (a.take i)*dval b)
   have hPl:P<65536^(i+5):=by
    rw [hP,Nat.pow_add];have e1:=qcN (a.take i) fun x hx=>HA.out x (List.mem_of_mem_take hx);have e2:=qcN b HB.out;rw [List.length_take,Nat.min_eq_left (by rw [HALN.out]; exact hi)] at e1;rw [HBLN.out] at e2;exact Nat.mul_lt_mul'' e1 e2
   rw [← hP] at hst;have HAI:=zY hai;have HAIL:=zY hail;have HP:=zY hP;have HPL:=zY hPl;have HST:=zY hst;clear hai hail hP hPl hst;go_wp2_with fail;obtain ⟨wo,rfl⟩:∃ wo:World,wo=wr:=⟨_,rfl⟩;have hPN:P<65536^15:=Nat.lt_of_lt_of_le HPL.out (Nat.pow_le_pow_right (by decide) (by omega))
   have hr0:∃ m:List Nat,m.length=15∧(∀ d ∈ m,d<65536)∧m.getD (i+5) 0=0∧dval m+0*65536^(i+0)=P+ai*dval (b.take 0)*65536^i∧MulStB w gw gw (some ad1) (some ad2) a b m wo:=by
    refine ⟨digs 15 P,qaw _ _,digs_lt _ _,?_,?_,HST.out⟩
    ·rw [qbs _ _ (digs_lt _ _),qaU _ _ hPN,Nat.div_eq_of_lt HPL.out]
    ·rw [qaU _ _ hPN]; simp [dval]
   have HR0:=zY hr0;clear hr0 hPN HST
   go_loopw [7,8] (fun c j wr=>∃ (k cn:Nat) (m:List Nat),k≤5∧j=.int .i64 k∧c=.int .i64 cn∧cn<65536∧m.length=15∧(∀ d ∈ m,d<65536)∧m.getD (i+5) 0=0∧dval m+cn*65536^(i+k)=P+ai*dval (b.take k)*65536^i∧MulStB w gw gw (some ad1) (some ad2) a b m wr) (fun _ j _=>5 - (intOf j).toNat)
   case atStart =>
    obtain ⟨m,q1,q2,q3,q4,q5⟩:=HR0.out;exact ⟨0,0,m,by omega,rfl,rfl,by omega,q1,q2,q3,q4,q5⟩
   case round =>
    clear HR0;obtain ⟨j,c,m,hj,rfl,rfl,hcl,hml,hmd,hm0,hmv,hsm⟩:=hrel
    by_cases hjl:j<5
    ·have hjl':(j:Int)<5:=by omega
     obtain ⟨bj,hbj⟩:=eX (b.getD j 0);have hbjl:bj<65536:=by rw [hbj]; exact dig_lt HB.out j
     obtain ⟨mk,hmk⟩:=eX (m.getD (i+j) 0);have hmkl:mk<65536:=by rw [hmk]; exact dig_lt hmd _
     obtain ⟨pr,hpr⟩:=eX (ai*bj);have hprl:pr≤4294836225:=by rw [hpr]; exact Nat.mul_le_mul (show ai≤65535 by have:=HAIL.out; omega) (show bj≤65535 by omega)
     obtain ⟨v,hv⟩:=eX (mk+pr+c);obtain ⟨mp,hmp⟩:=eX (mk+pr);have hv2:v=mp+c:=by rw [hv,hmp]
     have hnv:=mul_step (n:=dval (m.set (i+j) (v%65536))) (k:=mk) (a:=ai) (b:=bj) hmv (by rw [← hpr,← hv,hmk]; exact qbY m (i+j) (v%65536) (by omega));rw [← hpr,← hv] at hnv;have hbt:dval (b.take (j+1))=dval (b.take j)+bj*65536^j:=by rw [qbp b j (by rw [HBLN.out]; exact hjl),hbj]
     rw [← hbt] at hnv;have hset:=qbv .i64 m (i+j) (v%65536);have hvd:v/65536<65536:=by omega
     have hml2:(m.set (i+j) (v%65536)).length=15:=by rw [List.length_set]; exact hml
     have hmd2:∀ d ∈ m.set (i+j) (v%65536),d<65536:=qdY hmd (Nat.mod_lt _ (by decide));have hm02:(m.set (i+j) (v%65536)).getD (i+5) 0=0:=by rw [getD_set_ne _ _ _ _ (by omega)]; exact hm0
     have e1:(wordsV .i64 a)[i]?=some (.int .i64 (ai:Int)):=by rw [HAI.out]; exact qaG (by rw [HALN.out]; exact hlt)
     have e2:(wordsV .i64 b)[j]?=some (.int .i64 (bj:Int)):=by rw [hbj]; exact qaG (by rw [HBLN.out]; exact hjl)
     have e3:(wordsV .i64 m)[i+j]?=some (.int .i64 (mk:Int)):=by rw [hmk]; exact qaG (by rw [hml]; omega)
     have E1:=zY e1;have E2:=zY e2;have E3:=zY e3;have HMK:=zY hmk;have HBJ:=zY hbj;have HPR:=zY hpr;have HV:=zY hv;have HV2:=zY hv2;have HMP:=zY hmp;have HNV:=zY hnv;have HSET:=zY hset;have HVD:=zY hvd;have HML2:=zY hml2;have HMD2:=zY hmd2;have HM02:=zY hm02;have HML:=zY hml;have HC0:=hsm.drew;have hil:i+j<15:=by omega
     have PRL:=zY hprl;have MKL:=zY hmkl;have CL:=zY hcl;clear hmk hbj hpr hv hv2 hmp hnv hset hvd hml2 hmd2 hm02 hml hmd hm0 hmv hsm hbt e1 e2 e3 hprl hmkl hcl hbjl;go_wp2_with fail;refine qal (fun u=>MulStB w gw gw (some ad1) (some ad2) a b m u) (fun u=>MulStB w gw gw (some ad1) (some ad2) a b m u) [(0,some 28),(1,some 29),(2,some 30),(3,some 31),(4,some 32),(5,some 33),(6,some 34),(7,some 35),(8,some 36),(9,some 37),(10,some 38),(11,some 39),(12,some 40),(13,some 41),(14,some 42),(15,some 43),(16,some 44),(17,some 45),(18,some 9)] (by kernel_rfl) (by kernel_rfl) (by decide) (by kernel_rfl) (fun _=>rfl) HC0 ?_;apply yN_
     ·apply dP [];exact fun _=>rfl;rfl;rintro vals - w1 hC1 E hE;simp only [sP] at hE ⊢;go_wp2;exact .mk (hE _ hC1)
     apply yN_
     ·apply dP [];exact fun _=>rfl;rfl;rintro vals ⟨-,-⟩ w1 hC1 E hE;simp only [sP] at hE ⊢;go_wp2;exact .mk (hE _ hC1)
     apply yN_
     ·apply dP [];exact fun _=>rfl;rfl;intro vals vq w1 hC1 E hE;clear vq;simp only [sP] at hE ⊢;go_wp2;exact .mk (hE _ hC1)
     apply yN_
     ·apply dP [(1,some 29),(2,some 30)];exact fun _=>rfl;rfl;intro vals vq w1 hC1 E hE;simp only [sP,vq] at hE ⊢;clear vq;go_wp2;exact .mk (hE _ hC1)
     apply yN_
     ·apply dP [(0,some 28),(3,some 31)];exact fun _=>rfl;rfl;intro vals vq w1 hC1 E hE;simp only [sP,vq] at hE ⊢;clear vq;go_wp2;exact .mk (hE _ hC1)
     apply yN_
     ·apply dP [(4,some 32)];exact fun _=>rfl;rfl;intro vals vq w1 hC1 E hE;have d0:=hC1.row.cell (i+j);rw [List.getElem?_toArray,E3.out] at d0;simp only [sP,vq] at hE ⊢;clear vq;go_wp2;exact .mk (hE _ hC1)
     apply yN_
     ·apply dP [];exact fun _=>rfl;rfl;intro vals vq w1 hC1 E hE;clear vq;simp only [sP] at hE ⊢;go_wp2;exact .mk (hE _ hC1)
     apply yN_
     ·apply dP [];exact fun _=>rfl;rfl;intro vals vq w1 hC1 E hE;clear vq;simp only [sP] at hE ⊢;go_wp2;exact .mk (hE _ hC1)
     apply yN_
     ·apply dP [(6,some 34),(7,some 35)];exact fun _=>rfl;rfl;intro vals vq w1 hC1 E hE;simp only [sP,vq] at hE ⊢;clear vq;go_wp2;exact .mk (hE _ hC1)
     apply yN_
     ·apply dP [(8,some 36)];exact fun _=>rfl;rfl;intro vals vq w1 hC1 E hE;have d0:=hC1.r1.val E1.out;simp only [sP,vq] at hE ⊢;clear vq;go_wp2;exact .mk (hE _ hC1)
     apply yN_
     ·apply dP [];exact fun _=>rfl;rfl;intro vals vq w1 hC1 E hE;clear vq;simp only [sP] at hE ⊢;go_wp2;exact .mk (hE _ hC1)
     apply yN_
     ·apply dP [];exact fun _=>rfl;rfl;intro vals vq w1 hC1 E hE;clear vq;simp only [sP] at hE ⊢;go_wp2;exact .mk (hE _ hC1)
     apply yN_
     ·apply dP [(10,some 38),(11,some 39)];exact fun _=>rfl;rfl;intro vals vq w1 hC1 E hE;simp only [sP,vq] at hE ⊢;clear vq;go_wp2;exact .mk (hE _ hC1)
     apply yN_
     ·apply dP [(12,some 40)];exact fun _=>rfl;rfl;intro vals vq w1 hC1 E hE;have d0:=hC1.r2.val E2.out;simp only [sP,vq] at hE ⊢;clear vq;go_wp2;exact .mk (hE _ hC1)
     apply yN_
     ·apply dP [(9,some 37),(13,some 41)];exact fun _=>rfl;rfl;intro vals vq w1 hC1 E hE;simp only [sP,vq] at hE ⊢;clear vq;go_wp2;rw [mul_w64 ai bj (by rw [← HPR.out]; have:=PRL.out; omega),← HPR.out];exact .mk (hE _ hC1)
     apply yN_
     ·apply dP [(5,some 33),(14,some 42)];exact fun _=>rfl;rfl;intro vals vq w1 hC1 E hE;simp only [sP,vq] at hE ⊢;clear vq;go_wp2;rw [add_w64 mk pr (by have:=PRL.out; have:=MKL.out; omega),← HMP.out];exact .mk (hE _ hC1)
     apply yN_
     ·apply dP [];exact fun _=>rfl;rfl;intro vals vq w1 hC1 E hE;clear vq;simp only [sP] at hE ⊢;go_wp2;exact .mk (hE _ hC1)
     apply yN_
     ·apply dP [(15,some 43),(16,some 44)];exact fun _=>rfl;rfl;intro vals vq w1 hC1 E hE;simp only [sP,vq] at hE ⊢;clear vq;go_wp2;rw [add_w64 mp c (by have:=HMP.out; have:=PRL.out; have:=MKL.out; have:=CL.out; omega),← HV2.out];exact .mk (hE _ hC1)
     apply yL_
     ·apply dP [(17,some 45),(0,some 28),(1,some 29),(2,some 30),(3,some 31),(4,some 32),(5,some 33),(6,some 34),(7,some 35),(8,some 36),(9,some 37),(10,some 38),(11,some 39),(12,some 40),(13,some 41),(14,some 42),(15,some 43),(16,some 44),(17,some 45)];exact fun _=>rfl;rfl;intro vals vq w1 hC1 E hE;simp only [sP,vq] at hE ⊢;clear vq;go_wp2;exact .mk (hE _ hC1)
     intro vals vq w1 hC1;simp only [sP,vq];clear vq;clear HC0;have dr:=hC1.row.cell (i+j);rw [List.getElem?_toArray,E3.out] at dr;have fr:=hC1.row.free (i+j);have HC1:=zY hC1;clear hC1;have hv63:(v:Int)≤4295032831:=by have:=HV.out; have:=PRL.out; have:=MKL.out; have:=CL.out; omega
     go_wp2_with fail;refine ⟨⟨j+1,v/65536,m.set (i+j) (v%65536),by omega,by go_num,by go_num,HVD.out,HML2.out,HMD2.out,HM02.out,HNV.out,?_⟩,by simp [intOf]; omega⟩;refine HC1.out.put (qah _ _ _ _) ?_;have h:=qaj (i:=i+j) HC1.out.row (.int .i64 ((v%65536:Nat):Int));rw [HSET.out] at h;exact h
    ·obtain rfl:j=5:=by omega
     have hge:¬ ((5:Nat):Int)<5:=by omega
     have hbt:b.take 5=b:=List.take_of_length_le (by rw [HBLN.out]; exact Nat.le_refl _);rw [hbt] at hmv;have hset:=qbv .i64 m (i+5) c;have hnv:=qbY m (i+5) c (by omega);rw [hm0,Nat.zero_mul,Nat.add_zero] at hnv
     have hfin:digs 15 (dval (a.take (i+1))*dval b)=m.set (i+5) c:=by
      have h1:=qc6 (m.set (i+5) c) (qdY hmd hcl);rw [List.length_set,hml] at h1;rw [← h1]
      congr 1
      rw [qbp a i (by rw [HALN.out]; exact hlt),← HAI.out,Nat.add_mul,← HP.out,hnv,hmv,Nat.mul_assoc ai (65536^i),Nat.mul_comm (65536^i),Nat.mul_assoc ai]
     have e3:(wordsV .i64 m)[i+5]?=some (.int .i64 0):=by
      rw [qaG (by rw [hml]; omega),hm0]; rfl
     have dr:=hsm.row.cell (i+5);rw [List.getElem?_toArray,e3] at dr;have fr:=hsm.row.free (i+5);have HSET:=zY hset;have HFIN:=zY hfin;have HSM:=zY hsm;have hil:i+5<15:=by omega
     have hc63:(c:Int)<65536:=by omega
     clear hset hfin hsm hnv hmv hbt e3 hm0 hmd hml hcl;go_wp2_with fail;refine ⟨⟨i+1,by omega,by go_num,?_⟩,by simp [intOf]; omega⟩;rw [HFIN.out];refine HSM.out.put (qah _ _ _ _) ?_;have h:=qaj (i:=i+5) HSM.out.row (.int .i64 (c:Int));rw [HSET.out] at h;exact h
  ·obtain rfl:i=10:=by omega
   have hat:a.take 10=a:=List.take_of_length_le (by rw [HALN.out]; exact Nat.le_refl _);rw [hat] at hst;have HST:=zY hst;clear hst hat;go_wp2_with fail;go_ret;exact ⟨gw,rfl,by rw [HGW.out]; exact Nat.le_refl _,HST.out.row,by rw [← HGW.out]; exact HST.out.bel⟩
structure RtSt (w0:World) (gt gx:Nat) (T:List Nat) (X:Nat) (u:World):Prop where
 bel:Below gt w0 u
 t:Blk u gt 3 (wordsV .i64 T).toArray
 x:Blk u gx 3 (wordsV .i64 (digs 5 X)).toArray
 lt:gt<gx
theorem RtSt.next {w0 u u':World} {gt gx X:Nat} {T:List Nat} (h:RtSt w0 gt gx T X u) (hb:Below u.heap.size u u'):RtSt w0 gt gx T X u' :=
 ⟨h.bel.trans (hb.mono (by have:=h.t.lt; omega)),h.t.below hb h.t.lt,h.x.below hb h.x.lt,h.lt⟩
theorem RtSt.drew {w0 u:World} {gt gx X:Nat} {T:List Nat} (h:RtSt w0 gt gx T X u):RtSt w0 gt gx T X u.drew:=h.next (Below.refl _ _).drew
theorem RtSt.put {w0 u u':World} {gt gx X X':Nat} {T:List Nat} (h:RtSt w0 gt gx T X u) (hw:Wrote gx u u') (hb:Blk u' gx 3 (wordsV .i64 (digs 5 X')).toArray):RtSt w0 gt gx T X' u' :=
 ⟨hw.below h.bel (by have:=h.lt; omega) (by have:=h.t.lt; omega),hw.blk h.t (by have:=h.lt; omega),hb,h.lt⟩
theorem root2_any (p:Nat) (w:World) (hp:p<65536):Calls Tryz.prog 88 #[.int .i64 p,.int .i64 2] w fun e w'=>e=.returned (.int .u64 (rootN p 2:Nat))∧Below w.heap.size w w':=by
 have hmkT:∀ u:World,(Instr.makeSlice 30 (.int .i64 9) (.int .i64 9)).run Tryz.prog u=.ok (.slice (some ⟨u.heap.size,0,none⟩) 9 9) (u.alloc (.cells (wordsV .i64 (digs 9 0)).toArray 3)):=fun _=>by kernel_rfl
 have hmk5:∀ u:World,(Instr.makeSlice 30 (.int .i64 5) (.int .i64 5)).run Tryz.prog u=.ok (.slice (some ⟨u.heap.size,0,none⟩) 5 5) (u.alloc (.cells (wordsV .i64 (digs 5 0)).toArray 3)):=fun _=>by kernel_rfl
 have hb0:=Blk.new w 3 (wordsV .i64 (digs 9 0)).toArray;have dT:(w.alloc (.cells (wordsV .i64 (digs 9 0)).toArray 3)).cell? ⟨w.heap.size,8,none⟩=some (.int .i64 0):=hb0.cell 8;have fT:=hb0.free 8;have hset:(wordsV .i64 (digs 9 0)).set 8 (.int .i64 (p:Int))=wordsV .i64 ((digs 9 0).set 8 p):=by simp [wordsV,List.map_set]
 obtain ⟨TL,hTL⟩:=eX ((digs 9 0).set 8 p);have hTd:∀ d ∈ TL,d<65536:=by rw [hTL]; exact qdY (digs_lt _ _) hp
 have hTv:dval TL=p*65536^8:=by
  have h:=qbY (digs 9 0) 8 p (by rw [qaw]; decide);rw [qbs _ _ (digs_lt _ _),qaU _ _ (by decide)] at h;rw [hTL]
  simpa using h
 have hTl:TL.length=9:=by rw [hTL,List.length_set,qaw]
 rw [← hTL] at hset;have HSET:=zY hset;have HTD:=zY hTd;have HTV:=zY hTv;have HTL:=zY hTl;clear hb0 hset hTL hTd hTv hTl;have hpl:(p:Int)<65536:=by omega
 clear hp;go_enter Tryz.func88,Tryz.ntmps88;go_wp2_with fail;rw [HSET.out];obtain ⟨gt,hgt⟩:=eX (w.heap.size);obtain ⟨gx,hgx⟩:=eX (w.heap.size+1)
 have hst0:RtSt w gt gx TL (rootX p 2 0) ((w.alloc (.cells (wordsV .i64 TL).toArray 3)).alloc (.cells (wordsV .i64 (digs 5 0)).toArray 3)):=by
  rw [hgt,hgx];exact ⟨(below_new _ _).alloc (by simp) _,(Blk.new _ _ _).alloc _,by have:=Blk.new (w.alloc (.cells (wordsV .i64 TL).toArray 3)) 3 (wordsV .i64 (digs 5 0)).toArray; exact (by simpa using this:Blk _ (w.heap.size+1) 3 (wordsV .i64 (digs 5 0)).toArray),by omega⟩
 rw [← hgx,← hgt];have HGT:=zY hgt;clear hgt hgx hmkT hmk5 dT fT
 go_loopw [7] (fun i wr=>∃ n:Nat,n≤69∧i=.int .i64 (68 - (n:Int))∧RtSt w gt gx TL (rootX p 2 n) wr) (fun i _=>(intOf i+1).toNat)
 case atStart=>exact ⟨0,by omega,rfl,hst0⟩
 case round =>
  obtain ⟨n,hn,rfl,hst⟩:=hrel;clear hst0
  by_cases hlt:n<69
  ·obtain ⟨b,hb⟩:∃ b:Nat,(68 - (n:Int))=(b:Int):=⟨68 - n,by omega⟩;rw [hb];have hbn:b+n=68:=by omega
   obtain ⟨X,hX⟩:=eX (rootX p 2 n);have hXl:=qcS p 2 n hn;have hXd:=qd1 p 2 n hn
   have hnext:rootX p 2 (n+1)=if p*65536^8<(X+2^b)^2 then X else X+2^b:=by
    rw [rootX,← hX,show 68 - n=b by omega]
   rw [← hX] at hst hXl hXd;rw [show 69 - n=b+1 by omega] at hXl hXd;obtain ⟨q,hq⟩:=eX (b/16);obtain ⟨r,hr⟩:=eX (b%16);have hq5:q<5:=by omega
   have hr16:r<16:=by omega
   have hX80:X+2^b<65536^5:=by
    have h2:2^(b+1)=2*2^b:=by rw [Nat.pow_succ,Nat.mul_comm]
    have h3:(2:Nat)^69<65536^5:=by decide
    omega
   obtain ⟨hda,hdl⟩:=dig_add (n:=5) (bit:=b) (X:=X) (by omega) (by omega) hXd;rw [← hq,← hr] at hda hdl;obtain ⟨X1,hX1⟩:=eX (X+2^b);obtain ⟨d0,hd0⟩:=eX ((digs 5 X).getD q 0);obtain ⟨D,hD⟩:=eX (2^r);rw [← hX1,← hd0,← hD] at hda;rw [← hd0,← hD] at hdl;rw [← hX1] at hnext hX80;have hset1:(wordsV .i64 (digs 5 X)).toArray.setIfInBounds q (.int .i64 ((d0+D:Nat):Int))=(wordsV .i64 (digs 5 X1)).toArray:=by rw [qbv,hda]
   have hset2:(wordsV .i64 (digs 5 X1)).toArray.setIfInBounds q (.int .i64 (d0:Int))=(wordsV .i64 (digs 5 X)).toArray:=by
    rw [qbv,← hda,List.set_set,hd0]
    congr 2
    rw [List.getD_eq_getElem?_getD,List.getElem?_eq_getElem (by rw [qaw]; exact hq5),Option.getD_some,List.set_getElem_self]
   have hc1:(wordsV .i64 (digs 5 X))[q]?=some (.int .i64 (d0:Int)):=by rw [hd0]; exact qaG (by rw [qaw]; exact hq5)
   have hc2:(wordsV .i64 (digs 5 X1))[q]?=some (.int .i64 ((d0+D:Nat):Int)):=by
    rw [← hda,wordsV,List.getElem?_map,List.getElem?_set_self (by rw [qaw]; exact hq5)]; rfl
   have hqb:(b:Int)/16=(q:Int):=by omega
   have hrb:(b:Int)%16=(r:Int):=by omega
   have hDl:D≤32768:=by rw [hD]; exact Nat.pow_le_pow_right (n:=2) (by decide) (show r≤15 by omega)
   have dx:=hst.x.cell q;rw [List.getElem?_toArray,hc1] at dx;have fx:=hst.x.free q;have hd0l:d0+D≤65535:=by omega
   have HX:=zY hX;have HNEXT:=zY hnext;have HX80:=zY hX80;have HX1:=zY hX1;have HSET1:=zY hset1;have HSET2:=zY hset2;have HC2:=zY hc2;have HD:=zY hD;have HST:=zY hst;have HB:=zY hb;have HBN:=zY hbn;have hb0:(0:Int)≤(b:Int):=by omega
   clear hb hbn hX hXl hXd hnext hq hr hX80 hda hdl hX1 hd0 hD hset1 hset2 hc1 hc2 hst hlt hn;go_wp2_with fail
   go_loop [8,9] (fun v i=>∃ j e:Nat,j≤r∧i=.int .i64 j∧e=2^j∧v=.int .i64 e) (fun _ i=>r - (intOf i).toNat)
   case atStart=>exact ⟨0,1,by omega,rfl,rfl,rfl⟩
   case round =>
    obtain ⟨j,e,hj,rfl,he,rfl⟩:=hrel
    by_cases hjr:j<r
    ·have hjr':(j:Int)<(r:Int):=by omega
     have hel:e≤16384:=by rw [he]; exact Nat.pow_le_pow_right (n:=2) (by decide) (show j≤14 by omega)
     have HE:=zY he;clear he;go_wp2_with fail;exact ⟨⟨j+1,2*e,by omega,by go_num,by rw [HE.out,Nat.pow_succ,Nat.mul_comm],by go_num⟩,by simp [intOf]; omega⟩
    ·obtain rfl:j=r:=by omega
     obtain rfl:e=D:=by rw [he,HD.out]
     clear he;go_wp2_with fail;obtain ⟨w2,hw2⟩:∃ x,x=wr.setCell ⟨gx,q,none⟩ (.int .i64 ((d0:Int)+(e:Int))):=⟨_,rfl⟩
     have hst2:RtSt w gt gx TL X1 w2:=by
      rw [hw2];refine HST.out.put (qah _ _ _ _) ?_;have h:=qaj (i:=q) HST.out.x (.int .i64 ((d0+e:Nat):Int));rw [HSET1.out] at h;exact h
     rw [← hw2];have hx2:=Rd.of_blk (B:=w2.heap.size) hst2.x hst2.x.lt;have hm:=mulA_any (digs 5 X1) (digs 5 X1) (digs_lt _ _) (digs_lt _ _) _ _ 5 5 _ _ w2 hx2 hx2 (qaw _ _) (qaw _ _) (Nat.le_refl _) (Nat.le_refl _) (Nat.le_refl _) (Nat.le_refl _);refine qaa hm ?_;rintro e1 w3 ⟨g1,rfl,hg1,hb1,hbel1⟩;rw [qaU 5 X1 HX80.out] at hb1;have hst3:=hst2.next hbel1;clear hw2 hst2 hx2 hm hbel1 hg1 dx fx HSET1 HST;have HST3:=zY hst3;have HB1:=zY hb1;clear hst3 hb1;go_wp2_with fail;have hls:=less_any TL (digs 10 (X1*X1)) HTD.out (digs_lt _ _) (some ⟨gt,0,none⟩) (some ⟨g1,0,none⟩) 9 10 w3.heap.size w3.heap.size 9 10 w3 (Rd.of_blk HST3.out.t HST3.out.t.lt) (Rd.of_blk HB1.out HB1.out.lt) HTL.out (qaw _ _) (by decide) (by decide) (Nat.le_refl _) (Nat.le_refl _);refine qaa hls ?_;rintro e1 w4 ⟨rfl,rfl⟩;clear hls;have hpw:X1*X1<65536^10:=by have:=HX80.out; exact Nat.lt_of_lt_of_le (Nat.mul_lt_mul'' this this) (by decide)
     rw [HTV.out,qaU _ _ hpw,show X1*X1=X1^2 by simp [Nat.pow_succ]];clear hpw;have dx2:=HST3.out.x.cell q;rw [List.getElem?_toArray,HC2.out] at dx2;have fx2:=HST3.out.x.free q
     by_cases hmo:p*65536^8<X1^2
     ·rw [decide_eq_true hmo]
      have hfin:RtSt w gt gx TL (rootX p 2 (n+1)) (w3.setCell ⟨gx,q,none⟩ (.int .i64 (d0:Int))):=by
       rw [HNEXT.out,if_pos hmo];refine HST3.out.put (qah _ _ _ _) ?_;have h:=qaj (i:=q) HST3.out.x (.int .i64 (d0:Int));rw [HSET2.out] at h;exact h
      have HFIN:=zY hfin;clear hfin hmo;go_wp2_with fail;have:=HBN.out;exact ⟨⟨n+1,by omega,congrArg (Value.int .i64) (by omega),HFIN.out⟩,by simp [intOf]⟩
     ·rw [decide_eq_false hmo]
      have hfin:RtSt w gt gx TL (rootX p 2 (n+1)) w3:=by
       rw [HNEXT.out,if_neg hmo];exact HST3.out
      have HFIN:=zY hfin;clear hfin hmo;go_wp2_with fail;have:=HBN.out;exact ⟨⟨n+1,by omega,congrArg (Value.int .i64) (by omega),HFIN.out⟩,by simp [intOf]⟩
  ·obtain rfl:n=69:=by omega
   rw [show (68 - ((69:Nat):Int))=-1 from rfl];obtain ⟨X,hX⟩:=eX (rootX p 2 69);rw [← hX] at hst
   have hXl:X<65536^5:=by
    have:=qcS p 2 69 (Nat.le_refl _);rw [← hX] at this;have h3:(2:Nat)^69<65536^5:=by decide
    omega
   have hgd:∀ i,(digs 5 X).getD i 0=X/65536^i%65536:=fun i=>by rw [qbs _ _ (digs_lt _ _),qaU 5 X hXl]
   have hws:∀ i,i<5→(wordsV .i64 (digs 5 X))[i]?=some (.int .i64 ((X/65536^i%65536:Nat):Int)):=fun i hi=>by rw [qaG (by rw [qaw]; exact hi),hgd]
   obtain ⟨x0,h0⟩:=eX (X%65536);obtain ⟨x1,h1⟩:=eX (X/65536%65536);obtain ⟨x2,h2⟩:=eX (X/4294967296%65536);obtain ⟨x3,h3⟩:=eX (X/281474976710656%65536);have E0:Hid ((wordsV .i64 (digs 5 X))[0]?=some (.int .i64 (x0:Int))):=zY (by rw [hws 0 (by decide),h0] <;> simp);have E1:Hid ((wordsV .i64 (digs 5 X))[1]?=some (.int .i64 (x1:Int))):=zY (by rw [hws 1 (by decide),h1] <;> simp);have E2:Hid ((wordsV .i64 (digs 5 X))[2]?=some (.int .i64 (x2:Int))):=zY (by rw [hws 2 (by decide),h2]);have E3:Hid ((wordsV .i64 (digs 5 X))[3]?=some (.int .i64 (x3:Int))):=zY (by rw [hws 3 (by decide),h3])
   have hv:x0+x1*65536+x2*4294967296+x3*281474976710656=rootN p 2:=by
    rw [rootN,← hX,h0,h1,h2,h3];omega
   have l0:(x0:Int)<65536:=by omega
   have l1:(x1:Int)<65536:=by omega
   have l2:(x2:Int)<65536:=by omega
   have l3:(x3:Int)<65536:=by omega
   have HV:=zY hv;have HC0:=hst.drew;clear hX hXl hgd hws h0 h1 h2 h3 hv hst hlt hn;go_wp2_with fail;refine qal (fun u=>RtSt w gt gx TL X u) (fun u=>RtSt w gt gx TL X u) [(0,some 67),(1,some 68),(2,some 69),(3,some 70),(4,some 71),(5,some 72),(6,some 73),(7,some 74),(8,some 75),(9,some 76),(10,some 77),(11,some 78),(12,some 79),(13,some 80),(14,some 81),(15,some 82),(16,some 83),(17,some 84),(18,some 85),(19,some 86),(20,some 87),(21,some 88),(22,some 4)] (by kernel_rfl) (by kernel_rfl) (by decide) (by kernel_rfl) (fun _=>rfl) HC0 ?_;apply yN_
   ·apply dP [];exact fun _=>rfl;rfl;rintro vals - w1 hC1 E hE;simp only [sP] at hE ⊢;go_wp2;exact .mk (hE _ hC1)
   apply yN_
   ·apply dP [(0,some 67)];exact fun _=>rfl;rfl;intro vals vq w1 hC1 E hE;simp only [sP,vq] at hE ⊢;clear vq;go_wp2;exact .mk (hE _ hC1)
   apply yN_
   ·apply dP [(1,some 68)];exact fun _=>rfl;rfl;intro vals vq w1 hC1 E hE;have d0:=hC1.x.cell 0;rw [List.getElem?_toArray,E0.out] at d0;simp only [sP,vq] at hE ⊢;clear vq;go_wp2;exact .mk (hE _ hC1)
   apply yN_
   ·apply dP [(2,some 69)];exact fun _=>rfl;rfl;intro vals vq w1 hC1 E hE;simp only [sP,vq] at hE ⊢;clear vq;go_wp2;exact .mk (hE _ hC1)
   apply yN_
   ·apply dP [];exact fun _=>rfl;rfl;intro vals vq w1 hC1 E hE;clear vq;simp only [sP] at hE ⊢;go_wp2;exact .mk (hE _ hC1)
   apply yN_
   ·apply dP [(4,some 71)];exact fun _=>rfl;rfl;intro vals vq w1 hC1 E hE;simp only [sP,vq] at hE ⊢;clear vq;go_wp2;exact .mk (hE _ hC1)
   apply yN_
   ·apply dP [(5,some 72)];exact fun _=>rfl;rfl;intro vals vq w1 hC1 E hE;have d0:=hC1.x.cell 1;rw [List.getElem?_toArray,E1.out] at d0;simp only [sP,vq] at hE ⊢;clear vq;go_wp2;exact .mk (hE _ hC1)
   apply yN_
   ·apply dP [(6,some 73)];exact fun _=>rfl;rfl;intro vals vq w1 hC1 E hE;simp only [sP,vq] at hE ⊢;clear vq;go_wp2;exact .mk (hE _ hC1)
   apply yN_
   ·apply dP [(7,some 74)];exact fun _=>rfl;rfl;intro vals vq w1 hC1 E hE;simp only [sP,vq] at hE ⊢;clear vq;go_wp2;exact .mk (hE _ hC1)
   apply yN_
   ·apply dP [(3,some 70),(8,some 75)];exact fun _=>rfl;rfl;intro vals vq w1 hC1 E hE;simp only [sP,vq] at hE ⊢;clear vq;go_wp2;exact .mk (hE _ hC1)
   apply yN_
   ·apply dP [];exact fun _=>rfl;rfl;intro vals vq w1 hC1 E hE;clear vq;simp only [sP] at hE ⊢;go_wp2;exact .mk (hE _ hC1)
   apply yN_
   ·apply dP [(10,some 77)];exact fun _=>rfl;rfl;intro vals vq w1 hC1 E hE;simp only [sP,vq] at hE ⊢;clear vq;go_wp2;exact .mk (hE _ hC1)
   apply yN_
   ·apply dP [(11,some 78)];exact fun _=>rfl;rfl;intro vals vq w1 hC1 E hE;have d0:=hC1.x.cell 2;rw [List.getElem?_toArray,E2.out] at d0;simp only [sP,vq] at hE ⊢;clear vq;go_wp2;exact .mk (hE _ hC1)
   apply yN_
   ·apply dP [(12,some 79)];exact fun _=>rfl;rfl;intro vals vq w1 hC1 E hE;simp only [sP,vq] at hE ⊢;clear vq;go_wp2;exact .mk (hE _ hC1)
   apply yN_
   ·apply dP [(13,some 80)];exact fun _=>rfl;rfl;intro vals vq w1 hC1 E hE;simp only [sP,vq] at hE ⊢;clear vq;go_wp2;exact .mk (hE _ hC1)
   apply yN_
   ·apply dP [(9,some 76),(14,some 81)];exact fun _=>rfl;rfl;intro vals vq w1 hC1 E hE;simp only [sP,vq] at hE ⊢;clear vq;go_wp2;exact .mk (hE _ hC1)
   apply yN_
   ·apply dP [];exact fun _=>rfl;rfl;intro vals vq w1 hC1 E hE;clear vq;simp only [sP] at hE ⊢;go_wp2;exact .mk (hE _ hC1)
   apply yN_
   ·apply dP [(16,some 83)];exact fun _=>rfl;rfl;intro vals vq w1 hC1 E hE;simp only [sP,vq] at hE ⊢;clear vq;go_wp2;exact .mk (hE _ hC1)
   apply yN_
   ·apply dP [(17,some 84)];exact fun _=>rfl;rfl;intro vals vq w1 hC1 E hE;have d0:=hC1.x.cell 3;rw [List.getElem?_toArray,E3.out] at d0;simp only [sP,vq] at hE ⊢;clear vq;go_wp2;exact .mk (hE _ hC1)
   apply yN_
   ·apply dP [(18,some 85)];exact fun _=>rfl;rfl;intro vals vq w1 hC1 E hE;simp only [sP,vq] at hE ⊢;clear vq;go_wp2;exact .mk (hE _ hC1)
   apply yN_
   ·apply dP [(19,some 86)];exact fun _=>rfl;rfl;intro vals vq w1 hC1 E hE;simp only [sP,vq] at hE ⊢;clear vq;go_wp2;exact .mk (hE _ hC1)
   apply yN_
   ·apply dP [(15,some 82),(20,some 87)];exact fun _=>rfl;rfl;intro vals vq w1 hC1 E hE;simp only [sP,vq] at hE ⊢;clear vq;go_wp2;exact .mk (hE _ hC1)
   apply yL_
   ·apply dP [(21,some 88),(0,some 67),(1,some 68),(2,some 69),(3,some 70),(4,some 71),(5,some 72),(6,some 73),(7,some 74),(8,some 75),(9,some 76),(10,some 77),(11,some 78),(12,some 79),(13,some 80),(14,some 81),(15,some 82),(16,some 83),(17,some 84),(18,some 85),(19,some 86),(20,some 87),(21,some 88)];exact fun _=>rfl;rfl;intro vals vq w1 hC1 E hE;simp only [sP,vq] at hE ⊢;clear vq;go_wp2;exact .mk (hE _ hC1)
   intro vals vq w1 hC1;simp only [sP,vq];clear vq;clear HC0;go_wp2_with fail;go_ret;exact ⟨qbr (by rw [← HV.out]; omega),by rw [← HGT.out]; exact hC1.bel⟩
theorem root3_any (p:Nat) (w:World) (hp:p<65536):Calls Tryz.prog 88 #[.int .i64 p,.int .i64 3] w fun e w'=>e=.returned (.int .u64 (rootN p 3:Nat))∧Below w.heap.size w w':=by
 have hmkT:∀ u:World,(Instr.makeSlice 30 (.int .i64 13) (.int .i64 13)).run Tryz.prog u=.ok (.slice (some ⟨u.heap.size,0,none⟩) 13 13) (u.alloc (.cells (wordsV .i64 (digs 13 0)).toArray 3)):=fun _=>by kernel_rfl
 have hmk5:∀ u:World,(Instr.makeSlice 30 (.int .i64 5) (.int .i64 5)).run Tryz.prog u=.ok (.slice (some ⟨u.heap.size,0,none⟩) 5 5) (u.alloc (.cells (wordsV .i64 (digs 5 0)).toArray 3)):=fun _=>by kernel_rfl
 have hb0:=Blk.new w 3 (wordsV .i64 (digs 13 0)).toArray;have dT:(w.alloc (.cells (wordsV .i64 (digs 13 0)).toArray 3)).cell? ⟨w.heap.size,12,none⟩=some (.int .i64 0):=hb0.cell 12;have fT:=hb0.free 12;have hset:(wordsV .i64 (digs 13 0)).set 12 (.int .i64 (p:Int))=wordsV .i64 ((digs 13 0).set 12 p):=by simp [wordsV,List.map_set]
 obtain ⟨TL,hTL⟩:=eX ((digs 13 0).set 12 p);have hTd:∀ d ∈ TL,d<65536:=by rw [hTL]; exact qdY (digs_lt _ _) hp
 have hTv:dval TL=p*65536^12:=by
  have h:=qbY (digs 13 0) 12 p (by rw [qaw]; decide);rw [qbs _ _ (digs_lt _ _),qaU _ _ (by decide)] at h;rw [hTL]
  simpa using h
 have hTl:TL.length=13:=by rw [hTL,List.length_set,qaw]
 rw [← hTL] at hset;have HSET:=zY hset;have HTD:=zY hTd;have HTV:=zY hTv;have HTL:=zY hTl;clear hb0 hset hTL hTd hTv hTl;have hpl:(p:Int)<65536:=by omega
 clear hp;go_enter Tryz.func88,Tryz.ntmps88;go_wp2_with fail;rw [HSET.out];obtain ⟨gt,hgt⟩:=eX (w.heap.size);obtain ⟨gx,hgx⟩:=eX (w.heap.size+1)
 have hst0:RtSt w gt gx TL (rootX p 3 0) ((w.alloc (.cells (wordsV .i64 TL).toArray 3)).alloc (.cells (wordsV .i64 (digs 5 0)).toArray 3)):=by
  rw [hgt,hgx];exact ⟨(below_new _ _).alloc (by simp) _,(Blk.new _ _ _).alloc _,by have:=Blk.new (w.alloc (.cells (wordsV .i64 TL).toArray 3)) 3 (wordsV .i64 (digs 5 0)).toArray; exact (by simpa using this:Blk _ (w.heap.size+1) 3 (wordsV .i64 (digs 5 0)).toArray),by omega⟩
 rw [← hgx,← hgt];have HGT:=zY hgt;clear hgt hgx hmkT hmk5 dT fT
 go_loopw [7] (fun i wr=>∃ n:Nat,n≤69∧i=.int .i64 (68 - (n:Int))∧RtSt w gt gx TL (rootX p 3 n) wr) (fun i _=>(intOf i+1).toNat)
 case atStart=>exact ⟨0,by omega,rfl,hst0⟩
 case round =>
  obtain ⟨n,hn,rfl,hst⟩:=hrel;clear hst0
  by_cases hlt:n<69
  ·obtain ⟨b,hb⟩:∃ b:Nat,(68 - (n:Int))=(b:Int):=⟨68 - n,by omega⟩;rw [hb];have hbn:b+n=68:=by omega
   obtain ⟨X,hX⟩:=eX (rootX p 3 n);have hXl:=qcS p 3 n hn;have hXd:=qd1 p 3 n hn
   have hnext:rootX p 3 (n+1)=if p*65536^12<(X+2^b)^3 then X else X+2^b:=by
    rw [rootX,← hX,show 68 - n=b by omega]
   rw [← hX] at hst hXl hXd;rw [show 69 - n=b+1 by omega] at hXl hXd;obtain ⟨q,hq⟩:=eX (b/16);obtain ⟨r,hr⟩:=eX (b%16);have hq5:q<5:=by omega
   have hr16:r<16:=by omega
   have hX80:X+2^b<65536^5:=by
    have h2:2^(b+1)=2*2^b:=by rw [Nat.pow_succ,Nat.mul_comm]
    have h3:(2:Nat)^69<65536^5:=by decide
    omega
   obtain ⟨hda,hdl⟩:=dig_add (n:=5) (bit:=b) (X:=X) (by omega) (by omega) hXd;rw [← hq,← hr] at hda hdl;obtain ⟨X1,hX1⟩:=eX (X+2^b);obtain ⟨d0,hd0⟩:=eX ((digs 5 X).getD q 0);obtain ⟨D,hD⟩:=eX (2^r);rw [← hX1,← hd0,← hD] at hda;rw [← hd0,← hD] at hdl;rw [← hX1] at hnext hX80;have hset1:(wordsV .i64 (digs 5 X)).toArray.setIfInBounds q (.int .i64 ((d0+D:Nat):Int))=(wordsV .i64 (digs 5 X1)).toArray:=by rw [qbv,hda]
   have hset2:(wordsV .i64 (digs 5 X1)).toArray.setIfInBounds q (.int .i64 (d0:Int))=(wordsV .i64 (digs 5 X)).toArray:=by
    rw [qbv,← hda,List.set_set,hd0]
    congr 2
    rw [List.getD_eq_getElem?_getD,List.getElem?_eq_getElem (by rw [qaw]; exact hq5),Option.getD_some,List.set_getElem_self]
   have hc1:(wordsV .i64 (digs 5 X))[q]?=some (.int .i64 (d0:Int)):=by rw [hd0]; exact qaG (by rw [qaw]; exact hq5)
   have hc2:(wordsV .i64 (digs 5 X1))[q]?=some (.int .i64 ((d0+D:Nat):Int)):=by
    rw [← hda,wordsV,List.getElem?_map,List.getElem?_set_self (by rw [qaw]; exact hq5)]; rfl
   have hqb:(b:Int)/16=(q:Int):=by omega
   have hrb:(b:Int)%16=(r:Int):=by omega
   have hDl:D≤32768:=by rw [hD]; exact Nat.pow_le_pow_right (n:=2) (by decide) (show r≤15 by omega)
   have dx:=hst.x.cell q;rw [List.getElem?_toArray,hc1] at dx;have fx:=hst.x.free q;have hd0l:d0+D≤65535:=by omega
   have HX:=zY hX;have HNEXT:=zY hnext;have HX80:=zY hX80;have HX1:=zY hX1;have HSET1:=zY hset1;have HSET2:=zY hset2;have HC2:=zY hc2;have HD:=zY hD;have HST:=zY hst;have HB:=zY hb;have HBN:=zY hbn;have hb0:(0:Int)≤(b:Int):=by omega
   clear hb hbn hX hXl hXd hnext hq hr hX80 hda hdl hX1 hd0 hD hset1 hset2 hc1 hc2 hst hlt hn;go_wp2_with fail
   go_loop [8,9] (fun v i=>∃ j e:Nat,j≤r∧i=.int .i64 j∧e=2^j∧v=.int .i64 e) (fun _ i=>r - (intOf i).toNat)
   case atStart=>exact ⟨0,1,by omega,rfl,rfl,rfl⟩
   case round =>
    obtain ⟨j,e,hj,rfl,he,rfl⟩:=hrel
    by_cases hjr:j<r
    ·have hjr':(j:Int)<(r:Int):=by omega
     have hel:e≤16384:=by rw [he]; exact Nat.pow_le_pow_right (n:=2) (by decide) (show j≤14 by omega)
     have HE:=zY he;clear he;go_wp2_with fail;exact ⟨⟨j+1,2*e,by omega,by go_num,by rw [HE.out,Nat.pow_succ,Nat.mul_comm],by go_num⟩,by simp [intOf]; omega⟩
    ·obtain rfl:j=r:=by omega
     obtain rfl:e=D:=by rw [he,HD.out]
     clear he;go_wp2_with fail;obtain ⟨w2,hw2⟩:∃ x,x=wr.setCell ⟨gx,q,none⟩ (.int .i64 ((d0:Int)+(e:Int))):=⟨_,rfl⟩
     have hst2:RtSt w gt gx TL X1 w2:=by
      rw [hw2];refine HST.out.put (qah _ _ _ _) ?_;have h:=qaj (i:=q) HST.out.x (.int .i64 ((d0+e:Nat):Int));rw [HSET1.out] at h;exact h
     rw [← hw2];have hx2:=Rd.of_blk (B:=w2.heap.size) hst2.x hst2.x.lt;have hm:=mulA_any (digs 5 X1) (digs 5 X1) (digs_lt _ _) (digs_lt _ _) _ _ 5 5 _ _ w2 hx2 hx2 (qaw _ _) (qaw _ _) (Nat.le_refl _) (Nat.le_refl _) (Nat.le_refl _) (Nat.le_refl _);refine qaa hm ?_;rintro e1 w3 ⟨g1,rfl,hg1,hb1,hbel1⟩;rw [qaU 5 X1 HX80.out] at hb1;have hst3:=hst2.next hbel1;clear hw2 hst2 hx2 hm hbel1 hg1 dx fx HSET1 HST;have HST3:=zY hst3;have HB1:=zY hb1;clear hst3 hb1;go_wp2_with fail;have hx3:=Rd.of_blk (B:=w3.heap.size) HST3.out.x HST3.out.x.lt;have hm:=mulB_any (digs 10 (X1*X1)) (digs 5 X1) (digs_lt _ _) (digs_lt _ _) _ _ 10 5 _ _ w3 (Rd.of_blk (B:=w3.heap.size) HB1.out HB1.out.lt) hx3 (qaw _ _) (qaw _ _) (Nat.le_refl _) (Nat.le_refl _) (Nat.le_refl _) (Nat.le_refl _);refine qaa hm ?_;rintro e1 w5 ⟨g3,rfl,hg3,hb3,hbel3⟩;rw [qaU 5 X1 HX80.out,qaU 10 (X1*X1) (by have:=HX80.out; exact Nat.lt_of_lt_of_le (Nat.mul_lt_mul'' this this) (by decide))] at hb3;have hst3:=HST3.out.next hbel3;clear HST3 HB1 hx3 hm hbel3 hg3;obtain ⟨w3,rfl⟩:=eX w5;obtain ⟨g1,rfl⟩:=eX g3;have hb1:=hb3;clear hb3;have HST3:=zY hst3;have HB1:=zY hb1;clear hst3 hb1;go_wp2_with fail;have hls:=less_any TL (digs 15 (X1*X1*X1)) HTD.out (digs_lt _ _) (some ⟨gt,0,none⟩) (some ⟨g1,0,none⟩) 13 15 w3.heap.size w3.heap.size 13 15 w3 (Rd.of_blk HST3.out.t HST3.out.t.lt) (Rd.of_blk HB1.out HB1.out.lt) HTL.out (qaw _ _) (by decide) (by decide) (Nat.le_refl _) (Nat.le_refl _);refine qaa hls ?_;rintro e1 w4 ⟨rfl,rfl⟩;clear hls;have hpw:X1*X1*X1<65536^15:=by have:=HX80.out; exact Nat.lt_of_lt_of_le (Nat.mul_lt_mul'' (Nat.mul_lt_mul'' this this) this) (by decide)
     rw [HTV.out,qaU _ _ hpw,show X1*X1*X1=X1^3 by simp [Nat.pow_succ]];clear hpw;have dx2:=HST3.out.x.cell q;rw [List.getElem?_toArray,HC2.out] at dx2;have fx2:=HST3.out.x.free q
     by_cases hmo:p*65536^12<X1^3
     ·rw [decide_eq_true hmo]
      have hfin:RtSt w gt gx TL (rootX p 3 (n+1)) (w3.setCell ⟨gx,q,none⟩ (.int .i64 (d0:Int))):=by
       rw [HNEXT.out,if_pos hmo];refine HST3.out.put (qah _ _ _ _) ?_;have h:=qaj (i:=q) HST3.out.x (.int .i64 (d0:Int));rw [HSET2.out] at h;exact h
      have HFIN:=zY hfin;clear hfin hmo;go_wp2_with fail;have:=HBN.out;exact ⟨⟨n+1,by omega,congrArg (Value.int .i64) (by omega),HFIN.out⟩,by simp [intOf]⟩
     ·rw [decide_eq_false hmo]
      have hfin:RtSt w gt gx TL (rootX p 3 (n+1)) w3:=by
       rw [HNEXT.out,if_neg hmo];exact HST3.out
      have HFIN:=zY hfin;clear hfin hmo;go_wp2_with fail;have:=HBN.out;exact ⟨⟨n+1,by omega,congrArg (Value.int .i64) (by omega),HFIN.out⟩,by simp [intOf]⟩
  ·obtain rfl:n=69:=by omega
   rw [show (68 - ((69:Nat):Int))=-1 from rfl];obtain ⟨X,hX⟩:=eX (rootX p 3 69);rw [← hX] at hst
   have hXl:X<65536^5:=by
    have:=qcS p 3 69 (Nat.le_refl _);rw [← hX] at this;have h3:(2:Nat)^69<65536^5:=by decide
    omega
   have hgd:∀ i,(digs 5 X).getD i 0=X/65536^i%65536:=fun i=>by rw [qbs _ _ (digs_lt _ _),qaU 5 X hXl]
   have hws:∀ i,i<5→(wordsV .i64 (digs 5 X))[i]?=some (.int .i64 ((X/65536^i%65536:Nat):Int)):=fun i hi=>by rw [qaG (by rw [qaw]; exact hi),hgd]
   obtain ⟨x0,h0⟩:=eX (X%65536);obtain ⟨x1,h1⟩:=eX (X/65536%65536);obtain ⟨x2,h2⟩:=eX (X/4294967296%65536);obtain ⟨x3,h3⟩:=eX (X/281474976710656%65536);have E0:Hid ((wordsV .i64 (digs 5 X))[0]?=some (.int .i64 (x0:Int))):=zY (by rw [hws 0 (by decide),h0] <;> simp);have E1:Hid ((wordsV .i64 (digs 5 X))[1]?=some (.int .i64 (x1:Int))):=zY (by rw [hws 1 (by decide),h1] <;> simp);have E2:Hid ((wordsV .i64 (digs 5 X))[2]?=some (.int .i64 (x2:Int))):=zY (by rw [hws 2 (by decide),h2]);have E3:Hid ((wordsV .i64 (digs 5 X))[3]?=some (.int .i64 (x3:Int))):=zY (by rw [hws 3 (by decide),h3])
   have hv:x0+x1*65536+x2*4294967296+x3*281474976710656=rootN p 3:=by
    rw [rootN,← hX,h0,h1,h2,h3];omega
   have l0:(x0:Int)<65536:=by omega
   have l1:(x1:Int)<65536:=by omega
   have l2:(x2:Int)<65536:=by omega
   have l3:(x3:Int)<65536:=by omega
   have HV:=zY hv;have HC0:=hst.drew;clear hX hXl hgd hws h0 h1 h2 h3 hv hst hlt hn;go_wp2_with fail;refine qal (fun u=>RtSt w gt gx TL X u) (fun u=>RtSt w gt gx TL X u) [(0,some 67),(1,some 68),(2,some 69),(3,some 70),(4,some 71),(5,some 72),(6,some 73),(7,some 74),(8,some 75),(9,some 76),(10,some 77),(11,some 78),(12,some 79),(13,some 80),(14,some 81),(15,some 82),(16,some 83),(17,some 84),(18,some 85),(19,some 86),(20,some 87),(21,some 88),(22,some 4)] (by kernel_rfl) (by kernel_rfl) (by decide) (by kernel_rfl) (fun _=>rfl) HC0 ?_;apply yN_
   ·apply dP [];exact fun _=>rfl;rfl;rintro vals - w1 hC1 E hE;simp only [sP] at hE ⊢;go_wp2;exact .mk (hE _ hC1)
   apply yN_
   ·apply dP [(0,some 67)];exact fun _=>rfl;rfl;intro vals vq w1 hC1 E hE;simp only [sP,vq] at hE ⊢;clear vq;go_wp2;exact .mk (hE _ hC1)
   apply yN_
   ·apply dP [(1,some 68)];exact fun _=>rfl;rfl;intro vals vq w1 hC1 E hE;have d0:=hC1.x.cell 0;rw [List.getElem?_toArray,E0.out] at d0;simp only [sP,vq] at hE ⊢;clear vq;go_wp2;exact .mk (hE _ hC1)
   apply yN_
   ·apply dP [(2,some 69)];exact fun _=>rfl;rfl;intro vals vq w1 hC1 E hE;simp only [sP,vq] at hE ⊢;clear vq;go_wp2;exact .mk (hE _ hC1)
   apply yN_
   ·apply dP [];exact fun _=>rfl;rfl;intro vals vq w1 hC1 E hE;clear vq;simp only [sP] at hE ⊢;go_wp2;exact .mk (hE _ hC1)
   apply yN_
   ·apply dP [(4,some 71)];exact fun _=>rfl;rfl;intro vals vq w1 hC1 E hE;simp only [sP,vq] at hE ⊢;clear vq;go_wp2;exact .mk (hE _ hC1)
   apply yN_
   ·apply dP [(5,some 72)];exact fun _=>rfl;rfl;intro vals vq w1 hC1 E hE;have d0:=hC1.x.cell 1;rw [List.getElem?_toArray,E1.out] at d0;simp only [sP,vq] at hE ⊢;clear vq;go_wp2;exact .mk (hE _ hC1)
   apply yN_
   ·apply dP [(6,some 73)];exact fun _=>rfl;rfl;intro vals vq w1 hC1 E hE;simp only [sP,vq] at hE ⊢;clear vq;go_wp2;exact .mk (hE _ hC1)
   apply yN_
   ·apply dP [(7,some 74)];exact fun _=>rfl;rfl;intro vals vq w1 hC1 E hE;simp only [sP,vq] at hE ⊢;clear vq;go_wp2;exact .mk (hE _ hC1)
   apply yN_
   ·apply dP [(3,some 70),(8,some 75)];exact fun _=>rfl;rfl;intro vals vq w1 hC1 E hE;simp only [sP,vq] at hE ⊢;clear vq;go_wp2;exact .mk (hE _ hC1)
   apply yN_
   ·apply dP [];exact fun _=>rfl;rfl;intro vals vq w1 hC1 E hE;clear vq;simp only [sP] at hE ⊢;go_wp2;exact .mk (hE _ hC1)
   apply yN_
   ·apply dP [(10,some 77)];exact fun _=>rfl;rfl;intro vals vq w1 hC1 E hE;simp only [sP,vq] at hE ⊢;clear vq;go_wp2;exact .mk (hE _ hC1)
   apply yN_
   ·apply dP [(11,some 78)];exact fun _=>rfl;rfl;intro vals vq w1 hC1 E hE;have d0:=hC1.x.cell 2;rw [List.getElem?_toArray,E2.out] at d0;simp only [sP,vq] at hE ⊢;clear vq;go_wp2;exact .mk (hE _ hC1)
   apply yN_
   ·apply dP [(12,some 79)];exact fun _=>rfl;rfl;intro vals vq w1 hC1 E hE;simp only [sP,vq] at hE ⊢;clear vq;go_wp2;exact .mk (hE _ hC1)
   apply yN_
   ·apply dP [(13,some 80)];exact fun _=>rfl;rfl;intro vals vq w1 hC1 E hE;simp only [sP,vq] at hE ⊢;clear vq;go_wp2;exact .mk (hE _ hC1)
   apply yN_
   ·apply dP [(9,some 76),(14,some 81)];exact fun _=>rfl;rfl;intro vals vq w1 hC1 E hE;simp only [sP,vq] at hE ⊢;clear vq;go_wp2;exact .mk (hE _ hC1)
   apply yN_
   ·apply dP [];exact fun _=>rfl;rfl;intro vals vq w1 hC1 E hE;clear vq;simp only [sP] at hE ⊢;go_wp2;exact .mk (hE _ hC1)
   apply yN_
   ·apply dP [(16,some 83)];exact fun _=>rfl;rfl;intro vals vq w1 hC1 E hE;simp only [sP,vq] at hE ⊢;clear vq;go_wp2;exact .mk (hE _ hC1)
   apply yN_
   ·apply dP [(17,some 84)];exact fun _=>rfl;rfl;intro vals vq w1 hC1 E hE;have d0:=hC1.x.cell 3;rw [List.getElem?_toArray,E3.out] at d0;simp only [sP,vq] at hE ⊢;clear vq;go_wp2;exact .mk (hE _ hC1)
   apply yN_
   ·apply dP [(18,some 85)];exact fun _=>rfl;rfl;intro vals vq w1 hC1 E hE;simp only [sP,vq] at hE ⊢;clear vq;go_wp2;exact .mk (hE _ hC1)
   apply yN_
   ·apply dP [(19,some 86)];exact fun _=>rfl;rfl;intro vals vq w1 hC1 E hE;simp only [sP,vq] at hE ⊢;clear vq;go_wp2;exact .mk (hE _ hC1)
   apply yN_
   ·apply dP [(15,some 82),(20,some 87)];exact fun _=>rfl;rfl;intro vals vq w1 hC1 E hE;simp only [sP,vq] at hE ⊢;clear vq;go_wp2;exact .mk (hE _ hC1)
   apply yL_
   ·apply dP [(21,some 88),(0,some 67),(1,some 68),(2,some 69),(3,some 70),(4,some 71),(5,some 72),(6,some 73),(7,some 74),(8,some 75),(9,some 76),(10,some 77),(11,some 78),(12,some 79),(13,some 80),(14,some 81),(15,some 82),(16,some 83),(17,some 84),(18,some 85),(19,some 86),(20,some 87),(21,some 88)];exact fun _=>rfl;rfl;intro vals vq w1 hC1 E hE;simp only [sP,vq] at hE ⊢;clear vq;go_wp2;exact .mk (hE _ hC1)
   intro vals vq w1 hC1;simp only [sP,vq];clear vq;clear HC0;go_wp2_with fail;go_ret;exact ⟨qbr (by rw [← HV.out]; omega),by rw [← HGT.out]; exact hC1.bel⟩
theorem qdh {w:World} {B1 B2 n1 n2 s1 s2:Nat} {e1 e2:TypeId} {v1 v2:Value} {x1 x2:List Value} (h1:OwnX w B1 e1 s1 v1 n1 x1) (h2:OwnX w B2 e2 s2 v2 n2 x2) (hne:e1≠e2):v1.ownBlock=none∨v1.ownBlock≠v2.ownBlock:=by
 rcases h1.2 with ⟨rfl,_⟩ | ⟨g,cap,cur,fz,rfl,_,hg,_⟩
 ·exact .inl rfl
 ·refine .inr fun e=>?_;have e2':v2.ownBlock=some g:=e.symm
  rcases h2.2 with ⟨rfl,_⟩ | ⟨g',cap',cur',fz',rfl,_,hg',_⟩
  ·simp [Value.ownBlock] at e2'
  ·simp [Value.ownBlock] at e2';subst e2';rw [hg] at hg';simp at hg';exact hne hg'.2.1
theorem slu_size:(Tryz.prog.info? 92).map (·.size)=some 1:=by kernel_rfl
structure OfG where
 g0:Nat
 gh:Nat
 ga:Nat
 gb:Nat
 gc:Nat
 gd:Nat
structure OfSt (w0:World) (G:OfG) (F:ShaF) (z:Array Value) (vP:Value) (cs:Array Value) (vK:Value) (kl:List Nat) (vF:Value) (fl:List Nat) (u:World):Prop where
 bel:Below G.g0 w0 u
 res:Blk u G.g0 94 z
 h:Blk u G.gh 94 cs
 a:Blk u G.ga 3 (tri F.s0).toArray
 b:Blk u G.gb 3 (tri F.s1).toArray
 c:Blk u G.gc 3 (tri F.t0).toArray
 d:Blk u G.gd 3 (tri F.t1).toArray
 p:OwnX u G.g0 3 1 vP 80 (wordsV .i64 primes80)
 k:OwnX u G.g0 43 1 vK kl.length (wordsV .u64 kl)
 f:OwnX u G.g0 43 1 vF fl.length (wordsV .u64 fl)
 ne:vF.ownBlock=none∨vF.ownBlock≠vK.ownBlock
 lt:G.g0<G.gh
section
variable {w0 u u':World} {G:OfG} {F:ShaF} {z cs cs':Array Value} {vP vK vF v':Value} {kl fl:List Nat}
theorem OfSt.next (h:OfSt w0 G F z vP cs vK kl vF fl u) (hb:Below u.heap.size u u'):OfSt w0 G F z vP cs vK kl vF fl u' :=
 ⟨h.bel.trans (hb.mono (by have:=h.res.lt; omega)),h.res.below hb h.res.lt,h.h.below hb h.h.lt,h.a.below hb h.a.lt,h.b.below hb h.b.lt,h.c.below hb h.c.lt,h.d.below hb h.d.lt,
  h.p.below hb (Nat.le_refl _),h.k.below hb (Nat.le_refl _),h.f.below hb (Nat.le_refl _),h.ne,h.lt⟩
theorem OfSt.drew (h:OfSt w0 G F z vP cs vK kl vF fl u):OfSt w0 G F z vP cs vK kl vF fl u.drew:=h.next (Below.refl _ _).drew
theorem OfSt.put (h:OfSt w0 G F z vP cs vK kl vF fl u) (hw:Wrote G.gh u u') (hb:Blk u' G.gh 94 cs') (hd:G.ga≠G.gh∧G.gb≠G.gh∧G.gc≠G.gh∧G.gd≠G.gh):OfSt w0 G F z vP cs' vK kl vF fl u' :=
 ⟨hw.below h.bel (Nat.le_of_lt h.lt) (by have:=h.res.lt; omega),hw.blk h.res (Nat.ne_of_lt h.lt),hb,hw.blk h.a hd.1,hw.blk h.b hd.2.1,hw.blk h.c hd.2.2.1,hw.blk h.d hd.2.2.2,
  hw.own h.p (qaN h.p h.h (by decide)),hw.own h.k (qaN h.k h.h (by decide)),hw.own h.f (qaN h.f h.h (by decide)),h.ne,h.lt⟩
theorem qbL {g:Nat} {o:Option Nat} (h:o≠some g):some g≠o:=fun e=>h e.symm
theorem OfSt.appK {x:Nat} (h:OfSt w0 G F z vP cs vK kl vF fl u) (ho:OwnX u' G.g0 43 1 v' (kl.length+1) (wordsV .u64 kl++[.int .u64 (x:Int)])) (hg:u.grownBy u' vK.ownBlock) (hn:vF.ownBlock=none):OfSt w0 G F z vP cs v' (kl++[x]) vF fl u' :=
 ⟨h.bel.grown hg (by have:=h.res.lt; omega) (fun k hk=>(h.k.lt k hk).1),h.res.grown hg (qbL (qaN h.k h.res (by decide))),h.h.grown hg (qbL (qaN h.k h.h (by decide))),h.a.grown hg (qbL (qaN h.k h.a (by decide))),h.b.grown hg (qbL (qaN h.k h.b (by decide))),
  h.c.grown hg (qbL (qaN h.k h.c (by decide))),h.d.grown hg (qbL (qaN h.k h.d (by decide))),h.p.kept hg (qdh h.p h.k (by decide)),by rw [List.length_append,qbC]; exact ho,h.f.kept hg (.inl hn),.inl hn,h.lt⟩
theorem OfSt.appF {x:Nat} (h:OfSt w0 G F z vP cs vK kl vF fl u) (ho:OwnX u' G.g0 43 1 v' (fl.length+1) (wordsV .u64 fl++[.int .u64 (x:Int)])) (hg:u.grownBy u' vF.ownBlock) (hn:Next u vF v'):OfSt w0 G F z vP cs vK kl v' (fl++[x]) u':=by
 refine ⟨h.bel.grown hg (by have:=h.res.lt; omega) (fun k hk=>(h.f.lt k hk).1),h.res.grown hg (qbL (qaN h.f h.res (by decide))),h.h.grown hg (qbL (qaN h.f h.h (by decide))),h.a.grown hg (qbL (qaN h.f h.a (by decide))),h.b.grown hg (qbL (qaN h.f h.b (by decide))),
  h.c.grown hg (qbL (qaN h.f h.c (by decide))),h.d.grown hg (qbL (qaN h.f h.d (by decide))),h.p.kept hg (qdh h.p h.f (by decide)),h.k.kept hg ?_,by rw [List.length_append,qbC]; exact ho,?_,h.lt⟩
 ·rcases h.ne with h1 | h1
  ·rw [h1]
   cases vK.ownBlock with
   | none=>exact .inl rfl
   | some k=>exact .inr (by simp)
  ·exact .inr (Ne.symm h1)
 ·rcases hn with h1 | h1
  ·rw [h1]; exact h.ne
  ·cases ho2:v'.ownBlock with
   | none=>exact .inl rfl
   | some k =>
    have h2:=h1 k ho2;refine .inr fun e=>?_;have:=(h.k.lt k e.symm).2;omega
end
def OfPost (F:ShaF) (w:World) (e:Ending) (w':World):Prop :=
 ∃ p:HP,e=.returned (.agg (hv F p))∧HOk F p w' w'.heap.size∧Below w.heap.size w w'
theorem prime_lt (i:Nat) (h:i<80):primes80.getD i 0<65536:=by
 have hm:primes80.getD i 0 ∈ primes80:=by
  rw [List.getD_eq_getElem?_getD,List.getElem?_eq_getElem (show i<primes80.length from h)]; exact List.getElem_mem _
 have:=(List.all_eq_true.1 primes_lt) _ hm;rw [decide_eq_true_eq] at this;exact this.2
structure HsSt (w0:World) (gf:Nat) (F:ShaF) (p:HP) (dA:Option Addr) (data:List UInt8) (u:World):Prop where
 bel:Below gf w0 u
 h:Blk u gf 94 (hv F p)
 ok:HOk F p u gf
 rd:Rd u gf dA (bytesV data)
structure HsA (w0:World) (gf:Nat) (F:ShaF) (p:HP) (dA:Option Addr) (data:List UInt8) (v:Value) (xs:List UInt8) (u:World):Prop where
 st:HsSt w0 gf F p dA data u
 own:OwnX u (gf+1) 5 1 v xs.length (bytesV xs)
structure HsB (w0:World) (gf:Nat) (F:ShaF) (p:HP) (dA:Option Addr) (data:List UInt8) (v:Value) (xs:List UInt8) (A:Option Addr) (c:Nat) (V:S8) (u:World):Prop where
 a:HsA w0 gf F p dA data v xs u
 s:OwnX u (gf+1) 43 1 (.slice A 8 c) 8 (wordsV .u64 (s8L V))
section
variable {w0 u u':World} {gf:Nat} {F:ShaF} {p:HP} {dA A A':Option Addr} {data xs ys:List UInt8} {v v':Value} {c c':Nat} {V V':S8}
theorem HsSt.keep (h:HsSt w0 gf F p dA data u) (hb:Below (gf+1) u u'):HsSt w0 gf F p dA data u' :=
 ⟨h.bel.trans (hb.mono (by omega)),h.h.below hb (by omega),h.ok.below (hb.mono (by omega)),h.rd.below (hb.mono (by omega))⟩
theorem HsSt.next (h:HsSt w0 gf F p dA data u) (hb:Below u.heap.size u u'):HsSt w0 gf F p dA data u':=h.keep (hb.mono (by have:=h.h.lt; omega))
theorem HsSt.grow {e:TypeId} {s n:Nat} {v:Value} {zs:List Value} (h:HsSt w0 gf F p dA data u) (ho:OwnX u (gf+1) e s v n zs) (hg:u.grownBy u' v.ownBlock):HsSt w0 gf F p dA data u' :=
 h.keep (qbl hg (by have:=h.h.lt; omega) (fun k hk=>(ho.lt k hk).1))
theorem HsA.next (h:HsA w0 gf F p dA data v xs u) (hb:Below u.heap.size u u'):HsA w0 gf F p dA data v xs u':=⟨h.st.next hb,h.own.below hb (Nat.le_refl _)⟩
theorem HsA.drew (h:HsA w0 gf F p dA data v xs u):HsA w0 gf F p dA data v xs u.drew:=h.next (Below.refl _ _).drew
theorem HsA.app (h:HsA w0 gf F p dA data v xs u) (hg:u.grownBy u' v.ownBlock) (ho:OwnX u' (gf+1) 5 1 v' ys.length (bytesV ys)):HsA w0 gf F p dA data v' ys u':=⟨h.st.grow h.own hg,ho⟩
theorem HsB.next (h:HsB w0 gf F p dA data v xs A c V u) (hb:Below u.heap.size u u'):HsB w0 gf F p dA data v xs A c V u':=⟨h.a.next hb,h.s.below hb (Nat.le_refl _)⟩
theorem HsB.drew (h:HsB w0 gf F p dA data v xs A c V u):HsB w0 gf F p dA data v xs A c V u.drew:=h.next (Below.refl _ _).drew
theorem HsB.app (h:HsB w0 gf F p dA data v xs A c V u) (hg:u.grownBy u' v.ownBlock) (ho:OwnX u' (gf+1) 5 1 v' ys.length (bytesV ys)):HsB w0 gf F p dA data v' ys A c V u' :=
 ⟨h.a.app hg ho,h.s.kept hg (qdh h.s h.a.own (by decide))⟩
end
def zeroR (F:ShaF) (n:Nat):Nat:=(2*F.bits - (n+1+F.bits/4)%(2*F.bits))%(2*F.bits)
def lenB (F:ShaF) (n:Nat):List UInt8:=List.replicate (F.bits/4 - 8) 0++be8 (n*8) 8
theorem padR64 (data:List UInt8) (_:data.length≤1000):oneZ data (zeroR F64 data.length)++lenB F64 data.length=padS F64 data:=by
 have h:zeroR F64 data.length+8=zeroN F64 data.length+moreN F64 data.length:=by
  by_cases hm:112≤data.length%128∧data.length%128<120
  ·have e:moreN F64 data.length=128:=if_pos (show _∧_∧_ from ⟨by decide,hm.1,hm.2⟩);rw [e]; simp only [zeroR,zeroN,F64]; omega
  ·have e:moreN F64 data.length=0:=if_neg (fun h=>hm ⟨h.2.1,h.2.2⟩);rw [e]; simp only [zeroR,zeroN,F64]; omega
 have h2:List.replicate (zeroR F64 data.length) (0:UInt8)++List.replicate 8 0=List.replicate (zeroN F64 data.length) 0++List.replicate (moreN F64 data.length) 0:=by
  rw [List.replicate_append_replicate,List.replicate_append_replicate,h]
 rw [padS,lenB,oneZ];simp only [List.append_assoc];rw [show F64.bits/4 - 8=8 from rfl,← List.append_assoc (List.replicate (zeroR F64 data.length) 0),h2];simp only [List.append_assoc]
theorem be8_get (n:Nat):∀ (k i:Nat),i<k→(be8 n k)[i]?=some (UInt8.ofNat (n/2^(56 - 8*i)))
 | k+1,i,h=>by
  rw [be8,List.getElem?_append,qbF]
  split
  ·rename_i h2; exact be8_get n k i h2
  ·obtain rfl:i=k:=by omega
   simp
theorem lenB64_get (n i j:Nat) (hn:n≤1000) (h:i+j+1=16):(bytesV (lenB F64 n))[i]?=some (.int .u8 ((n*8/256^j%256:Nat):Int)):=by
 have e:lenB F64 n=List.replicate 8 0++be8 (n*8) 8:=rfl;rw [e,bytesV,List.getElem?_map,List.getElem?_append,List.length_replicate]
 split
 ·rename_i h8
  rw [List.getElem?_replicate,if_pos h8];have:n*8/256^j=0:=Nat.div_eq_of_lt (Nat.lt_of_lt_of_le (show n*8<256^8 by omega) (Nat.pow_le_pow_right (by decide) (by omega)));rw [this]; rfl
 ·rw [be8_get _ _ _ (by omega),show 56 - 8*(i - 8)=8*j by omega,Nat.pow_mul];simp [byteV]
theorem backC_set_app (e:Nat) (ws:List UInt8) (j i:Nat) (v:Value) (R:Array Value) (hw:ws.length=e) (hi:i+j+1=e) (hv:(bytesV ws)[i]?=some v):(backC e ws j++R).setIfInBounds i v=backC e ws (j+1)++R:=by
 rw [← qev e ws j i v hw hi hv];apply Array.ext';rw [Array.toList_setIfInBounds,Array.toList_append,Array.toList_append,Array.toList_setIfInBounds,List.set_append_left];rw [Array.length_toList,qcz e ws j hw (by omega)]; omega
theorem backC_app_get (e:Nat) (ws:List UInt8) (j i:Nat) (R:Array Value) (hw:ws.length=e) (hi:i+j+1=e):∃ v,(backC e ws j++R)[i]?=some v:=by
 have h:=qcz e ws j hw (by omega);refine ⟨_,Array.getElem?_eq_getElem (by rw [Array.size_append,h]; omega)⟩
theorem own_blk {w:World} {base e n c:Nat} {A:Option Addr} {xs:List Value} (h:w.ownsRow base e 1 (.slice A n c) n xs) (hn:0<n):∃ g R,A=some ⟨g,0,none⟩∧base≤g∧n≤c∧Blk w g e (xs.toArray++R):=by
 rcases h.2 with ⟨_,h0⟩ | ⟨g,cap,cur,hv,hb,hg,hnc,_,_,ht⟩
 ·omega
 ·injection hv with h1 _ h3
  subst h1; subst h3;refine ⟨g,(cur.toList.drop n).toArray,rfl,hb,hnc,?_⟩
  have:xs.toArray++(cur.toList.drop n).toArray=cur:=by
   apply Array.ext';rw [Array.toList_append,← ht,Nat.mul_one];simp
  rw [this]; exact hg
theorem _root_.Go.Proofs.YtdgheahbafnboaaGreatDoor.Rd.of_blk_app {w:World} {g B:Nat} {t:TypeId} {l:List Value} {R:Array Value} (h:Blk w g t (l.toArray++R)) (hB:g<B):Rd w B (some ⟨g,0,none⟩) l:=fun i u hu=>by
 refine ⟨_,rfl,hB,?_⟩;have hadd:(⟨g,0,none⟩:Addr).add i=⟨g,i,none⟩:=by unfold Addr.add; split <;> simp_all
 have hlt:=(List.getElem?_eq_some_iff.1 hu).1;rw [hadd,h.cell i,Array.getElem?_append_left (by simpa using hlt)]
 simpa using hu
def HSumPost (F:ShaF) (m:Nat) (data:List UInt8) (w:World) (e:Ending) (w':World):Prop :=
 ∃ A c,e=.returned (.slice A m c)∧OwnX w' w.heap.size 5 1 (.slice A m c) m (bytesV (digS F data))∧Below w.heap.size w w'
theorem block64_any (p:HP) (S:S8) (blk:List UInt8) (bA sA:Option Addr) (bc sc B:Nat) (w:World) (hok:HOk F64 p w B) (hB:B≤w.heap.size) (hrb:Rd w B bA (bytesV blk)) (hrs:Rd w B sA (wordsV .u64 (s8L S)))
  (hbl:blk.length=128) (hbc:blk.length≤bc) (hsc:8≤sc) (hS:S.Lt (2^64)) :
  Calls Tryz.prog 89 #[.agg (hv F64 p),.slice sA 8 sc,.slice bA blk.length bc] w (BlockPost F64 S blk w):=by
 obtain ⟨W0,hW0⟩:=eX (w.alloc (.cells (hv F64 p) 94))
 have hst:BkSt w w.heap.size F64 p bA blk sA S W0:=by
  have hb:=below_new w (.cells (hv F64 p) 94);rw [hW0]; exact ⟨hb,Blk.new _ _ _,(hok.mono hB).below hb,(hrb.mono hB).below hb,(hrs.mono hB).below hb⟩
 obtain ⟨sad,rfl,hz1,hz2⟩:=hrs.at_ (k:=0) (by simp [wordsV,s8L]);obtain ⟨bad,rfl,hz3,hz4⟩:=hrb.at_ (k:=0) (by rw [qaq,hbl]; decide);clear hz1 hz2 hz3 hz4;have hst0:=hst;rw [hW0] at hst0;have HST:=zY hst0;have HBL:=zY hbl;have HS:=zY hS;have hbc2:128≤bc:=by omega
 rw [hbl];obtain ⟨hh,hhh⟩:=eX (hv F64 p);obtain ⟨gf,hgf⟩:=eX (w.heap.size);have c0:=hst.h.cell 0;have c1:=hst.h.cell 1;rw [hW0,← hgf] at c0 c1;simp only [hv,hC,List.getElem?_toArray,List.getElem?_cons_zero,List.getElem?_cons_succ] at c0 c1;rw [← hgf] at hst0;clear HST;have HST:=zY hst0;have HH:=zY hhh;have HGF:=zY hgf;clear hst hst0 hbl hS hok hB hrb hrs hbc hW0 hhh hgf W0 c0 c1;go_enter Tryz.func89,Tryz.ntmps89;go_wp2;rw [show w.heap.size=gf from HGF.out.symm];have hst0:=HST.out;have hown0:OwnX (w.alloc (.cells (hv F64 p) 94)) (gf+1) 43 1 (.slice none 0 0) 0 (wordsV .u64 (rowW F64 blk 0)):=OwnX.nil _ _ _ _;clear HST
 go_loopw [7,8] (fun v i wr=>∃ (t:Nat) (A:Option Addr) (c:Nat),t≤16∧i=.int .i64 t∧v=.slice A t c∧BkSt w gf F64 p (some bad) blk (some sad) S wr∧OwnX wr (gf+1) 43 1 (.slice A t c) t (wordsV .u64 (rowW F64 blk t))) (fun _ i _=>16 - (intOf i).toNat)
 case atStart=>exact ⟨0,none,0,by omega,rfl,rfl,hst0,hown0⟩
 case round =>
  obtain ⟨t,A,c,ht,rfl,rfl,hst,hown⟩:=hrel;clear hst0 hown0;have c0:=hst.h.cell 0;simp only [hv,hC,List.getElem?_toArray,List.getElem?_cons_zero,F64] at c0
  by_cases hlt:t<16
  ·have hlt':(t:Int)<16:=by omega
   obtain ⟨tE,htE⟩:∃ tE:Nat,tE=t*8:=⟨_,rfl⟩;have hq:(t:Int)*64/8=(tE:Int):=by omega
   obtain ⟨pc,hpc⟩:=eX ((blk.drop tE).take 8);have hpl:pc.length=8:=by rw [hpc]; simp; rw [HBL.out]; omega
   have hrp:∀ u,BkSt w gf F64 p (some bad) blk (some sad) S u→∀ j z,pc[j]?=some z→u.cell? (bad.add (tE+j))=some (.int .u8 (z.toNat:Int)):=fun u hu j z hz=>by
    refine hu.rb.val ?_;rw [hpc,List.getElem?_take] at hz
    split at hz
    ·rw [List.getElem?_drop] at hz;rw [bytesV,List.getElem?_map,hz]; rfl
    ·cases hz
   have HST:=zY hst;have HOWN:=zY hown;have HPC:=zY hpc;have HPL:=zY hpl;have HRP:=zY hrp;have HTE:=zY htE;have htE2:tE≤128 - 8:=by omega
   clear hst hown hpc hpl hrp htE;go_wp2_with fail;obtain ⟨wo,rfl⟩:∃ wo:World,wo=wr:=⟨_,rfl⟩
   go_loop [9,10] (fun v i=>∃ j:Nat,j≤8∧i=.int .i64 j∧v=.int .u64 (beN (pc.take j):Nat)) (fun _ i=>8 - (intOf i).toNat)
   case atStart=>exact ⟨0,by omega,rfl,rfl⟩
   case round =>
    obtain ⟨j,hj,rfl,rfl⟩:=hrel;obtain ⟨x,hx⟩:=eX (beN (pc.take j));rw [← hx]
    by_cases hjl:j<8
    ·have hjl':(j:Int)<8:=by omega
     have hpj:j<pc.length:=by rw [HPL.out]; exact hjl
     obtain ⟨z,hz⟩:=eX (pc[j]);have hcl:=HRP.out _ HST.out j z (by rw [hz]; exact List.getElem?_eq_getElem hpj);have hzl:=z.toNat_lt
     have hxl:x<256^(8 - 1):=by
      rw [hx];have h1:=beN_lt (pc.take j);have h2:(pc.take j).length≤j:=List.length_take_le _ _;exact Nat.lt_of_lt_of_le h1 (Nat.pow_le_pow_right (by omega) (by omega))
     have hs2:beN (pc.take (j+1))=x*256+z.toNat:=by
      rw [List.take_succ_eq_append_getElem hpj,beN_snoc,hx,hz]
     have hb1:(x:Int)*256+(z.toNat:Int)<18446744073709551616:=by omega
     have hb2:(x:Int)*256<18446744073709551616:=by omega
     obtain ⟨ix,hix⟩:=eX (tE+j);have hlx:tE+j<128:=by omega
     have HS2:=zY hs2;clear hx hz hs2 hpj hxl hix;go_wp2_with fail;exact ⟨⟨j+1,by omega,by go_num,by rw [HS2.out]; go_num⟩,by simp [intOf]; omega⟩
    ·have hge:¬ (j:Int)<8:=by omega
     obtain rfl:j=8:=by omega
     have hpc2:pieceN (F64.bits/8) blk t=x:=by rw [hx,List.take_of_length_le (by rw [HPL.out]; omega),HPC.out,HTE.out]; rfl
     have HX:=zY hpc2;clear hx hpc2;go_wp2_with (refine qas qdW rfl rfl HOWN.out rfl rfl rfl rfl (by unfold maxLen; omega) (by omega) (by have:=HST.out.h.lt; omega) ?_; intro A2 c2 w2 hown2 hg2 hn2; have HOWN2:=zY hown2; have HG2:=zY hg2; clear hown2 hg2 hn2);refine ⟨⟨t+1,A2,c2,by omega,by go_num,rfl,HST.out.grow HOWN.out HG2.out,?_⟩,by simp [intOf]; omega⟩;rw [rowW,if_pos hlt,HX.out,qbC];exact HOWN2.out
  ·obtain rfl:t=16:=by omega
   have hsw:BkW w gf F64 p (some bad) blk (some sad) S (.slice A 16 c) (rowW F64 blk 16) wr:=⟨hst,by rw [qa2]; exact hown⟩;clear hst hown;go_wp2_with fail;rw [show ((16:Nat):Int)=16 from rfl];obtain ⟨wo,rfl⟩:∃ wo:World,wo=wr:=⟨_,rfl⟩
   go_loopw [7,11] (fun v i wr=>∃ (t:Nat) (A:Option Addr) (c:Nat),16≤t∧t≤80∧i=.int .i64 t∧v=.slice A t c∧BkW w gf F64 p (some bad) blk (some sad) S (.slice A t c) (rowW F64 blk t) wr) (fun _ i _=>80 - (intOf i).toNat)
   case atStart=>exact ⟨16,A,c,by omega,by omega,rfl,rfl,hsw⟩
   case round =>
    clear hsw;clear c0;obtain ⟨t,A,c,ht16,htM,rfl,rfl,hsw⟩:=hrel;have c1:=hsw.st.h.cell 1;simp only [hv,hC,List.getElem?_toArray,List.getElem?_cons_zero,List.getElem?_cons_succ,F64] at c1
    by_cases hlt:t<80
    ·have hlt':(t:Int)<80:=by omega
     obtain ⟨g,rfl,hgb,hgl⟩:=(show OwnX wr (gf+1) 43 1 (.slice A t c) t (wordsV .u64 (rowW F64 blk t)) by have:=hsw.own; rwa [qa2] at this).ptr (by omega)
     have hct:t≤c:=by
      have ho:OwnX wr (gf+1) 43 1 (.slice (some ⟨g,0,none⟩) t c) t (wordsV .u64 (rowW F64 blk t)):=by have:=hsw.own; rwa [qa2] at this
      exact ho.le_cap
     obtain ⟨l,hl⟩:=eX (rowW F64 blk t);have hlen:l.length=t:=by rw [hl]; exact qa2 _ _ _
     have hlw:∀ i,l.getD i 0<2^64:=by rw [hl]; exact qcl (qd0 F64 (by decide) blk t) (by decide)
     rw [← hl] at hsw;obtain ⟨a16,h16⟩:=eX (l.getD (t - 16) 0);obtain ⟨a15,h15⟩:=eX (l.getD (t - 15) 0);obtain ⟨a7,h7⟩:=eX (l.getD (t - 7) 0);obtain ⟨a2,h2⟩:=eX (l.getD (t - 2) 0);obtain ⟨m1,hm1⟩:=eX (allF F64 a15 F64.t0 true);obtain ⟨m2,hm2⟩:=eX (allF F64 a2 F64.t1 true);obtain ⟨s1,hs1⟩:=eX ((a16+m1)%2^64);obtain ⟨s2,hs2⟩:=eX ((s1+a7)%2^64);obtain ⟨s3,hs3⟩:=eX ((s2+m2)%2^64);have W15:Hid (a15<2^64):=zY (by rw [h15]; exact hlw _);have W2:Hid (a2<2^64):=zY (by rw [h2]; exact hlw _);have hnw:nextW F64 l t=s3%2^64:=by rw [hs3,hs2,hs1,hm1,hm2,h16,h15,h7,h2]; exact next_64 _ _ _ _
     have hs3l:s3<18446744073709551616:=by rw [hs3]; exact Nat.mod_lt _ (by decide)
     have HL:=zY hl;have HLEN:=zY hlen;have H16:=zY h16;have H15:=zY h15;have H7:=zY h7;have H2:=zY h2;have HM1:=zY hm1;have HM2:=zY hm2;have HS1:=zY hs1;have HS2:=zY hs2;have HS3:=zY hs3;have HNW:=zY hnw;have HS3L:=zY hs3l;clear hl hlen hlw h16 h15 h7 h2 hm1 hm2 hs1 hs2 hs3 hnw hs3l;have hu:=Tryz.underlying94;have HC0:=hsw.drew;have HSW:=zY hsw;clear hsw;go_wp2_with fail;refine qal (fun u=>BkW w gf F64 p (some bad) blk (some sad) S (.slice (some ⟨g,0,none⟩) t c) l u) (fun u=>BkW w gf F64 p (some bad) blk (some sad) S (.slice (some ⟨g,0,none⟩) t c) l u) [(0,some 57),(1,some 58),(2,some 59),(3,some 60),(4,some 61),(5,some 62),(6,some 63),(7,some 64),(8,some 65),(9,some 66),(10,some 67),(11,some 68),(12,some 69),(13,some 70),(14,some 71),(15,some 72),(16,some 73),(17,some 74),(18,some 75),(19,some 76),(20,some 77),(21,some 78),(22,some 79),(23,some 80),(24,some 81),(25,some 82),(26,some 83),(27,some 84),(28,some 85),(29,some 86),(30,some 87),(31,some 12)] (by kernel_rfl) (by kernel_rfl) (by decide) (by kernel_rfl) (fun _=>rfl) HC0 ?_;apply yN_
     ·apply dP [];exact fun _=>rfl;rfl;rintro vals - w1 hC1 E hE;simp only [puts,qak,qad,sIB,sCZ,sCS] at hE ⊢;go_wp2;exact .mk (hE _ hC1)
     apply yN_
     ·apply dP [];exact fun _=>rfl;rfl;rintro vals ⟨-,-⟩ w1 hC1 E hE;simp only [puts,qak,qad,sIB,sCZ,sCS] at hE ⊢;go_wp2;exact .mk (hE _ hC1)
     apply yN_
     ·apply dP [(1,some 58)];exact fun _=>rfl;rfl;rintro vals ⟨⟨-,-⟩,f1⟩ w1 hC1 E hE;simp only [puts,qak,qad,sIB,sCZ,sCS,f1] at hE ⊢;clear f1;go_wp2;exact .mk (hE _ hC1)
     apply yN_
     ·apply dP [(0,some 57),(2,some 59)];exact fun _=>rfl;rfl;rintro vals ⟨⟨⟨-,f0⟩,-⟩,f2⟩ w1 hC1 E hE;simp only [puts,qak,qad,sIB,sCZ,sCS,f0,f2] at hE ⊢;clear f0 f2;go_wp2;exact .mk (hE _ hC1)
     apply yN_
     ·apply dP [(3,some 60)];exact fun _=>rfl;rfl;intro vals vq w1 hC1 E hE;have f3:=vq.2;clear vq;have d0:=hC1.at_ (i:=t - 16) HLEN.out (by omega);rw [← H16.out] at d0;simp only [puts,qak,qad,sIB,sCZ,sCS,f3] at hE ⊢;clear f3;go_wp2;exact .mk (hE _ hC1)
     apply yN_
     ·apply dP [];exact fun _=>rfl;rfl;intro vals vq w1 hC1 E hE;clear vq;simp only [puts,qak,qad,sIB,sCZ,sCS] at hE ⊢;refine qab hC1.st.h rfl rfl rfl hu rfl qbh ?_;go_wp2_with fail;exact .mk (hE _ hC1)
     apply yN_
     ·apply dP [];exact fun _=>rfl;rfl;intro vals vq w1 hC1 E hE;clear vq;simp only [puts,qak,qad,sIB,sCZ,sCS] at hE ⊢;go_wp2;exact .mk (hE _ hC1)
     apply yN_
     ·apply dP [];exact fun _=>rfl;rfl;intro vals vq w1 hC1 E hE;clear vq;simp only [puts,qak,qad,sIB,sCZ,sCS] at hE ⊢;go_wp2;exact .mk (hE _ hC1)
     apply yN_
     ·apply dP [(7,some 64)];exact fun _=>rfl;rfl;intro vals vq w1 hC1 E hE;have f7:=vq.2;clear vq;simp only [puts,qak,qad,sIB,sCZ,sCS,f7] at hE ⊢;clear f7;go_wp2;exact .mk (hE _ hC1)
     apply yN_
     ·apply dP [(6,some 63),(8,some 65)];exact fun _=>rfl;rfl;intro vals vq w1 hC1 E hE;have f6:=vq.1.1.2;have f8:=vq.2;clear vq;simp only [puts,qak,qad,sIB,sCZ,sCS,f6,f8] at hE ⊢;clear f6 f8;go_wp2;exact .mk (hE _ hC1)
     apply yN_
     ·apply dP [(9,some 66)];exact fun _=>rfl;rfl;intro vals vq w1 hC1 E hE;have f9:=vq.2;clear vq;have d0:=hC1.at_ (i:=t - 15) HLEN.out (by omega);rw [← H15.out] at d0;simp only [puts,qak,qad,sIB,sCZ,sCS,f9] at hE ⊢;clear f9;go_wp2;exact .mk (hE _ hC1)
     apply yN_
     ·apply dP [];exact fun _=>rfl;rfl;intro vals vq w1 hC1 E hE;clear vq;simp only [puts,qak,qad,sIB,sCZ,sCS] at hE ⊢;go_wp2;exact .mk (hE _ hC1)
     apply yN_
     ·apply dP [(11,some 68)];exact fun _=>rfl;rfl;intro vals vq w1 hC1 E hE;have f11:=vq.2;clear vq;have d0:=hC1.st.h.cell 4;simp [hv,hC] at d0;simp only [puts,qak,qad,sIB,sCZ,sCS,f11] at hE ⊢;clear f11;go_wp2;exact .mk (hE _ hC1)
     apply yN_
     ·apply dP [(5,some 62),(10,some 67),(12,some 69)];exact fun _=>rfl;rfl;intro vals vq w1 hC1 E hE;have f5:=vq.1.1.1.1.1.1.1.2;have f10:=vq.1.1.2;have f12:=vq.2;clear vq;simp only [puts,qak,qad,sIB,sCZ,sCS,f5,f10,f12] at hE ⊢;clear f5 f10 f12;go_wp2_with fail;refine qaa (qcX 64 80 _ _ _ _ _ _ _ (.inr rfl) a15 _ _ _ true W15.out (by decide) (by decide) (by decide) _ _ gf hC1.st.ok.c (by have:=hC1.st.h.lt; omega) hC1.st.ok.cc) ?_;rintro e w2 ⟨rfl,hb2⟩;rw [show allN 64 a15 _ _ _ true=m1 from HM1.out.symm];go_wp2_with fail;exact .mk (hE _ (hC1.next hb2))
     apply yN_
     ·apply dP [(4,some 61),(13,some 70)];exact fun _=>rfl;rfl;intro vals vq w1 hC1 E hE;have f4:=vq.1.1.1.1.1.1.1.1.1.2;have f13:=vq.2;clear vq;simp only [puts,qak,qad,sIB,sCZ,sCS,f4,f13] at hE ⊢;clear f4 f13;go_wp2;rw [qbg a16 m1,← HS1.out];exact .mk (hE _ hC1)
     apply yN_
     ·apply dP [];exact fun _=>rfl;rfl;intro vals vq w1 hC1 E hE;clear vq;simp only [puts,qak,qad,sIB,sCZ,sCS] at hE ⊢;go_wp2;exact .mk (hE _ hC1)
     apply yN_
     ·apply dP [];exact fun _=>rfl;rfl;intro vals vq w1 hC1 E hE;clear vq;simp only [puts,qak,qad,sIB,sCZ,sCS] at hE ⊢;go_wp2;exact .mk (hE _ hC1)
     apply yN_
     ·apply dP [(16,some 73)];exact fun _=>rfl;rfl;intro vals vq w1 hC1 E hE;have f16:=vq.2;clear vq;simp only [puts,qak,qad,sIB,sCZ,sCS,f16] at hE ⊢;clear f16;go_wp2;exact .mk (hE _ hC1)
     apply yN_
     ·apply dP [(15,some 72),(17,some 74)];exact fun _=>rfl;rfl;intro vals vq w1 hC1 E hE;have f15:=vq.1.1.2;have f17:=vq.2;clear vq;simp only [puts,qak,qad,sIB,sCZ,sCS,f15,f17] at hE ⊢;clear f15 f17;go_wp2;exact .mk (hE _ hC1)
     apply yN_
     ·apply dP [(18,some 75)];exact fun _=>rfl;rfl;intro vals vq w1 hC1 E hE;have f18:=vq.2;clear vq;have d0:=hC1.at_ (i:=t - 7) HLEN.out (by omega);rw [← H7.out] at d0;simp only [puts,qak,qad,sIB,sCZ,sCS,f18] at hE ⊢;clear f18;go_wp2;exact .mk (hE _ hC1)
     apply yN_
     ·apply dP [(14,some 71),(19,some 76)];exact fun _=>rfl;rfl;intro vals vq w1 hC1 E hE;have f14:=vq.1.1.1.1.1.2;have f19:=vq.2;clear vq;simp only [puts,qak,qad,sIB,sCZ,sCS,f14,f19] at hE ⊢;clear f14 f19;go_wp2;rw [qbg s1 a7,← HS2.out];exact .mk (hE _ hC1)
     apply yN_
     ·apply dP [];exact fun _=>rfl;rfl;intro vals vq w1 hC1 E hE;clear vq;simp only [puts,qak,qad,sIB,sCZ,sCS] at hE ⊢;refine qab hC1.st.h rfl rfl rfl hu rfl qbh ?_;go_wp2_with fail;exact .mk (hE _ hC1)
     apply yN_
     ·apply dP [];exact fun _=>rfl;rfl;intro vals vq w1 hC1 E hE;clear vq;simp only [puts,qak,qad,sIB,sCZ,sCS] at hE ⊢;go_wp2;exact .mk (hE _ hC1)
     apply yN_
     ·apply dP [];exact fun _=>rfl;rfl;intro vals vq w1 hC1 E hE;clear vq;simp only [puts,qak,qad,sIB,sCZ,sCS] at hE ⊢;go_wp2;exact .mk (hE _ hC1)
     apply yN_
     ·apply dP [(23,some 80)];exact fun _=>rfl;rfl;intro vals vq w1 hC1 E hE;have f23:=vq.2;clear vq;simp only [puts,qak,qad,sIB,sCZ,sCS,f23] at hE ⊢;clear f23;go_wp2;exact .mk (hE _ hC1)
     apply yN_
     ·apply dP [(22,some 79),(24,some 81)];exact fun _=>rfl;rfl;intro vals vq w1 hC1 E hE;have f22:=vq.1.1.2;have f24:=vq.2;clear vq;simp only [puts,qak,qad,sIB,sCZ,sCS,f22,f24] at hE ⊢;clear f22 f24;go_wp2;exact .mk (hE _ hC1)
     apply yN_
     ·apply dP [(25,some 82)];exact fun _=>rfl;rfl;intro vals vq w1 hC1 E hE;have f25:=vq.2;clear vq;have d0:=hC1.at_ (i:=t - 2) HLEN.out (by omega);rw [← H2.out] at d0;simp only [puts,qak,qad,sIB,sCZ,sCS,f25] at hE ⊢;clear f25;go_wp2;exact .mk (hE _ hC1)
     apply yN_
     ·apply dP [];exact fun _=>rfl;rfl;intro vals vq w1 hC1 E hE;clear vq;simp only [puts,qak,qad,sIB,sCZ,sCS] at hE ⊢;go_wp2;exact .mk (hE _ hC1)
     apply yN_
     ·apply dP [(27,some 84)];exact fun _=>rfl;rfl;intro vals vq w1 hC1 E hE;have f27:=vq.2;clear vq;have d0:=hC1.st.h.cell 5;simp [hv,hC] at d0;simp only [puts,qak,qad,sIB,sCZ,sCS,f27] at hE ⊢;clear f27;go_wp2;exact .mk (hE _ hC1)
     apply yN_
     ·apply dP [(21,some 78),(26,some 83),(28,some 85),(13,some 70)];exact fun _=>rfl;rfl;intro vals vq w1 hC1 E hE;have f13:=vq.1.1.1.1.1.1.1.1.1.1.1.1.1.1.1.2;have f21:=vq.1.1.1.1.1.1.1.2;have f26:=vq.1.1.2;have f28:=vq.2;clear vq;simp only [puts,qak,qad,sIB,sCZ,sCS,f13,f21,f26,f28] at hE ⊢;clear f13 f21 f26 f28;go_wp2_with fail;refine qaa (qcX 64 80 _ _ _ _ _ _ _ (.inr rfl) a2 _ _ _ true W2.out (by decide) (by decide) (by decide) _ _ gf hC1.st.ok.d (by have:=hC1.st.h.lt; omega) hC1.st.ok.cd) ?_;rintro e w2 ⟨rfl,hb2⟩;rw [show allN 64 a2 _ _ _ true=m2 from HM2.out.symm];go_wp2_with fail;exact .mk (hE _ (hC1.next hb2))
     apply yN_
     ·apply dP [(20,some 77),(29,some 86)];exact fun _=>rfl;rfl;intro vals vq w1 hC1 E hE;have f20:=vq.1.1.1.1.1.1.1.1.1.2;have f29:=vq.2;clear vq;simp only [puts,qak,qad,sIB,sCZ,sCS,f20,f29] at hE ⊢;clear f20 f29;go_wp2;rw [qbg s2 m2,← HS3.out];exact .mk (hE _ hC1)
     apply yL_
     ·apply dP [(30,some 87),(29,some 86),(0,some 57),(1,some 58),(2,some 59),(3,some 60),(4,some 61),(5,some 62),(6,some 63),(7,some 64),(8,some 65),(9,some 66),(10,some 67),(11,some 68),(12,some 69),(13,some 70),(14,some 71),(15,some 72),(16,some 73),(17,some 74),(18,some 75),(19,some 76),(20,some 77),(21,some 78),(22,some 79),(23,some 80),(24,some 81),(25,some 82),(26,some 83),(27,some 84),(28,some 85),(29,some 86),(30,some 87)];exact fun _=>rfl;rfl;rintro vals ⟨⟨⟨⟨⟨⟨⟨⟨⟨⟨⟨⟨⟨⟨⟨⟨⟨⟨⟨⟨⟨⟨⟨⟨⟨⟨⟨⟨⟨⟨⟨-,f0⟩,f1⟩,f2⟩,f3⟩,f4⟩,f5⟩,f6⟩,f7⟩,f8⟩,f9⟩,f10⟩,f11⟩,f12⟩,f13⟩,f14⟩,f15⟩,f16⟩,f17⟩,f18⟩,f19⟩,f20⟩,f21⟩,f22⟩,f23⟩,f24⟩,f25⟩,f26⟩,f27⟩,f28⟩,f29⟩,f30⟩ w1 hC1 E hE;simp only [puts,qak,qad,sIB,sCZ,sCS,f0,f1,f2,f3,f4,f5,f6,f7,f8,f9,f10,f11,f12,f13,f14,f15,f16,f17,f18,f19,f20,f21,f22,f23,f24,f25,f26,f27,f28,f29,f30] at hE ⊢;clear f0 f1 f2 f3 f4 f5 f6 f7 f8 f9 f10 f11 f12 f13 f14 f15 f16 f17 f18 f19 f20 f21 f22 f23 f24 f25 f26 f27 f28 f29 f30;go_wp2;exact .mk (hE _ hC1)
     rintro vals ⟨⟨⟨⟨⟨⟨⟨⟨⟨⟨⟨⟨⟨⟨⟨⟨⟨⟨⟨⟨⟨⟨⟨⟨⟨⟨⟨⟨⟨⟨⟨⟨-,f0⟩,f1⟩,f2⟩,f3⟩,f4⟩,f5⟩,f6⟩,f7⟩,f8⟩,f9⟩,f10⟩,f11⟩,f12⟩,f13⟩,f14⟩,f15⟩,f16⟩,f17⟩,f18⟩,f19⟩,f20⟩,f21⟩,f22⟩,f23⟩,f24⟩,f25⟩,f26⟩,f27⟩,f28⟩,f29⟩,f30⟩,f31⟩ w1 hC1;simp only [puts,qak,qad,sIB,sCZ,sCS,f0,f1,f2,f3,f4,f5,f6,f7,f8,f9,f10,f11,f12,f13,f14,f15,f16,f17,f18,f19,f20,f21,f22,f23,f24,f25,f26,f27,f28,f29,f30,f31];clear f0 f1 f2 f3 f4 f5 f6 f7 f8 f9 f10 f11 f12 f13 f14 f15 f16 f17 f18 f19 f20 f21 f22 f23 f24 f25 f26 f27 f28 f29 f30 f31;clear HC0;have HC1:=zY hC1;clear hC1 HSW;go_wp2_with (refine qab (x:=.tmp 3) HC1.out.st.h rfl rfl rfl hu rfl qbh ?_);obtain ⟨nv,hnv⟩:=eX (s3%2^64);refine qaa (qcK 64 80 _ _ _ _ _ _ _ (.inr rfl) s3 HS3L.out) ?_;rintro e w2 ⟨rfl,hb2⟩;rw [← hnv];have hw2:=HC1.out.next hb2;have HO2:Hid (OwnX w2 (gf+1) 43 1 (.slice (some ⟨g,0,none⟩) t c) t (wordsV .u64 l)):=zY (by have:=hw2.own; rwa [HLEN.out] at this);have HW2:=zY hw2;have HNV:=zY hnv;clear hw2 hb2 hnv HC1;go_wp2_with (refine qas qdW rfl rfl HO2.out rfl rfl rfl rfl (by unfold maxLen; omega) (by omega) (by have:=HW2.out.st.h.lt; omega) ?_; intro A3 c3 w3 hown3 hg3 hn3; have HOWN3:=zY hown3; have HG3:=zY hg3; clear hown3 hg3 hn3);refine ⟨⟨t+1,A3,c3,by omega,by omega,by go_num,rfl,?_⟩,by simp [intOf]; omega⟩;have h:=HW2.out.app (v':=.slice A3 (t+1) c3) (x:=nv) (by rw [HLEN.out]; exact HOWN3.out) HG3.out;rw [rowW,if_neg (show ¬ t<16 by omega),← HL.out,HNW.out,← HNV.out];exact h
    ·obtain rfl:t=80:=by omega
     obtain ⟨g,rfl,hgb,hgl⟩:=(show OwnX wr (gf+1) 43 1 (.slice A 80 c) 80 (wordsV .u64 (rowW F64 blk 80)) by have:=hsw.own; rwa [qa2] at this).ptr (by omega)
     have hct:80≤c:=by
      have ho:OwnX wr (gf+1) 43 1 (.slice (some ⟨g,0,none⟩) 80 c) 80 (wordsV .u64 (rowW F64 blk 80)):=by have:=hsw.own; rwa [qa2] at this
      exact ho.le_cap
     obtain ⟨RW,hRW⟩:=eX (rowW F64 blk 80);have hlen:RW.length=80:=by rw [hRW]; exact qa2 _ _ _
     have hlw:∀ i,RW.getD i 0<2^64:=by rw [hRW]; exact qcl (qd0 F64 (by decide) blk 80) (by decide)
     rw [← hRW] at hsw;have hwx:(wordsV .u64 (s8L S)).length=8:=rfl;have HSW:=zY hsw;have HLEN:=zY hlen;have HRW:=zY hRW;have HLW:=zY hlw;clear hsw hlen hRW hlw;go_wp2_with (refine qaF (base:=gf+1) (n:=0) (v:=.slice none 0 0) (xs:=[]) (news:=wordsV .u64 (s8L S)) qdW rfl rfl (OwnX.nil _ _ _ _) rfl rfl rfl HSW.out.st.rs (by intro u hu; simp [wordsV] at hu; obtain ⟨_,_,rfl⟩:=hu; rfl) (by unfold maxLen; omega) (by omega) (by have:=HSW.out.st.h.lt; omega) ?_; intro A4 c4 w4 hown4 hg4 hn4; have HOWN4:=zY hown4; have HG4:=zY hg4; clear hown4 hg4 hn4);obtain ⟨g2,rfl,hgb2,hgl2⟩:=(show OwnX w4 (gf+1) 43 1 (.slice A4 8 c4) 8 (wordsV .u64 (s8L S)) by simpa using HOWN4.out).ptr (by omega)
     have hsr:BkR w gf F64 p (some bad) blk (some sad) S (.slice (some ⟨g,0,none⟩) 80 c) RW g2 c4 (mixTo F64 RW S 0) w4:=by
      have hnx:=HSW.out.own;have hg5:=HG4.out;refine ⟨⟨HSW.out.st.keep (qbl hg5 (by have:=HSW.out.st.h.lt; omega) (by intro k hk; simp [Value.ownBlock] at hk)),hnx.kept hg5 (.inr (by simp [Value.ownBlock]))⟩,?_⟩;show OwnX w4 (gf+1) 43 1 (.slice (some ⟨g2,0,none⟩) 8 c4) 8 (wordsV .u64 (s8L S))
      simpa using HOWN4.out
     have HSR:=zY hsr;clear hsr HOWN4 HG4 HSW c1 hgb hgl hgb2 hgl2;obtain ⟨wo2,rfl⟩:∃ wo2:World,wo2=w4:=⟨_,rfl⟩;go_wp2_with fail
     go_loopw [13,14] (fun v i wr=>∃ t g2 c2:Nat,t≤80∧i=.int .i64 t∧v=.slice (some ⟨g2,0,none⟩) 8 c2∧BkR w gf F64 p (some bad) blk (some sad) S (.slice (some ⟨g,0,none⟩) 80 c) RW g2 c2 (mixTo F64 RW S t) wr) (fun _ i _=>80 - (intOf i).toNat)
     case atStart=>exact ⟨0,g2,c4,by omega,rfl,rfl,HSR.out⟩
     case round =>
      obtain ⟨t,g2,c2,ht,rfl,rfl,hsr⟩:=hrel;have c1:=hsr.w.st.h.cell 1;simp only [hv,hC,List.getElem?_toArray,List.getElem?_cons_zero,List.getElem?_cons_succ,F64] at c1;have hc8:=hsr.le
      by_cases hlt:t<80
      ·have hlt':(t:Int)<80:=by omega
       obtain ⟨vv,hvv⟩:=eX (mixTo F64 RW S t);have hvl:vv.Lt (2^64):=by rw [hvv]; exact mixTo_lt HS.out t
       rw [← hvv] at hsr;have HVV:=zY hvv;obtain ⟨va,vb,vc,vd,ve,vf,vg,vh⟩:=vv;have HL8:=zY hvl;obtain ⟨wk,hwk⟩:=eX (RW.getD t 0);obtain ⟨kk,hkk⟩:=eX (kN F64 t);obtain ⟨big,hbig⟩:∃ x:Nat,x=18446744073709551615:=⟨_,rfl⟩;obtain ⟨on,hon⟩:=eX (big%2^64);obtain ⟨XA,hXA⟩:=eX (allF F64 ve F64.s1 false);obtain ⟨p1,hp1⟩:=eX ((vh+XA)%2^64);obtain ⟨af,haf⟩:=eX (ve &&& vf);obtain ⟨ne,hne⟩:=eX (on ^^^ ve);obtain ⟨ng,hng⟩:=eX (ne &&& vg);obtain ⟨ch,hch⟩:=eX (af ^^^ ng);obtain ⟨p2,hp2⟩:=eX ((p1+ch)%2^64);obtain ⟨p3,hp3⟩:=eX ((p2+kk)%2^64);obtain ⟨p4,hp4⟩:=eX ((p3+wk)%2^64);obtain ⟨xx,hxx⟩:=eX (p4%2^64);obtain ⟨YA,hYA⟩:=eX (allF F64 va F64.s0 false);obtain ⟨ab,hab⟩:=eX (va &&& vb);obtain ⟨ac,hac⟩:=eX (va &&& vc);obtain ⟨bc2,hbc2'⟩:∃ x,x=vb &&& vc:=⟨_,rfl⟩;obtain ⟨x1,hx1⟩:=eX (ab ^^^ ac);obtain ⟨mj,hmj⟩:=eX (x1 ^^^ bc2);obtain ⟨q1,hq1⟩:=eX ((YA+mj)%2^64);obtain ⟨yy,hyy⟩:=eX (q1%2^64);obtain ⟨z1,hz1⟩:=eX ((xx+yy)%2^64);obtain ⟨za,hza⟩:=eX (z1%2^64);obtain ⟨z2,hz2⟩:=eX ((vd+xx)%2^64);obtain ⟨ze,hze⟩:=eX (z2%2^64);have lon:on<2^64:=by rw [hon,hbig]; decide
       have l64:∀ z,z<2^64→z<2^64:=fun z hz=>Nat.lt_of_lt_of_le hz (by decide);have laf:af<2^64:=by rw [haf]; exact qcD (l64 _ hvl.e)
       have lne:ne<2^64:=by rw [hne]; exact Nat.xor_lt_two_pow lon (l64 _ hvl.e)
       have lng:ng<2^64:=by rw [hng]; exact qcD lne
       have lab:ab<2^64:=by rw [hab]; exact qcD (l64 _ hvl.a)
       have lac:ac<2^64:=by rw [hac]; exact qcD (l64 _ hvl.a)
       have lbc:bc2<2^64:=by rw [hbc2']; exact qcD (l64 _ hvl.b)
       have lx1:x1<2^64:=by rw [hx1]; exact Nat.xor_lt_two_pow lab lac
       have hmx:mixX F64 ⟨va,vb,vc,vd,ve,vf,vg,vh⟩ kk wk=xx:=by
        rw [hxx,hp4,hp3,hp2,hp1,hch,hng,hne,hon,hbig,haf,hXA];rw [show 18446744073709551615%2^64=2^64 - 1 by decide,ones_xor 64 ve hvl.e];exact mixX_r64 _ _ _ _ _
       have hmy:mixY F64 ⟨va,vb,vc,vd,ve,vf,vg,vh⟩=yy:=by
        rw [hyy,hq1,hmj,hx1,hab,hac,hbc2',hYA];exact mod_r64 _ _
       have hstp:stepS F64 ⟨va,vb,vc,vd,ve,vf,vg,vh⟩ kk wk=⟨za,va,vb,vc,ze,ve,vf,vg⟩:=by
        have e1:(xx+yy)%2^64=za:=by rw [hza,hz1]; exact mod_r64 _ _
        have e2:(vd+xx)%2^64=ze:=by rw [hze,hz2]; exact mod_r64 _ _
        rw [stepS,hmx,hmy];show S8.mk ((xx+yy)%2^64) va vb vc ((vd+xx)%2^64) ve vf vg=_;rw [e1,e2]
       have hm1:mixTo F64 RW S (t+1)=⟨za,va,vb,vc,ze,ve,vf,vg⟩:=by rw [mixTo,← HVV.out,← hkk,← hwk]; exact hstp
       have HM1:=zY hm1;have LP4:Hid (p4<18446744073709551616):=zY (by rw [hp4]; exact Nat.mod_lt _ (by decide));have LQ1:Hid (q1<18446744073709551616):=zY (by rw [hq1]; exact Nat.mod_lt _ (by decide));have LZ1:Hid (z1<18446744073709551616):=zY (by rw [hz1]; exact Nat.mod_lt _ (by decide));have LZ2:Hid (z2<18446744073709551616):=zY (by rw [hz2]; exact Nat.mod_lt _ (by decide));have LON:=zY lon;have L64:=zY l64;have LAF:=zY laf;have LNE:=zY lne;have LNG:=zY lng;have LAB:=zY lab;have LAC:=zY lac;have LBC:=zY lbc;have LX1:=zY lx1;have HWK:=zY hwk;have HKK:=zY hkk;have HON:=zY hon;have HBIG:=zY hbig;have HXA:=zY hXA;have HP1:=zY hp1;have HAF:=zY haf;have HNE:=zY hne;have HNG:=zY hng;have HCH:=zY hch;have HP2:=zY hp2;have HP3:=zY hp3;have HP4:=zY hp4;have HXX:=zY hxx;have HYA:=zY hYA;have HAB:=zY hab;have HAC:=zY hac;have HBC:=zY hbc2';have HX1:=zY hx1;have HMJ:=zY hmj;have HQ1:=zY hq1;have HYY:=zY hyy;have HZ1:=zY hz1;have HZA:=zY hza;have HZ2:=zY hz2;have HZE:=zY hze;have hu:=Tryz.underlying94;have d4:=hsr.r.atN (i:=4) (v:=.int .u64 (ve:Int)) rfl;have d0:=hsr.r.atN (i:=0) (v:=.int .u64 (va:Int)) rfl;have HSR2:=zY hsr;clear hvv hvl hwk hkk hon hbig hXA hp1 haf hne hng hch hp2 hp3 hp4 hxx hYA hab hac hbc2' hx1 hmj hq1 hyy hz1 hza hz2 hze lon l64 laf lne lng lab lac lbc lx1 hmx hmy hstp hm1 hsr HSR;go_wp2_with (refine qab (x:=.tmp 3) HSR2.out.w.st.h rfl rfl rfl hu rfl qbh ?_);have hlo:=qcK 64 80 (.slice (some p.a) 3 p.ca) (.slice (some p.b) 3 p.cb) (.slice (some p.c) 3 p.cc) (.slice (some p.d) 3 p.cd) (.slice (some p.k) 80 p.ck) (.slice (some p.f) 8 p.cf) wr (.inr rfl) big (by rw [HBIG.out]; decide);rw [← HON.out,show (big:Int)=18446744073709551615 by rw [HBIG.out]; rfl] at hlo;refine qaa hlo ?_;rintro e w2 ⟨rfl,hb2⟩;have hsr2:=HSR2.out.next hb2;clear hlo hb2 HSR2 d4 d0;go_wp2_with fail;have HC0:=hsr2.drew;clear hsr2;refine qal (fun u=>BkR w gf F64 p (some bad) blk (some sad) S (.slice (some ⟨g,0,none⟩) 80 c) RW g2 c2 ⟨va,vb,vc,vd,ve,vf,vg,vh⟩ u) (fun u=>BkR w gf F64 p (some bad) blk (some sad) S (.slice (some ⟨g,0,none⟩) 80 c) RW g2 c2 ⟨va,vb,vc,vd,ve,vf,vg,vh⟩ u) [(0,some 111),(1,some 112),(2,some 113),(3,some 114),(4,some 115),(5,some 116),(6,some 117),(7,some 118),(8,some 119),(9,some 120),(10,some 121),(11,some 122),(12,some 123),(13,some 124),(14,some 125),(15,some 126),(16,some 127),(17,some 128),(18,some 129),(19,some 130),(20,some 131),(21,some 132),(22,some 133),(23,some 134),(24,some 135),(25,some 136),(26,some 137),(27,some 138),(28,some 139),(29,some 140),(30,some 141),(31,some 142),(32,some 143),(33,some 144),(34,some 145),(35,some 146),(36,some 18)] (by kernel_rfl) (by kernel_rfl) (by decide) (by kernel_rfl) (fun _=>rfl) HC0 ?_;apply yN_
       ·apply dP [];exact fun _=>rfl;rfl;rintro vals - w1 hC1 E hE;simp only [puts,qak,qad,sIB,sCZ,sCS] at hE ⊢;refine qab hC1.w.st.h rfl rfl rfl hu rfl qbh ?_;go_wp2_with fail;exact .mk (hE _ hC1)
       apply yN_
       ·apply dP [];exact fun _=>rfl;rfl;rintro vals ⟨-,-⟩ w1 hC1 E hE;simp only [puts,qak,qad,sIB,sCZ,sCS] at hE ⊢;go_wp2;exact .mk (hE _ hC1)
       apply yN_
       ·apply dP [(1,some 112)];exact fun _=>rfl;rfl;rintro vals ⟨⟨-,-⟩,f1⟩ w1 hC1 E hE;simp only [puts,qak,qad,sIB,sCZ,sCS,f1] at hE ⊢;clear f1;go_wp2;exact .mk (hE _ hC1)
       apply yN_
       ·apply dP [(2,some 113)];exact fun _=>rfl;rfl;intro vals vq w1 hC1 E hE;have f2:=vq.2;clear vq;have d0:=hC1.r.atN (i:=7) (v:=.int .u64 (vh:Int)) rfl;simp only [puts,qak,qad,sIB,sCZ,sCS,f2] at hE ⊢;clear f2;go_wp2;exact .mk (hE _ hC1)
       apply yN_
       ·apply dP [];exact fun _=>rfl;rfl;intro vals vq w1 hC1 E hE;clear vq;simp only [puts,qak,qad,sIB,sCZ,sCS] at hE ⊢;refine qab hC1.w.st.h rfl rfl rfl hu rfl qbh ?_;go_wp2_with fail;exact .mk (hE _ hC1)
       apply yN_
       ·apply dP [];exact fun _=>rfl;rfl;intro vals vq w1 hC1 E hE;clear vq;simp only [puts,qak,qad,sIB,sCZ,sCS] at hE ⊢;go_wp2;exact .mk (hE _ hC1)
       apply yN_
       ·apply dP [];exact fun _=>rfl;rfl;intro vals vq w1 hC1 E hE;clear vq;simp only [puts,qak,qad,sIB,sCZ,sCS] at hE ⊢;go_wp2;exact .mk (hE _ hC1)
       apply yN_
       ·apply dP [(6,some 117)];exact fun _=>rfl;rfl;intro vals vq w1 hC1 E hE;have f6:=vq.2;clear vq;have d0:=hC1.w.st.h.cell 3;simp [hv,hC] at d0;simp only [puts,qak,qad,sIB,sCZ,sCS,f6] at hE ⊢;clear f6;go_wp2;exact .mk (hE _ hC1)
       apply yN_
       ·apply dP [(4,some 115),(5,some 116),(7,some 118)];exact fun _=>rfl;rfl;intro vals vq w1 hC1 E hE;have f4:=vq.1.1.1.2;have f5:=vq.1.1.2;have f7:=vq.2;clear vq;simp only [puts,qak,qad,sIB,sCZ,sCS,f4,f5,f7] at hE ⊢;clear f4 f5 f7;go_wp2_with fail;refine qaa (qcX 64 80 _ _ _ _ _ _ _ (.inr rfl) ve _ _ _ false HL8.out.e (by decide) (by decide) (by decide) _ _ gf hC1.w.st.ok.b (by have:=hC1.w.st.h.lt; omega) hC1.w.st.ok.cb) ?_;rintro e w2 ⟨rfl,hb2⟩;rw [show allN 64 ve _ _ _ false=XA from HXA.out.symm];go_wp2_with fail;exact .mk (hE _ (hC1.next hb2))
       apply yN_
       ·apply dP [(3,some 114),(8,some 119)];exact fun _=>rfl;rfl;intro vals vq w1 hC1 E hE;have f3:=vq.1.1.1.1.1.2;have f8:=vq.2;clear vq;simp only [puts,qak,qad,sIB,sCZ,sCS,f3,f8] at hE ⊢;clear f3 f8;go_wp2;rw [qbg vh XA,← HP1.out];exact .mk (hE _ hC1)
       apply yN_
       ·apply dP [];exact fun _=>rfl;rfl;intro vals vq w1 hC1 E hE;clear vq;simp only [puts,qak,qad,sIB,sCZ,sCS] at hE ⊢;go_wp2;exact .mk (hE _ hC1)
       apply yN_
       ·apply dP [];exact fun _=>rfl;rfl;intro vals vq w1 hC1 E hE;clear vq;simp only [puts,qak,qad,sIB,sCZ,sCS] at hE ⊢;go_wp2;exact .mk (hE _ hC1)
       apply yN_
       ·apply dP [(11,some 122)];exact fun _=>rfl;rfl;intro vals vq w1 hC1 E hE;have f11:=vq.2;clear vq;simp only [puts,qak,qad,sIB,sCZ,sCS,f11] at hE ⊢;clear f11;go_wp2;exact .mk (hE _ hC1)
       apply yN_
       ·apply dP [(12,some 123)];exact fun _=>rfl;rfl;intro vals vq w1 hC1 E hE;have f12:=vq.2;clear vq;have d0:=hC1.r.atN (i:=5) (v:=.int .u64 (vf:Int)) rfl;simp only [puts,qak,qad,sIB,sCZ,sCS,f12] at hE ⊢;clear f12;go_wp2;exact .mk (hE _ hC1)
       apply yN_
       ·apply dP [(10,some 121),(13,some 124)];exact fun _=>rfl;rfl;intro vals vq w1 hC1 E hE;have f10:=vq.1.1.1.2;have f13:=vq.2;clear vq;simp only [puts,qak,qad,sIB,sCZ,sCS,f10,f13] at hE ⊢;clear f10 f13;go_wp2;rw [and64 ve vf (L64.out _ HL8.out.e) (L64.out _ HL8.out.f),← HAF.out];exact .mk (hE _ hC1)
       apply yN_
       ·apply dP [];exact fun _=>rfl;rfl;intro vals vq w1 hC1 E hE;clear vq;simp only [puts,qak,qad,sIB,sCZ,sCS] at hE ⊢;go_wp2;exact .mk (hE _ hC1)
       apply yN_
       ·apply dP [];exact fun _=>rfl;rfl;intro vals vq w1 hC1 E hE;clear vq;simp only [puts,qak,qad,sIB,sCZ,sCS] at hE ⊢;go_wp2;exact .mk (hE _ hC1)
       apply yN_
       ·apply dP [(15,some 126),(16,some 127)];exact fun _=>rfl;rfl;intro vals vq w1 hC1 E hE;have f15:=vq.1.2;have f16:=vq.2;clear vq;simp only [puts,qak,qad,sIB,sCZ,sCS,f15,f16] at hE ⊢;clear f15 f16;go_wp2;rw [xor64 on ve LON.out (L64.out _ HL8.out.e),← HNE.out];exact .mk (hE _ hC1)
       apply yN_
       ·apply dP [];exact fun _=>rfl;rfl;intro vals vq w1 hC1 E hE;clear vq;simp only [puts,qak,qad,sIB,sCZ,sCS] at hE ⊢;go_wp2;exact .mk (hE _ hC1)
       apply yN_
       ·apply dP [(18,some 129)];exact fun _=>rfl;rfl;intro vals vq w1 hC1 E hE;have f18:=vq.2;clear vq;simp only [puts,qak,qad,sIB,sCZ,sCS,f18] at hE ⊢;clear f18;go_wp2;exact .mk (hE _ hC1)
       apply yN_
       ·apply dP [(19,some 130)];exact fun _=>rfl;rfl;intro vals vq w1 hC1 E hE;have f19:=vq.2;clear vq;have d0:=hC1.r.atN (i:=6) (v:=.int .u64 (vg:Int)) rfl;simp only [puts,qak,qad,sIB,sCZ,sCS,f19] at hE ⊢;clear f19;go_wp2;exact .mk (hE _ hC1)
       apply yN_
       ·apply dP [(17,some 128),(20,some 131)];exact fun _=>rfl;rfl;intro vals vq w1 hC1 E hE;have f17:=vq.1.1.1.2;have f20:=vq.2;clear vq;simp only [puts,qak,qad,sIB,sCZ,sCS,f17,f20] at hE ⊢;clear f17 f20;go_wp2;rw [and64 ne vg LNE.out (L64.out _ HL8.out.g),← HNG.out];exact .mk (hE _ hC1)
       apply yN_
       ·apply dP [(14,some 125),(21,some 132)];exact fun _=>rfl;rfl;intro vals vq w1 hC1 E hE;have f14:=vq.1.1.1.1.1.1.1.2;have f21:=vq.2;clear vq;simp only [puts,qak,qad,sIB,sCZ,sCS,f14,f21] at hE ⊢;clear f14 f21;go_wp2;rw [xor64 af ng LAF.out LNG.out,← HCH.out];exact .mk (hE _ hC1)
       apply yN_
       ·apply dP [(9,some 120),(22,some 133)];exact fun _=>rfl;rfl;intro vals vq w1 hC1 E hE;have f9:=vq.1.1.1.1.1.1.1.1.1.1.1.1.1.2;have f22:=vq.2;clear vq;simp only [puts,qak,qad,sIB,sCZ,sCS,f9,f22] at hE ⊢;clear f9 f22;go_wp2;rw [qbg p1 ch,← HP2.out];exact .mk (hE _ hC1)
       apply yN_
       ·apply dP [];exact fun _=>rfl;rfl;intro vals vq w1 hC1 E hE;clear vq;simp only [puts,qak,qad,sIB,sCZ,sCS] at hE ⊢;go_wp2;exact .mk (hE _ hC1)
       apply yN_
       ·apply dP [(24,some 135)];exact fun _=>rfl;rfl;intro vals vq w1 hC1 E hE;have f24:=vq.2;clear vq;have d0:=hC1.w.st.h.cell 6;simp [hv,hC] at d0;simp only [puts,qak,qad,sIB,sCZ,sCS,f24] at hE ⊢;clear f24;go_wp2;exact .mk (hE _ hC1)
       apply yN_
       ·apply dP [];exact fun _=>rfl;rfl;intro vals vq w1 hC1 E hE;clear vq;simp only [puts,qak,qad,sIB,sCZ,sCS] at hE ⊢;go_wp2;exact .mk (hE _ hC1)
       apply yN_
       ·apply dP [(25,some 136),(26,some 137)];exact fun _=>rfl;rfl;intro vals vq w1 hC1 E hE;have f25:=vq.1.2;have f26:=vq.2;clear vq;have hck:=hC1.w.st.ok.ck;dsimp only [F64] at hck;simp only [puts,qak,qad,sIB,sCZ,sCS,f25,f26] at hE ⊢;clear f25 f26;go_wp2;exact .mk (hE _ hC1)
       apply yN_
       ·apply dP [(27,some 138)];exact fun _=>rfl;rfl;intro vals vq w1 hC1 E hE;have f27:=vq.2;clear vq;have d0:=hC1.w.st.ok.k.val (k:=t) (v:=.int .u64 (kk:Int)) (by rw [HKK.out,wordsV,List.getElem?_map,kL_get _ _ hlt]; rfl);simp only [puts,qak,qad,sIB,sCZ,sCS,f27] at hE ⊢;clear f27;go_wp2;exact .mk (hE _ hC1)
       apply yN_
       ·apply dP [(23,some 134),(28,some 139)];exact fun _=>rfl;rfl;intro vals vq w1 hC1 E hE;have f23:=vq.1.1.1.1.1.2;have f28:=vq.2;clear vq;simp only [puts,qak,qad,sIB,sCZ,sCS,f23,f28] at hE ⊢;clear f23 f28;go_wp2;rw [qbg p2 kk,← HP3.out];exact .mk (hE _ hC1)
       apply yN_
       ·apply dP [];exact fun _=>rfl;rfl;intro vals vq w1 hC1 E hE;clear vq;simp only [puts,qak,qad,sIB,sCZ,sCS] at hE ⊢;go_wp2;exact .mk (hE _ hC1)
       apply yN_
       ·apply dP [];exact fun _=>rfl;rfl;intro vals vq w1 hC1 E hE;clear vq;simp only [puts,qak,qad,sIB,sCZ,sCS] at hE ⊢;go_wp2;exact .mk (hE _ hC1)
       apply yN_
       ·apply dP [(30,some 141),(31,some 142)];exact fun _=>rfl;rfl;intro vals vq w1 hC1 E hE;have f30:=vq.1.2;have f31:=vq.2;clear vq;simp only [puts,qak,qad,sIB,sCZ,sCS,f30,f31] at hE ⊢;clear f30 f31;go_wp2;exact .mk (hE _ hC1)
       apply yN_
       ·apply dP [(32,some 143)];exact fun _=>rfl;rfl;intro vals vq w1 hC1 E hE;have f32:=vq.2;clear vq;have d0:=hC1.w.at_ (i:=t) HLEN.out hlt;rw [← HWK.out] at d0;simp only [puts,qak,qad,sIB,sCZ,sCS,f32] at hE ⊢;clear f32;go_wp2;exact .mk (hE _ hC1)
       apply yN_
       ·apply dP [(29,some 140),(33,some 144)];exact fun _=>rfl;rfl;intro vals vq w1 hC1 E hE;have f29:=vq.1.1.1.1.2;have f33:=vq.2;clear vq;simp only [puts,qak,qad,sIB,sCZ,sCS,f29,f33] at hE ⊢;clear f29 f33;go_wp2;rw [qbg p3 wk,← HP4.out];exact .mk (hE _ hC1)
       apply yN_
       ·apply dP [(0,some 111),(34,some 145),(8,some 119)];exact fun _=>rfl;rfl;intro vals vq w1 hC1 E hE;have f0:=vq.1.1.1.1.1.1.1.1.1.1.1.1.1.1.1.1.1.1.1.1.1.1.1.1.1.1.1.1.1.1.1.1.1.1.2;have f8:=vq.1.1.1.1.1.1.1.1.1.1.1.1.1.1.1.1.1.1.1.1.1.1.1.1.1.1.2;have f34:=vq.2;clear vq;simp only [puts,qak,qad,sIB,sCZ,sCS,f0,f8,f34] at hE ⊢;clear f0 f8 f34;go_wp2_with fail;refine qaa (qcK 64 80 _ _ _ _ _ _ _ (.inr rfl) p4 LP4.out) ?_;rintro e w2 ⟨rfl,hb2⟩;rw [← HXX.out];go_wp2_with fail;exact .mk (hE _ (hC1.next hb2))
       apply yL_
       ·apply dP [(35,some 146),(35,some 146),(0,some 111),(1,some 112),(2,some 113),(3,some 114),(4,some 115),(5,some 116),(6,some 117),(7,some 118),(8,some 119),(9,some 120),(10,some 121),(11,some 122),(12,some 123),(13,some 124),(14,some 125),(15,some 126),(16,some 127),(17,some 128),(18,some 129),(19,some 130),(20,some 131),(21,some 132),(22,some 133),(23,some 134),(24,some 135),(25,some 136),(26,some 137),(27,some 138),(28,some 139),(29,some 140),(30,some 141),(31,some 142),(32,some 143),(33,some 144),(34,some 145),(35,some 146)];exact fun _=>rfl;rfl;rintro vals ⟨⟨⟨⟨⟨⟨⟨⟨⟨⟨⟨⟨⟨⟨⟨⟨⟨⟨⟨⟨⟨⟨⟨⟨⟨⟨⟨⟨⟨⟨⟨⟨⟨⟨⟨⟨-,f0⟩,f1⟩,f2⟩,f3⟩,f4⟩,f5⟩,f6⟩,f7⟩,f8⟩,f9⟩,f10⟩,f11⟩,f12⟩,f13⟩,f14⟩,f15⟩,f16⟩,f17⟩,f18⟩,f19⟩,f20⟩,f21⟩,f22⟩,f23⟩,f24⟩,f25⟩,f26⟩,f27⟩,f28⟩,f29⟩,f30⟩,f31⟩,f32⟩,f33⟩,f34⟩,f35⟩ w1 hC1 E hE;simp only [puts,qak,qad,sIB,sCZ,sCS,f0,f1,f2,f3,f4,f5,f6,f7,f8,f9,f10,f11,f12,f13,f14,f15,f16,f17,f18,f19,f20,f21,f22,f23,f24,f25,f26,f27,f28,f29,f30,f31,f32,f33,f34,f35] at hE ⊢;clear f0 f1 f2 f3 f4 f5 f6 f7 f8 f9 f10 f11 f12 f13 f14 f15 f16 f17 f18 f19 f20 f21 f22 f23 f24 f25 f26 f27 f28 f29 f30 f31 f32 f33 f34 f35;go_wp2;exact .mk (hE _ hC1)
       rintro vals ⟨⟨⟨⟨⟨⟨⟨⟨⟨⟨⟨⟨⟨⟨⟨⟨⟨⟨⟨⟨⟨⟨⟨⟨⟨⟨⟨⟨⟨⟨⟨⟨⟨⟨⟨⟨⟨-,f0⟩,f1⟩,f2⟩,f3⟩,f4⟩,f5⟩,f6⟩,f7⟩,f8⟩,f9⟩,f10⟩,f11⟩,f12⟩,f13⟩,f14⟩,f15⟩,f16⟩,f17⟩,f18⟩,f19⟩,f20⟩,f21⟩,f22⟩,f23⟩,f24⟩,f25⟩,f26⟩,f27⟩,f28⟩,f29⟩,f30⟩,f31⟩,f32⟩,f33⟩,f34⟩,f35⟩,f36⟩ w1 hC1;simp only [puts,qak,qad,sIB,sCZ,sCS,f0,f1,f2,f3,f4,f5,f6,f7,f8,f9,f10,f11,f12,f13,f14,f15,f16,f17,f18,f19,f20,f21,f22,f23,f24,f25,f26,f27,f28,f29,f30,f31,f32,f33,f34,f35,f36];clear f0 f1 f2 f3 f4 f5 f6 f7 f8 f9 f10 f11 f12 f13 f14 f15 f16 f17 f18 f19 f20 f21 f22 f23 f24 f25 f26 f27 f28 f29 f30 f31 f32 f33 f34 f35 f36;clear HC0;go_wp2_with fail;have HC0:=hC1.drew;clear hC1;refine qal (fun u=>BkR w gf F64 p (some bad) blk (some sad) S (.slice (some ⟨g,0,none⟩) 80 c) RW g2 c2 ⟨va,vb,vc,vd,ve,vf,vg,vh⟩ u) (fun u=>BkR w gf F64 p (some bad) blk (some sad) S (.slice (some ⟨g,0,none⟩) 80 c) RW g2 c2 ⟨va,vb,vc,vd,ve,vf,vg,vh⟩ u) [(0,some 147),(1,some 148),(2,some 149),(3,some 150),(4,some 151),(5,some 152),(6,some 153),(7,some 154),(8,some 155),(9,some 156),(10,some 157),(11,some 158),(12,some 159),(13,some 160),(14,some 161),(15,some 162),(16,some 163),(17,some 164),(18,some 165),(19,some 166),(20,some 167),(21,some 168),(22,some 169),(23,some 170),(24,some 171),(25,some 172),(26,some 173),(27,some 19)] (by kernel_rfl) (by kernel_rfl) (by decide) (by kernel_rfl) (fun _=>rfl) HC0 ?_;apply yN_
       ·apply dP [];exact fun _=>rfl;rfl;rintro vals - w1 hC1 E hE;simp only [puts,qak,qad,sIB,sCZ,sCS] at hE ⊢;refine qab hC1.w.st.h rfl rfl rfl hu rfl qbh ?_;go_wp2_with fail;exact .mk (hE _ hC1)
       apply yN_
       ·apply dP [];exact fun _=>rfl;rfl;rintro vals ⟨-,-⟩ w1 hC1 E hE;simp only [puts,qak,qad,sIB,sCZ,sCS] at hE ⊢;refine qab hC1.w.st.h rfl rfl rfl hu rfl qbh ?_;go_wp2_with fail;exact .mk (hE _ hC1)
       apply yN_
       ·apply dP [];exact fun _=>rfl;rfl;intro vals vq w1 hC1 E hE;clear vq;simp only [puts,qak,qad,sIB,sCZ,sCS] at hE ⊢;go_wp2;exact .mk (hE _ hC1)
       apply yN_
       ·apply dP [];exact fun _=>rfl;rfl;intro vals vq w1 hC1 E hE;clear vq;simp only [puts,qak,qad,sIB,sCZ,sCS] at hE ⊢;go_wp2;exact .mk (hE _ hC1)
       apply yN_
       ·apply dP [(3,some 150)];exact fun _=>rfl;rfl;intro vals vq w1 hC1 E hE;have f3:=vq.2;clear vq;have d0:=hC1.w.st.h.cell 2;simp [hv,hC] at d0;simp only [puts,qak,qad,sIB,sCZ,sCS,f3] at hE ⊢;clear f3;go_wp2;exact .mk (hE _ hC1)
       apply yN_
       ·apply dP [(1,some 148),(2,some 149),(4,some 151)];exact fun _=>rfl;rfl;rintro vals ⟨⟨⟨⟨⟨-,-⟩,f1⟩,f2⟩,-⟩,f4⟩ w1 hC1 E hE;simp only [puts,qak,qad,sIB,sCZ,sCS,f1,f2,f4] at hE ⊢;clear f1 f2 f4;go_wp2_with fail;refine qaa (qcX 64 80 _ _ _ _ _ _ _ (.inr rfl) va _ _ _ false HL8.out.a (by decide) (by decide) (by decide) _ _ gf hC1.w.st.ok.a (by have:=hC1.w.st.h.lt; omega) hC1.w.st.ok.ca) ?_;rintro e w2 ⟨rfl,hb2⟩;rw [show allN 64 va _ _ _ false=YA from HYA.out.symm];go_wp2_with fail;exact .mk (hE _ (hC1.next hb2))
       apply yN_
       ·apply dP [];exact fun _=>rfl;rfl;intro vals vq w1 hC1 E hE;clear vq;simp only [puts,qak,qad,sIB,sCZ,sCS] at hE ⊢;go_wp2;exact .mk (hE _ hC1)
       apply yN_
       ·apply dP [];exact fun _=>rfl;rfl;intro vals vq w1 hC1 E hE;clear vq;simp only [puts,qak,qad,sIB,sCZ,sCS] at hE ⊢;go_wp2;exact .mk (hE _ hC1)
       apply yN_
       ·apply dP [(7,some 154)];exact fun _=>rfl;rfl;intro vals vq w1 hC1 E hE;have f7:=vq.2;clear vq;simp only [puts,qak,qad,sIB,sCZ,sCS,f7] at hE ⊢;clear f7;go_wp2;exact .mk (hE _ hC1)
       apply yN_
       ·apply dP [(8,some 155)];exact fun _=>rfl;rfl;intro vals vq w1 hC1 E hE;have f8:=vq.2;clear vq;have d0:=hC1.r.atN (i:=1) (v:=.int .u64 (vb:Int)) rfl;simp only [puts,qak,qad,sIB,sCZ,sCS,f8] at hE ⊢;clear f8;go_wp2;exact .mk (hE _ hC1)
       apply yN_
       ·apply dP [(6,some 153),(9,some 156)];exact fun _=>rfl;rfl;intro vals vq w1 hC1 E hE;have f6:=vq.1.1.1.2;have f9:=vq.2;clear vq;simp only [puts,qak,qad,sIB,sCZ,sCS,f6,f9] at hE ⊢;clear f6 f9;go_wp2;rw [and64 va vb (L64.out _ HL8.out.a) (L64.out _ HL8.out.b),← HAB.out];exact .mk (hE _ hC1)
       apply yN_
       ·apply dP [];exact fun _=>rfl;rfl;intro vals vq w1 hC1 E hE;clear vq;simp only [puts,qak,qad,sIB,sCZ,sCS] at hE ⊢;go_wp2;exact .mk (hE _ hC1)
       apply yN_
       ·apply dP [];exact fun _=>rfl;rfl;intro vals vq w1 hC1 E hE;clear vq;simp only [puts,qak,qad,sIB,sCZ,sCS] at hE ⊢;go_wp2;exact .mk (hE _ hC1)
       apply yN_
       ·apply dP [(12,some 159)];exact fun _=>rfl;rfl;intro vals vq w1 hC1 E hE;have f12:=vq.2;clear vq;simp only [puts,qak,qad,sIB,sCZ,sCS,f12] at hE ⊢;clear f12;go_wp2;exact .mk (hE _ hC1)
       apply yN_
       ·apply dP [(13,some 160)];exact fun _=>rfl;rfl;intro vals vq w1 hC1 E hE;have f13:=vq.2;clear vq;have d0:=hC1.r.atN (i:=2) (v:=.int .u64 (vc:Int)) rfl;simp only [puts,qak,qad,sIB,sCZ,sCS,f13] at hE ⊢;clear f13;go_wp2;exact .mk (hE _ hC1)
       apply yN_
       ·apply dP [(11,some 158),(14,some 161)];exact fun _=>rfl;rfl;intro vals vq w1 hC1 E hE;have f11:=vq.1.1.1.2;have f14:=vq.2;clear vq;simp only [puts,qak,qad,sIB,sCZ,sCS,f11,f14] at hE ⊢;clear f11 f14;go_wp2;rw [and64 va vc (L64.out _ HL8.out.a) (L64.out _ HL8.out.c),← HAC.out];exact .mk (hE _ hC1)
       apply yN_
       ·apply dP [(10,some 157),(15,some 162)];exact fun _=>rfl;rfl;intro vals vq w1 hC1 E hE;have f10:=vq.1.1.1.1.1.2;have f15:=vq.2;clear vq;simp only [puts,qak,qad,sIB,sCZ,sCS,f10,f15] at hE ⊢;clear f10 f15;go_wp2;rw [xor64 ab ac LAB.out LAC.out,← HX1.out];exact .mk (hE _ hC1)
       apply yN_
       ·apply dP [];exact fun _=>rfl;rfl;intro vals vq w1 hC1 E hE;clear vq;simp only [puts,qak,qad,sIB,sCZ,sCS] at hE ⊢;go_wp2;exact .mk (hE _ hC1)
       apply yN_
       ·apply dP [(17,some 164)];exact fun _=>rfl;rfl;intro vals vq w1 hC1 E hE;have f17:=vq.2;clear vq;simp only [puts,qak,qad,sIB,sCZ,sCS,f17] at hE ⊢;clear f17;go_wp2;exact .mk (hE _ hC1)
       apply yN_
       ·apply dP [(18,some 165)];exact fun _=>rfl;rfl;intro vals vq w1 hC1 E hE;have f18:=vq.2;clear vq;have d0:=hC1.r.atN (i:=1) (v:=.int .u64 (vb:Int)) rfl;simp only [puts,qak,qad,sIB,sCZ,sCS,f18] at hE ⊢;clear f18;go_wp2;exact .mk (hE _ hC1)
       apply yN_
       ·apply dP [];exact fun _=>rfl;rfl;intro vals vq w1 hC1 E hE;clear vq;simp only [puts,qak,qad,sIB,sCZ,sCS] at hE ⊢;go_wp2;exact .mk (hE _ hC1)
       apply yN_
       ·apply dP [(20,some 167)];exact fun _=>rfl;rfl;intro vals vq w1 hC1 E hE;have f20:=vq.2;clear vq;simp only [puts,qak,qad,sIB,sCZ,sCS,f20] at hE ⊢;clear f20;go_wp2;exact .mk (hE _ hC1)
       apply yN_
       ·apply dP [(21,some 168)];exact fun _=>rfl;rfl;intro vals vq w1 hC1 E hE;have f21:=vq.2;clear vq;have d0:=hC1.r.atN (i:=2) (v:=.int .u64 (vc:Int)) rfl;simp only [puts,qak,qad,sIB,sCZ,sCS,f21] at hE ⊢;clear f21;go_wp2;exact .mk (hE _ hC1)
       apply yN_
       ·apply dP [(19,some 166),(22,some 169)];exact fun _=>rfl;rfl;intro vals vq w1 hC1 E hE;have f19:=vq.1.1.1.2;have f22:=vq.2;clear vq;simp only [puts,qak,qad,sIB,sCZ,sCS,f19,f22] at hE ⊢;clear f19 f22;go_wp2;rw [and64 vb vc (L64.out _ HL8.out.b) (L64.out _ HL8.out.c),← HBC.out];exact .mk (hE _ hC1)
       apply yN_
       ·apply dP [(16,some 163),(23,some 170)];exact fun _=>rfl;rfl;intro vals vq w1 hC1 E hE;have f16:=vq.1.1.1.1.1.1.1.2;have f23:=vq.2;clear vq;simp only [puts,qak,qad,sIB,sCZ,sCS,f16,f23] at hE ⊢;clear f16 f23;go_wp2;rw [xor64 x1 bc2 LX1.out LBC.out,← HMJ.out];exact .mk (hE _ hC1)
       apply yN_
       ·apply dP [(5,some 152),(24,some 171)];exact fun _=>rfl;rfl;intro vals vq w1 hC1 E hE;have f5:=vq.1.1.1.1.1.1.1.1.1.1.1.1.1.1.1.1.1.1.1.2;have f24:=vq.2;clear vq;simp only [puts,qak,qad,sIB,sCZ,sCS,f5,f24] at hE ⊢;clear f5 f24;go_wp2;rw [qbg YA mj,← HQ1.out];exact .mk (hE _ hC1)
       apply yN_
       ·apply dP [(0,some 147),(25,some 172),(5,some 152)];exact fun _=>rfl;rfl;intro vals vq w1 hC1 E hE;have f0:=vq.1.1.1.1.1.1.1.1.1.1.1.1.1.1.1.1.1.1.1.1.1.1.1.1.1.2;have f5:=vq.1.1.1.1.1.1.1.1.1.1.1.1.1.1.1.1.1.1.1.1.2;have f25:=vq.2;clear vq;simp only [puts,qak,qad,sIB,sCZ,sCS,f0,f5,f25] at hE ⊢;clear f0 f5 f25;go_wp2_with fail;refine qaa (qcK 64 80 _ _ _ _ _ _ _ (.inr rfl) q1 LQ1.out) ?_;rintro e w2 ⟨rfl,hb2⟩;rw [← HYY.out];go_wp2_with fail;exact .mk (hE _ (hC1.next hb2))
       apply yL_
       ·apply dP [(26,some 173),(26,some 173),(0,some 147),(1,some 148),(2,some 149),(3,some 150),(4,some 151),(5,some 152),(6,some 153),(7,some 154),(8,some 155),(9,some 156),(10,some 157),(11,some 158),(12,some 159),(13,some 160),(14,some 161),(15,some 162),(16,some 163),(17,some 164),(18,some 165),(19,some 166),(20,some 167),(21,some 168),(22,some 169),(23,some 170),(24,some 171),(25,some 172),(26,some 173)];exact fun _=>rfl;rfl;rintro vals ⟨⟨⟨⟨⟨⟨⟨⟨⟨⟨⟨⟨⟨⟨⟨⟨⟨⟨⟨⟨⟨⟨⟨⟨⟨⟨⟨-,f0⟩,f1⟩,f2⟩,f3⟩,f4⟩,f5⟩,f6⟩,f7⟩,f8⟩,f9⟩,f10⟩,f11⟩,f12⟩,f13⟩,f14⟩,f15⟩,f16⟩,f17⟩,f18⟩,f19⟩,f20⟩,f21⟩,f22⟩,f23⟩,f24⟩,f25⟩,f26⟩ w1 hC1 E hE;simp only [puts,qak,qad,sIB,sCZ,sCS,f0,f1,f2,f3,f4,f5,f6,f7,f8,f9,f10,f11,f12,f13,f14,f15,f16,f17,f18,f19,f20,f21,f22,f23,f24,f25,f26] at hE ⊢;clear f0 f1 f2 f3 f4 f5 f6 f7 f8 f9 f10 f11 f12 f13 f14 f15 f16 f17 f18 f19 f20 f21 f22 f23 f24 f25 f26;go_wp2;exact .mk (hE _ hC1)
       rintro vals ⟨⟨⟨⟨⟨⟨⟨⟨⟨⟨⟨⟨⟨⟨⟨⟨⟨⟨⟨⟨⟨⟨⟨⟨⟨⟨⟨⟨-,f0⟩,f1⟩,f2⟩,f3⟩,f4⟩,f5⟩,f6⟩,f7⟩,f8⟩,f9⟩,f10⟩,f11⟩,f12⟩,f13⟩,f14⟩,f15⟩,f16⟩,f17⟩,f18⟩,f19⟩,f20⟩,f21⟩,f22⟩,f23⟩,f24⟩,f25⟩,f26⟩,f27⟩ w1 hC1;simp only [puts,qak,qad,sIB,sCZ,sCS,f0,f1,f2,f3,f4,f5,f6,f7,f8,f9,f10,f11,f12,f13,f14,f15,f16,f17,f18,f19,f20,f21,f22,f23,f24,f25,f26,f27];clear f0 f1 f2 f3 f4 f5 f6 f7 f8 f9 f10 f11 f12 f13 f14 f15 f16 f17 f18 f19 f20 f21 f22 f23 f24 f25 f26 f27;clear HC0;go_wp2_with fail;have HC0:=hC1.drew;clear hC1;refine qa5 (fun u=>BkR w gf F64 p (some bad) blk (some sad) S (.slice (some ⟨g,0,none⟩) 80 c) RW g2 c2 ⟨va,vb,vc,vd,ve,vf,vg,vh⟩ u) (fun _=>false) 26 [(0,some 174),(1,some 175),(2,some 176),(3,some 177),(4,some 178),(5,some 179),(6,some 180),(7,some 181),(8,some 182),(9,some 183),(10,some 184),(11,some 185),(12,some 186),(13,some 187),(14,some 188),(15,some 189),(16,some 190),(17,some 191),(18,some 192),(19,some 193),(20,some 194),(21,some 195),(22,some 196),(23,some 197),(24,some 198),(25,some 199),(26,some 200),(27,some 13)] (by kernel_rfl) (by kernel_rfl) (by decide) (by kernel_rfl) (fun _=>rfl) HC0 ?_;apply DetQ.next
       ·apply dQ;apply dP [];exact fun _=>rfl;rfl;rintro vals - w1 hC1 E hE;simp only [puts,qak,qad,sIB,sCZ,sCS] at hE ⊢;refine qab hC1.w.st.h rfl rfl rfl hu rfl qbh ?_;go_wp2_with fail;exact .mk (hE _ hC1)
       apply DetQ.next
       ·apply dQ;apply dP [];exact fun _=>rfl;rfl;rintro vals ⟨-,-⟩ w1 hC1 E hE;simp only [puts,qak,qad,sIB,sCZ,sCS] at hE ⊢;go_wp2;exact .mk (hE _ hC1)
       apply DetQ.next
       ·apply dQ;apply dP [];exact fun _=>rfl;rfl;intro vals vq w1 hC1 E hE;clear vq;simp only [puts,qak,qad,sIB,sCZ,sCS] at hE ⊢;go_wp2;exact .mk (hE _ hC1)
       apply DetQ.next
       ·apply dQ;apply dP [(1,some 175),(2,some 176)];exact fun _=>rfl;rfl;rintro vals ⟨⟨⟨-,-⟩,f1⟩,f2⟩ w1 hC1 E hE;simp only [puts,qak,qad,sIB,sCZ,sCS,f1,f2] at hE ⊢;clear f1 f2;go_wp2;rw [qbg xx yy,← HZ1.out];exact .mk (hE _ hC1)
       apply DetQ.next
       ·apply dQ;apply dP [(0,some 174),(3,some 177)];exact fun _=>rfl;rfl;rintro vals ⟨⟨⟨⟨-,f0⟩,-⟩,-⟩,f3⟩ w1 hC1 E hE;simp only [puts,qak,qad,sIB,sCZ,sCS,f0,f3] at hE ⊢;clear f0 f3;go_wp2_with fail;refine qaa (qcK 64 80 _ _ _ _ _ _ _ (.inr rfl) z1 LZ1.out) ?_;rintro e w2 ⟨rfl,hb2⟩;rw [← HZA.out];go_wp2_with fail;exact .mk (hE _ (hC1.next hb2))
       apply DetQ.next
       ·apply dQ;apply dP [];exact fun _=>rfl;rfl;intro vals vq w1 hC1 E hE;clear vq;simp only [puts,qak,qad,sIB,sCZ,sCS] at hE ⊢;go_wp2;exact .mk (hE _ hC1)
       apply DetQ.next
       ·apply dQ;apply dP [];exact fun _=>rfl;rfl;intro vals vq w1 hC1 E hE;clear vq;simp only [puts,qak,qad,sIB,sCZ,sCS] at hE ⊢;go_wp2;exact .mk (hE _ hC1)
       apply DetQ.next
       ·apply dQ;apply dP [(6,some 180)];exact fun _=>rfl;rfl;intro vals vq w1 hC1 E hE;have f6:=vq.2;clear vq;simp only [puts,qak,qad,sIB,sCZ,sCS,f6] at hE ⊢;clear f6;go_wp2;exact .mk (hE _ hC1)
       apply DetQ.next
       ·apply dQ;apply dP [(7,some 181)];exact fun _=>rfl;rfl;intro vals vq w1 hC1 E hE;have f7:=vq.2;clear vq;have d0:=hC1.r.atN (i:=1) (v:=.int .u64 (vb:Int)) rfl;simp only [puts,qak,qad,sIB,sCZ,sCS,f7] at hE ⊢;clear f7;go_wp2;exact .mk (hE _ hC1)
       apply DetQ.next
       ·apply dQ;apply dP [];exact fun _=>rfl;rfl;intro vals vq w1 hC1 E hE;clear vq;simp only [puts,qak,qad,sIB,sCZ,sCS] at hE ⊢;go_wp2;exact .mk (hE _ hC1)
       apply DetQ.next
       ·apply dQ;apply dP [(9,some 183)];exact fun _=>rfl;rfl;intro vals vq w1 hC1 E hE;have f9:=vq.2;clear vq;simp only [puts,qak,qad,sIB,sCZ,sCS,f9] at hE ⊢;clear f9;go_wp2;exact .mk (hE _ hC1)
       apply DetQ.next
       ·apply dQ;apply dP [(10,some 184)];exact fun _=>rfl;rfl;intro vals vq w1 hC1 E hE;have f10:=vq.2;clear vq;have d0:=hC1.r.atN (i:=2) (v:=.int .u64 (vc:Int)) rfl;simp only [puts,qak,qad,sIB,sCZ,sCS,f10] at hE ⊢;clear f10;go_wp2;exact .mk (hE _ hC1)
       apply DetQ.next
       ·apply dQ;apply dP [];exact fun _=>rfl;rfl;intro vals vq w1 hC1 E hE;clear vq;simp only [puts,qak,qad,sIB,sCZ,sCS] at hE ⊢;refine qab hC1.w.st.h rfl rfl rfl hu rfl qbh ?_;go_wp2_with fail;exact .mk (hE _ hC1)
       apply DetQ.next
       ·apply dQ;apply dP [];exact fun _=>rfl;rfl;intro vals vq w1 hC1 E hE;clear vq;simp only [puts,qak,qad,sIB,sCZ,sCS] at hE ⊢;go_wp2;exact .mk (hE _ hC1)
       apply DetQ.next
       ·apply dQ;apply dP [(13,some 187)];exact fun _=>rfl;rfl;intro vals vq w1 hC1 E hE;have f13:=vq.2;clear vq;simp only [puts,qak,qad,sIB,sCZ,sCS,f13] at hE ⊢;clear f13;go_wp2;exact .mk (hE _ hC1)
       apply DetQ.next
       ·apply dQ;apply dP [(14,some 188)];exact fun _=>rfl;rfl;intro vals vq w1 hC1 E hE;have f14:=vq.2;clear vq;have d0:=hC1.r.atN (i:=3) (v:=.int .u64 (vd:Int)) rfl;simp only [puts,qak,qad,sIB,sCZ,sCS,f14] at hE ⊢;clear f14;go_wp2;exact .mk (hE _ hC1)
       apply DetQ.next
       ·apply dQ;apply dP [];exact fun _=>rfl;rfl;intro vals vq w1 hC1 E hE;clear vq;simp only [puts,qak,qad,sIB,sCZ,sCS] at hE ⊢;go_wp2;exact .mk (hE _ hC1)
       apply DetQ.next
       ·apply dQ;apply dP [(15,some 189),(16,some 190)];exact fun _=>rfl;rfl;intro vals vq w1 hC1 E hE;have f15:=vq.1.2;have f16:=vq.2;clear vq;simp only [puts,qak,qad,sIB,sCZ,sCS,f15,f16] at hE ⊢;clear f15 f16;go_wp2;rw [qbg vd xx,← HZ2.out];exact .mk (hE _ hC1)
       apply DetQ.next
       ·apply dQ;apply dP [(12,some 186),(17,some 191),(4,some 178)];exact fun _=>rfl;rfl;intro vals vq w1 hC1 E hE;have f4:=vq.1.1.1.1.1.1.1.1.1.1.1.1.1.2;have f12:=vq.1.1.1.1.1.2;have f17:=vq.2;clear vq;simp only [puts,qak,qad,sIB,sCZ,sCS,f4,f12,f17] at hE ⊢;clear f4 f12 f17;go_wp2_with fail;refine qaa (qcK 64 80 _ _ _ _ _ _ _ (.inr rfl) z2 LZ2.out) ?_;rintro e w2 ⟨rfl,hb2⟩;rw [← HZE.out];go_wp2_with fail;exact .mk (hE _ (hC1.next hb2))
       apply DetQ.next
       ·apply dQ;apply dP [];exact fun _=>rfl;rfl;intro vals vq w1 hC1 E hE;clear vq;simp only [puts,qak,qad,sIB,sCZ,sCS] at hE ⊢;go_wp2;exact .mk (hE _ hC1)
       apply DetQ.next
       ·apply dQ;apply dP [];exact fun _=>rfl;rfl;intro vals vq w1 hC1 E hE;clear vq;simp only [puts,qak,qad,sIB,sCZ,sCS] at hE ⊢;go_wp2;exact .mk (hE _ hC1)
       apply DetQ.next
       ·apply dQ;apply dP [(20,some 194)];exact fun _=>rfl;rfl;intro vals vq w1 hC1 E hE;have f20:=vq.2;clear vq;simp only [puts,qak,qad,sIB,sCZ,sCS,f20] at hE ⊢;clear f20;go_wp2;exact .mk (hE _ hC1)
       apply DetQ.next
       ·apply dQ;apply dP [(21,some 195)];exact fun _=>rfl;rfl;intro vals vq w1 hC1 E hE;have f21:=vq.2;clear vq;have d0:=hC1.r.atN (i:=5) (v:=.int .u64 (vf:Int)) rfl;simp only [puts,qak,qad,sIB,sCZ,sCS,f21] at hE ⊢;clear f21;go_wp2;exact .mk (hE _ hC1)
       apply DetQ.next
       ·apply dQ;apply dP [];exact fun _=>rfl;rfl;intro vals vq w1 hC1 E hE;clear vq;simp only [puts,qak,qad,sIB,sCZ,sCS] at hE ⊢;go_wp2;exact .mk (hE _ hC1)
       apply DetQ.next
       ·apply dQ;apply dP [(23,some 197)];exact fun _=>rfl;rfl;intro vals vq w1 hC1 E hE;have f23:=vq.2;clear vq;simp only [puts,qak,qad,sIB,sCZ,sCS,f23] at hE ⊢;clear f23;go_wp2;exact .mk (hE _ hC1)
       apply DetQ.next
       ·apply dQ;apply dP [(24,some 198)];exact fun _=>rfl;rfl;intro vals vq w1 hC1 E hE;have f24:=vq.2;clear vq;have d0:=hC1.r.atN (i:=6) (v:=.int .u64 (vg:Int)) rfl;simp only [puts,qak,qad,sIB,sCZ,sCS,f24] at hE ⊢;clear f24;go_wp2;exact .mk (hE _ hC1)
       apply DetQ.done;rintro vals ⟨⟨⟨⟨⟨⟨⟨⟨⟨⟨⟨⟨⟨⟨⟨⟨⟨⟨⟨⟨⟨⟨⟨⟨⟨⟨-,f0⟩,f1⟩,f2⟩,f3⟩,f4⟩,f5⟩,f6⟩,f7⟩,f8⟩,f9⟩,f10⟩,f11⟩,f12⟩,f13⟩,f14⟩,f15⟩,f16⟩,f17⟩,f18⟩,f19⟩,f20⟩,f21⟩,f22⟩,f23⟩,f24⟩,f25⟩ w1 hC1;refine qa7 [(4,some 178),(5,some 179),(8,some 182),(11,some 185),(18,some 192),(19,some 193),(22,some 196),(25,some 199)] (fun _=>rfl) rfl ?_;intro E hE;simp only [puts,qak,qad,sIB,sCZ,sCS,f4,f5,f8,f11,f18,f19,f22,f25] at hE ⊢;go_wp2;refine .mk (hE _ _ ?_);clear hE E;generalize hval:upd _ 26 _=vals26;replace f0:=uP hval (by decide) f0;replace f1:=uP hval (by decide) f1;replace f2:=uP hval (by decide) f2;replace f3:=uP hval (by decide) f3;replace f4:=uP hval (by decide) f4;replace f5:=uP hval (by decide) f5;replace f6:=uP hval (by decide) f6;replace f7:=uP hval (by decide) f7;replace f8:=uP hval (by decide) f8;replace f9:=uP hval (by decide) f9;replace f10:=uP hval (by decide) f10;replace f11:=uP hval (by decide) f11;replace f12:=uP hval (by decide) f12;replace f13:=uP hval (by decide) f13;replace f14:=uP hval (by decide) f14;replace f15:=uP hval (by decide) f15;replace f16:=uP hval (by decide) f16;replace f17:=uP hval (by decide) f17;replace f18:=uP hval (by decide) f18;replace f19:=uP hval (by decide) f19;replace f20:=uP hval (by decide) f20;replace f21:=uP hval (by decide) f21;replace f22:=uP hval (by decide) f22;replace f23:=uP hval (by decide) f23;replace f24:=uP hval (by decide) f24;replace f25:=uP hval (by decide) f25;have f26:=(congrFun hval 26).symm.trans (qaO _ _ _);clear hval;refine qa7 [(26,some 200),(18,some 192),(0,some 174),(1,some 175),(2,some 176),(3,some 177),(4,some 178),(5,some 179),(6,some 180),(7,some 181),(8,some 182),(9,some 183),(10,some 184),(11,some 185),(12,some 186),(13,some 187),(14,some 188),(15,some 189),(16,some 190),(17,some 191),(18,some 192),(19,some 193),(20,some 194),(21,some 195),(22,some 196),(23,some 197),(24,some 198),(25,some 199),(26,some 200)] (fun _=>rfl) rfl ?_;intro E hE;simp only [puts,qak,qad,sIB,sCZ,sCS,f0,f1,f2,f3,f4,f5,f6,f7,f8,f9,f10,f11,f12,f13,f14,f15,f16,f17,f18,f19,f20,f21,f22,f23,f24,f25,f26] at hE ⊢;go_wp2;refine .mk (hE _ _ ?_);clear hE E;generalize hval:upd _ 27 _=vals27;replace f0:=uP hval (by decide) f0;replace f1:=uP hval (by decide) f1;replace f2:=uP hval (by decide) f2;replace f3:=uP hval (by decide) f3;replace f4:=uP hval (by decide) f4;replace f5:=uP hval (by decide) f5;replace f6:=uP hval (by decide) f6;replace f7:=uP hval (by decide) f7;replace f8:=uP hval (by decide) f8;replace f9:=uP hval (by decide) f9;replace f10:=uP hval (by decide) f10;replace f11:=uP hval (by decide) f11;replace f12:=uP hval (by decide) f12;replace f13:=uP hval (by decide) f13;replace f14:=uP hval (by decide) f14;replace f15:=uP hval (by decide) f15;replace f16:=uP hval (by decide) f16;replace f17:=uP hval (by decide) f17;replace f18:=uP hval (by decide) f18;replace f19:=uP hval (by decide) f19;replace f20:=uP hval (by decide) f20;replace f21:=uP hval (by decide) f21;replace f22:=uP hval (by decide) f22;replace f23:=uP hval (by decide) f23;replace f24:=uP hval (by decide) f24;replace f25:=uP hval (by decide) f25;replace f26:=uP hval (by decide) f26;have f27:=(congrFun hval 27).symm.trans (qaO _ _ _);clear hval;refine qcs ?_;simp only [puts,qak,qad,sIB,sCZ,sCS,f0,f1,f2,f3,f4,f5,f6,f7,f8,f9,f10,f11,f12,f13,f14,f15,f16,f17,f18,f19,f20,f21,f22,f23,f24,f25,f26,f27];clear f0 f1 f2 f3 f4 f5 f6 f7 f8 f9 f10 f11 f12 f13 f14 f15 f16 f17 f18 f19 f20 f21 f22 f23 f24 f25 f26 f27;clear HC0;have hfin:BkR w gf F64 p (some bad) blk (some sad) S (.slice (some ⟨g,0,none⟩) 80 c) RW w1.heap.size 8 (mixTo F64 RW S (t+1)) _:=hC1.turn (V':=mixTo F64 RW S (t+1)) (fz:=(0,0));rw [HM1.out] at hfin;have HFIN:=zY hfin;clear hfin hC1;go_wp2_with fail;refine ⟨⟨t+1,w1.heap.size,8,by omega,by go_num,rfl,?_⟩,by simp [intOf]; omega⟩;rw [HM1.out]; exact HFIN.out
      ·obtain rfl:t=80:=by omega
       obtain ⟨R,hR⟩:=eX (mixTo F64 RW S 80);rw [← hR] at hsr;have ho:BkO w gf F64 p (some bad) blk (some sad) S (.slice (some ⟨g,0,none⟩) 80 c) RW g2 c2 R (.slice none 0 0) ((s8L (addS F64 S R)).take 0) wr:=⟨hsr,OwnX.nil _ _ _ _,.inl rfl⟩;have HR:=zY hR;have HO:=zY ho;clear hR ho hsr HSR;go_wp2_with fail;obtain ⟨wo3,rfl⟩:∃ wo3:World,wo3=wr:=⟨_,rfl⟩
       go_loopw [20,21] (fun v i wr=>∃ (k:Nat) (A5:Option Addr) (c5:Nat),k≤8∧i=.int .i64 k∧v=.slice A5 k c5∧BkO w gf F64 p (some bad) blk (some sad) S (.slice (some ⟨g,0,none⟩) 80 c) RW g2 c2 R (.slice A5 k c5) ((s8L (addS F64 S R)).take k) wr) (fun _ i _=>8 - (intOf i).toNat)
       case atStart=>exact ⟨0,none,0,by omega,rfl,rfl,HO.out⟩
       case round =>
        obtain ⟨k,A5,c5,hk,rfl,rfl,hbo⟩:=hrel
        by_cases hk8:k<8
        ·have hk8':(k:Int)<8:=by omega
         obtain ⟨rj,hrj⟩:=eX ((s8L R).getD k 0);obtain ⟨sj,hsj⟩:=eX ((s8L S).getD k 0);obtain ⟨s1,hs1⟩:=eX ((rj+sj)%2^64);obtain ⟨aj,haj⟩:=eX (s1%2^64);obtain ⟨XS,hXS⟩:=eX ((s8L (addS F64 S R)).take k);have hxl:XS.length=k:=by rw [hXS]; exact qdZ _ _ hk
         have hnx:(s8L (addS F64 S R)).take (k+1)=XS++[aj]:=by
          rw [s8_take _ _ hk8,addS_get _ _ _ _ hk8,hXS,haj,hs1,hrj,hsj];exact congrArg (fun z=>(s8L (addS F64 S R)).take k++[z]) (mod_r64 _ _)
         have ER:Hid ((wordsV .u64 (s8L R))[k]?=some (.int .u64 (rj:Int))):=zY (by rw [hrj]; exact qcq _ _ _ (by show k<8; exact hk8));have ES:Hid ((wordsV .u64 (s8L S))[k]?=some (.int .u64 (sj:Int))):=zY (by rw [hsj]; exact qcq _ _ _ (by show k<8; exact hk8));have LS1:Hid (s1<18446744073709551616):=zY (by rw [hs1]; exact Nat.mod_lt _ (by decide));rw [← hXS] at hbo;have HS1:=zY hs1;have HAJ:=zY haj;have HXL:=zY hxl;have HNX:=zY hnx;have hu:=Tryz.underlying94;have HC0:=hbo.drew;clear hrj hsj hs1 haj hXS hxl hnx hbo HO;go_wp2_with fail;refine qa5 (fun u=>BkO w gf F64 p (some bad) blk (some sad) S (.slice (some ⟨g,0,none⟩) 80 c) RW g2 c2 R (.slice A5 k c5) XS u) (fun i=>i == 0) 12 [(0,some 205),(1,some 206),(2,some 207),(3,some 208),(4,some 209),(5,some 210),(6,some 211),(7,some 212),(8,some 213),(9,some 214),(10,some 215),(11,some 216),(12,some 217),(13,some 218),(14,some 20)] (by kernel_rfl) (by kernel_rfl) (by decide) (by kernel_rfl) (fun _=>rfl) HC0 ?_;apply DetQ.next
         ·apply detStepQ_pure [];exact fun _=>rfl;rfl;rintro vals - w1 E hE;simp only [puts,qak,qad,sIB,sCZ,sCS] at hE ⊢;go_wp2;exact .mk hE
         apply DetQ.next
         ·apply dQ;apply dP [];exact fun _=>rfl;rfl;rintro vals ⟨-,-⟩ w1 hC1 E hE;simp only [puts,qak,qad,sIB,sCZ,sCS] at hE ⊢;refine qab hC1.r.w.st.h rfl rfl rfl hu rfl qbh ?_;go_wp2_with fail;exact .mk (hE _ hC1)
         apply DetQ.next
         ·apply dQ;apply dP [];exact fun _=>rfl;rfl;intro vals vq w1 hC1 E hE;clear vq;simp only [puts,qak,qad,sIB,sCZ,sCS] at hE ⊢;go_wp2;exact .mk (hE _ hC1)
         apply DetQ.next
         ·apply dQ;apply dP [];exact fun _=>rfl;rfl;intro vals vq w1 hC1 E hE;clear vq;simp only [puts,qak,qad,sIB,sCZ,sCS] at hE ⊢;go_wp2;exact .mk (hE _ hC1)
         apply DetQ.next
         ·apply dQ;apply dP [(2,some 207),(3,some 208)];exact fun _=>rfl;rfl;rintro vals ⟨⟨⟨⟨-,-⟩,-⟩,f2⟩,f3⟩ w1 hC1 E hE;have hc8:=hC1.r.le;simp only [puts,qak,qad,sIB,sCZ,sCS,f2,f3] at hE ⊢;clear f2 f3;go_wp2;exact .mk (hE _ hC1)
         apply DetQ.next
         ·apply dQ;apply dP [(4,some 209)];exact fun _=>rfl;rfl;intro vals vq w1 hC1 E hE;have f4:=vq.2;clear vq;have d0:=hC1.r.r.atN ER.out;simp only [puts,qak,qad,sIB,sCZ,sCS,f4] at hE ⊢;clear f4;go_wp2;exact .mk (hE _ hC1)
         apply DetQ.next
         ·apply dQ;apply dP [];exact fun _=>rfl;rfl;intro vals vq w1 hC1 E hE;clear vq;simp only [puts,qak,qad,sIB,sCZ,sCS] at hE ⊢;go_wp2;exact .mk (hE _ hC1)
         apply DetQ.next
         ·apply dQ;apply dP [];exact fun _=>rfl;rfl;intro vals vq w1 hC1 E hE;clear vq;simp only [puts,qak,qad,sIB,sCZ,sCS] at hE ⊢;go_wp2;exact .mk (hE _ hC1)
         apply DetQ.next
         ·apply dQ;apply dP [(6,some 211),(7,some 212)];exact fun _=>rfl;rfl;intro vals vq w1 hC1 E hE;have f6:=vq.1.2;have f7:=vq.2;clear vq;simp only [puts,qak,qad,sIB,sCZ,sCS,f6,f7] at hE ⊢;clear f6 f7;go_wp2;exact .mk (hE _ hC1)
         apply DetQ.next
         ·apply dQ;apply dP [(8,some 213)];exact fun _=>rfl;rfl;intro vals vq w1 hC1 E hE;have f8:=vq.2;clear vq;have d0:=hC1.r.w.st.rs.val ES.out;simp only [puts,qak,qad,sIB,sCZ,sCS,f8] at hE ⊢;clear f8;go_wp2;exact .mk (hE _ hC1)
         apply DetQ.next
         ·apply dQ;apply dP [(5,some 210),(9,some 214)];exact fun _=>rfl;rfl;intro vals vq w1 hC1 E hE;have f5:=vq.1.1.1.1.2;have f9:=vq.2;clear vq;simp only [puts,qak,qad,sIB,sCZ,sCS,f5,f9] at hE ⊢;clear f5 f9;go_wp2;rw [qbg rj sj,← HS1.out];exact .mk (hE _ hC1)
         apply DetQ.next
         ·apply dQ;apply dP [(1,some 206),(10,some 215)];exact fun _=>rfl;rfl;intro vals vq w1 hC1 E hE;have f1:=vq.1.1.1.1.1.1.1.1.1.2;have f10:=vq.2;clear vq;simp only [puts,qak,qad,sIB,sCZ,sCS,f1,f10] at hE ⊢;clear f1 f10;go_wp2_with fail;refine qaa (qcK 64 80 _ _ _ _ _ _ _ (.inr rfl) s1 LS1.out) ?_;rintro e w2 ⟨rfl,hb2⟩;rw [← HAJ.out];go_wp2_with fail;exact .mk (hE _ (hC1.next hb2))
         apply DetQ.done;rintro vals ⟨⟨⟨⟨⟨⟨⟨⟨⟨⟨⟨⟨-,f0⟩,f1⟩,f2⟩,f3⟩,f4⟩,f5⟩,f6⟩,f7⟩,f8⟩,f9⟩,f10⟩,f11⟩ w1 hC1;refine qa7 [(11,some 216)] (fun _=>rfl) rfl ?_;intro E hE;simp only [puts,qak,qad,sIB,sCZ,sCS,f11] at hE ⊢;go_wp2;refine .mk (hE _ _ ?_);clear hE E;generalize hval:upd _ 12 _=vals12;replace f0:=uP hval (by decide) f0;replace f1:=uP hval (by decide) f1;replace f2:=uP hval (by decide) f2;replace f3:=uP hval (by decide) f3;replace f4:=uP hval (by decide) f4;replace f5:=uP hval (by decide) f5;replace f6:=uP hval (by decide) f6;replace f7:=uP hval (by decide) f7;replace f8:=uP hval (by decide) f8;replace f9:=uP hval (by decide) f9;replace f10:=uP hval (by decide) f10;replace f11:=uP hval (by decide) f11;have f12:=(congrFun hval 12).symm.trans (qaO _ _ _);clear hval;refine qa7 [(0,some 205),(12,some 217),(11,some 216)] (fun _=>rfl) rfl ?_;intro E hE;simp only [puts,qak,qad,sIB,sCZ,sCS,f0,f11,f12] at hE ⊢;refine qas qdW rfl rfl (show OwnX w1 (gf+1) 43 1 (.slice A5 k c5) k (wordsV .u64 XS) by have:=hC1.o; rwa [HXL.out] at this) rfl rfl rfl rfl (by unfold maxLen; omega) (by omega) (by have:=hC1.r.w.st.h.lt; omega) ?_;intro A6 c6 w6 hown6 hg6 hn6;have HOWN6:=zY hown6;have HG6:=zY hg6;have HN6:=zY hn6;clear hown6 hg6 hn6;go_wp2_with fail;refine .mk (hE _ _ ?_);clear hE E;generalize hval:upd _ 13 _=vals13;replace f0:=uP hval (by decide) f0;replace f1:=uP hval (by decide) f1;replace f2:=uP hval (by decide) f2;replace f3:=uP hval (by decide) f3;replace f4:=uP hval (by decide) f4;replace f5:=uP hval (by decide) f5;replace f6:=uP hval (by decide) f6;replace f7:=uP hval (by decide) f7;replace f8:=uP hval (by decide) f8;replace f9:=uP hval (by decide) f9;replace f10:=uP hval (by decide) f10;replace f11:=uP hval (by decide) f11;replace f12:=uP hval (by decide) f12;have f13:=(congrFun hval 13).symm.trans (qaO _ _ _);clear hval;refine qa7 [(13,some 218),(13,some 218),(0,some 205),(1,some 206),(2,some 207),(3,some 208),(4,some 209),(5,some 210),(6,some 211),(7,some 212),(8,some 213),(9,some 214),(10,some 215),(11,some 216),(12,some 217),(13,some 218)] (fun _=>rfl) rfl ?_;intro E hE;simp only [puts,qak,qad,sIB,sCZ,sCS,f0,f1,f2,f3,f4,f5,f6,f7,f8,f9,f10,f11,f12,f13] at hE ⊢;go_wp2;refine .mk (hE _ _ ?_);clear hE E;generalize hval:upd _ 14 _=vals14;replace f0:=uP hval (by decide) f0;replace f1:=uP hval (by decide) f1;replace f2:=uP hval (by decide) f2;replace f3:=uP hval (by decide) f3;replace f4:=uP hval (by decide) f4;replace f5:=uP hval (by decide) f5;replace f6:=uP hval (by decide) f6;replace f7:=uP hval (by decide) f7;replace f8:=uP hval (by decide) f8;replace f9:=uP hval (by decide) f9;replace f10:=uP hval (by decide) f10;replace f11:=uP hval (by decide) f11;replace f12:=uP hval (by decide) f12;replace f13:=uP hval (by decide) f13;have f14:=(congrFun hval 14).symm.trans (qaO _ _ _);clear hval;refine qcs ?_;simp only [puts,qak,qad,sIB,sCZ,sCS,f0,f1,f2,f3,f4,f5,f6,f7,f8,f9,f10,f11,f12,f13,f14];clear f0 f1 f2 f3 f4 f5 f6 f7 f8 f9 f10 f11 f12 f13 f14;clear HC0;have hbo2:=hC1.app (o':=.slice A6 (k+1) c6) (y:=aj) (by rw [HXL.out]; exact HOWN6.out) HG6.out HN6.out;rw [← HNX.out] at hbo2;have HBO2:=zY hbo2;clear hbo2 hC1;go_wp2_with fail;exact ⟨⟨k+1,A6,c6,by omega,by go_num,rfl,HBO2.out⟩,by simp [intOf]; omega⟩
        ·obtain rfl:k=8:=by omega
         have HBO:=zY hbo;clear hbo HO;go_wp2_with fail;go_ret;refine ⟨A5,c5,rfl,?_,by rw [← HGF.out]; exact HBO.out.r.w.st.bel⟩;have h:=HBO.out.o;rw [qdZ _ _ (by omega)] at h;have hd:addS F64 S R=mixS F64 S blk:=by rw [mixS,HR.out,HRW.out]; rfl
         rw [← hd,← HGF.out];exact h.mono (by omega)
theorem zeroR64_ne (n k:Nat) (h:k<zeroR F64 n):((((n+1+k:Nat):Int)+16)%128 != 0)=true:=by
 simp only [zeroR,F64] at h;rw [bne_iff_ne];omega
theorem zeroR64_eq (n:Nat):((((n+1+zeroR F64 n:Nat):Int)+16)%128 != 0)=false:=by
 have h:zeroR F64 n=(2*64 - (n+1+64/4)%(2*64))%(2*64):=rfl;rw [bne_eq_false_iff_eq];omega
theorem hsum64_any (p:HP) (data:List UInt8) (A:Option Addr) (c B:Nat) (w:World) (hok:HOk F64 p w B) (hr:Rd w B A (bytesV data)) (hB:B≤w.heap.size) (hl:data.length≤1000) (hc:data.length≤c) :
  Calls Tryz.prog 72 #[.agg (hv F64 p),.slice A data.length c] w (HSumPost F64 64 data w):=by
 have hu:=Tryz.underlying94;obtain ⟨gf,hgf⟩:=eX (w.heap.size)
 have hst0:HsA w gf F64 p A data (.slice none 0 0) [] (w.alloc (.cells (hv F64 p) 94)):=by
  have hb:=below_new w (.cells (hv F64 p) 94);rw [hgf];exact ⟨⟨hb,Blk.new _ _ _,(hok.mono hB).below hb,(hr.mono hB).below hb⟩,OwnX.nil _ _ _ _⟩
 have d0:=hst0.st.h.cell 0;simp [hv,hC,F64] at d0;have HST0:=zY hst0;have HGF:=zY hgf;have hl':(data.length:Int)≤1000:=by omega
 clear hst0 hok hr hB hgf;go_enter Tryz.func72,Tryz.ntmps72;have HOWN0:Hid (OwnX (w.alloc (.cells (hv F64 p) 94)) (gf+1) 5 1 (.slice none 0 0) 0 []):=zY HST0.out.own
 go_wp2_with (first
  | (refine qaF (o:=⟨some 17,_,_,_,_,_⟩) sl_bytes rfl rfl HOWN0.out rfl rfl (by simp [bytesV]) HST0.out.st.rd (by intro u hu; simp [bytesV,byteV] at hu; obtain ⟨_,_,rfl⟩:=hu; rfl) (by unfold maxLen; omega) (by omega) (by have:=HST0.out.st.h.lt; omega) ?_; intro A1 c1 w1 hown1 hg1 hn1; have HOWN1:Hid (OwnX w1 (gf+1) 5 1 (.slice A1 data.length c1) data.length (bytesV data)):=zY (by simpa using hown1); have H1281:Hid (gf+1≤w1.heap.size):=zY (by have:=hg1.size; have:=HGF.out; simp at *; omega); have HG1:=zY hg1; clear hown1 hg1 hn1)
  | (refine qas (o:=⟨some 20,_,_,_,_,_⟩) sl_bytes rfl rfl HOWN1.out rfl rfl rfl rfl (by unfold maxLen; omega) (by omega) H1281.out ?_; intro A2 c2 w2 hown2 hg2 hn2; have hs2:HsA w gf F64 p A data (.slice A2 (data.length+1) c2) (oneZ data 0) w2:=(HST0.out.app (ys:=data) HG1.out HOWN1.out).app hg2 (by rw [qaP,oneZ_zero,qbu]; exact hown2); have d2:=hs2.st.h.cell 0; simp [hv,hC,F64] at d2; rw [HGF.out] at d2; have HST2:=zY hs2; clear hs2 hown2 hg2 hn2))
 rw [show w.heap.size=gf from HGF.out.symm] at d2 ⊢;have hzl:zeroR F64 data.length<128:=Nat.mod_lt _ (by decide);clear HST0 HOWN0 HG1 HOWN1 H1281 d0 d2
 go_loopw [5] (fun v wr=>∃ (k n:Nat) (A3:Option Addr) (c3:Nat),k≤zeroR F64 data.length∧n=data.length+1+k∧v=.slice A3 n c3∧HsA w gf F64 p A data (.slice A3 n c3) (oneZ data k) wr) (fun v _=>data.length+1+zeroR F64 data.length - lenOf v)
 case atStart=>exact ⟨0,data.length+1,A2,c2,Nat.zero_le _,rfl,rfl,HST2.out⟩
 case round =>
  clear HST2;obtain ⟨k,n,A3,c3,hk,hn,rfl,hst⟩:=hrel;have hn2:n≤2000:=by omega
  have d0:=hst.st.h.cell 0;simp [hv,hC,F64] at d0
  by_cases hlt:k<zeroR F64 data.length
  ·have hne:((((n:Nat):Int)+16)%128 != 0)=true:=by rw [hn]; exact zeroR64_ne _ _ hlt
   have HO:Hid (OwnX wr (gf+1) 5 1 (.slice A3 n c3) n (bytesV (oneZ data k))):=zY (by have:=hst.own; rwa [qaP,← hn] at this);have HN:=zY hn;have HST:=zY hst;clear hn hst;go_wp2_with (refine qas (o:=⟨some 35,_,_,_,_,_⟩) sl_bytes rfl rfl HO.out rfl rfl rfl rfl (by unfold maxLen; omega) (by omega) (by have:=HST.out.st.h.lt; omega) ?_; intro A4 c4 w4 hown4 hg4 hn4; have HOWN4:=zY hown4; have HG4:=zY hg4; clear hown4 hg4 hn4);exact ⟨⟨k+1,n+1,A4,c4,hlt,by rw [HN.out]; omega,rfl,HST.out.app HG4.out (by rw [qaP,oneZ_succ,qbu,← Nat.add_assoc,← HN.out]; exact HOWN4.out)⟩,by simp only [lenOf]; have:=HN.out; omega⟩
  ·obtain rfl:k=zeroR F64 data.length:=by omega
   have hne:((((n:Nat):Int)+16)%128 != 0)=false:=by rw [hn]; exact zeroR64_eq _
   have HN:=zY hn;have HST:=zY hst;clear hn hst;go_wp2_with fail;clear hne;obtain ⟨W1,rfl⟩:∃ x:World,x=wr:=⟨_,rfl⟩;obtain ⟨gl0,hgl0⟩:=eX (W1.heap.size);have HGL:=zY hgl0;clear hgl0
   go_loopw [8,9] (fun v i wr=>∃ (k:Nat) (A4:Option Addr) (c4:Nat),k≤16∧i=.int .i64 k∧v=.slice A4 k c4∧Below gl0 W1 wr∧wr.ownsRow gl0 5 1 (.slice A4 k c4) k (bytesV (List.replicate k 0))∧gl0≤wr.heap.size) (fun _ i _=>16 - (intOf i).toNat)
   case atStart=>exact ⟨0,none,0,by omega,rfl,rfl,Below.refl _ _,World.ownsRow_nil _ _ _ _,by rw [HGL.out]; exact Nat.le_refl _⟩
   case round =>
    obtain ⟨k,A4,c4,hk,rfl,rfl,hb4,ho4,hl4⟩:=hrel
    by_cases hk8:k<16
    ·have hk8':(k:Int)<16:=by omega
     have HB4:=zY hb4;have HO4:=zY ho4;clear hb4 ho4;go_wp2_with (refine qbW sl_bytes rfl rfl HO4.out rfl rfl rfl rfl (by unfold maxLen; omega) (by omega) hl4 ?_; intro A5 c5 w5 hown5 hg5; have HOWN5:=zY hown5; have HG5:=zY hg5; clear hown5 hg5);refine ⟨⟨k+1,A5,c5,hk8,by go_num,rfl,HB4.out.grown HG5.out hl4 (fun k hk=>(own_lt HO4.out k hk).1),?_,by have:=HG5.out.size; omega⟩,by simp [intOf]; omega⟩;rw [List.replicate_succ',qbu];exact HOWN5.out
    ·obtain rfl:k=16:=by omega
     obtain ⟨gl,R,rfl,hgl,hcl,hbk⟩:=own_blk ho4 (by decide);obtain ⟨ws,hws⟩:=eX (lenB F64 data.length);have hwl:ws.length=16:=by rw [hws,lenB,List.length_append,List.length_replicate,qbF]; rfl
     have hbk0:Blk wr gl 5 (backC 16 ws 0++R):=by
      rw [qdk _ _ hwl];have e:bytesV (List.replicate 16 (0:UInt8))=List.replicate 16 (.int .u8 0):=by simp [bytesV,byteV]
      rw [e] at hbk;exact hbk
     have hget:∀ i j,i+j+1=16→(bytesV ws)[i]?=some (.int .u8 ((data.length*8/256^j%256:Nat):Int)):=fun i j h=>by rw [hws]; exact lenB64_get _ _ _ hl h
     have HWS:=zY hws;have HWL:=zY hwl;have HB4:=zY hb4;have HBK0:=zY hbk0;have HGET:=zY hget;clear hws hwl hb4 hbk hbk0 hget ho4;go_wp2_with fail;obtain ⟨wo2,rfl⟩:∃ x:World,x=wr:=⟨_,rfl⟩
     go_loopw [7,10] (fun v i wr=>∃ (j y:Nat),j≤16∧y=data.length*8/256^j∧v=.int .i64 y∧i=.int .i64 ((16:Int) - 1 - (j:Int))∧Below gl0 W1 wr∧Blk wr gl 5 (backC 16 ws j++R)) (fun _ i _=>(intOf i+1).toNat)
     case atStart=>exact ⟨0,data.length*8,by omega,by simp,by exact congrArg (Value.int .i64) (by omega),rfl,HB4.out,HBK0.out⟩
     case round =>
      clear HBK0;obtain ⟨j,y,hj,hy,rfl,rfl,hb5,hk5⟩:=hrel;have hyx:y≤data.length*8:=by rw [hy]; exact Nat.div_le_self _ _
      have hy64:(y:Int)≤8000:=by omega
      by_cases hlt2:j<16
      ·obtain ⟨ix,hix⟩:∃ ix:Nat,(16:Int) - 1 - (j:Int)=(ix:Int):=⟨16 - 1 - j,by omega⟩;have hix2:ix+j+1=16:=by omega
       have hval:=HGET.out ix j hix2;rw [← hy] at hval;have hset:=backC_set_app 16 ws j ix _ R HWL.out hix2 hval;obtain ⟨ov,hov⟩:=backC_app_get 16 ws j ix R HWL.out hix2;have hnx:data.length*8/256^(j+1)=y/256:=by rw [hy,Nat.pow_succ,← Nat.div_div_eq_div_mul]
       rw [hix];have dcell:=hk5.cell ix;rw [hov] at dcell;have dfree:=hk5.free ix;have hixl:(ix:Int)<16:=by omega
       have HSET:=zY hset;have HNX:=zY hnx;have HB5:=zY hb5;have HK5:=zY hk5;have HIX:=zY hix;clear hset hnx hb5 hk5 hix hix2 hval hy hov;go_wp2_with fail;refine ⟨⟨j+1,y/256,by omega,by rw [HNX.out],by go_num,by have:=HIX.out; exact congrArg (Value.int .i64) (by omega),(qah _ _ _ _).below HB5.out hgl (by have:=HB5.out.size; rw [HGL.out]; omega),?_⟩,by simp [intOf]⟩;have h:=qaj (i:=ix) HK5.out (.int .u8 ((y%256:Nat):Int));rw [HSET.out] at h;exact h
      ·obtain rfl:j=16:=by omega
       rw [qew] at hk5;have hall:HsA w gf F64 p A data (.slice A3 n c3) (oneZ data (zeroR F64 data.length)) wr:=HST.out.next (by rw [← HGL.out]; exact hb5);have HO5:Hid (OwnX wr (gf+1) 5 1 (.slice A3 n c3) n (bytesV (oneZ data (zeroR F64 data.length)))):=zY (by have:=hall.own; rwa [qaP,← HN.out] at this);have hrl:Rd wr wr.heap.size (some ⟨gl,0,none⟩) (bytesV ws):=Rd.of_blk_app hk5 hk5.lt;have HRL:=zY hrl;have HALL0:=zY hall;clear hrl hall hk5 hb5 hy HST
       go_wp2_with (first
        | (refine qaF (o:=⟨some 63,_,_,_,_,_⟩) (m:=16) sl_bytes rfl rfl HO5.out rfl rfl (by rw [qaq,HWL.out]) HRL.out (by intro u hu; simp [bytesV,byteV] at hu; obtain ⟨_,_,rfl⟩:=hu; rfl) (by unfold maxLen; omega) (by omega) (by have:=HALL0.out.st.h.lt; omega) ?_; intro A5 c5 w5 hown5 hg5 hn5; have hall5:HsA w gf F64 p A data (.slice A5 (n+16) c5) (oneZ data (zeroR F64 data.length)++ws) w5:=HALL0.out.app hg5 (by rw [List.length_append,qaP,HWL.out,← HN.out,qaK]; exact hown5); have d7:=hall5.st.h.cell 7; simp [hv,hC,F64] at d7; have HALL5:=zY hall5; clear hall5 hown5 hg5 hn5)
        | (refine qaF (o:=⟨some 67,_,_,_,_,_⟩) (base:=gf+1) (n:=0) (m:=8) (v:=.slice none 0 0) (xs:=[]) qdW rfl rfl (OwnX.nil _ _ _ _) rfl rfl rfl HALL5.out.st.ok.f (by intro u hu; simp [wordsV] at hu; obtain ⟨_,_,rfl⟩:=hu; rfl) (by unfold maxLen; omega) (by omega) (by have:=HALL5.out.st.h.lt; omega) ?_; intro A6 c6 w6 hown6 hg6 hn6; have HOWN6:=zY hown6; have HG6:=zY hg6; clear hown6 hg6 hn6))
       obtain ⟨ALL,hALL⟩:=eX (padS F64 data);obtain ⟨m,hm⟩:=eX (n+16);rw [← hm];have hall:ALL=oneZ data (zeroR F64 data.length)++ws:=by rw [hALL,HWS.out]; exact (padR64 data hl).symm
       have hal:ALL.length=m:=by rw [hall,List.length_append,qaP,HWL.out,← HN.out,hm]
       have hm4:m≤4000:=by omega
       have hsb:HsB w gf F64 p A data (.slice A5 m c5) ALL A6 c6 (runS F64 ALL 0) w6:=by
        have h5:=HALL5.out;rw [← hm,← hall] at h5;have hg6:=HG6.out;refine ⟨⟨h5.st.keep (qbl hg6 (by have:=h5.st.h.lt; omega) (by intro k hk; simp [Value.ownBlock] at hk)),h5.own.kept hg6 ?_⟩,?_⟩
        ·cases h9:(Value.slice A5 m c5).ownBlock with
         | none=>exact .inl rfl
         | some k=>exact .inr (by simp [Value.ownBlock])
        ·show OwnX w6 (gf+1) 43 1 (.slice A6 8 c6) 8 (wordsV .u64 (s8L (startS F64)))
         simpa using HOWN6.out
       obtain ⟨nb,hnb⟩:∃ nb,m=nb*128:=⟨m/128,by have:=qdo data; rw [← hALL,hal] at this; omega⟩;have hcap:m≤c5∧c5≤9223372036854775807:=qbZ (show OwnX w6 (gf+1) 5 1 (.slice A5 m c5) m (bytesV ALL) by have:=hsb.a.own; rwa [hal] at this);obtain ⟨hcap1,hcap2⟩:=hcap;have HALL:=zY hALL;have HAL:=zY hal;have HSB:=zY hsb;have HNB:=zY hnb;clear hALL hm hall hal hsb hnb HALL5 HOWN6 HG6 HALL0 HO5 HRL d7 d0
       go_loopw [11,12] (fun v i wr=>∃ (j a:Nat) (A7:Option Addr) (c7:Nat),j≤nb∧a=j*128∧i=.int .i64 (a:Int)∧v=.slice A7 8 c7∧HsB w gf F64 p A data (.slice A5 m c5) ALL A7 c7 (runS F64 ALL j) wr) (fun _ i _=>m - (intOf i).toNat)
       case atStart=>exact ⟨0,0,A6,c6,by omega,rfl,rfl,rfl,HSB.out⟩
       case round =>
        clear HSB;obtain ⟨j,a,A7,c7,hj,ha,rfl,rfl,hsj⟩:=hrel
        by_cases hjn:j<nb
        ·have ham:a+128≤m:=by rw [HNB.out,ha]; omega
         have hlt3:a<m:=by omega
         have hle1:a+128≤c5:=by omega
         have hla:OwnX wr (gf+1) 5 1 (.slice A5 m c5) m (bytesV ALL):=by have:=hsj.a.own; rwa [HAL.out] at this
         obtain ⟨g5,hg5,_,_⟩:=hla.ptr (by omega);subst hg5;obtain ⟨bk,hbk⟩:=eX ((ALL.drop a).take 128);have hbl:bk.length=128:=by rw [hbk]; simp; rw [HAL.out]; omega
         obtain ⟨sj,hsj2⟩:=eX (runS F64 ALL j);have hsl:sj.Lt (2^64):=by rw [hsj2]; exact runS_lt F64 ALL j
         have hs1:runS F64 ALL (j+1)=mixS F64 sj bk:=by rw [hsj2,hbk,ha]; rfl
         rw [← hsj2] at hsj
         have HRB:Hid (∀ u,HsB w gf F64 p A data (.slice (some ⟨g5,0,none⟩) m c5) ALL A7 c7 sj u→Rd u u.heap.size (some ⟨g5,a,none⟩) (bytesV bk)):=zY fun u hu=>by
          have h1:OwnX u (gf+1) 5 1 (.slice (some ⟨g5,0,none⟩) m c5) m (bytesV ALL):=by have:=hu.a.own; rwa [HAL.out] at this
          have h2:=rd_take (qdf (Rd.of_own h1 (Nat.le_refl _)) a) 128;rw [Addr.add_lit,Nat.zero_add] at h2;rw [hbk,bytesV,List.map_take,List.map_drop];exact h2
         have HBL:=zY hbl;have HSL:=zY hsl;have HS1:=zY hs1;have HA:=zY ha;have d0:=hsj.a.st.h.cell 0;simp [hv,hC,F64] at d0;have HC0:=hsj.drew;have D0:=zY d0;have HSJ:=zY hsj;clear hbl hsl hs1 hbk hsj2 ha hla hsj d0;go_wp2_with fail;clear HSJ;refine qa5 (fun u=>HsB w gf F64 p A data (.slice (some ⟨g5,0,none⟩) m c5) ALL A7 c7 sj u) (fun _=>false) 10 [(0,some 77),(1,some 78),(2,some 79),(3,some 80),(4,some 81),(5,some 82),(6,some 83),(7,some 84),(8,some 85),(9,some 86),(10,some 87),(11,some 11)] (by kernel_rfl) (by kernel_rfl) (by decide) (by kernel_rfl) (fun _=>rfl) HC0 ?_;apply DetQ.next
         ·apply dQ;apply dP [];exact fun _=>rfl;rfl;rintro vals - w1 hC1 E hE;simp only [sP] at hE ⊢;refine qab hC1.a.st.h rfl rfl rfl hu rfl qbh ?_;go_wp2_with fail;exact .mk (hE _ hC1)
         apply DetQ.next
         ·apply dQ;apply dP [];exact fun _=>rfl;rfl;rintro vals ⟨-,-⟩ w1 hC1 E hE;simp only [sP] at hE ⊢;go_wp2;exact .mk (hE _ hC1)
         apply DetQ.next
         ·apply dQ;apply dP [];exact fun _=>rfl;rfl;intro vals vq w1 hC1 E hE;clear vq;simp only [sP] at hE ⊢;go_wp2;exact .mk (hE _ hC1)
         apply DetQ.next
         ·apply dQ;apply dP [];exact fun _=>rfl;rfl;intro vals vq w1 hC1 E hE;clear vq;simp only [sP] at hE ⊢;go_wp2;exact .mk (hE _ hC1)
         apply DetQ.next
         ·apply dQ;apply dP [];exact fun _=>rfl;rfl;intro vals vq w1 hC1 E hE;clear vq;simp only [sP] at hE ⊢;go_wp2;exact .mk (hE _ hC1)
         apply DetQ.next
         ·apply dQ;apply dP [];exact fun _=>rfl;rfl;intro vals vq w1 hC1 E hE;clear vq;simp only [sP] at hE ⊢;go_wp2;exact .mk (hE _ hC1)
         apply DetQ.next
         ·apply dQ;apply dP [(5,some 82)];exact fun _=>rfl;rfl;intro vals vq w1 hC1 E hE;have d0:=hC1.a.st.h.cell 0;simp [hv,hC,F64] at d0;simp only [sP,vq] at hE ⊢;clear vq;go_wp2;exact .mk (hE _ hC1)
         apply DetQ.next
         ·apply dQ;apply dP [(6,some 83)];exact fun _=>rfl;rfl;intro vals vq w1 hC1 E hE;simp only [sP,vq] at hE ⊢;clear vq;go_wp2;exact .mk (hE _ hC1)
         apply DetQ.next
         ·apply dQ;apply dP [(4,some 81),(7,some 84)];exact fun _=>rfl;rfl;intro vals vq w1 hC1 E hE;simp only [sP,vq] at hE ⊢;clear vq;go_wp2;exact .mk (hE _ hC1)
         apply DetQ.next
         ·apply dQ;apply dP [(2,some 79),(3,some 80),(8,some 85)];exact fun _=>rfl;rfl;intro vals vq w1 hC1 E hE;simp only [sP,vq] at hE ⊢;clear vq;go_wp2;rw [show a+128 - a=128 by omega];exact .mk (hE _ hC1)
         apply DetQ.done;rintro vals ⟨⟨⟨⟨⟨⟨⟨⟨⟨⟨-,f0⟩,f1⟩,f2⟩,f3⟩,f4⟩,f5⟩,f6⟩,f7⟩,f8⟩,f9⟩ w1 hC1;refine qa7 [(0,some 77),(1,some 78),(9,some 86)] (fun _=>rfl) rfl ?_;intro E hE;simp only [sP,f0,f1,f9] at hE ⊢;go_wp2_with fail;have hmx:=block64_any p sj bk (some ⟨g5,a,none⟩) A7 (c5 - a) c7 w1.heap.size w1 (hC1.a.st.ok.mono (by have:=hC1.a.st.h.lt; omega)) (Nat.le_refl _) (HRB.out _ hC1) (Rd.of_own hC1.s (Nat.le_refl _)) HBL.out (by rw [HBL.out]; omega) hC1.s.le_cap HSL.out;rw [HBL.out] at hmx;refine qaa hmx ?_;rintro e w2 ⟨A8,c8,rfl,hown8,hb8⟩;go_wp2_with fail;refine .mk (hE _ _ ?_);clear hE E;generalize hval:upd _ 10 _=vals10;replace f0:=uP hval (by decide) f0;replace f1:=uP hval (by decide) f1;replace f2:=uP hval (by decide) f2;replace f3:=uP hval (by decide) f3;replace f4:=uP hval (by decide) f4;replace f5:=uP hval (by decide) f5;replace f6:=uP hval (by decide) f6;replace f7:=uP hval (by decide) f7;replace f8:=uP hval (by decide) f8;replace f9:=uP hval (by decide) f9;have f10:=(congrFun hval 10).symm.trans (qaO _ _ _);clear hval;refine qa7 [(10,some 87),(10,some 87),(0,some 77),(1,some 78),(2,some 79),(3,some 80),(4,some 81),(5,some 82),(6,some 83),(7,some 84),(8,some 85),(9,some 86),(10,some 87)] (fun _=>rfl) rfl ?_;intro E hE;simp only [sP,f0,f1,f2,f3,f4,f5,f6,f7,f8,f9,f10] at hE ⊢;go_wp2;refine .mk (hE _ _ ?_);clear hE E;generalize hval:upd _ 11 _=vals11;replace f0:=uP hval (by decide) f0;replace f1:=uP hval (by decide) f1;replace f2:=uP hval (by decide) f2;replace f3:=uP hval (by decide) f3;replace f4:=uP hval (by decide) f4;replace f5:=uP hval (by decide) f5;replace f6:=uP hval (by decide) f6;replace f7:=uP hval (by decide) f7;replace f8:=uP hval (by decide) f8;replace f9:=uP hval (by decide) f9;replace f10:=uP hval (by decide) f10;have f11:=(congrFun hval 11).symm.trans (qaO _ _ _);clear hval;refine qcs ?_;simp only [sP,f0,f1,f2,f3,f4,f5,f6,f7,f8,f9,f10,f11];clear f0 f1 f2 f3 f4 f5 f6 f7 f8 f9 f10 f11
         have hfin:HsB w gf F64 p A data (.slice (some ⟨g5,0,none⟩) m c5) ALL A8 c8 (runS F64 ALL (j+1)) w2:=by
          rw [HS1.out];exact ⟨hC1.a.next hb8,hown8.mono (by have:=hC1.a.st.h.lt; omega)⟩
         have d0:=hfin.a.st.h.cell 0;simp [hv,hC,F64] at d0;have HFIN:=zY hfin;clear hfin hC1 HC0 hown8 hb8;go_wp2_with fail;exact ⟨⟨j+1,a+128,A8,c8,hjn,by rw [HA.out]; omega,by go_num,rfl,HFIN.out⟩,by simp [intOf]; omega⟩
        ·obtain rfl:j=nb:=by omega
         have hge:¬ a<m:=by rw [HNB.out,ha]; omega
         obtain ⟨sv,hsv⟩:=eX (runS F64 ALL j);have hsl:sv.Lt (2^64):=by rw [hsv]; exact runS_lt F64 ALL j
         rw [← hsv] at hsj;obtain ⟨g7,rfl,_,_⟩:=hsj.s.ptr (by decide);have hc7:=hsj.s.le_cap;have hso:HsB w gf F64 p A data (.slice none 0 0) (outW 64 8 sv 0) (some ⟨g7,0,none⟩) c7 sv wr:=⟨⟨hsj.a.st,OwnX.nil _ _ _ _⟩,hsj.s⟩;have HSV:=zY hsv;have HSL:=zY hsl;have HSO:=zY hso;have HA:=zY ha;clear hsv hsl hso hsj ha;go_wp2_with fail;obtain ⟨wo5,rfl⟩:∃ x:World,x=wr:=⟨_,rfl⟩
         go_loopw [13,14] (fun v i wr=>∃ (k q:Nat) (A8:Option Addr) (c8:Nat),k≤8∧q=k*8∧i=.int .i64 k∧v=.slice A8 q c8∧HsB w gf F64 p A data (.slice A8 q c8) (outW 64 8 sv k) (some ⟨g7,0,none⟩) c7 sv wr) (fun _ i _=>8 - (intOf i).toNat)
         case atStart=>exact ⟨0,0,none,0,by omega,by omega,rfl,rfl,HSO.out⟩
         case round =>
          clear HSO;obtain ⟨k,q,A8,c8,hk,hq,rfl,rfl,hso⟩:=hrel
          by_cases hk8:k<8
          ·have hk8':(k:Int)<8:=by omega
           obtain ⟨x,hx⟩:=eX ((s8L sv).getD k 0);have hxl:x<2^64:=by rw [hx]; exact s8L_lt HSL.out (by decide) k
           have ex:(wordsV .u64 (s8L sv))[k]?=some (.int .u64 (x:Int)):=by rw [hx]; exact qcq _ _ _ (show k<8 from hk8)
           have hol:(outW 64 8 sv k).length=q:=by rw [outW_length _ _ _ _ hk,hq]
           have hnx:outW 64 8 sv (k+1)=outW 64 8 sv k++wordB 64 x 8:=by rw [outW_succ _ _ _ _ hk8,hx]
           obtain ⟨XS,hXS⟩:=eX (outW 64 8 sv k);rw [← hXS] at hol hnx hso;have HXL:=zY hxl;have EX:=zY ex;have HOL:=zY hol;have HNX:=zY hnx;have HQ:=zY hq;have hq9:q≤64:=by omega
           have HC0:=hso.drew;clear hx hxl ex hol hnx hXS hq hso;go_wp2_with fail;refine qbQ (fun u=>HsB w gf F64 p A data (.slice A8 q c8) XS (some ⟨g7,0,none⟩) c7 sv u) (fun i=>i == 0) 6 7 [(0,some 92),(1,some 93),(2,some 94),(3,some 95),(4,some 96),(5,some 97),(6,some 98),(7,some 99),(8,some 13)] (by kernel_rfl) (by kernel_rfl) (by decide) (by kernel_rfl) (fun _=>rfl) HC0 (fun _ _ hb h=>h.next hb) (by decide) ?_;apply DetR.next
           ·apply qbB [];exact fun _=>rfl;rfl;rintro vals - w1 hC1 E hE;simp only [sP] at hE ⊢;go_wp2;exact .mk hE
           apply DetR.next
           ·apply qaB;apply dP [];exact fun _=>rfl;rfl;rintro vals ⟨-,-⟩ w1 hC1 E hE;simp only [sP] at hE ⊢;refine qab hC1.a.st.h rfl rfl rfl hu rfl qbh ?_;go_wp2_with fail;exact .mk (hE _ hC1)
           apply DetR.next
           ·apply qaB;apply dP [];exact fun _=>rfl;rfl;intro vals vq w1 hC1 E hE;clear vq;simp only [sP] at hE ⊢;go_wp2;exact .mk (hE _ hC1)
           apply DetR.next
           ·apply qaB;apply dP [];exact fun _=>rfl;rfl;intro vals vq w1 hC1 E hE;clear vq;simp only [sP] at hE ⊢;go_wp2;exact .mk (hE _ hC1)
           apply DetR.next
           ·apply qaB;apply dP [(2,some 94),(3,some 95)];exact fun _=>rfl;rfl;intro vals vq w1 hC1 E hE;simp only [sP,vq] at hE ⊢;clear vq;go_wp2;exact .mk (hE _ hC1)
           apply DetR.next
           ·apply qaB;apply dP [(4,some 96)];exact fun _=>rfl;rfl;intro vals vq w1 hC1 E hE;have d0:=hC1.s.atN EX.out;simp only [sP,vq] at hE ⊢;clear vq;go_wp2;exact .mk (hE _ hC1)
           apply DetR.done;rintro vals ⟨⟨⟨⟨⟨⟨-,f0⟩,f1⟩,f2⟩,f3⟩,f4⟩,f5⟩ w1 hC1;refine qa6 [(1,some 93),(5,some 97)] (fun _=>rfl) rfl ?_;intro E hE;simp only [sP,f1,f5] at hE ⊢;go_wp2_with fail;have hct:=bytes_any 64 80 (.slice (some p.a) 3 p.ca) (.slice (some p.b) 3 p.cb) (.slice (some p.c) 3 p.cc) (.slice (some p.d) 3 p.cd) (.slice (some p.k) 80 p.ck) (.slice (some p.f) 8 p.cf) w1 (.inr rfl) x HXL.out;refine qaa hct ?_;rintro e w2 ⟨g9,he9,hg9,hb9,hbel9⟩;have he9':e=.returned (.slice (some ⟨g9,0,none⟩) 8 8):=he9;clear he9;subst he9';have hb9':Blk w2 g9 5 (bytesV (wordB 64 x 8)).toArray:=hb9;clear hb9;go_wp2_with fail;refine .mk (hE _ _ (fun _=>hbel9) ?_);clear hE E;generalize hval:upd _ 6 _=vals6;replace f0:=uP hval (by decide) f0;replace f1:=uP hval (by decide) f1;replace f2:=uP hval (by decide) f2;replace f3:=uP hval (by decide) f3;replace f4:=uP hval (by decide) f4;replace f5:=uP hval (by decide) f5;have f6:=(congrFun hval 6).symm.trans (qaO _ _ _);clear hval;refine qa6 [(0,some 92),(6,some 98),(6,some 98)] (fun _=>rfl) rfl ?_;intro E hE;simp only [sP,f0,f6] at hE ⊢;refine qaF (m:=8) sl_bytes rfl rfl (show OwnX w2 (gf+1) 5 1 (.slice A8 q c8) q (bytesV XS) by have:=(hC1.next hbel9).a.own; rwa [HOL.out] at this) rfl rfl (by rw [qaq,qaC]) (Rd.of_blk hb9' hb9'.lt) (by intro u hu; simp [bytesV,byteV] at hu; obtain ⟨_,_,rfl⟩:=hu; rfl) (by unfold maxLen; omega) (by omega) (by have:=(hC1.next hbel9).a.st.h.lt; omega) ?_;intro A9 c9 w9 hown9 hg9' hn9;have hap:=(hC1.next hbel9).app (ys:=XS++wordB 64 x 8) hg9' (by rw [List.length_append,HOL.out,qaC,qaK]; exact hown9);have HAP:=zY hap;clear hap hown9 hg9' hn9 hb9';go_wp2_with fail;refine .mk (hE _ _ (fun h=>absurd h (by decide)) ?_);clear hE E;generalize hval:upd _ 7 _=vals7;replace f0:=uP hval (by decide) f0;replace f1:=uP hval (by decide) f1;replace f2:=uP hval (by decide) f2;replace f3:=uP hval (by decide) f3;replace f4:=uP hval (by decide) f4;replace f5:=uP hval (by decide) f5;replace f6:=uP hval (by decide) f6;have f7:=(congrFun hval 7).symm.trans (qaO _ _ _);clear hval;refine qa6 [(7,some 99),(7,some 99),(0,some 92),(1,some 93),(2,some 94),(3,some 95),(4,some 96),(5,some 97),(6,some 98),(7,some 99)] (fun _=>rfl) rfl ?_;intro E hE;simp only [sP,f0,f1,f2,f3,f4,f5,f6,f7] at hE ⊢;go_wp2;refine .mk (hE _ _ (fun h=>absurd h (by decide)) ?_);clear hE E;generalize hval:upd _ 8 _=vals8;replace f0:=uP hval (by decide) f0;replace f1:=uP hval (by decide) f1;replace f2:=uP hval (by decide) f2;replace f3:=uP hval (by decide) f3;replace f4:=uP hval (by decide) f4;replace f5:=uP hval (by decide) f5;replace f6:=uP hval (by decide) f6;replace f7:=uP hval (by decide) f7;have f8:=(congrFun hval 8).symm.trans (qaO _ _ _);clear hval;refine qdU ?_;simp only [sP,f0,f1,f2,f3,f4,f5,f6,f7,f8];clear f0 f1 f2 f3 f4 f5 f6 f7 f8;clear HC0 hC1 hbel9;go_wp2_with fail;refine ⟨⟨k+1,q+8,A9,c9,by omega,by rw [HQ.out]; omega,by go_num,rfl,?_⟩,by simp [intOf]; omega⟩;rw [HNX.out];exact HAP.out
          ·obtain rfl:k=8:=by omega
           obtain rfl:q=8*8:=hq;have HSO:=zY hso;clear hso;go_wp2_with fail;go_ret;refine ⟨A8,c8,rfl,?_,by rw [← HGF.out]; exact HSO.out.a.st.bel⟩;have h:=HSO.out.a.own;rw [outW_length _ _ _ _ (by omega)] at h
           have hd:outW 64 8 sv 8=digS F64 data:=by
            rw [HSV.out,digS,← HALL.out,HAL.out,HNB.out];show _=(s8L (runS F64 ALL (j*128/128))).flatMap _;rw [Nat.mul_div_cancel _ (by decide)];rfl
           rw [← hd,← HGF.out];exact h.mono (by omega)
theorem Blk.newAt {w:World} {n:Nat} {t:TypeId} {cs:Array Value} (h:w.heap.size=n):Blk (w.alloc (.cells cs t)) n t cs:=h▸Blk.new w t cs
def zH:Array Value:=#[.int .i64 0,.int .i64 0,.slice none 0 0,.slice none 0 0,.slice none 0 0,.slice none 0 0,.slice none 0 0,.slice none 0 0]
theorem kL_take (F:ShaF) (n:Nat) (h:n<F.many):(kL F).take (n+1)=(kL F).take n++[stepsN.getD n 0/2^(64 - F.bits)%2^F.bits]:=by
 have hl:n<(kL F).length:=by rw [qb4]; exact h
 rw [List.take_succ_eq_append_getElem hl];have:=kL_get F n h;rw [List.getElem?_eq_getElem hl] at this;rw [Option.some.inj this];rfl
theorem start_take (F:ShaF) (n:Nat) (h:n<8):(s8L (startS F)).take (n+1)=(s8L (startS F)).take n++[firstN.getD n 0/2^(64 - F.bits)%2^F.bits]:=by
 rw [s8_take _ _ h,startS_at _ _ h]
def csV (bits many ga gb gc gd:Nat) (vK vF:Value):Array Value:=hC bits many (.slice (some ⟨ga,0,none⟩) 3 3) (.slice (some ⟨gb,0,none⟩) 3 3) (.slice (some ⟨gc,0,none⟩) 3 3) (.slice (some ⟨gd,0,none⟩) 3 3) vK vF
theorem of64_any (w:World):Calls Tryz.prog 71 #[.int .i64 64] w (OfPost F64 w):=by
 have hu:=Tryz.underlying94;obtain ⟨g0,hg0⟩:=eX (w.heap.size);go_enter Tryz.func71,Tryz.ntmps71;go_wp2_with fail;obtain ⟨gh,hgh⟩:=eX (w.heap.size+1+1+1+1+1);obtain ⟨ga,hga⟩:=eX (w.heap.size+1);obtain ⟨gb,hgb⟩:=eX (w.heap.size+1+1);obtain ⟨gc,hgc⟩:=eX (w.heap.size+1+1+1);obtain ⟨gd,hgd⟩:=eX (w.heap.size+1+1+1+1);have hd:ga≠gh∧gb≠gh∧gc≠gh∧gd≠gh:=by omega
 have hlt:g0<gh∧g0<ga∧g0<gb∧g0<gc∧g0<gd:=by omega
 refine qaa (primes_any _) ?_;rintro e wp ⟨P,pc,rfl,hown,hbel⟩;have B0:=(((((((Blk.newAt (n:=w.heap.size) (t:=94) (cs:=zH) (by simp)).alloc _).alloc _).alloc _).alloc _).alloc _)).below hbel (by simp <;> omega);have Bh:=((Blk.newAt (n:=w.heap.size+1+1+1+1+1) (t:=94) (cs:=#[.int .i64 64,.int .i64 80,.slice (some ⟨w.heap.size+1,0,none⟩) 3 3,.slice (some ⟨w.heap.size+1+1,0,none⟩) 3 3,.slice (some ⟨w.heap.size+1+1+1,0,none⟩) 3 3,.slice (some ⟨w.heap.size+1+1+1+1,0,none⟩) 3 3,.slice none 0 0,.slice none 0 0]) (by simp))).below hbel (by simp <;> omega);have Ba:=((((((Blk.newAt (n:=w.heap.size+1) (t:=3) (cs:=(tri F64.s0).toArray) (by simp)).alloc _).alloc _).alloc _).alloc _)).below hbel (by simp <;> omega);have Bb:=(((((Blk.newAt (n:=w.heap.size+1+1) (t:=3) (cs:=(tri F64.s1).toArray) (by simp)).alloc _).alloc _).alloc _)).below hbel (by simp <;> omega);have Bc:=((((Blk.newAt (n:=w.heap.size+1+1+1) (t:=3) (cs:=(tri F64.t0).toArray) (by simp)).alloc _).alloc _)).below hbel (by simp <;> omega);have Bd:=(((Blk.newAt (n:=w.heap.size+1+1+1+1) (t:=3) (cs:=(tri F64.t1).toArray) (by simp)).alloc _)).below hbel (by simp <;> omega);have hbl:=(((((((below_new w _).alloc (by simp; try omega) _).alloc (by simp; try omega) _).alloc (by simp; try omega) _).alloc (by simp; try omega) _).alloc (by simp; try omega) _):Below w.heap.size w _).trans (hbel.mono (by simp <;> omega));have hown':=hown.mono (show w.heap.size≤_ by simp <;> omega);rw [← hgh,← hgd,← hgc,← hgb,← hga] at Bh ⊢;rw [← hg0] at B0 hbl hown' ⊢;rw [← hga] at Ba;rw [← hgb] at Bb;rw [← hgc] at Bc;rw [← hgd] at Bd;obtain ⟨gp,rfl,hgp1,hgp2⟩:=hown'.ptr (by decide);have hpc:=hown'.le_cap
 have hst0:OfSt w ⟨g0,gh,ga,gb,gc,gd⟩ F64 zH (.slice (some ⟨gp,0,none⟩) 80 pc) (csV 64 80 ga gb gc gd (.slice none 0 0) (.slice none 0 0)) (.slice none 0 0) ((kL F64).take 0) (.slice none 0 0) [] wp :=
  ⟨hbl,B0,Bh,Ba,Bb,Bc,Bd,hown',OwnX.nil _ _ _ _,OwnX.nil _ _ _ _,.inl rfl,hlt.1⟩
 have HD:=zY hd;have HLT:=zY hlt;have HG0:=zY hg0;have HST0:=zY hst0;clear B0 Bh Ba Bb Bc Bd hbl hown' hown hbel hd hlt hgp1 hgp2 hgh hga hgb hgc hgd hg0 hst0;go_wp2_with fail
 go_loopw [5] (fun i wr=>∃ (n:Nat) (A:Option Addr) (c:Nat),n≤80∧i=.int .i64 n∧OfSt w ⟨g0,gh,ga,gb,gc,gd⟩ F64 zH (.slice (some ⟨gp,0,none⟩) 80 pc) (csV 64 80 ga gb gc gd (.slice A n c) (.slice none 0 0)) (.slice A n c) ((kL F64).take n) (.slice none 0 0) [] wr) (fun i _=>80 - (intOf i).toNat)
 case atStart=>exact ⟨0,none,0,by omega,rfl,HST0.out⟩
 case round =>
  clear HST0;obtain ⟨n,A,c,hn,rfl,hst⟩:=hrel;have d1:=hst.h.cell 1;simp [csV,hC] at d1
  by_cases hnl:n<80
  ·have hnl':(n:Int)<80:=by omega
   obtain ⟨L,hL⟩:=eX ((kL F64).take n);have hLl:L.length=n:=by rw [hL,List.length_take,qb4,show F64.many=80 from rfl]; omega
   obtain ⟨pn,hpn⟩:=eX (primes80.getD n 0);have hpl:pn<65536:=by rw [hpn]; exact prime_lt n (by omega)
   have hrt:rootN pn 3=stepsN.getD n 0:=by rw [hpn]; exact rootN3 n (by omega)
   obtain ⟨rt,hrt2⟩:=eX (rootN pn 3);have hrl:rt<18446744073709551616:=by rw [hrt2,rootN]; exact Nat.mod_lt _ (by decide)
   obtain ⟨kn,hkn⟩:=eX (rt/2^(64 - 64)%2^64)
   have hnx:(kL F64).take (n+1)=L++[kn]:=by
    rw [hkn,hrt2,hrt,hL];exact kL_take F64 n hnl
   have ep:(wordsV .i64 primes80)[n]?=some (.int .i64 (pn:Int)):=by rw [hpn]; exact qaG (show n<80 by omega)
   rw [← hL] at hst;have HL:=zY hLl;have HPL:=zY hpl;have HRT:=zY hrt2;have HRL:=zY hrl;have HKN:=zY hkn;have HNX:=zY hnx;have EP:=zY ep;have hn80:n<80:=by omega
   have HC0:=hst.drew;have HST1:=zY hst;clear hL hLl hpn hpl hrt hrt2 hrl hkn hnx ep hst;go_wp2_with fail;clear HST1 d1;refine qbQ (fun u=>OfSt w ⟨g0,gh,ga,gb,gc,gd⟩ F64 zH (.slice (some ⟨gp,0,none⟩) 80 pc) (csV 64 80 ga gb gc gd (.slice A n c) (.slice none 0 0)) (.slice A n c) L (.slice none 0 0) [] u) (fun i=>i == 0 || i == 1) 9 10 [(0,some 26),(1,some 27),(2,some 28),(3,some 29),(4,some 30),(5,some 31),(6,some 32),(7,some 33),(8,some 34),(9,some 35),(10,some 36),(11,some 37),(12,none)] (by kernel_rfl) (by kernel_rfl) (by decide) (by kernel_rfl) (fun _=>rfl) HC0 (fun _ _ hb h=>h.next hb) (by decide) ?_;apply DetR.next
   ·apply qbB [];exact fun _=>rfl;rfl;rintro vals - w1 hC1 E hE;simp only [sP] at hE ⊢;go_wp2;exact .mk hE
   apply DetR.next
   ·apply qbB [(0,some 26)];exact fun _=>rfl;rfl;intro vals vq w1 hC1 E hE;have d0:=hC1.h.cell 6;simp [csV,hC] at d0;simp only [sP,vq] at hE ⊢;clear vq;go_wp2;exact .mk hE
   apply DetR.next
   ·apply qaB;apply dP [];exact fun _=>rfl;rfl;intro vals vq w1 hC1 E hE;clear vq;simp only [sP] at hE ⊢;refine qab hC1.h rfl rfl rfl hu rfl qbh ?_;go_wp2_with fail;exact .mk (hE _ hC1)
   apply DetR.next
   ·apply qaB;apply dP [];exact fun _=>rfl;rfl;intro vals vq w1 hC1 E hE;clear vq;simp only [sP] at hE ⊢;go_wp2;exact .mk (hE _ hC1)
   apply DetR.next
   ·apply qaB;apply dP [];exact fun _=>rfl;rfl;intro vals vq w1 hC1 E hE;clear vq;simp only [sP] at hE ⊢;go_wp2;exact .mk (hE _ hC1)
   apply DetR.next
   ·apply qaB;apply dP [(3,some 29),(4,some 30)];exact fun _=>rfl;rfl;intro vals vq w1 hC1 E hE;simp only [sP,vq] at hE ⊢;clear vq;go_wp2;exact .mk (hE _ hC1)
   apply DetR.next
   ·apply qaB;apply dP [(5,some 31)];exact fun _=>rfl;rfl;intro vals vq w1 hC1 E hE;have d0:=hC1.p.atN EP.out;simp only [sP,vq] at hE ⊢;clear vq;go_wp2;exact .mk (hE _ hC1)
   apply DetR.next
   ·apply qaB;apply dP [(6,some 32)];exact fun _=>rfl;rfl;intro vals vq w1 hC1 E hE;simp only [sP,vq] at hE ⊢;clear vq;go_wp2_with fail;refine qaa (root3_any pn _ HPL.out) ?_;rintro e w2 ⟨rfl,hb2⟩;rw [← HRT.out];go_wp2_with fail;exact .mk (hE _ (hC1.next hb2))
   apply DetR.next
   ·apply qaB;apply dP [(2,some 28),(7,some 33),(7,some 33)];exact fun _=>rfl;rfl;intro vals vq w1 hC1 E hE;simp only [sP,vq] at hE ⊢;clear vq;go_wp2_with fail;refine qaa (top_any 64 80 _ _ _ _ _ _ _ (.inr rfl) rt HRL.out) ?_;rintro e w2 ⟨rfl,hb2⟩;rw [← HKN.out];go_wp2_with fail;exact .mk (hE _ (hC1.next hb2))
   apply DetR.done;rintro vals ⟨⟨⟨⟨⟨⟨⟨⟨⟨-,f0⟩,f1⟩,f2⟩,f3⟩,f4⟩,f5⟩,f6⟩,f7⟩,f8⟩ w1 hC1;refine qa6 [(8,some 34)] (fun _=>rfl) rfl ?_;intro E hE;simp only [sP,f8] at hE ⊢;go_wp2;refine .mk (hE _ _ (fun _=>below_new _ _) ?_);clear hE E;generalize hval:upd _ 9 _=vals9;replace f0:=uP hval (by decide) f0;replace f1:=uP hval (by decide) f1;replace f2:=uP hval (by decide) f2;replace f3:=uP hval (by decide) f3;replace f4:=uP hval (by decide) f4;replace f5:=uP hval (by decide) f5;replace f6:=uP hval (by decide) f6;replace f7:=uP hval (by decide) f7;replace f8:=uP hval (by decide) f8;have f9:=(congrFun hval 9).symm.trans (qaO _ _ _);clear hval;refine qa6 [(1,some 27),(9,some 35),(8,some 34)] (fun _=>rfl) rfl ?_;intro E hE;simp only [sP,f1,f8,f9] at hE ⊢;refine qas qdW rfl rfl (show OwnX w1 g0 43 1 (.slice A n c) n (wordsV .u64 L) by have:=hC1.k; rwa [HL.out] at this) rfl rfl rfl rfl (by unfold maxLen; omega) (by omega) (by have:=hC1.res.lt; dsimp only at this; omega) ?_;intro A6 c6 w6 hown6 hg6 hn6;have hap:=hC1.appK (v':=.slice A6 (n+1) c6) (x:=kn) (by rw [HL.out]; exact hown6) hg6 (rfl);have HAP:=zY hap;clear hap hown6 hg6 hn6;go_wp2_with fail;refine .mk (hE _ _ (fun h=>absurd h (by decide)) ?_);clear hE E;generalize hval:upd _ 10 _=vals10;replace f0:=uP hval (by decide) f0;replace f1:=uP hval (by decide) f1;replace f2:=uP hval (by decide) f2;replace f3:=uP hval (by decide) f3;replace f4:=uP hval (by decide) f4;replace f5:=uP hval (by decide) f5;replace f6:=uP hval (by decide) f6;replace f7:=uP hval (by decide) f7;replace f8:=uP hval (by decide) f8;replace f9:=uP hval (by decide) f9;have f10:=(congrFun hval 10).symm.trans (qaO _ _ _);clear hval;refine qa6 [(0,some 26),(1,some 27),(2,some 28),(3,some 29),(4,some 30),(5,some 31),(6,some 32),(7,some 33),(8,some 34),(9,some 35),(10,some 36)] (fun _=>rfl) rfl ?_;intro E hE;simp only [sP,f0,f1,f2,f3,f4,f5,f6,f7,f8,f9,f10] at hE ⊢;go_wp2;refine .mk (hE _ _ (fun h=>absurd h (by decide)) ?_);clear hE E;generalize hval:upd _ 11 _=vals11;replace f0:=uP hval (by decide) f0;replace f1:=uP hval (by decide) f1;replace f2:=uP hval (by decide) f2;replace f3:=uP hval (by decide) f3;replace f4:=uP hval (by decide) f4;replace f5:=uP hval (by decide) f5;replace f6:=uP hval (by decide) f6;replace f7:=uP hval (by decide) f7;replace f8:=uP hval (by decide) f8;replace f9:=uP hval (by decide) f9;replace f10:=uP hval (by decide) f10;have f11:=(congrFun hval 11).symm.trans (qaO _ _ _);clear hval;refine qa6 [(11,some 37),(10,some 36),(10,some 36),(0,some 26),(1,some 27),(2,some 28),(3,some 29),(4,some 30),(5,some 31),(6,some 32),(7,some 33),(8,some 34),(9,some 35),(10,some 36)] (fun _=>rfl) rfl ?_;intro E hE;simp only [sP,f0,f1,f2,f3,f4,f5,f6,f7,f8,f9,f10,f11] at hE ⊢;refine qam (i:=6) (v:=.slice A6 (n+1) c6) HAP.out.h rfl rfl rfl rfl slu_size (show 6<8 by decide) rfl ?_;intro w7 hb7 hw7;have HFIN:=zY (HAP.out.put hw7 hb7 HD.out);clear hb7 hw7;go_wp2_with fail;refine .mk (hE undef _ (fun h=>absurd h (by decide)) ?_);clear hE E;generalize hval:upd _ 12 _=vals12;replace f0:=uP hval (by decide) f0;replace f1:=uP hval (by decide) f1;replace f2:=uP hval (by decide) f2;replace f3:=uP hval (by decide) f3;replace f4:=uP hval (by decide) f4;replace f5:=uP hval (by decide) f5;replace f6:=uP hval (by decide) f6;replace f7:=uP hval (by decide) f7;replace f8:=uP hval (by decide) f8;replace f9:=uP hval (by decide) f9;replace f10:=uP hval (by decide) f10;replace f11:=uP hval (by decide) f11;have f12:=(congrFun hval 12).symm.trans (qaO _ _ _);clear hval;refine qdU ?_;simp only [sP,f0,f1,f2,f3,f4,f5,f6,f7,f8,f9,f10,f11,f12];clear f0 f1 f2 f3 f4 f5 f6 f7 f8 f9 f10 f11 f12;clear HC0 HAP hC1;go_wp2_with fail;refine ⟨⟨n+1,A6,c6,by omega,by go_num,?_⟩,by simp [intOf]; omega⟩;rw [HNX.out];exact HFIN.out
  ·obtain rfl:n=80:=by omega
   rw [List.take_of_length_le (by rw [qb4]; exact Nat.le_refl _)] at hst;obtain ⟨gk,rfl,hk1,hk2⟩:=(show OwnX wr g0 43 1 (.slice A 80 c) 80 (wordsV .u64 (kL F64)) by have:=hst.k; rwa [qb4] at this).ptr (by decide)
   have hck:80≤c:=by
    have ho:OwnX wr g0 43 1 (.slice (some ⟨gk,0,none⟩) 80 c) 80 (wordsV .u64 (kL F64)):=by have:=hst.k; rwa [qb4] at this
    exact ho.le_cap
   have hst1:OfSt w ⟨g0,gh,ga,gb,gc,gd⟩ F64 zH (.slice (some ⟨gp,0,none⟩) 80 pc) (csV 64 80 ga gb gc gd (.slice (some ⟨gk,0,none⟩) 80 c) (.slice none 0 0)) (.slice (some ⟨gk,0,none⟩) 80 c) (kL F64) (.slice none 0 0) ((s8L (startS F64)).take 0) wr:=hst;have HST0:=zY hst1;have HK1:=zY hk1;clear hst hst1 hk1 hk2;obtain ⟨ck,rfl⟩:=eX c;go_wp2_with fail;clear d1;obtain ⟨wo,rfl⟩:∃ wo:World,wo=wr:=⟨_,rfl⟩
   go_loopw [6] (fun i wr=>∃ (n:Nat) (A:Option Addr) (c:Nat),n≤8∧i=.int .i64 n∧OfSt w ⟨g0,gh,ga,gb,gc,gd⟩ F64 zH (.slice (some ⟨gp,0,none⟩) 80 pc) (csV 64 80 ga gb gc gd (.slice (some ⟨gk,0,none⟩) 80 ck) (.slice A n c)) (.slice (some ⟨gk,0,none⟩) 80 ck) (kL F64) (.slice A n c) ((s8L (startS F64)).take n) wr) (fun i _=>8 - (intOf i).toNat)
   case atStart=>exact ⟨0,none,0,by omega,rfl,HST0.out⟩
   case round =>
    clear HST0;obtain ⟨n,A,c,hn,rfl,hst⟩:=hrel
    by_cases hnl:n<8
    ·have hnl':(n:Int)<8:=by omega
     obtain ⟨L,hL⟩:=eX ((s8L (startS F64)).take n);have hLl:L.length=n:=by rw [hL,List.length_take,show (s8L (startS F64)).length=8 from rfl]; omega
     obtain ⟨pn,hpn⟩:=eX (primes80.getD n 0);have hpl:pn<65536:=by rw [hpn]; exact prime_lt n (by omega)
     have hrt:rootN pn 2=firstN.getD n 0:=by rw [hpn]; exact rootN2 n hnl
     obtain ⟨rt,hrt2⟩:=eX (rootN pn 2);have hrl:rt<18446744073709551616:=by rw [hrt2,rootN]; exact Nat.mod_lt _ (by decide)
     obtain ⟨kn,hkn⟩:=eX (rt/2^(64 - 64)%2^64)
     have hnx:(s8L (startS F64)).take (n+1)=L++[kn]:=by
      rw [hkn,hrt2,hrt,hL];exact start_take F64 n hnl
     have ep:(wordsV .i64 primes80)[n]?=some (.int .i64 (pn:Int)):=by rw [hpn]; exact qaG (show n<80 by omega)
     rw [← hL] at hst;have HL:=zY hLl;have HPL:=zY hpl;have HRT:=zY hrt2;have HRL:=zY hrl;have HKN:=zY hkn;have HNX:=zY hnx;have EP:=zY ep;have hn80:n<80:=by omega
     have HC0:=hst.drew;have HST1:=zY hst;clear hL hLl hpn hpl hrt hrt2 hrl hkn hnx ep hst;go_wp2_with fail;clear HST1;refine qbQ (fun u=>OfSt w ⟨g0,gh,ga,gb,gc,gd⟩ F64 zH (.slice (some ⟨gp,0,none⟩) 80 pc) (csV 64 80 ga gb gc gd (.slice (some ⟨gk,0,none⟩) 80 ck) (.slice A n c)) (.slice (some ⟨gk,0,none⟩) 80 ck) (kL F64) (.slice A n c) L u) (fun i=>i == 0 || i == 1) 9 10 [(0,some 42),(1,some 43),(2,some 44),(3,some 45),(4,some 46),(5,some 47),(6,some 48),(7,some 49),(8,some 50),(9,some 51),(10,some 52),(11,some 53),(12,none)] (by kernel_rfl) (by kernel_rfl) (by decide) (by kernel_rfl) (fun _=>rfl) HC0 (fun _ _ hb h=>h.next hb) (by decide) ?_;apply DetR.next
     ·apply qbB [];exact fun _=>rfl;rfl;rintro vals - w1 hC1 E hE;simp only [sP] at hE ⊢;go_wp2;exact .mk hE
     apply DetR.next
     ·apply qbB [(0,some 42)];exact fun _=>rfl;rfl;intro vals vq w1 hC1 E hE;have d0:=hC1.h.cell 7;simp [csV,hC] at d0;simp only [sP,vq] at hE ⊢;clear vq;go_wp2;exact .mk hE
     apply DetR.next
     ·apply qaB;apply dP [];exact fun _=>rfl;rfl;intro vals vq w1 hC1 E hE;clear vq;simp only [sP] at hE ⊢;refine qab hC1.h rfl rfl rfl hu rfl qbh ?_;go_wp2_with fail;exact .mk (hE _ hC1)
     apply DetR.next
     ·apply qaB;apply dP [];exact fun _=>rfl;rfl;intro vals vq w1 hC1 E hE;clear vq;simp only [sP] at hE ⊢;go_wp2;exact .mk (hE _ hC1)
     apply DetR.next
     ·apply qaB;apply dP [];exact fun _=>rfl;rfl;intro vals vq w1 hC1 E hE;clear vq;simp only [sP] at hE ⊢;go_wp2;exact .mk (hE _ hC1)
     apply DetR.next
     ·apply qaB;apply dP [(3,some 45),(4,some 46)];exact fun _=>rfl;rfl;intro vals vq w1 hC1 E hE;simp only [sP,vq] at hE ⊢;clear vq;go_wp2;exact .mk (hE _ hC1)
     apply DetR.next
     ·apply qaB;apply dP [(5,some 47)];exact fun _=>rfl;rfl;intro vals vq w1 hC1 E hE;have d0:=hC1.p.atN EP.out;simp only [sP,vq] at hE ⊢;clear vq;go_wp2;exact .mk (hE _ hC1)
     apply DetR.next
     ·apply qaB;apply dP [(6,some 48)];exact fun _=>rfl;rfl;intro vals vq w1 hC1 E hE;simp only [sP,vq] at hE ⊢;clear vq;go_wp2_with fail;refine qaa (root2_any pn _ HPL.out) ?_;rintro e w2 ⟨rfl,hb2⟩;rw [← HRT.out];go_wp2_with fail;exact .mk (hE _ (hC1.next hb2))
     apply DetR.next
     ·apply qaB;apply dP [(2,some 44),(7,some 49),(7,some 49)];exact fun _=>rfl;rfl;intro vals vq w1 hC1 E hE;simp only [sP,vq] at hE ⊢;clear vq;go_wp2_with fail;refine qaa (top_any 64 80 _ _ _ _ _ _ _ (.inr rfl) rt HRL.out) ?_;rintro e w2 ⟨rfl,hb2⟩;rw [← HKN.out];go_wp2_with fail;exact .mk (hE _ (hC1.next hb2))
     apply DetR.done;rintro vals ⟨⟨⟨⟨⟨⟨⟨⟨⟨-,f0⟩,f1⟩,f2⟩,f3⟩,f4⟩,f5⟩,f6⟩,f7⟩,f8⟩ w1 hC1;refine qa6 [(8,some 50)] (fun _=>rfl) rfl ?_;intro E hE;simp only [sP,f8] at hE ⊢;go_wp2;refine .mk (hE _ _ (fun _=>below_new _ _) ?_);clear hE E;generalize hval:upd _ 9 _=vals9;replace f0:=uP hval (by decide) f0;replace f1:=uP hval (by decide) f1;replace f2:=uP hval (by decide) f2;replace f3:=uP hval (by decide) f3;replace f4:=uP hval (by decide) f4;replace f5:=uP hval (by decide) f5;replace f6:=uP hval (by decide) f6;replace f7:=uP hval (by decide) f7;replace f8:=uP hval (by decide) f8;have f9:=(congrFun hval 9).symm.trans (qaO _ _ _);clear hval;refine qa6 [(1,some 43),(9,some 51),(8,some 50)] (fun _=>rfl) rfl ?_;intro E hE;simp only [sP,f1,f8,f9] at hE ⊢;refine qas qdW rfl rfl (show OwnX w1 g0 43 1 (.slice A n c) n (wordsV .u64 L) by have:=hC1.f; rwa [HL.out] at this) rfl rfl rfl rfl (by unfold maxLen; omega) (by omega) (by have:=hC1.res.lt; dsimp only at this; omega) ?_;intro A6 c6 w6 hown6 hg6 hn6;have hap:=hC1.appF (v':=.slice A6 (n+1) c6) (x:=kn) (by rw [HL.out]; exact hown6) hg6 (hn6);have HAP:=zY hap;clear hap hown6 hg6 hn6;go_wp2_with fail;refine .mk (hE _ _ (fun h=>absurd h (by decide)) ?_);clear hE E;generalize hval:upd _ 10 _=vals10;replace f0:=uP hval (by decide) f0;replace f1:=uP hval (by decide) f1;replace f2:=uP hval (by decide) f2;replace f3:=uP hval (by decide) f3;replace f4:=uP hval (by decide) f4;replace f5:=uP hval (by decide) f5;replace f6:=uP hval (by decide) f6;replace f7:=uP hval (by decide) f7;replace f8:=uP hval (by decide) f8;replace f9:=uP hval (by decide) f9;have f10:=(congrFun hval 10).symm.trans (qaO _ _ _);clear hval;refine qa6 [(0,some 42),(1,some 43),(2,some 44),(3,some 45),(4,some 46),(5,some 47),(6,some 48),(7,some 49),(8,some 50),(9,some 51),(10,some 52)] (fun _=>rfl) rfl ?_;intro E hE;simp only [sP,f0,f1,f2,f3,f4,f5,f6,f7,f8,f9,f10] at hE ⊢;go_wp2;refine .mk (hE _ _ (fun h=>absurd h (by decide)) ?_);clear hE E;generalize hval:upd _ 11 _=vals11;replace f0:=uP hval (by decide) f0;replace f1:=uP hval (by decide) f1;replace f2:=uP hval (by decide) f2;replace f3:=uP hval (by decide) f3;replace f4:=uP hval (by decide) f4;replace f5:=uP hval (by decide) f5;replace f6:=uP hval (by decide) f6;replace f7:=uP hval (by decide) f7;replace f8:=uP hval (by decide) f8;replace f9:=uP hval (by decide) f9;replace f10:=uP hval (by decide) f10;have f11:=(congrFun hval 11).symm.trans (qaO _ _ _);clear hval;refine qa6 [(11,some 53),(10,some 52),(10,some 52),(0,some 42),(1,some 43),(2,some 44),(3,some 45),(4,some 46),(5,some 47),(6,some 48),(7,some 49),(8,some 50),(9,some 51),(10,some 52)] (fun _=>rfl) rfl ?_;intro E hE;simp only [sP,f0,f1,f2,f3,f4,f5,f6,f7,f8,f9,f10,f11] at hE ⊢;refine qam (i:=7) (v:=.slice A6 (n+1) c6) HAP.out.h rfl rfl rfl rfl slu_size (show 7<8 by decide) rfl ?_;intro w7 hb7 hw7;have HFIN:=zY (HAP.out.put hw7 hb7 HD.out);clear hb7 hw7;go_wp2_with fail;refine .mk (hE undef _ (fun h=>absurd h (by decide)) ?_);clear hE E;generalize hval:upd _ 12 _=vals12;replace f0:=uP hval (by decide) f0;replace f1:=uP hval (by decide) f1;replace f2:=uP hval (by decide) f2;replace f3:=uP hval (by decide) f3;replace f4:=uP hval (by decide) f4;replace f5:=uP hval (by decide) f5;replace f6:=uP hval (by decide) f6;replace f7:=uP hval (by decide) f7;replace f8:=uP hval (by decide) f8;replace f9:=uP hval (by decide) f9;replace f10:=uP hval (by decide) f10;replace f11:=uP hval (by decide) f11;have f12:=(congrFun hval 12).symm.trans (qaO _ _ _);clear hval;refine qdU ?_;simp only [sP,f0,f1,f2,f3,f4,f5,f6,f7,f8,f9,f10,f11,f12];clear f0 f1 f2 f3 f4 f5 f6 f7 f8 f9 f10 f11 f12;clear HC0 HAP hC1;go_wp2_with fail;refine ⟨⟨n+1,A6,c6,by omega,by go_num,?_⟩,by simp [intOf]; omega⟩;rw [HNX.out];exact HFIN.out
    ·obtain rfl:n=8:=by omega
     rw [show (s8L (startS F64)).take 8=s8L (startS F64) from rfl] at hst;obtain ⟨gz,rfl,hz1,hz2⟩:=(show OwnX wr g0 43 1 (.slice A 8 c) 8 (wordsV .u64 (s8L (startS F64))) from hst.f).ptr (by decide);have hcz:8≤c:=(show OwnX wr g0 43 1 (.slice (some ⟨gz,0,none⟩) 8 c) 8 (wordsV .u64 (s8L (startS F64))) from hst.f).le_cap;have HST2:=zY hst;clear hz1 hz2 hst
     go_wp2_with (first
      | (refine qab (x:=.tmp 3) HST2.out.h rfl rfl rfl hu rfl qbh ?_)
      | (refine qaf (x:=.tmp 2) (cells:=csV 64 80 ga gb gc gd (.slice (some ⟨gk,0,none⟩) 80 ck) (.slice (some ⟨gz,0,none⟩) 8 c)) HST2.out.res rfl rfl rfl rfl qbh rfl (by simp [csV,hC,Value.oneCell']) ?_; intro w5 hb5 hw5))
     refine bodyPost_ret (qau (P:=Tryz.prog) rfl rfl hb5 hu rfl qbh) rfl ?_;have h2:=HST2.out;have hdl:=HLT.out;refine ⟨⟨⟨ga,0,none⟩,⟨gb,0,none⟩,⟨gc,0,none⟩,⟨gd,0,none⟩,⟨gk,0,none⟩,⟨gz,0,none⟩,3,3,3,3,ck,c⟩,rfl,?_,?_⟩
     ·have k1:=hw5.blk h2.a (by dsimp only; omega);have k2:=hw5.blk h2.b (by dsimp only; omega);have k3:=hw5.blk h2.c (by dsimp only; omega);have k4:=hw5.blk h2.d (by dsimp only; omega);have k5:=hw5.own h2.k (qaN h2.k h2.res (by decide));have k6:=hw5.own h2.f (qaN h2.f h2.res (by decide));exact ⟨Rd.of_blk k1 k1.lt,Rd.of_blk k2 k2.lt,Rd.of_blk k3 k3.lt,Rd.of_blk k4 k4.lt,Rd.of_own (n:=80) (by rw [qb4] at k5; exact k5) (Nat.le_refl _),Rd.of_own (n:=8) k6 (Nat.le_refl _),Nat.le_refl _,Nat.le_refl _,Nat.le_refl _,Nat.le_refl _,hck,hcz⟩
     ·rw [← HG0.out];exact hw5.below h2.bel (Nat.le_refl _) (by have:=h2.res.lt; dsimp only at this; omega)
theorem r512_any (data:List UInt8) (A:Option Addr) (c B:Nat) (w:World) (hr:Rd w B A (bytesV data)) (hB:B≤w.heap.size) (hl:data.length≤1000) (hc:data.length≤c) :
  Calls Tryz.prog 35 #[.slice A data.length c] w (HSumPost F64 64 data w):=by
 have HR:=zY hr;have hu:=Tryz.underlying94;clear hr;go_enter Tryz.func35,Tryz.ntmps35;go_wp2_with fail;refine qaa (of64_any w) ?_;rintro e w1 ⟨p,rfl,hok,hb1⟩;have HOK:=zY hok;have HB1:=zY hb1;clear hok hb1
 go_wp2_with (first
  | (refine qaf (x:=.tmp 3) (cells:=hv F64 p) (Blk.new w1 94 zH) rfl rfl rfl rfl qbh rfl (by simp [hv,hC,Value.oneCell']) ?_; intro w2 hb2 hw2; have HB2:=zY hb2; have HW2:=zY hw2; clear hb2 hw2)
  | (refine qab (x:=.tmp 3) HB2.out rfl rfl rfl hu rfl qbh ?_))
 have hbel:Below w1.heap.size w1 w2:=HW2.out.below (below_new _ _) (Nat.le_refl _) (by simp);have hsz:w1.heap.size+1=w2.heap.size:=by rw [HW2.out.size]; simp
 refine qaa (hsum64_any p data A c w1.heap.size w2 (HOK.out.below hbel) (((HR.out.mono hB).below HB1.out).mono HB1.out.size |>.below hbel) (by omega) hl hc) ?_;rintro e w3 ⟨A3,c3,rfl,ho3,hb3⟩;have HO3:=zY ho3;have HB3:=zY hb3;have HBEL:=zY hbel;have HSZ:=zY hsz;clear ho3 hb3 hbel hsz;go_wp2_with fail;go_ret;exact ⟨A3,c3,rfl,HO3.out.mono (by have:=HB1.out.size; have:=HSZ.out; omega),HB1.out.trans ((HBEL.out.mono HB1.out.size).trans (HB3.out.mono (by have:=HB1.out.size; have:=HSZ.out; omega)))⟩
end Go.Proofs.YtdgheahbafnboaaGreatDoor.Sh
namespace Go.Proofs.YtdgheahbafnboaaGreatDoor
set_option linter.unusedSimpArgs false
set_option linter.unusedVariables false
set_option maxRecDepth 100000
set_option maxHeartbeats 4000000
open Go.RowKit
def BDigPost (n:Nat) (l:List Nat) (w:World) (e:Ending) (w':World):Prop:=∃ o,e=.returned (.slice (some ⟨o,0,none⟩) n n)∧D1 w o l w'
theorem minusb_any (a b:List Nat) (ha:Dg a) (hb:Dg b) (hle:leV b≤leV a) (A B:Option Addr) (c d:Nat) (w:World) (hra:Rd w w.heap.size A (dV a)) (hrb:Rd w w.heap.size B (dV b)) (hla:a.length≤1000000) (hlb:b.length≤1000000) :
  Calls Tryz.prog 41 #[.slice A a.length c,.slice B b.length d] w (BDigPost a.length (digN a.length (leV a - leV b)) w):=by
 obtain ⟨n,hn⟩:=eX (a.length);obtain ⟨m,hm⟩:=eX (b.length);rw [← hn,← hm];have hn63:(n:Int)≤1000000:=by omega
 have hm63:(m:Int)≤1000000:=by omega
 have hmk:=qbG n (by omega);have hst0:D1 w w.heap.size (partL [] n) _:=qcm (partL [] n) (Below.refl w.heap.size w);have HRA:=zY hra;have HRB:=zY hrb;have HA:=zY ha;have HB:=zY hb;have HN:=zY hn;have HM:=zY hm;have HLE:=zY hle;have HST0:=zY hst0;clear hra hrb ha hb hn hm hla hlb hle hst0;go_enter Tryz.func41,Tryz.ntmps41;go_wp2_with fail;generalize hg:w.heap.size=g at HST0 HRA HRB ⊢;have HG:=zY hg;clear hg hmk
 go_loopw [6,7] (fun s i wr=>∃ (k bor:Nat) (out:List Nat),k≤n∧i=.int .i64 k∧bor≤1∧s=.int .i64 bor∧out.length=k∧Dg out∧leV out+leV (b.take k)=leV (a.take k)+256^k*bor∧D1 w g (partL out n) wr) (fun _ i _=>n - (intOf i).toNat)
 case atStart=>exact ⟨0,0,[],by omega,rfl,by omega,rfl,rfl,by unfold Dg; simp,by simp [leV],HST0.out⟩
 case round =>
  clear HST0;obtain ⟨k,s,out,hk,rfl,hs,rfl,hol,hod,heq,hst⟩:=hrel
  by_cases hlt:k<n
  ·have hlt':(k:Int)<(n:Int):=by omega
   have hel:Below g w wr:=by have h:=hst.bel; rw [HG.out] at h; exact h
   have hgs:g≤wr.heap.size:=by rw [← HG.out]; exact hst.bel.size
   obtain ⟨ad,rfl,hca⟩:=qa4 ((HRA.out.below hel).mono hgs) (k:=k) (by rw [← HN.out]; exact hlt);obtain ⟨x,hx⟩:=eX (a.getD k 0);obtain ⟨y,hy⟩:=eX (b.getD k 0);have hxl:x<256:=by rw [hx]; exact qaA HA.out k
   have hyl:y<256:=by rw [hy]; exact qaA HB.out k
   rw [← hx] at hca;have hstep:=minus_step (a:=a) HB.out hs hol heq;rw [← hx,← hy] at hstep;have hdl:=subD_lt hxl hyl hs;have hset:=qbU out n k (subD x y s) hol hlt;have hod2:=qcO hod hdl;have hol2:(out++[subD x y s]).length=k+1:=by rw [List.length_append,hol]; rfl
   have HSTEP:=zY hstep;have HSET:=zY hset;have HOD:=zY hod2;have HOL:=zY hol2;have HST:=zY hst;have HSZ:=zY (qaM out n (by omega));have hx':(x:Int)<256:=by omega
   have hy':(y:Int)<256:=by omega
   have hs':(s:Int)≤1:=by omega
   have hKM:(k<m→∃ bd,B=some bd∧wr.cell? (bd.add k)=some (.int .i64 (y:Int)))∧(¬ k<m→y=0):=⟨fun h=>by
    obtain ⟨bd,h1,h2⟩:=qa4 ((HRB.out.below hel).mono hgs) (k:=k) (by rw [← HM.out]; exact h);rw [← hy] at h2;exact ⟨bd,h1,h2⟩,fun h=>by rw [hy]; exact qcx (by rw [← HM.out]; exact h)⟩
   obtain ⟨hk1,hk2⟩:=hKM;clear hst hstep hset hod hod2 hol hol2 heq hx hy hxl hyl hs hdl hel hgs;obtain ⟨dd,hDD⟩:∃ dd,subD x y s=dd:=⟨_,rfl⟩
   by_cases hkm:k<m <;> by_cases hlo:x<s+y
   ·obtain ⟨bd,rfl,hcb⟩:=hk1 hkm;have hkm':(k:Int)<(m:Int):=by omega
    clear hk1 hk2;have hv0:(x:Int) - (s:Int) - (y:Int)<0:=by omega
    have hdd:subD x y s=dd:=hDD;have hv:(x:Int) - (s:Int) - (y:Int)+256=(dd:Int):=by rw [← hdd]; unfold subD; rw [if_pos hlo]; omega
    have hc1:subC x y s=1:=by unfold subC; rw [if_pos hlo]
    have hdl:(dd:Int)<256:=by omega
    rw [hdd] at HSTEP HSET HOD HOL;rw [hc1] at HSTEP;have HD:=zY hdd;clear hdd hDD hc1 hlo hkm;go_wp2_with (refine qam (x:=.tmp 41) (i:=k) (v:=.int .i64 (dd:Int)) HST.out.out rfl rfl rfl rfl qaS (by rw [qbf,HSZ.out]; exact hlt) rfl ?_; intro w5 hb5 hw5; have hst5:=HST.out.put (l':=partL (out++[dd]) n) hw5 (by rw [qaY,HSET.out] at hb5; exact hb5); have HST5:=zY hst5; clear hst5 hb5 hw5);exact ⟨⟨k+1,1,out++[dd],by omega,by go_num,by omega,rfl,HOL.out,HOD.out,HSTEP.out,HST5.out⟩,by simp [intOf]; omega⟩
   ·obtain ⟨bd,rfl,hcb⟩:=hk1 hkm;have hkm':(k:Int)<(m:Int):=by omega
    clear hk1 hk2;have hv0:¬ (x:Int) - (s:Int) - (y:Int)<0:=by omega
    have hdd:subD x y s=dd:=hDD;have hv:(x:Int) - (s:Int) - (y:Int)=(dd:Int):=by rw [← hdd]; unfold subD; rw [if_neg hlo]; omega
    have hc1:subC x y s=0:=by unfold subC; rw [if_neg hlo]
    have hdl:(dd:Int)<256:=by omega
    rw [hdd] at HSTEP HSET HOD HOL;rw [hc1] at HSTEP;have HD:=zY hdd;clear hdd hDD hc1 hlo hkm;go_wp2_with (refine qam (x:=.tmp 41) (i:=k) (v:=.int .i64 (dd:Int)) HST.out.out rfl rfl rfl rfl qaS (by rw [qbf,HSZ.out]; exact hlt) rfl ?_; intro w5 hb5 hw5; have hst5:=HST.out.put (l':=partL (out++[dd]) n) hw5 (by rw [qaY,HSET.out] at hb5; exact hb5); have HST5:=zY hst5; clear hst5 hb5 hw5);exact ⟨⟨k+1,0,out++[dd],by omega,by go_num,by omega,rfl,HOL.out,HOD.out,HSTEP.out,HST5.out⟩,by simp [intOf]; omega⟩
   ·obtain rfl:=hk2 hkm;have hkm':¬ (k:Int)<(m:Int):=by omega
    clear hk1 hk2;have hv0:(x:Int) - (s:Int)<0:=by omega
    have hdd:subD x 0 s=dd:=hDD;have hv:(x:Int) - (s:Int)+256=(dd:Int):=by rw [← hdd]; unfold subD; rw [if_pos hlo]; omega
    have hc1:subC x 0 s=1:=by unfold subC; rw [if_pos hlo]
    have hdl:(dd:Int)<256:=by omega
    rw [hdd] at HSTEP HSET HOD HOL;rw [hc1] at HSTEP;have HD:=zY hdd;clear hdd hDD hc1 hlo hkm;go_wp2_with (refine qam (x:=.tmp 41) (i:=k) (v:=.int .i64 (dd:Int)) HST.out.out rfl rfl rfl rfl qaS (by rw [qbf,HSZ.out]; exact hlt) rfl ?_; intro w5 hb5 hw5; have hst5:=HST.out.put (l':=partL (out++[dd]) n) hw5 (by rw [qaY,HSET.out] at hb5; exact hb5); have HST5:=zY hst5; clear hst5 hb5 hw5);exact ⟨⟨k+1,1,out++[dd],by omega,by go_num,by omega,rfl,HOL.out,HOD.out,HSTEP.out,HST5.out⟩,by simp [intOf]; omega⟩
   ·obtain rfl:=hk2 hkm;have hkm':¬ (k:Int)<(m:Int):=by omega
    clear hk1 hk2;have hv0:¬ (x:Int) - (s:Int)<0:=by omega
    have hdd:subD x 0 s=dd:=hDD;have hv:(x:Int) - (s:Int)=(dd:Int):=by rw [← hdd]; unfold subD; rw [if_neg hlo]; omega
    have hc1:subC x 0 s=0:=by unfold subC; rw [if_neg hlo]
    have hdl:(dd:Int)<256:=by omega
    rw [hdd] at HSTEP HSET HOD HOL;rw [hc1] at HSTEP;have HD:=zY hdd;clear hdd hDD hc1 hlo hkm;go_wp2_with (refine qam (x:=.tmp 41) (i:=k) (v:=.int .i64 (dd:Int)) HST.out.out rfl rfl rfl rfl qaS (by rw [qbf,HSZ.out]; exact hlt) rfl ?_; intro w5 hb5 hw5; have hst5:=HST.out.put (l':=partL (out++[dd]) n) hw5 (by rw [qaY,HSET.out] at hb5; exact hb5); have HST5:=zY hst5; clear hst5 hb5 hw5);exact ⟨⟨k+1,0,out++[dd],by omega,by go_num,by omega,rfl,HOL.out,HOD.out,HSTEP.out,HST5.out⟩,by simp [intOf]; omega⟩
  ·obtain rfl:k=n:=by omega
   have hfin:=minus_end HA.out HB.out hod hol HN.out.symm HLE.out heq;rw [qb2 out _ hol] at hst;have HST:=zY hst;have HFIN:=zY hfin;have HOL:=zY hol;clear hst hfin hol hod heq hs hk hlt;go_wp2_with fail;go_ret;rw [← HFIN.out];exact ⟨_,rfl,HST.out⟩
structure Dbl (l:List Nat) (bit:Nat) (j cy:Nat) (o:List Nat):Prop where
 len:o.length=33
 dg:Dg o
 out:∀ p,j≤p→o.getD p 0=l.getD p 0
 cy1:cy≤1
 val:leV (o.take j)+256^j*cy=2*leV (l.take j)+bit
theorem Dbl.step {l:List Nat} {bit j cy:Nat} {o:List Nat} (h:Dbl l bit j cy o) (hl:Dg l) (hj:j<33) {v:Nat} (hv:v=2*l.getD j 0+cy):Dbl l bit (j+1) (v/256) (o.set j (v%256)):=by
 have hb:=qaA hl j;have hc:=h.cy1;refine ⟨by rw [List.length_set]; exact h.len,qdr h.dg j _ (Nat.mod_lt _ (by decide)),fun p hp=>?_,by omega,?_⟩
 ·rw [List.getD_eq_getElem?_getD,List.getElem?_set_ne (by omega),← List.getD_eq_getElem?_getD];exact h.out p (by omega)
 ·have e1:(o.set j (v%256)).take j=o.take j:=by rw [List.take_set,List.set_eq_of_length_le (by rw [List.length_take]; omega)]
  have e2:(o.set j (v%256)).getD j 0=v%256:=by rw [List.getD_eq_getElem?_getD,List.getElem?_set_self (by rw [h.len]; exact hj)]; rfl
  have hval:=h.val;rw [qaI,qaI,e1,e2,Nat.pow_succ,Nat.mul_assoc];generalize 256^j=p at *;have hd:p*(v%256)+p*(256*(v/256))=p*v:=by rw [← Nat.mul_add]; congr 1; omega
  have hm:p*v=2*(p*l.getD j 0)+p*cy:=by rw [hv,Nat.mul_add,Nat.mul_left_comm]
  omega
theorem Dbl.fin {l:List Nat} {bit cy:Nat} {o:List Nat} (h:Dbl l bit 33 cy o) (hl:l.length=33) (hv:2*leV l+bit<256^33):leV o=2*leV l+bit:=by
 have hval:=h.val;rw [List.take_of_length_le (Nat.le_of_eq h.len),List.take_of_length_le (Nat.le_of_eq hl)] at hval;have hc:=h.cy1;generalize 256^33=p at *
 by_cases h0:cy=0
 ·subst h0; omega
 ·obtain rfl:cy=1:=by omega
  omega
theorem mod_dbl {V M bit:Nat}:(2*(V%M)+bit)%M=(2*V+bit)%M:=by
 rw [Nat.add_mod,Nat.mul_mod,Nat.mod_mod,← Nat.mul_mod,← Nat.add_mod]
theorem bit_step (x k:Nat) (hk:k<8):x/2^(8 - (k+1))=2*(x/2^(8 - k))+x/2^(7 - k)%2:=by
 have e:8 - k=(7 - k)+1:=by omega
 rw [show 8 - (k+1)=7 - k by omega,e,Nat.pow_succ,← Nat.div_div_eq_div_mul];omega
def inV (a:List Nat) (i k:Nat):Nat:=leV (a.drop (i+1))*2^k+a.getD i 0/2^(8 - k)
theorem inV_zero (a:List Nat) (i:Nat) (h:a.getD i 0<256):inV a i 0=leV (a.drop (i+1)):=by
 rw [inV,Nat.div_eq_of_lt (show a.getD i 0<2^(8 - 0) from h)]; simp
theorem inV_end (a:List Nat) (i:Nat) (h:i<a.length):inV a i 8=leV (a.drop i):=by
 rw [List.drop_eq_getElem_cons h,inV,List.getD_eq_getElem?_getD,List.getElem?_eq_getElem h];simp [leV];omega
theorem inV_step (a:List Nat) (i k:Nat) (hk:k<8):inV a i (k+1)=2*inV a i k+a.getD i 0/2^(7 - k)%2:=by
 rw [inV,inV,bit_step _ k hk,Nat.pow_succ,Nat.mul_add];generalize leV (a.drop (i+1))=L;generalize 2^k=p;rw [← Nat.mul_assoc L p 2,Nat.mul_comm (L*p) 2];omega
theorem sub_modM {v M:Nat} (h1:M≤v) (h2:v<2*M):v - M=v%M:=by
 rw [Nat.mod_eq_sub_mod h1,Nat.mod_eq_of_lt (by omega)]
theorem pow2_cell (k:Nat) (h:k<7):2^(7 - k)/2=2^(7 - (k+1)):=by
 rw [show 7 - k=(7 - (k+1))+1 by omega,Nat.pow_succ,Nat.mul_div_cancel _ (by decide)]
theorem mod_any (a m:List Nat) (ha:Dg a) (hm:Dg m) (lm:m.length=32) (hm0:0<leV m) (la:a.length≤1000) (A B:Option Addr) (ca cb:Nat) (w:World) (ra:Rd w w.heap.size A (dV a)) (rb:Rd w w.heap.size B (dV m)) :
  Calls Tryz.prog 69 #[.slice A a.length ca,.slice B 32 cb] w (DigPost (digN 32 (leV a%leV m)) w):=by
 obtain ⟨n,hn⟩:=eX (a.length);obtain ⟨M,hM⟩:=eX (leV m);have hMl:M<256^32:=by rw [hM,← lm]; exact qcB m hm
 rw [← hn,← hM];have hn63:(n:Int)≤1000:=by omega
 have hmk:∀ u:World,(Instr.makeSlice 30 (.int .i64 33) (.int .i64 33)).run Tryz.prog u=.ok (.slice (some ⟨u.heap.size,0,none⟩) 33 33) (u.alloc (.cells (dV (partL [] 33)).toArray 3)):=fun u=>qbG 33 (by decide) u;have hst0:D1 w w.heap.size (partL [] 33) _:=qcm (partL [] 33) (Below.refl w.heap.size w);have RA:=zY ra;have RB:=zY rb;have HA:=zY ha;have HM:=zY hm;have LM:=zY lm;have HMV:=zY hM;have HML:=zY hMl;have HN:=zY hn;have HM0:=zY (show 0<M by rw [hM]; exact hm0);have HST0:=zY hst0;clear ra rb ha hm lm hM hMl hn hm0 hst0 la;go_enter Tryz.func69,Tryz.ntmps69;go_wp2_with fail;clear hmk;obtain ⟨g,hg⟩:=eX (w.heap.size);rw [← hg] at HST0 RA RB ⊢;generalize w.alloc (.cells (dV (partL [] 33)).toArray 3)=w9 at HST0 ⊢;have HG:=zY hg;clear hg
 go_loopw [5,6] (fun rv iv wr=>∃ (q o:Nat) (x:Int) (l:List Nat),q≤n∧rv=.slice (some ⟨o,0,none⟩) 33 33∧iv=.int .i64 x∧x=(q:Int) - 1∧l.length=33∧Dg l∧leV l=leV (a.drop q)%M∧D1 w o l wr) (fun _ iv _=>(intOf iv+1).toNat)
 case atStart=>exact ⟨n,g,(n:Int) - 1,partL [] 33,Nat.le_refl _,rfl,rfl,rfl,rfl,fun d h=>by rw [List.eq_of_mem_replicate (show d ∈ List.replicate 33 0 from h)]; decide,by rw [List.drop_eq_nil_of_le (by rw [HN.out]; exact Nat.le_refl _),qcV,qbm]; exact (Nat.zero_mod _).symm,HST0.out⟩
 case round =>
  clear HST0;obtain ⟨q,o,x,l,hq,rfl,rfl,hx,hl,hd,hv,hst⟩:=hrel
  by_cases hq0:0<q
  ·obtain ⟨p,rfl⟩:∃ p,q=p+1:=⟨q - 1,by omega⟩;obtain rfl:x=(p:Int):=by omega
   have hpn:(p:Int)<(n:Int):=by omega
   have hpl:p<a.length:=by rw [← HN.out]; omega
   rw [← inV_zero a p (qaA HA.out p)] at hv;have HST:=zY hst;have HL:=zY hl;have HD:=zY hd;have HV:=zY hv;have HPL:=zY hpl;clear hst hl hd hv hpl hx hq hq0;go_wp2_with fail;obtain ⟨wo1,rfl⟩:∃ x:World,x=wr:=⟨_,rfl⟩
   go_loopw [5,7,8] (fun rv dv kv wr=>∃ (k o dd:Nat) (l:List Nat),k≤8∧rv=.slice (some ⟨o,0,none⟩) 33 33∧dv=.int .i64 (dd:Int)∧kv=.int .i64 (k:Int)∧(k<8→dd=2^(7 - k))∧l.length=33∧Dg l∧leV l=inV a p k%M∧D1 w o l wr) (fun _ _ kv _=>(8 - intOf kv).toNat)
   case atStart=>exact ⟨0,o,128,l,by omega,rfl,rfl,rfl,fun _=>rfl,HL.out,HD.out,HV.out,HST.out⟩
   case round =>
    clear HST HL HD HV;obtain ⟨k,o,dd,l,hk,rfl,rfl,rfl,hdd,hl,hd,hv,hst⟩:=hrel
    by_cases hk8:k<8
    ·have hk8':(k:Int)<8:=by omega
     have hdd':=hdd hk8;have hdp:0<dd:=by rw [hdd']; exact Nat.pow_pos (by decide)
     have hdm:dd≤128:=by rw [hdd']; exact Nat.pow_le_pow_right (by decide) (show 7 - k≤7 by omega)
     obtain ⟨x,hx⟩:=eX (a.getD p 0);have hxl:x<256:=by rw [hx]; exact qaA HA.out p
     obtain ⟨t,ht⟩:∃ t,x/dd=t:=⟨_,rfl⟩;have hti:(x:Int)/(dd:Int)=(t:Int):=by rw [← ht]; simp
     have htl:t<256:=by rw [← ht]; exact Nat.lt_of_le_of_lt (Nat.div_le_self _ _) hxl
     obtain ⟨bit,hbit⟩:∃ bit,t%2=bit:=⟨_,rfl⟩;have hbi:(t:Int)%2=(bit:Int):=by omega
     have hel:Below g w wr:=by have h:=hst.bel; rw [← HG.out] at h; exact h
     obtain ⟨ad,rfl,d1⟩:=qa4 ((RA.out.below hel).mono (by have:=hel.size; rw [HG.out]; exact hst.bel.size)) (k:=p) HPL.out;rw [← hx] at d1
     by_cases hk7:k<7
     ·obtain ⟨d2,hd2⟩:∃ d2,dd/2=d2:=⟨_,rfl⟩;have hd2i:(dd:Int)/2=(d2:Int):=by omega
      have hd2e:d2=2^(7 - (k+1)):=by rw [← hd2,hdd',pow2_cell k hk7]
      have hd2p:0<d2:=by rw [hd2e]; exact Nat.pow_pos (by decide)
      have hdz:((d2:Int) == 0)=false:=by rw [beq_eq_false_iff_ne]; omega
      have HD2:=zY hd2e;clear hd2 hd2e;have hdn:(dd:Int)≠0:=by omega
      have hdm':(dd:Int)≤128:=by omega
      have hdp':(0:Int)<(dd:Int):=by omega
      have hxl':(x:Int)<256:=by omega
      have htl':(t:Int)<256:=by omega
      have HST:=zY hst;have HL:=zY hl;have HD:=zY hd;have HV:=zY hv;have HDB:=zY (show Dbl l bit 0 bit l from ⟨hl,hd,fun _ _=>rfl,by omega,by simp [leV]⟩);have HK8:=zY hk8;have HBIT:=zY (show a.getD p 0/2^(7 - k)%2=bit by rw [← hx,← hdd',ht,hbit]);have hbl:bit≤1:=by omega
      have HBL:=zY hbl;have HDE:=zY hdd';clear hst hl hd hv hdd hdd' hx ht hbit hel hk hk8 hxl htl;go_wp2_with fail;obtain ⟨wo2,rfl⟩:∃ x:World,x=wr:=⟨_,rfl⟩
      go_loopw [10,11] (fun cv jv wr=>∃ (j cy:Nat) (out:List Nat),j≤33∧cv=.int .i64 (cy:Int)∧jv=.int .i64 (j:Int)∧Dbl l bit j cy out∧D1 w o out wr) (fun _ jv _=>(33 - intOf jv).toNat)
      case atStart=>exact ⟨0,bit,l,by omega,by first | rfl | (rw [hbi]),rfl,HDB.out,HST.out⟩
      case round =>
       clear HST HDB;obtain ⟨j,cy,out,hj,rfl,rfl,hdb,hst⟩:=hrel
       by_cases hj33:j<33
       ·have hj33':(j:Int)<33:=by omega
        obtain ⟨y,hy⟩:=eX (out.getD j 0);have hyl:y<256:=by rw [hy]; exact qaA hdb.dg j
        have hyo:=hdb.out j (Nat.le_refl _);rw [← hy] at hyo;have hcy:=hdb.cy1;obtain ⟨v,hv⟩:=eX (2*y+cy);have hvi:2*(y:Int)+(cy:Int)=(v:Int):=by omega
        obtain ⟨e,he⟩:∃ e,v%256=e:=⟨_,rfl⟩;obtain ⟨c2,hc2⟩:∃ c2,v/256=c2:=⟨_,rfl⟩;have hei:(v:Int)%256=(e:Int):=by omega
        have hci:(v:Int)/256=(c2:Int):=by omega
        have hstep:=hdb.step HD.out hj33 (v:=v) (by rw [← hyo]; exact hv);rw [he,hc2] at hstep
        have d0:wr.cell? ⟨o,j,none⟩=some (.int .i64 (y:Int)):=by
         have h9:=hst.out.cell j;rw [qcP (by rw [hdb.len]; exact hj33),← hy] at h9;exact h9
        have q0:=hst.out.free j;have hyl':(y:Int)<256:=by omega
        have hcyl:(cy:Int)≤1:=by omega
        have hvl:(v:Int)<1024:=by omega
        have HST:=zY hst;have HSTEP:=zY hstep;have HJ:=zY hj33;clear hst hstep hdb hj33 hyo hyl hy hv he hc2 hcy hj;go_wp2_with fail;refine ⟨⟨j+1,c2,out.set j e,HJ.out,rfl,by go_num,HSTEP.out,?_⟩,by have:=HJ.out; simp [intOf]; omega⟩;have h:=qaj (i:=j) HST.out.out (.int .i64 (e:Int));rw [qaY] at h;exact HST.out.put (qah _ _ _ _) h
       ·obtain rfl:j=33:=by omega
        have hlM:leV l<M:=by rw [HV.out]; exact Nat.mod_lt _ HM0.out
        have hML:=HML.out
        have hfin:=hdb.fin HL.out (by
         have:(256:Nat)^33=256^32*256:=Nat.pow_succ 256 32
         omega)
        have hnx:inV a p (k+1)%M=leV out%M:=by
         rw [inV_step a p k HK8.out,HBIT.out,hfin,HV.out,mod_dbl]
        have hlt2:leV out<2*M:=by rw [hfin]; omega
        have hbel:Below w.heap.size w wr:=hst.bel;have rdo:Rd wr wr.heap.size (some ⟨o,0,none⟩) (dV out):=Rd.of_blk hst.out hst.out.lt;have rdm:=((RB.out.below (by rw [HG.out]; exact hbel)).mono (by rw [HG.out]; exact hbel.size));have hless:=less_any out m hdb.dg HM.out (some ⟨o,0,none⟩) B 33 cb wr rdo rdm (by rw [hdb.len]; decide) (by rw [LM.out]; decide);rw [hdb.len,LM.out,← HMV.out] at hless
        by_cases hlo:leV out<M
        ·rw [decide_eq_true hlo] at hless;rw [Nat.mod_eq_of_lt hlo] at hnx;have HNX:=zY hnx;have HLESS:=zY hless;have HST:=zY hst;have HDB:=zY hdb;clear hnx hless hst hdb hfin hlM hML hlt2 hlo hbel rdo rdm;go_wp2_with fail;refine qaa HLESS.out ?_;rintro e w2 ⟨he,hw⟩;subst he;subst hw;go_wp2_with fail;exact ⟨⟨k+1,o,d2,out,HK8.out,rfl,rfl,by go_num,fun _=>HD2.out,HDB.out.len,HDB.out.dg,HNX.out.symm,HST.out⟩,by have:=HK8.out; simp [intOf]; omega⟩
        ·rw [decide_eq_false hlo] at hless;rw [← sub_modM (Nat.le_of_not_lt hlo) hlt2] at hnx;have hsub:=minusb_any out m hdb.dg HM.out (by rw [← HMV.out]; exact Nat.le_of_not_lt hlo) (some ⟨o,0,none⟩) B 33 cb wr rdo rdm (by rw [hdb.len]; decide) (by rw [LM.out]; decide);rw [hdb.len,LM.out,← HMV.out] at hsub
         have hdv:leV (digN 33 (leV out - M))=leV out - M:=qaQ _ _ (by
          have:(256:Nat)^33=256^32*256:=Nat.pow_succ 256 32
          omega)
         have HNX:=zY hnx;have HDV:=zY hdv;have HLESS:=zY hless;have HSUB:=zY hsub;have HST:=zY hst;clear hnx hless hst hdb hfin hlM hML hlt2 hlo hbel rdo rdm hsub hdv;go_wp2_with fail;refine qaa HLESS.out ?_;rintro e w2 ⟨he,hw⟩;subst he;subst hw;go_wp2_with fail;refine qaa HSUB.out ?_;rintro e w3 ⟨o3,rfl,hd3⟩;have HD3:=zY hd3;clear hd3;go_wp2_with fail;exact ⟨⟨k+1,o3,d2,digN 33 (leV out - M),HK8.out,rfl,rfl,by go_num,fun _=>HD2.out,qai _ _,qaE _ _,by rw [HDV.out,HNX.out],⟨HST.out.bel.trans (HD3.out.bel.mono HST.out.bel.size),HD3.out.out,Nat.le_trans HST.out.bel.size HD3.out.lo⟩⟩,by have:=HK8.out; simp [intOf]; omega⟩
     ·have hk7e:k=7:=by omega
      have hd1:dd=1:=by rw [hdd',hk7e]
      have hd2i:(dd:Int)/2=0:=by omega
      have hdn:(dd:Int)≠0:=by omega
      have hdm':(dd:Int)≤128:=by omega
      have hdp':(0:Int)<(dd:Int):=by omega
      have HK7:=zY hk7e;clear hd1 hk7e hk7;have hxl':(x:Int)<256:=by omega
      have htl':(t:Int)<256:=by omega
      have HST:=zY hst;have HL:=zY hl;have HD:=zY hd;have HV:=zY hv;have HDB:=zY (show Dbl l bit 0 bit l from ⟨hl,hd,fun _ _=>rfl,by omega,by simp [leV]⟩);have HK8:=zY hk8;have HBIT:=zY (show a.getD p 0/2^(7 - k)%2=bit by rw [← hx,← hdd',ht,hbit]);have hbl:bit≤1:=by omega
      have HBL:=zY hbl;have HDE:=zY hdd';clear hst hl hd hv hdd hdd' hx ht hbit hel hk hk8 hxl htl;go_wp2_with fail;obtain ⟨wo2,rfl⟩:∃ x:World,x=wr:=⟨_,rfl⟩
      go_loopw [10,11] (fun cv jv wr=>∃ (j cy:Nat) (out:List Nat),j≤33∧cv=.int .i64 (cy:Int)∧jv=.int .i64 (j:Int)∧Dbl l bit j cy out∧D1 w o out wr) (fun _ jv _=>(33 - intOf jv).toNat)
      case atStart=>exact ⟨0,bit,l,by omega,by first | rfl | (rw [hbi]),rfl,HDB.out,HST.out⟩
      case round =>
       clear HST HDB;obtain ⟨j,cy,out,hj,rfl,rfl,hdb,hst⟩:=hrel
       by_cases hj33:j<33
       ·have hj33':(j:Int)<33:=by omega
        obtain ⟨y,hy⟩:=eX (out.getD j 0);have hyl:y<256:=by rw [hy]; exact qaA hdb.dg j
        have hyo:=hdb.out j (Nat.le_refl _);rw [← hy] at hyo;have hcy:=hdb.cy1;obtain ⟨v,hv⟩:=eX (2*y+cy);have hvi:2*(y:Int)+(cy:Int)=(v:Int):=by omega
        obtain ⟨e,he⟩:∃ e,v%256=e:=⟨_,rfl⟩;obtain ⟨c2,hc2⟩:∃ c2,v/256=c2:=⟨_,rfl⟩;have hei:(v:Int)%256=(e:Int):=by omega
        have hci:(v:Int)/256=(c2:Int):=by omega
        have hstep:=hdb.step HD.out hj33 (v:=v) (by rw [← hyo]; exact hv);rw [he,hc2] at hstep
        have d0:wr.cell? ⟨o,j,none⟩=some (.int .i64 (y:Int)):=by
         have h9:=hst.out.cell j;rw [qcP (by rw [hdb.len]; exact hj33),← hy] at h9;exact h9
        have q0:=hst.out.free j;have hyl':(y:Int)<256:=by omega
        have hcyl:(cy:Int)≤1:=by omega
        have hvl:(v:Int)<1024:=by omega
        have HST:=zY hst;have HSTEP:=zY hstep;have HJ:=zY hj33;clear hst hstep hdb hj33 hyo hyl hy hv he hc2 hcy hj;go_wp2_with fail;refine ⟨⟨j+1,c2,out.set j e,HJ.out,rfl,by go_num,HSTEP.out,?_⟩,by have:=HJ.out; simp [intOf]; omega⟩;have h:=qaj (i:=j) HST.out.out (.int .i64 (e:Int));rw [qaY] at h;exact HST.out.put (qah _ _ _ _) h
       ·obtain rfl:j=33:=by omega
        have hlM:leV l<M:=by rw [HV.out]; exact Nat.mod_lt _ HM0.out
        have hML:=HML.out
        have hfin:=hdb.fin HL.out (by
         have:(256:Nat)^33=256^32*256:=Nat.pow_succ 256 32
         omega)
        have hnx:inV a p (k+1)%M=leV out%M:=by
         rw [inV_step a p k HK8.out,HBIT.out,hfin,HV.out,mod_dbl]
        have hlt2:leV out<2*M:=by rw [hfin]; omega
        have hbel:Below w.heap.size w wr:=hst.bel;have rdo:Rd wr wr.heap.size (some ⟨o,0,none⟩) (dV out):=Rd.of_blk hst.out hst.out.lt;have rdm:=((RB.out.below (by rw [HG.out]; exact hbel)).mono (by rw [HG.out]; exact hbel.size));have hless:=less_any out m hdb.dg HM.out (some ⟨o,0,none⟩) B 33 cb wr rdo rdm (by rw [hdb.len]; decide) (by rw [LM.out]; decide);rw [hdb.len,LM.out,← HMV.out] at hless
        by_cases hlo:leV out<M
        ·rw [decide_eq_true hlo] at hless;rw [Nat.mod_eq_of_lt hlo] at hnx;have HNX:=zY hnx;have HLESS:=zY hless;have HST:=zY hst;have HDB:=zY hdb;clear hnx hless hst hdb hfin hlM hML hlt2 hlo hbel rdo rdm;go_wp2_with fail;refine qaa HLESS.out ?_;rintro e w2 ⟨he,hw⟩;subst he;subst hw;go_wp2_with fail;exact ⟨⟨k+1,o,1,out,HK8.out,rfl,rfl,by go_num,fun h=>by have:=HK7.out; omega,HDB.out.len,HDB.out.dg,HNX.out.symm,HST.out⟩,by have:=HK8.out; simp [intOf]; omega⟩
        ·rw [decide_eq_false hlo] at hless;rw [← sub_modM (Nat.le_of_not_lt hlo) hlt2] at hnx;have hsub:=minusb_any out m hdb.dg HM.out (by rw [← HMV.out]; exact Nat.le_of_not_lt hlo) (some ⟨o,0,none⟩) B 33 cb wr rdo rdm (by rw [hdb.len]; decide) (by rw [LM.out]; decide);rw [hdb.len,LM.out,← HMV.out] at hsub
         have hdv:leV (digN 33 (leV out - M))=leV out - M:=qaQ _ _ (by
          have:(256:Nat)^33=256^32*256:=Nat.pow_succ 256 32
          omega)
         have HNX:=zY hnx;have HDV:=zY hdv;have HLESS:=zY hless;have HSUB:=zY hsub;have HST:=zY hst;clear hnx hless hst hdb hfin hlM hML hlt2 hlo hbel rdo rdm hsub hdv;go_wp2_with fail;refine qaa HLESS.out ?_;rintro e w2 ⟨he,hw⟩;subst he;subst hw;go_wp2_with fail;refine qaa HSUB.out ?_;rintro e w3 ⟨o3,rfl,hd3⟩;have HD3:=zY hd3;clear hd3;go_wp2_with fail;exact ⟨⟨k+1,o3,1,digN 33 (leV out - M),HK8.out,rfl,rfl,by go_num,fun h=>by have:=HK7.out; omega,qai _ _,qaE _ _,by rw [HDV.out,HNX.out],⟨HST.out.bel.trans (HD3.out.bel.mono HST.out.bel.size),HD3.out.out,Nat.le_trans HST.out.bel.size HD3.out.lo⟩⟩,by have:=HK8.out; simp [intOf]; omega⟩
    ·obtain rfl:k=8:=by omega
     rw [inV_end a p HPL.out] at hv;have HST:=zY hst;have HL:=zY hl;have HD:=zY hd;have HV:=zY hv;clear hst hl hd hv hdd;go_wp2_with fail;exact ⟨⟨p,o,(p:Int) - 1,l,by omega,rfl,rfl,rfl,HL.out,HD.out,HV.out,HST.out⟩,by simp [intOf]⟩
  ·obtain rfl:q=0:=by omega
   have hxn:¬ (0:Int)≤x:=by omega
   clear hx;rw [List.drop_zero] at hv;have htv:leV (l.take 32)=leV l:=qeg (Nat.le_refl _) (by rw [hv]; exact Nat.lt_trans (Nat.mod_lt _ HM0.out) HML.out);have htk:l.take 32=digN 32 (leV a%M):=qcb (fun d h=>hd d (List.mem_of_mem_take h)) (by rw [List.length_take,hl]; rfl) (by rw [htv,hv])
   have hrd:Rd wr wr.heap.size (some ⟨o,0,none⟩) (dV (digN 32 (leV a%M))):=by
    have h:=Rd.of_blk hst.out hst.out.lt;rw [← List.take_append_drop 32 l,qb5] at h;rw [← htk];exact h.front
   have HRD:=zY hrd;have HB:=zY hst.bel;clear hrd htk htv hst hv hd hl;go_wp2_with fail;go_ret;exact ⟨some ⟨o,0,none⟩,33,by rw [qai]; rfl,by rw [qai]; decide,HRD.out,HB.out⟩
theorem own_dig {l:List Nat} {n:Nat} {w w':World} {e:Ending} (h:OwnPostZ 3 n (dV l) w e w') (hn:l.length=n):DigPost l w e w':=by
 obtain ⟨A,c,he,ho,hb⟩:=h;exact ⟨A,c,by rw [hn]; exact he,by rw [hn]; exact (qbZ ho.x).1,Rd.of_own ho.x (Nat.le_refl _),hb⟩
theorem rd_takeK {w:World} {B:Nat} {A:Option Addr} {b:List UInt8} (h:Rd w B A (bytesV b)) (k:Nat):Rd w B A (bytesV (b.take k)):=by
 rw [← List.take_append_drop k b] at h;rw [qaK] at h;exact h.front
theorem dig_rd {l:List Nat} {w w':World} {e:Ending} (h:DigPost l w e w'):∃ A c,e=.returned (.slice A l.length c)∧Rd w' w'.heap.size A (dV l)∧Below w.heap.size w w':=by
 obtain ⟨A,c,he,_,hr,hb⟩:=h;exact ⟨A,c,he,hr,hb⟩
theorem rcut_any (b:List UInt8) (k:Nat) (hk:k≤1000) (A:Option Addr) (c:Nat) (w:World) (hr:Rd w w.heap.size A (bytesV b)) (hc:b.length≤c) (hl:b.length≤1000000) :
  Calls Tryz.prog 70 #[.slice A b.length c,.int .i64 (k:Int)] w (DigPost (digs (b.take k)) w):=by
 obtain ⟨n,hn⟩:=eX (b.length);rw [← hn];obtain ⟨T,hT⟩:=eX (b.take k);have hn63:(n:Int)≤1000000:=by omega
 have hk63:(k:Int)≤1000:=by omega
 have hnc:n≤c:=by omega
 have hrt:Rd w w.heap.size A (bytesV T):=by rw [hT]; exact rd_takeK hr k
 have HC:=zY (show ∀ m,m=T.length→m≤c→Calls Tryz.prog 29 #[.slice A m c] w (DigPost (digs T) w) from fun m hm hmc=>by
  have h:=qep T A c w hrt (by omega) (by rw [hT,List.length_take]; omega);rw [hm];exact Calls.mono h fun e w' q=>own_dig q (by rw [digs,List.length_map]))
 rw [← hT];have HN:=zY hn;have HT:=zY hT;clear hr hrt hn hT hl hc
 by_cases hkn:k<n
 ·have hkn':(k:Int)<(n:Int):=by omega
  have hkc:k≤c:=by omega
  go_enter Tryz.func70,Tryz.ntmps70;go_wp2_with fail;refine qaa (HC.out k (by rw [HT.out,List.length_take,← HN.out]; omega) hkc) ?_;rintro e w2 ⟨A2,c2,rfl,h1,h2,h3⟩;have HF:=zY (And.intro h1 (And.intro h2 h3));clear h1 h2 h3;go_wp2_with fail;go_ret;exact ⟨A2,c2,rfl,HF.out⟩
 ·have hkn':¬ (k:Int)<(n:Int):=by omega
  go_enter Tryz.func70,Tryz.ntmps70;go_wp2_with fail;refine qaa (HC.out n (by rw [HT.out,List.length_take,← HN.out]; omega) hnc) ?_;rintro e w2 ⟨A2,c2,rfl,h1,h2,h3⟩;have HF:=zY (And.intro h1 (And.intro h2 h3));clear h1 h2 h3;go_wp2_with fail;go_ret;exact ⟨A2,c2,rfl,HF.out⟩
theorem rsc_reduce (b:List UInt8) (A:Option Addr) (c:Nat) (w:World) (hr:Rd w w.heap.size A (bytesV b)) (hc:b.length≤c) (hl:b.length≤1000000) :
  Calls Tryz.prog 34 #[.slice A b.length c] w (OwnPost 5 32 (bytesV (byB (leV (digs (b.take 64))%LN))) w):=by
 obtain ⟨n,hn⟩:=eX (b.length);obtain ⟨D,hD⟩:=eX (digs (b.take 64));have dD:Dg D:=by rw [hD]; exact qca _
 have lD:D.length≤64:=by rw [hD,digs,List.length_map,List.length_take]; omega
 have hcut:=rcut_any b 64 (by decide) A c w hr hc hl;rw [← hn,← hD] at hcut;rw [← hn,← hD];have HCUT:=zY hcut;have DD:=zY dD;have LD:=zY lD;have hn63:(n:Int)≤1000000:=by omega
 clear hr hc hl hn hD dD lD hcut;go_enter Tryz.func34,Tryz.ntmps34;go_wp2_with fail;refine qaa HCUT.out ?_;rintro e w2 h;obtain ⟨A2,c2,rfl,h1,h2⟩:=dig_rd h;clear h;obtain ⟨m,hm⟩:=eX (D.length);rw [← hm];have HD:=zY (And.intro h1 h2);have HM:=zY hm;clear h1 h2 hm;go_wp2_with fail;refine qaa (rl_any w2) ?_;rintro e w3 h;obtain ⟨A3,c3,rfl,h3,h4⟩:=dig_rd h;clear h;have HL:=zY (And.intro h3 h4);rw [qai];clear h3 h4;go_wp2_with fail
 refine qaa (by
  have h:=mod_any D (digN 32 LN) DD.out (qaE _ _) (qai _ _) (by rw [qaQ _ _ (by decide)]; decide) (by have:=LD.out; omega) A2 A3 c2 c3 w3 ((HD.out.1.below HL.out.2).mono HL.out.2.size) HL.out.1;rw [qaQ _ _ (show LN<256^32 by decide),← HM.out] at h;exact h) ?_
 rintro e w4 h;obtain ⟨A4,c4,he,h5,h6,h7⟩:=h;have he':e=.returned (.slice A4 32 c4):=by rw [he,qai]
 clear he;subst he';rw [qai] at h5;have HR:=zY (And.intro h5 (And.intro h6 h7));clear h5 h6 h7;go_wp2_with fail
 refine qaa (by
  have h:=qdg (digN 32 (leV D%LN)) (qaE _ _) A4 c4 w4 HR.out.2.1 (by rw [qai]; exact HR.out.1) (by rw [qai]; decide);rw [qai,qdz] at h;exact h) ?_
 rintro e w5 ⟨A5,c5,rfl,h8,h9⟩;have HF:=zY (And.intro (h8.mono (Nat.le_trans HD.out.2.size (Nat.le_trans HL.out.2.size HR.out.2.2.size))) (((HD.out.2.trans (HL.out.2.mono HD.out.2.size)).trans (HR.out.2.2.mono (Nat.le_trans HD.out.2.size HL.out.2.size))).trans (h9.mono (Nat.le_trans HD.out.2.size (Nat.le_trans HL.out.2.size HR.out.2.2.size)))));clear h8 h9;go_wp2_with fail;go_ret;exact ⟨A5,c5,rfl,HF.out⟩
theorem rhash_any (a b d:List UInt8) (A B D:Option Addr) (ca cb cd:Nat) (w:World) (ra:Rd w w.heap.size A (bytesV a)) (rb:Rd w w.heap.size B (bytesV b)) (rd:Rd w w.heap.size D (bytesV d))
  (la:a.length≤200) (lb:b.length≤200) (ld:d.length≤200) :
  Calls Tryz.prog 10 #[.slice A a.length ca,.slice B b.length cb,.slice D d.length cd] w (OwnPost 5 32 (bytesV (byB (hshN (a++b++d)))) w):=by
 obtain ⟨na,hna⟩:=eX (a.length);obtain ⟨nb,hnb⟩:=eX (b.length);obtain ⟨nd,hnd⟩:=eX (d.length);rw [← hna,← hnb,← hnd];rw [← hna] at la;rw [← hnb] at lb;rw [← hnd] at ld;have RA:=zY ra;have RB:=zY rb;have RD:=zY rd;have HNA:=zY hna;have HNB:=zY hnb;have HND:=zY hnd;have HOWN0:Hid (OwnX w w.heap.size 5 1 (.slice none 0 0) 0 []):=zY (OwnX.nil _ _ _ _);clear ra rb rd hna hnb hnd;go_enter Tryz.func10,Tryz.ntmps10
 go_wp2_with (first
  | (refine qaF (o:=⟨some 10,_,_,_,_,_⟩) (m:=na) sl_bytes rfl rfl HOWN0.out rfl rfl (by rw [qaq,HNA.out,Nat.mul_one]) RA.out (qb7 a) (by unfold maxLen; omega) (by omega) (Nat.le_refl _) ?_; intro A1 c1 w1 hown1 hg1 hn1; have HOWN1:Hid (OwnX w1 w.heap.size 5 1 (.slice A1 na c1) na (bytesV a)):=zY (by simpa using hown1); have HB1:Hid (Below w.heap.size w w1):=zY (qbl hg1 (Nat.le_refl _) (by intro k hk; simp [Value.ownBlock] at hk)); clear hown1 hg1 hn1)
  | (refine qaF (o:=⟨some 13,_,_,_,_,_⟩) (m:=nb) sl_bytes rfl rfl HOWN1.out rfl rfl (by rw [qaq,HNB.out,Nat.mul_one]) (RB.out.below HB1.out) (qb7 b) (by unfold maxLen; omega) (by omega) HB1.out.size ?_; intro A2 c2 w2 hown2 hg2 hn2; have HOWN2:=zY hown2; have HB2:Hid (Below w.heap.size w w2):=zY (qaT HB1.out HOWN1.out HB1.out.size hg2); clear hown2 hg2 hn2)
  | (refine qaF (o:=⟨some 16,_,_,_,_,_⟩) (m:=nd) sl_bytes rfl rfl HOWN2.out rfl rfl (by rw [qaq,HND.out,Nat.mul_one]) (RD.out.below HB2.out) (qb7 d) (by unfold maxLen; omega) (by omega) HB2.out.size ?_; intro A3 c3 w3 hown3 hg3 hn3; have HOWN3:=zY hown3; have HB3:Hid (Below w.heap.size w w3):=zY (qaT HB2.out HOWN2.out HB2.out.size hg3); clear hown3 hg3 hn3))
 obtain ⟨m,hm⟩:=eX (na+nb+nd);obtain ⟨X,hX⟩:=eX (a++b++d);have hXl:X.length=m:=by rw [hX,hm,List.length_append,List.length_append,HNA.out,HNB.out,HND.out]
 have hrd:Rd w3 w3.heap.size A3 (bytesV X):=by
  have h:=Rd.of_own HOWN3.out (Nat.le_refl _);rw [hX,qaK,qaK];exact h
 have hcap:=(qbZ HOWN3.out).1;have hs:=Sh.r512_any X A3 c3 w3.heap.size w3 hrd (Nat.le_refl _) (by rw [hXl,hm]; omega) (by rw [hXl,hm]; exact hcap);rw [hXl] at hs;rw [← hm];have HS:=zY hs;have HX:=zY hX;clear hs hX hXl hrd hcap hm HOWN0 HOWN1 HOWN2 HOWN3 HB1 HB2;refine qaa HS.out ?_;rintro e w4 ⟨A4,c4,rfl,ho,hb⟩
 have hlen:(Sh.digS Sh.F64 X).length=64:=by
  have h:=ho.1;rw [qaq] at h;rw [h]
 have hcap4:=(qbZ ho).1;have hred:=rsc_reduce (Sh.digS Sh.F64 X) A4 c4 w4 (Rd.of_own ho (Nat.le_refl _)) (by rw [hlen]; exact hcap4) (by rw [hlen]; decide);rw [hlen,List.take_of_length_le (Nat.le_of_eq hlen),show leV (digs (Sh.digS Sh.F64 X))%LN=hshN (a++b++d) by rw [← HX.out]; rfl] at hred;have HRED:=zY hred;have HB4:=zY (HB3.out.trans (hb.mono HB3.out.size));clear ho hb hlen hcap4 hred;go_wp2_with fail;refine qaa HRED.out ?_;rintro e w5 ⟨A5,c5,rfl,ho5,hb5⟩;have HF:=zY (And.intro (ho5.mono HB4.out.size) (HB4.out.trans (hb5.mono HB4.out.size)));clear ho5 hb5;go_wp2_with fail;go_ret;exact ⟨A5,c5,rfl,HF.out⟩
section
variable {n:Nat} [NeZero n] {d:Fin n} {iv:Fin n→Fin n} (F:Ed.Fld n d iv)
include F
theorem g_frac {x1 y1 z1 x2 y2 z2 x y z zz xy yx yy xx k p m X1 Y1 X2 Y2:Fin n} (h1:Ed.On d x1 y1) (h2:Ed.On d x2 y2) (s:Ed.Sum d x1 y1 x2 y2 x y)
  (hz1:z1≠0) (hz2:z2≠0) (hX1:X1=x1*z1) (hY1:Y1=y1*z1) (hX2:X2=x2*z2) (hY2:Y2=y2*z2)
  (hz:z=z1*z2) (hzz:zz=z*z) (hxy:xy=X1*Y2) (hyx:yx=Y1*X2) (hyy:yy=Y1*Y2) (hxx:xx=X1*X2) (hk:k=d*(xx*yy)) (hp:p=zz+k) (hm:m=zz - k) :
  p*m≠0∧z*(m*(xy+yx))=x*(p*m)∧z*(p*(yy+xx))=y*(p*m):=by
 have dp:=Ed.den_p F h1 h2;have dm:=Ed.den_m F h1 h2;have hz0:=Ed.mul_ne F hz1 hz2;obtain ⟨sx,sy⟩:=s;subst hX1 hY1 hX2 hY2 hz hzz hxy hyx hyy hxx hk hp hm;have ep:z1*z2*(z1*z2)+d*(x1*z1*(x2*z2)*(y1*z1*(y2*z2)))=(z1*z2)*(z1*z2)*(1+d*x1*x2*y1*y2):=by clear sx sy dp dm hz0; grind -lia
 have em:z1*z2*(z1*z2) - d*(x1*z1*(x2*z2)*(y1*z1*(y2*z2)))=(z1*z2)*(z1*z2)*(1 - d*x1*x2*y1*y2):=by clear sx sy dp dm hz0; grind -lia
 have ex:x1*z1*(y2*z2)+y1*z1*(x2*z2)=(z1*z2)*(x*(1+d*x1*x2*y1*y2)):=by rw [sx]; clear sx sy dp dm hz0; grind -lia
 have ey:y1*z1*(y2*z2)+x1*z1*(x2*z2)=(z1*z2)*(y*(1 - d*x1*x2*y1*y2)):=by rw [sy]; clear sx sy dp dm hz0; grind -lia
 rw [ep,em,ex,ey];clear sx sy ep em ex ey h1 h2;generalize 1+d*x1*x2*y1*y2=u at *;generalize 1 - d*x1*x2*y1*y2=v at *;refine ⟨Ed.mul_ne F (Ed.mul_ne F (Ed.mul_ne F hz0 hz0) dp) (Ed.mul_ne F (Ed.mul_ne F hz0 hz0) dm),?_,?_⟩ <;> clear F dp dm hz0 hz1 hz2 <;> grind -lia
end
structure Fr (x y z:Nat) (P:PtF):Prop where
 hz:fn z≠0
 hx:fn x=P.x*fn z
 hy:fn y=P.y*fn z
structure FrW (x1 y1 z1 x2 y2 z2 z zz xy yx yy xx q k p m a b c e g h o:Nat):Prop where
 h_z:z=z1*z2%PN
 h_zz:zz=z*z%PN
 h_xy:xy=x1*y2%PN
 h_yx:yx=y1*x2%PN
 h_yy:yy=y1*y2%PN
 h_xx:xx=x1*x2%PN
 h_q:q=xx*yy%PN
 h_k:k=dN*q%PN
 h_p:p=(zz+k)%PN
 h_m:m=(zz+PN - k)%PN
 h_a:a=(xy+yx)%PN
 h_b:b=m*a%PN
 h_c:c=z*b%PN
 h_e:e=(yy+xx)%PN
 h_g:g=p*e%PN
 h_h:h=z*g%PN
 h_o:o=p*m%PN
theorem FrW.is {x1 y1 z1 x2 y2 z2 z zz xy yx yy xx q k p m a b c e g h o:Nat} (W:FrW x1 y1 z1 x2 y2 z2 z zz xy yx yy xx q k p m a b c e g h o) {P Q:PtF} (hP:Fr x1 y1 z1 P) (hQ:Fr x2 y2 z2 Q):Fr c h o (plus P Q):=by
 obtain ⟨h1,h2,h3,h4,h5,h6,h7,h8,h9,h10,h11,h12,h13,h14,h15,h16,h17⟩:=W;have lk:k≤PN:=by rw [h8]; exact Nat.le_of_lt (qav _)
 obtain ⟨r1,r2,r3⟩:=g_frac FF P.on Q.on (Ed.add_sum FF P Q) hP.hz hQ.hz hP.hx hP.hy hQ.hx hQ.hy
  (z:=fn z) (zz:=fn zz) (xy:=fn xy) (yx:=fn yx) (yy:=fn yy) (xx:=fn xx) (k:=fn k) (p:=fn p) (m:=fn m)
  (by rw [h1,qaL]) (by rw [h2,qaL]) (by rw [h3,qaL]) (by rw [h4,qaL]) (by rw [h5,qaL]) (by rw [h6,qaL]) (by rw [h8,qaL,h7,qaL,← dF]) (by rw [h9,qcM]) (by rw [h10,fn_sub lk])
 refine ⟨by rw [h17,qaL]; exact r1,?_,?_⟩
 ·rw [h13,qaL,h12,qaL,h11,qcM,h17,qaL]; exact r2
 ·rw [h16,qaL,h15,qaL,h14,qcM,h17,qaL]; exact r3
theorem frW_ex (x1 y1 z1 x2 y2 z2:Nat):∃ z zz xy yx yy xx q k p m a b c e g h o,FrW x1 y1 z1 x2 y2 z2 z zz xy yx yy xx q k p m a b c e g h o :=
 ⟨_,_,_,_,_,_,_,_,_,_,_,_,_,_,_,_,_,⟨rfl,rfl,rfl,rfl,rfl,rfl,rfl,rfl,rfl,rfl,rfl,rfl,rfl,rfl,rfl,rfl,rfl⟩⟩
theorem fr_zero:Fr 0 1 1 zeroF:=⟨FF.one,by show fn 0=0*fn 1; rw [g_zm]; rfl,by show fn 1=1*fn 1; decide⟩
theorem fr_of (P:PtF):Fr P.x.val P.y.val 1 P:=by
 have h1:fn 1=1:=rfl;refine ⟨FF.one,?_,?_⟩
 ·rw [qbo,h1,qdp]
 ·rw [qbo,h1,qdp]
theorem Fr.pair {x y z i:Nat} {P:PtF} (h:Fr x y z P) (hz:z<PN) (hi:i=z^(PN - 2)%PN):x*i%PN=P.x.val∧y*i%PN=P.y.val:=by
 have fi:fn z*fn i=1:=by
  rw [hi,fn_inv hz];exact iv_one _ h.hz
 have ex:fn (x*i%PN)=P.x:=by rw [qaL,h.hx,Fin.mul_assoc,fi,qdp]
 have ey:fn (y*i%PN)=P.y:=by rw [qaL,h.hy,Fin.mul_assoc,fi,qdp]
 rw [← ex,← ey,qbj (qav _),qbj (qav _)];exact ⟨rfl,rfl⟩
def triV (A B C:Value):Array Value:=#[A,B,C]
theorem qbz:(Tryz.prog.info? 66).map (·.size)=some 3:=by kernel_rfl
theorem qbX {x:Nat} {A C E:Option Addr} {a b c d e f:Nat}:∀ v ∈ DN x,∀ j:Nat,(triV (.slice A a b) (.slice C c d) (.slice E e f))[j]?≠some v:=fun v hv j=>by
 obtain ⟨n,rfl⟩:=dn_int hv
 match j with
 | 0=>simp [triV]
 | 1=>simp [triV]
 | 2=>simp [triV]
 | j+3=>simp [triV]
def TriPost (x y z:Nat) (w:World) (e:Ending) (w':World):Prop:=∃ A a B b C c,e=.returned (.agg (triV (.slice A 32 a) (.slice B 32 b) (.slice C 32 c)))∧32≤a∧32≤b∧32≤c∧Rd w' w'.heap.size A (DN x)∧Rd w' w'.heap.size B (DN y)∧Rd w' w'.heap.size C (DN z)∧Below w.heap.size w w'
theorem fadd_any {x1 y1 z1 x2 y2 z2 fz fzz fxy fyx fyy fxx fq fk fp fm fa fb fc fe fg fh fo:Nat} (W:FrW x1 y1 z1 x2 y2 z2 fz fzz fxy fyx fyy fxx fq fk fp fm fa fb fc fe fg fh fo)
  (p1:x1<PN) (p2:y1<PN) (p3:z1<PN) (p4:x2<PN) (p5:y2<PN) (p6:z2<PN) {A1 B1 C1 A2 B2 C2 AD:Option Addr} {a1 b1 c1 a2 b2 c2 cD:Nat} {w:World}
  (r1:Rd w w.heap.size A1 (DN x1)) (r2:Rd w w.heap.size B1 (DN y1)) (r3:Rd w w.heap.size C1 (DN z1)) (r4:Rd w w.heap.size A2 (DN x2)) (r5:Rd w w.heap.size B2 (DN y2)) (r6:Rd w w.heap.size C2 (DN z2)) (r7:Rd w w.heap.size AD (DN dN)) :
  Calls Tryz.prog 37 #[.agg (triV (.slice A1 32 a1) (.slice B1 32 b1) (.slice C1 32 c1)),.agg (triV (.slice A2 32 a2) (.slice B2 32 b2) (.slice C2 32 c2)),.slice AD 32 cD] w (TriPost fc fh fo w):=by
 have hpt:=Tryz.underlying66;obtain ⟨h1,h2,h3,h4,h5,h6,h7,h8,h9,h10,h11,h12,h13,h14,h15,h16,h17⟩:=W;have l1:fz<PN:=by rw [h1]; exact qav _
 have l2:fzz<PN:=by rw [h2]; exact qav _
 have l3:fxy<PN:=by rw [h3]; exact qav _
 have l4:fyx<PN:=by rw [h4]; exact qav _
 have l5:fyy<PN:=by rw [h5]; exact qav _
 have l6:fxx<PN:=by rw [h6]; exact qav _
 have l7:fq<PN:=by rw [h7]; exact qav _
 have l8:fk<PN:=by rw [h8]; exact qav _
 have l9:fp<PN:=by rw [h9]; exact qav _
 have l10:fm<PN:=by rw [h10]; exact qav _
 have l11:fa<PN:=by rw [h11]; exact qav _
 have l12:fb<PN:=by rw [h12]; exact qav _
 have l13:fc<PN:=by rw [h13]; exact qav _
 have l14:fe<PN:=by rw [h14]; exact qav _
 have l15:fg<PN:=by rw [h15]; exact qav _
 have l16:fh<PN:=by rw [h16]; exact qav _
 have l17:fo<PN:=by rw [h17]; exact qav _
 have Cfz:=zY (show ∀ ww XA xc XB xd,Rd ww ww.heap.size XA (DN z1)→Rd ww ww.heap.size XB (DN z2)→Calls Tryz.prog 39 #[.slice XA 32 xc,.slice XB 32 xd] ww (NumPost fz ww) from fun ww XA xc XB xd xh xk=>by rw [h1]; exact nmul p3 p6 xh xk);have Cfzz:=zY (show ∀ ww XA xc XB xd,Rd ww ww.heap.size XA (DN fz)→Rd ww ww.heap.size XB (DN fz)→Calls Tryz.prog 39 #[.slice XA 32 xc,.slice XB 32 xd] ww (NumPost fzz ww) from fun ww XA xc XB xd xh xk=>by rw [h2]; exact nmul l1 l1 xh xk);have Cfxy:=zY (show ∀ ww XA xc XB xd,Rd ww ww.heap.size XA (DN x1)→Rd ww ww.heap.size XB (DN y2)→Calls Tryz.prog 39 #[.slice XA 32 xc,.slice XB 32 xd] ww (NumPost fxy ww) from fun ww XA xc XB xd xh xk=>by rw [h3]; exact nmul p1 p5 xh xk);have Cfyx:=zY (show ∀ ww XA xc XB xd,Rd ww ww.heap.size XA (DN y1)→Rd ww ww.heap.size XB (DN x2)→Calls Tryz.prog 39 #[.slice XA 32 xc,.slice XB 32 xd] ww (NumPost fyx ww) from fun ww XA xc XB xd xh xk=>by rw [h4]; exact nmul p2 p4 xh xk);have Cfyy:=zY (show ∀ ww XA xc XB xd,Rd ww ww.heap.size XA (DN y1)→Rd ww ww.heap.size XB (DN y2)→Calls Tryz.prog 39 #[.slice XA 32 xc,.slice XB 32 xd] ww (NumPost fyy ww) from fun ww XA xc XB xd xh xk=>by rw [h5]; exact nmul p2 p5 xh xk);have Cfxx:=zY (show ∀ ww XA xc XB xd,Rd ww ww.heap.size XA (DN x1)→Rd ww ww.heap.size XB (DN x2)→Calls Tryz.prog 39 #[.slice XA 32 xc,.slice XB 32 xd] ww (NumPost fxx ww) from fun ww XA xc XB xd xh xk=>by rw [h6]; exact nmul p1 p4 xh xk);have Cfq:=zY (show ∀ ww XA xc XB xd,Rd ww ww.heap.size XA (DN fxx)→Rd ww ww.heap.size XB (DN fyy)→Calls Tryz.prog 39 #[.slice XA 32 xc,.slice XB 32 xd] ww (NumPost fq ww) from fun ww XA xc XB xd xh xk=>by rw [h7]; exact nmul l6 l5 xh xk);have Cfk:=zY (show ∀ ww XA xc XB xd,Rd ww ww.heap.size XA (DN dN)→Rd ww ww.heap.size XB (DN fq)→Calls Tryz.prog 39 #[.slice XA 32 xc,.slice XB 32 xd] ww (NumPost fk ww) from fun ww XA xc XB xd xh xk=>by rw [h8]; exact nmul dN_lt l7 xh xk);have Cfp:=zY (show ∀ ww XA xc XB xd,Rd ww ww.heap.size XA (DN fzz)→Rd ww ww.heap.size XB (DN fk)→Calls Tryz.prog 43 #[.slice XA 32 xc,.slice XB 32 xd] ww (NumPost fp ww) from fun ww XA xc XB xd xh xk=>by rw [h9]; exact nadd l2 l8 xh xk);have Cfm:=zY (show ∀ ww XA xc XB xd,Rd ww ww.heap.size XA (DN fzz)→Rd ww ww.heap.size XB (DN fk)→Calls Tryz.prog 13 #[.slice XA 32 xc,.slice XB 32 xd] ww (NumPost fm ww) from fun ww XA xc XB xd xh xk=>by rw [h10]; exact nsub l2 l8 xh xk);have Cfa:=zY (show ∀ ww XA xc XB xd,Rd ww ww.heap.size XA (DN fxy)→Rd ww ww.heap.size XB (DN fyx)→Calls Tryz.prog 43 #[.slice XA 32 xc,.slice XB 32 xd] ww (NumPost fa ww) from fun ww XA xc XB xd xh xk=>by rw [h11]; exact nadd l3 l4 xh xk);have Cfb:=zY (show ∀ ww XA xc XB xd,Rd ww ww.heap.size XA (DN fm)→Rd ww ww.heap.size XB (DN fa)→Calls Tryz.prog 39 #[.slice XA 32 xc,.slice XB 32 xd] ww (NumPost fb ww) from fun ww XA xc XB xd xh xk=>by rw [h12]; exact nmul l10 l11 xh xk);have Cfc:=zY (show ∀ ww XA xc XB xd,Rd ww ww.heap.size XA (DN fz)→Rd ww ww.heap.size XB (DN fb)→Calls Tryz.prog 39 #[.slice XA 32 xc,.slice XB 32 xd] ww (NumPost fc ww) from fun ww XA xc XB xd xh xk=>by rw [h13]; exact nmul l1 l12 xh xk);have Cfe:=zY (show ∀ ww XA xc XB xd,Rd ww ww.heap.size XA (DN fyy)→Rd ww ww.heap.size XB (DN fxx)→Calls Tryz.prog 43 #[.slice XA 32 xc,.slice XB 32 xd] ww (NumPost fe ww) from fun ww XA xc XB xd xh xk=>by rw [h14]; exact nadd l5 l6 xh xk);have Cfg:=zY (show ∀ ww XA xc XB xd,Rd ww ww.heap.size XA (DN fp)→Rd ww ww.heap.size XB (DN fe)→Calls Tryz.prog 39 #[.slice XA 32 xc,.slice XB 32 xd] ww (NumPost fg ww) from fun ww XA xc XB xd xh xk=>by rw [h15]; exact nmul l9 l14 xh xk);have Cfh:=zY (show ∀ ww XA xc XB xd,Rd ww ww.heap.size XA (DN fz)→Rd ww ww.heap.size XB (DN fg)→Calls Tryz.prog 39 #[.slice XA 32 xc,.slice XB 32 xd] ww (NumPost fh ww) from fun ww XA xc XB xd xh xk=>by rw [h16]; exact nmul l1 l15 xh xk);have Cfo:=zY (show ∀ ww XA xc XB xd,Rd ww ww.heap.size XA (DN fp)→Rd ww ww.heap.size XB (DN fm)→Calls Tryz.prog 39 #[.slice XA 32 xc,.slice XB 32 xd] ww (NumPost fo ww) from fun ww XA xc XB xd xh xk=>by rw [h17]; exact nmul l9 l10 xh xk);generalize dN=D at *;obtain ⟨w0,hw0⟩:=eX (((w.alloc (.cells (triV (.slice A1 32 a1) (.slice B1 32 b1) (.slice C1 32 c1)) 66)).alloc (.cells (triV (.slice A2 32 a2) (.slice B2 32 b2) (.slice C2 32 c2)) 66)).alloc (.cells #[.slice none 0 0,.slice none 0 0,.slice none 0 0] 66));have hb0:Below w.heap.size w w0:=by rw [hw0]; exact ((below_new _ _).alloc (by simp) _).alloc (by simp; try omega) _
 have hp1:Blk w0 w.heap.size 66 (triV (.slice A1 32 a1) (.slice B1 32 b1) (.slice C1 32 c1)):=by rw [hw0]; exact ((Blk.new _ _ _).alloc _).alloc _
 have hp2:Blk w0 (w.heap.size+1) 66 (triV (.slice A2 32 a2) (.slice B2 32 b2) (.slice C2 32 c2)):=by rw [hw0]; exact (Blk.newAt (by simp)).alloc _
 have hp3:Blk w0 (w.heap.size+1+1) 66 (triV nilS nilS nilS):=by rw [hw0]; exact Blk.newAt (by simp)
 have HLR:=zY (show w.heap.size≤w.heap.size+1+1 by omega);have HB:=zY hb0;have HP1:=zY hp1;have HP2:=zY hp2;have HP:=zY hp3;have R1:=zY (qae r1 hb0);have R2:=zY (qae r2 hb0);have R3:=zY (qae r3 hb0);have R4:=zY (qae r4 hb0);have R5:=zY (qae r5 hb0);have R6:=zY (qae r6 hb0);have R7:=zY (qae r7 hb0);have HW:=zY hw0;clear h1 h2 h3 h4 h5 h6 h7 h8 h9 h10 h11 h12 h13 h14 h15 h16 h17 l1 l2 l3 l4 l5 l6 l7 l8 l9 l10 l11 l12 l13 l14 l15 l16 l17 p1 p2 p3 p4 p5 p6 r1 r2 r3 r4 r5 r6 r7 hw0 hb0 hp1 hp2 hp3;go_enter Tryz.func37,Tryz.ntmps37;have e10:=(HP1.out.cell 0).trans (show (triV (.slice A1 32 a1) (.slice B1 32 b1) (.slice C1 32 c1))[0]?=some (.slice A1 32 a1) from rfl);have e11:=(HP1.out.cell 1).trans (show (triV (.slice A1 32 a1) (.slice B1 32 b1) (.slice C1 32 c1))[1]?=some (.slice B1 32 b1) from rfl);have e12:=(HP1.out.cell 2).trans (show (triV (.slice A1 32 a1) (.slice B1 32 b1) (.slice C1 32 c1))[2]?=some (.slice C1 32 c1) from rfl);have e20:=(HP2.out.cell 0).trans (show (triV (.slice A2 32 a2) (.slice B2 32 b2) (.slice C2 32 c2))[0]?=some (.slice A2 32 a2) from rfl);have e21:=(HP2.out.cell 1).trans (show (triV (.slice A2 32 a2) (.slice B2 32 b2) (.slice C2 32 c2))[1]?=some (.slice B2 32 b2) from rfl);have e22:=(HP2.out.cell 2).trans (show (triV (.slice A2 32 a2) (.slice B2 32 b2) (.slice C2 32 c2))[2]?=some (.slice C2 32 c2) from rfl);rw [HW.out] at e10 e11 e12 e20 e21 e22;go_wp2_with fail;clear e10 e11 e12 e20 e21 e22;show Calls _ _ _ (((w.alloc (.cells (triV (.slice A1 32 a1) (.slice B1 32 b1) (.slice C1 32 c1)) _)).alloc (.cells (triV (.slice A2 32 a2) (.slice B2 32 b2) (.slice C2 32 c2)) _)).alloc (.cells #[.slice none 0 0,.slice none 0 0,.slice none 0 0] _)) _;rw [← HW.out];generalize w.heap.size+1+1=g at *;generalize w.heap.size+1=g2 at *;generalize hg1:w.heap.size=g1 at HP1 ⊢;clear hg1 HW;refine qaa (Cfz.out _ _ _ _ _ R3.out R6.out) ?_;rintro e u1 ⟨Afz,cfz,rfl,hc,hr,hb⟩;clear R3;clear R6;replace HB:=zY (HB.out.trans (hb.mono HB.out.size));replace R1:=zY (qae R1.out hb);replace R2:=zY (qae R2.out hb);replace R4:=zY (qae R4.out hb);replace R5:=zY (qae R5.out hb);replace R7:=zY (qae R7.out hb);replace HP1:=zY (HP1.out.below hb HP1.out.lt);replace HP2:=zY (HP2.out.below hb HP2.out.lt);replace HP:=zY (HP.out.below hb HP.out.lt);have Rfz:=zY hr;have LEfz:=zY hc;clear hr hc hb;go_wp2_with fail;refine qaa (Cfzz.out _ _ _ _ _ Rfz.out Rfz.out) ?_;rintro e u2 ⟨Afzz,cfzz,rfl,hc,hr,hb⟩;replace HB:=zY (HB.out.trans (hb.mono HB.out.size));replace R1:=zY (qae R1.out hb);replace R2:=zY (qae R2.out hb);replace R4:=zY (qae R4.out hb);replace R5:=zY (qae R5.out hb);replace R7:=zY (qae R7.out hb);replace Rfz:=zY (qae Rfz.out hb);replace HP1:=zY (HP1.out.below hb HP1.out.lt);replace HP2:=zY (HP2.out.below hb HP2.out.lt);replace HP:=zY (HP.out.below hb HP.out.lt);have Rfzz:=zY hr;have LEfzz:=zY hc;clear hr hc hb;have e10:=(HP1.out.cell 0).trans (show (triV (.slice A1 32 a1) (.slice B1 32 b1) (.slice C1 32 c1))[0]?=some (.slice A1 32 a1) from rfl);have e11:=(HP1.out.cell 1).trans (show (triV (.slice A1 32 a1) (.slice B1 32 b1) (.slice C1 32 c1))[1]?=some (.slice B1 32 b1) from rfl);have e12:=(HP1.out.cell 2).trans (show (triV (.slice A1 32 a1) (.slice B1 32 b1) (.slice C1 32 c1))[2]?=some (.slice C1 32 c1) from rfl);have e20:=(HP2.out.cell 0).trans (show (triV (.slice A2 32 a2) (.slice B2 32 b2) (.slice C2 32 c2))[0]?=some (.slice A2 32 a2) from rfl);have e21:=(HP2.out.cell 1).trans (show (triV (.slice A2 32 a2) (.slice B2 32 b2) (.slice C2 32 c2))[1]?=some (.slice B2 32 b2) from rfl);have e22:=(HP2.out.cell 2).trans (show (triV (.slice A2 32 a2) (.slice B2 32 b2) (.slice C2 32 c2))[2]?=some (.slice C2 32 c2) from rfl);go_wp2_with fail;clear e10 e11 e12 e20 e21 e22;refine qaa (Cfxy.out _ _ _ _ _ R1.out R5.out) ?_;rintro e u3 ⟨Afxy,cfxy,rfl,hc,hr,hb⟩;replace HB:=zY (HB.out.trans (hb.mono HB.out.size));replace R1:=zY (qae R1.out hb);replace R2:=zY (qae R2.out hb);replace R4:=zY (qae R4.out hb);replace R5:=zY (qae R5.out hb);replace R7:=zY (qae R7.out hb);replace Rfz:=zY (qae Rfz.out hb);replace Rfzz:=zY (qae Rfzz.out hb);replace HP1:=zY (HP1.out.below hb HP1.out.lt);replace HP2:=zY (HP2.out.below hb HP2.out.lt);replace HP:=zY (HP.out.below hb HP.out.lt);have Rfxy:=zY hr;have LEfxy:=zY hc;clear hr hc hb;have e10:=(HP1.out.cell 0).trans (show (triV (.slice A1 32 a1) (.slice B1 32 b1) (.slice C1 32 c1))[0]?=some (.slice A1 32 a1) from rfl);have e11:=(HP1.out.cell 1).trans (show (triV (.slice A1 32 a1) (.slice B1 32 b1) (.slice C1 32 c1))[1]?=some (.slice B1 32 b1) from rfl);have e12:=(HP1.out.cell 2).trans (show (triV (.slice A1 32 a1) (.slice B1 32 b1) (.slice C1 32 c1))[2]?=some (.slice C1 32 c1) from rfl);have e20:=(HP2.out.cell 0).trans (show (triV (.slice A2 32 a2) (.slice B2 32 b2) (.slice C2 32 c2))[0]?=some (.slice A2 32 a2) from rfl);have e21:=(HP2.out.cell 1).trans (show (triV (.slice A2 32 a2) (.slice B2 32 b2) (.slice C2 32 c2))[1]?=some (.slice B2 32 b2) from rfl);have e22:=(HP2.out.cell 2).trans (show (triV (.slice A2 32 a2) (.slice B2 32 b2) (.slice C2 32 c2))[2]?=some (.slice C2 32 c2) from rfl);go_wp2_with fail;clear e10 e11 e12 e20 e21 e22;refine qaa (Cfyx.out _ _ _ _ _ R2.out R4.out) ?_;rintro e u4 ⟨Afyx,cfyx,rfl,hc,hr,hb⟩;replace HB:=zY (HB.out.trans (hb.mono HB.out.size));replace R1:=zY (qae R1.out hb);replace R2:=zY (qae R2.out hb);replace R4:=zY (qae R4.out hb);replace R5:=zY (qae R5.out hb);replace R7:=zY (qae R7.out hb);replace Rfz:=zY (qae Rfz.out hb);replace Rfzz:=zY (qae Rfzz.out hb);replace Rfxy:=zY (qae Rfxy.out hb);replace HP1:=zY (HP1.out.below hb HP1.out.lt);replace HP2:=zY (HP2.out.below hb HP2.out.lt);replace HP:=zY (HP.out.below hb HP.out.lt);have Rfyx:=zY hr;have LEfyx:=zY hc;clear hr hc hb;have e10:=(HP1.out.cell 0).trans (show (triV (.slice A1 32 a1) (.slice B1 32 b1) (.slice C1 32 c1))[0]?=some (.slice A1 32 a1) from rfl);have e11:=(HP1.out.cell 1).trans (show (triV (.slice A1 32 a1) (.slice B1 32 b1) (.slice C1 32 c1))[1]?=some (.slice B1 32 b1) from rfl);have e12:=(HP1.out.cell 2).trans (show (triV (.slice A1 32 a1) (.slice B1 32 b1) (.slice C1 32 c1))[2]?=some (.slice C1 32 c1) from rfl);have e20:=(HP2.out.cell 0).trans (show (triV (.slice A2 32 a2) (.slice B2 32 b2) (.slice C2 32 c2))[0]?=some (.slice A2 32 a2) from rfl);have e21:=(HP2.out.cell 1).trans (show (triV (.slice A2 32 a2) (.slice B2 32 b2) (.slice C2 32 c2))[1]?=some (.slice B2 32 b2) from rfl);have e22:=(HP2.out.cell 2).trans (show (triV (.slice A2 32 a2) (.slice B2 32 b2) (.slice C2 32 c2))[2]?=some (.slice C2 32 c2) from rfl);go_wp2_with fail;clear e10 e11 e12 e20 e21 e22;refine qaa (Cfyy.out _ _ _ _ _ R2.out R5.out) ?_;rintro e u5 ⟨Afyy,cfyy,rfl,hc,hr,hb⟩;clear R2;clear R5;replace HB:=zY (HB.out.trans (hb.mono HB.out.size));replace R1:=zY (qae R1.out hb);replace R4:=zY (qae R4.out hb);replace R7:=zY (qae R7.out hb);replace Rfz:=zY (qae Rfz.out hb);replace Rfzz:=zY (qae Rfzz.out hb);replace Rfxy:=zY (qae Rfxy.out hb);replace Rfyx:=zY (qae Rfyx.out hb);replace HP1:=zY (HP1.out.below hb HP1.out.lt);replace HP2:=zY (HP2.out.below hb HP2.out.lt);replace HP:=zY (HP.out.below hb HP.out.lt);have Rfyy:=zY hr;have LEfyy:=zY hc;clear hr hc hb;have e10:=(HP1.out.cell 0).trans (show (triV (.slice A1 32 a1) (.slice B1 32 b1) (.slice C1 32 c1))[0]?=some (.slice A1 32 a1) from rfl);have e11:=(HP1.out.cell 1).trans (show (triV (.slice A1 32 a1) (.slice B1 32 b1) (.slice C1 32 c1))[1]?=some (.slice B1 32 b1) from rfl);have e12:=(HP1.out.cell 2).trans (show (triV (.slice A1 32 a1) (.slice B1 32 b1) (.slice C1 32 c1))[2]?=some (.slice C1 32 c1) from rfl);have e20:=(HP2.out.cell 0).trans (show (triV (.slice A2 32 a2) (.slice B2 32 b2) (.slice C2 32 c2))[0]?=some (.slice A2 32 a2) from rfl);have e21:=(HP2.out.cell 1).trans (show (triV (.slice A2 32 a2) (.slice B2 32 b2) (.slice C2 32 c2))[1]?=some (.slice B2 32 b2) from rfl);have e22:=(HP2.out.cell 2).trans (show (triV (.slice A2 32 a2) (.slice B2 32 b2) (.slice C2 32 c2))[2]?=some (.slice C2 32 c2) from rfl);go_wp2_with fail;clear e10 e11 e12 e20 e21 e22;refine qaa (Cfxx.out _ _ _ _ _ R1.out R4.out) ?_;rintro e u6 ⟨Afxx,cfxx,rfl,hc,hr,hb⟩;clear R1;clear R4;clear HP1;clear HP2;replace HB:=zY (HB.out.trans (hb.mono HB.out.size));replace R7:=zY (qae R7.out hb);replace Rfz:=zY (qae Rfz.out hb);replace Rfzz:=zY (qae Rfzz.out hb);replace Rfxy:=zY (qae Rfxy.out hb);replace Rfyx:=zY (qae Rfyx.out hb);replace Rfyy:=zY (qae Rfyy.out hb);replace HP:=zY (HP.out.below hb HP.out.lt);have Rfxx:=zY hr;have LEfxx:=zY hc;clear hr hc hb;go_wp2_with fail;refine qaa (Cfq.out _ _ _ _ _ Rfxx.out Rfyy.out) ?_;rintro e u7 ⟨Afq,cfq,rfl,hc,hr,hb⟩;replace HB:=zY (HB.out.trans (hb.mono HB.out.size));replace R7:=zY (qae R7.out hb);replace Rfz:=zY (qae Rfz.out hb);replace Rfzz:=zY (qae Rfzz.out hb);replace Rfxy:=zY (qae Rfxy.out hb);replace Rfyx:=zY (qae Rfyx.out hb);replace Rfyy:=zY (qae Rfyy.out hb);replace Rfxx:=zY (qae Rfxx.out hb);replace HP:=zY (HP.out.below hb HP.out.lt);have Rfq:=zY hr;have LEfq:=zY hc;clear hr hc hb;go_wp2_with fail;refine qaa (Cfk.out _ _ _ _ _ R7.out Rfq.out) ?_;rintro e u8 ⟨Afk,cfk,rfl,hc,hr,hb⟩;clear R7;clear Rfq;replace HB:=zY (HB.out.trans (hb.mono HB.out.size));replace Rfz:=zY (qae Rfz.out hb);replace Rfzz:=zY (qae Rfzz.out hb);replace Rfxy:=zY (qae Rfxy.out hb);replace Rfyx:=zY (qae Rfyx.out hb);replace Rfyy:=zY (qae Rfyy.out hb);replace Rfxx:=zY (qae Rfxx.out hb);replace HP:=zY (HP.out.below hb HP.out.lt);have Rfk:=zY hr;have LEfk:=zY hc;clear hr hc hb;go_wp2_with fail;refine qaa (Cfp.out _ _ _ _ _ Rfzz.out Rfk.out) ?_;rintro e u9 ⟨Afp,cfp,rfl,hc,hr,hb⟩;replace HB:=zY (HB.out.trans (hb.mono HB.out.size));replace Rfz:=zY (qae Rfz.out hb);replace Rfzz:=zY (qae Rfzz.out hb);replace Rfxy:=zY (qae Rfxy.out hb);replace Rfyx:=zY (qae Rfyx.out hb);replace Rfyy:=zY (qae Rfyy.out hb);replace Rfxx:=zY (qae Rfxx.out hb);replace Rfk:=zY (qae Rfk.out hb);replace HP:=zY (HP.out.below hb HP.out.lt);have Rfp:=zY hr;have LEfp:=zY hc;clear hr hc hb;go_wp2_with fail;refine qaa (Cfm.out _ _ _ _ _ Rfzz.out Rfk.out) ?_;rintro e u10 ⟨Afm,cfm,rfl,hc,hr,hb⟩;clear Rfzz;clear Rfk;replace HB:=zY (HB.out.trans (hb.mono HB.out.size));replace Rfz:=zY (qae Rfz.out hb);replace Rfxy:=zY (qae Rfxy.out hb);replace Rfyx:=zY (qae Rfyx.out hb);replace Rfyy:=zY (qae Rfyy.out hb);replace Rfxx:=zY (qae Rfxx.out hb);replace Rfp:=zY (qae Rfp.out hb);replace HP:=zY (HP.out.below hb HP.out.lt);have Rfm:=zY hr;have LEfm:=zY hc;clear hr hc hb;go_wp2_with fail;refine qaa (Cfa.out _ _ _ _ _ Rfxy.out Rfyx.out) ?_;rintro e u11 ⟨Afa,cfa,rfl,hc,hr,hb⟩;clear Rfxy;clear Rfyx;replace HB:=zY (HB.out.trans (hb.mono HB.out.size));replace Rfz:=zY (qae Rfz.out hb);replace Rfyy:=zY (qae Rfyy.out hb);replace Rfxx:=zY (qae Rfxx.out hb);replace Rfp:=zY (qae Rfp.out hb);replace Rfm:=zY (qae Rfm.out hb);replace HP:=zY (HP.out.below hb HP.out.lt);have Rfa:=zY hr;have LEfa:=zY hc;clear hr hc hb;go_wp2_with fail;refine qaa (Cfb.out _ _ _ _ _ Rfm.out Rfa.out) ?_;rintro e u12 ⟨Afb,cfb,rfl,hc,hr,hb⟩;clear Rfa;replace HB:=zY (HB.out.trans (hb.mono HB.out.size));replace Rfz:=zY (qae Rfz.out hb);replace Rfyy:=zY (qae Rfyy.out hb);replace Rfxx:=zY (qae Rfxx.out hb);replace Rfp:=zY (qae Rfp.out hb);replace Rfm:=zY (qae Rfm.out hb);replace HP:=zY (HP.out.below hb HP.out.lt);have Rfb:=zY hr;have LEfb:=zY hc;clear hr hc hb;go_wp2_with fail;refine qaa (Cfc.out _ _ _ _ _ Rfz.out Rfb.out) ?_;rintro e u13 ⟨Afc,cfc,rfl,hc,hr,hb⟩;clear Rfb;replace HB:=zY (HB.out.trans (hb.mono HB.out.size));replace Rfz:=zY (qae Rfz.out hb);replace Rfyy:=zY (qae Rfyy.out hb);replace Rfxx:=zY (qae Rfxx.out hb);replace Rfp:=zY (qae Rfp.out hb);replace Rfm:=zY (qae Rfm.out hb);replace HP:=zY (HP.out.below hb HP.out.lt);have Rfc:=zY hr;have LEfc:=zY hc;clear hr hc hb;go_wp2_with fail;refine qaa (Cfe.out _ _ _ _ _ Rfyy.out Rfxx.out) ?_;rintro e u14 ⟨Afe,cfe,rfl,hc,hr,hb⟩;clear Rfyy;clear Rfxx;replace HB:=zY (HB.out.trans (hb.mono HB.out.size));replace Rfz:=zY (qae Rfz.out hb);replace Rfp:=zY (qae Rfp.out hb);replace Rfm:=zY (qae Rfm.out hb);replace Rfc:=zY (qae Rfc.out hb);replace HP:=zY (HP.out.below hb HP.out.lt);have Rfe:=zY hr;have LEfe:=zY hc;clear hr hc hb;go_wp2_with fail;refine qaa (Cfg.out _ _ _ _ _ Rfp.out Rfe.out) ?_;rintro e u15 ⟨Afg,cfg,rfl,hc,hr,hb⟩;clear Rfe;replace HB:=zY (HB.out.trans (hb.mono HB.out.size));replace Rfz:=zY (qae Rfz.out hb);replace Rfp:=zY (qae Rfp.out hb);replace Rfm:=zY (qae Rfm.out hb);replace Rfc:=zY (qae Rfc.out hb);replace HP:=zY (HP.out.below hb HP.out.lt);have Rfg:=zY hr;have LEfg:=zY hc;clear hr hc hb;go_wp2_with fail;refine qaa (Cfh.out _ _ _ _ _ Rfz.out Rfg.out) ?_;rintro e u16 ⟨Afh,cfh,rfl,hc,hr,hb⟩;clear Rfz;clear Rfg;replace HB:=zY (HB.out.trans (hb.mono HB.out.size));replace Rfp:=zY (qae Rfp.out hb);replace Rfm:=zY (qae Rfm.out hb);replace Rfc:=zY (qae Rfc.out hb);replace HP:=zY (HP.out.below hb HP.out.lt);have Rfh:=zY hr;have LEfh:=zY hc;clear hr hc hb;go_wp2_with fail;refine qaa (Cfo.out _ _ _ _ _ Rfp.out Rfm.out) ?_;rintro e u17 ⟨Afo,cfo,rfl,hc,hr,hb⟩;clear Rfp;clear Rfm;replace HB:=zY (HB.out.trans (hb.mono HB.out.size));replace Rfc:=zY (qae Rfc.out hb);replace Rfh:=zY (qae Rfh.out hb);replace HP:=zY (HP.out.below hb HP.out.lt);have Rfo:=zY hr;have LEfo:=zY hc;clear hr hc hb;go_wp2_with (refine qaf (x:=.tmp 6) (cells:=triV (.slice Afc 32 cfc) (.slice Afh 32 cfh) (.slice Afo 32 cfo)) HP.out rfl rfl rfl rfl qbz rfl (by simp [triV,Value.oneCell']) ?_; intro u30 hb30 hw30; have HP30:=zY hb30; have HW30:=zY hw30; clear hb30 hw30);refine bodyPost_ret (qau (P:=Tryz.prog) rfl rfl HP30.out hpt rfl qbz) rfl ?_;exact ⟨_,_,_,_,_,_,rfl,LEfc.out,LEfh.out,LEfo.out,qaD (Rfc.out.wrote HP.out HW30.out qbX) HW30.out.size,qaD (Rfh.out.wrote HP.out HW30.out qbX) HW30.out.size,qaD (Rfo.out.wrote HP.out HW30.out qbX) HW30.out.size,HW30.out.below HB.out HLR.out HB.out.size⟩
def lowK (l:List Nat) (i b:Nat):Nat:=leV (l.take i)+256^i*(l.getD i 0%2^b)
theorem qef (l:List Nat) (i:Nat):lowK l i 0=leV (l.take i):=by rw [lowK,Nat.pow_zero,Nat.mod_one,Nat.mul_zero,Nat.add_zero]
theorem lowK_end {l:List Nat} (h:Dg l) (i:Nat):lowK l i 8=leV (l.take (i+1)):=by
 rw [lowK,qaI,Nat.mod_eq_of_lt (show l.getD i 0<2^8 from qaA h i)]
theorem lowK_next (l:List Nat) (i b:Nat):lowK l i (b+1)=lowK l i b+l.getD i 0/2^b%2*(256^i*2^b):=by
 rw [lowK,lowK,Nat.mod_pow_succ,Nat.mul_add];generalize l.getD i 0/2^b%2=t;rw [← Nat.add_assoc,← Nat.mul_assoc t,Nat.mul_comm t,Nat.mul_comm (2^b) t,← Nat.mul_assoc]
theorem times_add (P:PtF) (a b:Nat):times P (a+b)=plus (times P a) (times P b):=Ed.mul_add FF P a b
theorem tri_neb {l:List Nat} {A C E:Option Addr} {a b c d e f:Nat}:∀ v ∈ bnV l,∀ j:Nat,(triV (.slice A a b) (.slice C c d) (.slice E e f))[j]?≠some v:=fun v hv j=>by
 obtain ⟨n,_,rfl⟩:=List.mem_map.1 hv
 match j with
 | 0=>simp [triV]
 | 1=>simp [triV]
 | 2=>simp [triV]
 | j+3=>simp [triV]
structure FB (g:Nat) (P:PtF) (u:World):Prop where
 ex:∃ x y z A a B b C c,Blk u g 66 (triV (.slice A 32 a) (.slice B 32 b) (.slice C 32 c))∧x<PN∧y<PN∧z<PN∧Fr x y z P∧32≤a∧32≤b∧32≤c∧Rd u u.heap.size A (DN x)∧Rd u u.heap.size B (DN y)∧Rd u u.heap.size C (DN z)
theorem FB.next {g:Nat} {P:PtF} {u u':World} (h:FB g P u) (hb:Below u.heap.size u u'):FB g P u':=by
 obtain ⟨x,y,z,A,a,B,b,C,c,h1,h2,h3,h4,h5,h6,h7,h8,h9,h10,h11⟩:=h.ex;exact ⟨x,y,z,A,a,B,b,C,c,h1.below hb h1.lt,h2,h3,h4,h5,h6,h7,h8,qae h9 hb,qae h10 hb,qae h11 hb⟩
theorem FB.other {g g2:Nat} {P:PtF} {u u':World} {A C E:Option Addr} {a b c d e f:Nat} (h:FB g P u) (hw:Wrote g2 u u') (hne:g≠g2) (ho:Blk u g2 66 (triV (.slice A a b) (.slice C c d) (.slice E e f))):FB g P u':=by
 obtain ⟨x,y,z,A,a,B,b,C,c,h1,h2,h3,h4,h5,h6,h7,h8,h9,h10,h11⟩:=h.ex;exact ⟨x,y,z,A,a,B,b,C,c,hw.blk h1 hne,h2,h3,h4,h5,h6,h7,h8,qaD (h9.wrote ho hw qbX) hw.size,qaD (h10.wrote ho hw qbX) hw.size,qaD (h11.wrote ho hw qbX) hw.size⟩
def FPost (P:PtF) (w:World) (e:Ending) (w':World):Prop:=∃ x y z A a B b C c,e=.returned (.agg (triV (.slice A 32 a) (.slice B 32 b) (.slice C 32 c)))∧x<PN∧y<PN∧z<PN∧Fr x y z P∧32≤a∧32≤b∧32≤c∧Rd w' w'.heap.size A (DN x)∧Rd w' w'.heap.size B (DN y)∧Rd w' w'.heap.size C (DN z)∧Below w.heap.size w w'
theorem fadd_fr {x1 y1 z1 x2 y2 z2:Nat} {P Q:PtF} (hP:Fr x1 y1 z1 P) (hQ:Fr x2 y2 z2 Q) (p1:x1<PN) (p2:y1<PN) (p3:z1<PN) (p4:x2<PN) (p5:y2<PN) (p6:z2<PN) {A1 B1 C1 A2 B2 C2 AD:Option Addr} {a1 b1 c1 a2 b2 c2 cD:Nat} {w:World}
  (r1:Rd w w.heap.size A1 (DN x1)) (r2:Rd w w.heap.size B1 (DN y1)) (r3:Rd w w.heap.size C1 (DN z1)) (r4:Rd w w.heap.size A2 (DN x2)) (r5:Rd w w.heap.size B2 (DN y2)) (r6:Rd w w.heap.size C2 (DN z2)) (r7:Rd w w.heap.size AD (DN dN)) :
  Calls Tryz.prog 37 #[.agg (triV (.slice A1 32 a1) (.slice B1 32 b1) (.slice C1 32 c1)),.agg (triV (.slice A2 32 a2) (.slice B2 32 b2) (.slice C2 32 c2)),.slice AD 32 cD] w (FPost (plus P Q) w):=by
 obtain ⟨z,zz,xy,yx,yy,xx,q,k,p,m,a,b,c,e,g,h,o,W⟩:=frW_ex x1 y1 z1 x2 y2 z2;have hF:=W.is hP hQ
 have hc:c<PN∧h<PN∧o<PN:=by
  obtain ⟨h1,h2,h3,h4,h5,h6,h7,h8,h9,h10,h11,h12,h13,h14,h15,h16,h17⟩:=W;exact ⟨by rw [h13]; exact qav _,by rw [h16]; exact qav _,by rw [h17]; exact qav _⟩
 refine Calls.mono (fadd_any W p1 p2 p3 p4 p5 p6 r1 r2 r3 r4 r5 r6 r7) fun e w' hq=>?_;obtain ⟨A,a,B,b,C,c,he,q1,q2,q3,q4,q5,q6,q7⟩:=hq;exact ⟨_,_,_,A,a,B,b,C,c,he,hc.1,hc.2.1,hc.2.2,hF,q1,q2,q3,q4,q5,q6,q7⟩
structure FM (w0:World) (g4 go gw:Nat) (AD K:Option Addr) (l:List Nat) (Q R:PtF) (u:World):Prop where
 bel:Below w0.heap.size w0 u
 pt:Blk u g4 32 (pairV nilS nilS)
 out:FB go Q u
 own:FB gw R u
 d:Rd u u.heap.size AD (DN dN)
 k:Rd u u.heap.size K (bnV l)
 l4:w0.heap.size≤g4
 lo:w0.heap.size≤go
 lw:w0.heap.size≤gw
 n1:go≠gw
 n2:g4≠go
 n3:g4≠gw
theorem FM.next {w0 u u':World} {g4 go gw:Nat} {AD K:Option Addr} {l:List Nat} {Q R:PtF} (h:FM w0 g4 go gw AD K l Q R u) (hb:Below u.heap.size u u'):FM w0 g4 go gw AD K l Q R u' :=
 ⟨h.bel.trans (hb.mono h.bel.size),h.pt.below hb h.pt.lt,h.out.next hb,h.own.next hb,qae h.d hb,qae h.k hb,h.l4,h.lo,h.lw,h.n1,h.n2,h.n3⟩
theorem FM.putW {w0 u u':World} {g4 go gw:Nat} {AD K:Option Addr} {l:List Nat} {Q R S:PtF} {x y z:Nat} {A B C A1 B1 C1:Option Addr} {a b c a1 b1 c1:Nat} (h:FM w0 g4 go gw AD K l Q R u)
  (ho:Blk u gw 66 (triV (.slice A1 32 a1) (.slice B1 32 b1) (.slice C1 32 c1))) (hw:Wrote gw u u') (hb:Blk u' gw 66 (triV (.slice A 32 a) (.slice B 32 b) (.slice C 32 c)))
  (m:x<PN∧y<PN∧z<PN∧Fr x y z S∧32≤a∧32≤b∧32≤c∧Rd u u.heap.size A (DN x)∧Rd u u.heap.size B (DN y)∧Rd u u.heap.size C (DN z)):FM w0 g4 go gw AD K l Q S u':=by
 obtain ⟨m2,m3,m4,m5,m6,m7,m8,m9,m10,m11⟩:=m;exact ⟨hw.below h.bel h.lw h.bel.size,hw.blk h.pt h.n3,h.out.other hw h.n1 ho,⟨x,y,z,A,a,B,b,C,c,hb,m2,m3,m4,m5,m6,m7,m8,qaD (m9.wrote ho hw qbX) hw.size,qaD (m10.wrote ho hw qbX) hw.size,qaD (m11.wrote ho hw qbX) hw.size⟩,qaD (h.d.wrote ho hw qbX) hw.size,qaD (h.k.wrote ho hw tri_neb) hw.size,h.l4,h.lo,h.lw,h.n1,h.n2,h.n3⟩
theorem FM.putO {w0 u u':World} {g4 go gw:Nat} {AD K:Option Addr} {l:List Nat} {Q R S:PtF} {x y z:Nat} {A B C A1 B1 C1:Option Addr} {a b c a1 b1 c1:Nat} (h:FM w0 g4 go gw AD K l Q R u)
  (ho:Blk u go 66 (triV (.slice A1 32 a1) (.slice B1 32 b1) (.slice C1 32 c1))) (hw:Wrote go u u') (hb:Blk u' go 66 (triV (.slice A 32 a) (.slice B 32 b) (.slice C 32 c)))
  (m:x<PN∧y<PN∧z<PN∧Fr x y z S∧32≤a∧32≤b∧32≤c∧Rd u u.heap.size A (DN x)∧Rd u u.heap.size B (DN y)∧Rd u u.heap.size C (DN z)):FM w0 g4 go gw AD K l S R u':=by
 obtain ⟨m2,m3,m4,m5,m6,m7,m8,m9,m10,m11⟩:=m;exact ⟨hw.below h.bel h.lo h.bel.size,hw.blk h.pt h.n2,⟨x,y,z,A,a,B,b,C,c,hb,m2,m3,m4,m5,m6,m7,m8,qaD (m9.wrote ho hw qbX) hw.size,qaD (m10.wrote ho hw qbX) hw.size,qaD (m11.wrote ho hw qbX) hw.size⟩,h.own.other hw (Ne.symm h.n1) ho,qaD (h.d.wrote ho hw qbX) hw.size,qaD (h.k.wrote ho hw tri_neb) hw.size,h.l4,h.lo,h.lw,h.n1,h.n2,h.n3⟩
structure FQ (w0:World) (g4 go:Nat) (O:Array Value) (A B I:Option Addr) (x y z:Nat) (u:World):Prop where
 bel:Below w0.heap.size w0 u
 pt:∃ A a b C c d,Blk u g4 32 (pairV (.slice A a b) (.slice C c d))
 o:Blk u go 66 O
 r1:Rd u u.heap.size A (DN x)
 r2:Rd u u.heap.size B (DN y)
 r3:Rd u u.heap.size I (DN z)
 l4:w0.heap.size≤g4
 n:g4≠go
theorem FQ.next {w0 u u':World} {g4 go:Nat} {O:Array Value} {A B I:Option Addr} {x y z:Nat} (h:FQ w0 g4 go O A B I x y z u) (hb:Below u.heap.size u u'):FQ w0 g4 go O A B I x y z u':=by
 obtain ⟨A1,a,b,C,c,d,hp⟩:=h.pt;exact ⟨h.bel.trans (hb.mono h.bel.size),⟨A1,a,b,C,c,d,hp.below hb hp.lt⟩,h.o.below hb h.o.lt,qae h.r1 hb,qae h.r2 hb,qae h.r3 hb,h.l4,h.n⟩
theorem FQ.drew {w0 u:World} {g4 go:Nat} {O:Array Value} {A B I:Option Addr} {x y z:Nat} (h:FQ w0 g4 go O A B I x y z u):FQ w0 g4 go O A B I x y z u.drew:=h.next (Below.refl _ _).drew
theorem FQ.put {w0 u u':World} {g4 go:Nat} {O:Array Value} {A B I:Option Addr} {x y z:Nat} {A1 A2 A3 A4:Option Addr} {a1 b1 c1 d1 a2 b2 c2 d2:Nat} (h:FQ w0 g4 go O A B I x y z u) (ho:Blk u g4 32 (pairV (.slice A1 a1 b1) (.slice A2 c1 d1))) (hw:Wrote g4 u u') (hb:Blk u' g4 32 (pairV (.slice A3 a2 b2) (.slice A4 c2 d2))):FQ w0 g4 go O A B I x y z u' :=
 ⟨hw.below h.bel h.l4 h.bel.size,⟨_,_,_,_,_,_,hb⟩,hw.blk h.o (Ne.symm h.n),qaD (h.r1.wrote ho hw qbK) hw.size,qaD (h.r2.wrote ho hw qbK) hw.size,qaD (h.r3.wrote ho hw qbK) hw.size,h.l4,h.n⟩
theorem fmul_any (P:PtF) (l:List Nat) (hd:Dg l) (hl:l.length=32) {X Y K:Option Addr} {cx cy ck:Nat} {w:World}
  (r1:Rd w w.heap.size X (DN P.x.val)) (r2:Rd w w.heap.size Y (DN P.y.val)) (r3:Rd w w.heap.size K (bnV l)) (hcx:32≤cx) (hcy:32≤cy) :
  Calls Tryz.prog 11 #[.agg (pairV (.slice X 32 cx) (.slice Y 32 cy)),.slice K 32 ck] w (PairPost (times P (leV l)).x.val (times P (leV l)).y.val w):=by
 have hpt:=Tryz.underlying32;have hft:=Tryz.underlying66;have HFP:=zY (fr_of P);have PX:=zY P.x.isLt;have PY:=zY P.y.isLt;obtain ⟨w0,hw0⟩:=eX ((w.alloc (.cells (pairV (.slice X 32 cx) (.slice Y 32 cy)) 32)).alloc (.cells #[.slice none 0 0,.slice none 0 0] 32));have hb0:Below w.heap.size w w0:=by rw [hw0]; exact (below_new _ _).alloc (by simp) _
 have hp1:Blk w0 w.heap.size 32 (pairV (.slice X 32 cx) (.slice Y 32 cy)):=by rw [hw0]; exact (Blk.new _ _ _).alloc _
 have hp2:Blk w0 (w.heap.size+1) 32 (pairV nilS nilS):=by rw [hw0]; exact Blk.newAt (by simp)
 have HB:=zY hb0;have HP1:=zY hp1;have HP2:=zY hp2;have R1:=zY (qae r1 hb0);have R2:=zY (qae r2 hb0);have R3:=zY (qae r3 hb0);have HCX:=zY hcx;have HCY:=zY hcy;have HD:=zY hd;have HL:=zY hl;have HW:=zY hw0;generalize hpx:P.x.val=px at *;generalize hpy:P.y.val=py at *;clear r1 r2 r3 hcx hcy hd hl hw0 hb0 hp1 hp2;go_enter Tryz.func11,Tryz.ntmps11;go_wp2_with fail;show Calls _ _ _ ((w.alloc (.cells (pairV (.slice X 32 cx) (.slice Y 32 cy)) _)).alloc (.cells #[.slice none 0 0,.slice none 0 0] _)) _;rw [← HW.out];obtain ⟨gp,hgp⟩:=eX (w.heap.size);obtain ⟨g4,hg4⟩:=eX (w.heap.size+1);rw [← hg4] at HP2 ⊢;rw [← hgp] at HP1 ⊢;have HG4:=zY hg4;clear hgp hg4 HW;refine qaa (nd_any _) ?_;rintro e u1 ⟨AD,cD,rfl,_,hr,hb⟩;replace HB:=zY (HB.out.trans (hb.mono HB.out.size));replace R1:=zY (qae R1.out hb);replace R2:=zY (qae R2.out hb);replace R3:=zY (qae R3.out hb);replace HP1:=zY (HP1.out.below hb HP1.out.lt);replace HP2:=zY (HP2.out.below hb HP2.out.lt);have RD:=zY hr;clear hr hb;go_wp2_with fail;refine qaa (nint 1 (by decide) _) ?_;rintro e u2 ⟨A1,c1,rfl,hc1,hr,hb⟩;replace HB:=zY (HB.out.trans (hb.mono HB.out.size));replace R1:=zY (qae R1.out hb);replace R2:=zY (qae R2.out hb);replace R3:=zY (qae R3.out hb);replace RD:=zY (qae RD.out hb);replace HP1:=zY (HP1.out.below hb HP1.out.lt);replace HP2:=zY (HP2.out.below hb HP2.out.lt);have RO:=zY hr;have HC1:=zY hc1;clear hr hb hc1;go_wp2_with fail;refine qaa (nint 0 (by decide) _) ?_;rintro e u3 ⟨A0,c0,rfl,hc0,hr,hb⟩;replace HB:=zY (HB.out.trans (hb.mono HB.out.size));replace R1:=zY (qae R1.out hb);replace R2:=zY (qae R2.out hb);replace R3:=zY (qae R3.out hb);replace RD:=zY (qae RD.out hb);replace RO:=zY (qae RO.out hb);replace HP1:=zY (HP1.out.below hb HP1.out.lt);replace HP2:=zY (HP2.out.below hb HP2.out.lt);have RZ:=zY hr;have HC0':=zY hc0;clear hr hb hc0;have hlt:=HP1.out.lt
 go_wp2_with (first
  | (refine qaf (x:=.tmp 7) (cells:=triV (.slice A0 32 c0) (.slice A1 32 c1) (.slice A1 32 c1)) (Blk.new u3 _ _) rfl rfl rfl rfl qbz rfl (by simp [triV,Value.oneCell']) ?_; intro u4 hb4 hw4; have HB4:=zY hb4; have HW4:=zY hw4; have hq4:=hw4.blk (HP1.out.alloc _) (Nat.ne_of_lt hlt); have d0:=(hq4.cell 0).trans (show (pairV (.slice X 32 cx) (.slice Y 32 cy))[0]?=some (.slice X 32 cx) from rfl); have d1:=(hq4.cell 1).trans (show (pairV (.slice X 32 cx) (.slice Y 32 cy))[1]?=some (.slice Y 32 cy) from rfl); clear hb4 hw4 hq4)
  | (refine qaf (x:=.tmp 8) (cells:=triV (.slice X 32 cx) (.slice Y 32 cy) (.slice A1 32 c1)) (Blk.new u4 _ _) rfl rfl rfl rfl qbz rfl (by simp [triV,Value.oneCell']) ?_; intro u5 hb5 hw5; have HB5:=zY hb5; have HW5:=zY hw5; clear d0 d1 hb5 hw5))
 have e4:u3.heap.size+1=u4.heap.size:=by rw [HW4.out.size]; simp
 have e5:u4.heap.size+1=u5.heap.size:=by rw [HW5.out.size]; simp
 have B34:Below u3.heap.size u3 u4:=HW4.out.below (below_new _ _) (Nat.le_refl _) (by simp);have B45:Below u4.heap.size u4 u5:=HW5.out.below (below_new _ _) (Nat.le_refl _) (by simp);have B35:Below u3.heap.size u3 u5:=B34.trans (B45.mono (by omega));have hz0:=HB.out.size;have hg4l:=HP2.out.lt;have hg44:=HG4.out
 have hst0:FM w g4 u3.heap.size u4.heap.size AD K l (times P (lowK l 0 0)) (times P (256^0*2^0)) u5:=by
  refine ⟨HB.out.trans (B35.mono hz0),HP2.out.below B35 hg4l,⟨0,1,1,A0,c0,A1,c1,A1,c1,HB4.out.below B45 HB4.out.lt,by decide,by decide,by decide,?_,HC0'.out,HC1.out,HC1.out,qae RZ.out B35,qae (qae RO.out (Below.refl _ _)) B35,qae RO.out B35⟩,⟨px,py,1,X,cx,Y,cy,A1,c1,HB5.out,PX.out,PY.out,by decide,?_,HCX.out,HCY.out,HC1.out,qae R1.out B35,qae R2.out B35,qae RO.out B35⟩,qae RD.out B35,qae R3.out B35,by omega,by omega,by omega,by omega,by omega,by omega⟩
  ·have h0:times P (lowK l 0 0)=zeroF:=by rw [qef]; rfl
   rw [h0];exact fr_zero
  ·have h:=HFP.out;have h1:times P (256^0*2^0)=P:=Ed.mul_one FF P;rw [h1];exact h
 have HST0:=zY hst0;generalize u3.heap.size=go at *;generalize u4.heap.size=gw at *;clear hst0 B34 B45 B35 e4 e5 hz0 hg4l hg44 hlt HB4 HB5 HW4 HW5 HP1 HP2 HB R1 R2 R3 RD RO RZ HC1 HC0' HCX HCY PX PY HFP HG4 hpx hpy
 go_loopw [9] (fun iv wr=>∃ i:Nat,i≤32∧iv=.int .i64 (i:Int)∧FM w g4 go gw AD K l (times P (lowK l i 0)) (times P (256^i*2^0)) wr) (fun iv _=>(32 - intOf iv).toNat)
 case atStart=>exact ⟨0,by omega,rfl,HST0.out⟩
 case round =>
  clear HST0;obtain ⟨i,hi,rfl,hst⟩:=hrel
  by_cases hlt:i<32
  ·have hlt':(i:Int)<32:=by omega
   obtain ⟨v0,hv0⟩:=eX (l.getD i 0);obtain ⟨ad,rfl,d1⟩:=qcQ hst.k (k:=i) (by rw [HL.out]; exact hlt);rw [← hv0] at d1;have HI:=zY hlt;have HV0:=zY hv0;have HST:=zY hst;have hvl:v0<256:=by rw [hv0]; exact qaA HD.out i
   have hvl':(v0:Int)<256:=by omega
   clear hst hlt hv0 hi;go_wp2_with fail;clear d1;obtain ⟨wo,rfl⟩:∃ x:World,x=wr:=⟨_,rfl⟩
   go_loopw [10,11] (fun vv bv wr=>∃ b v:Nat,b≤8∧bv=.int .i64 (b:Int)∧vv=.int .i64 (v:Int)∧v=v0/2^b∧FM w g4 go gw AD (some ad) l (times P (lowK l i b)) (times P (256^i*2^b)) wr) (fun _ bv _=>(8 - intOf bv).toNat)
   case atStart=>exact ⟨0,v0,by omega,rfl,rfl,by simp,HST.out⟩
   case round =>
    clear HST;obtain ⟨b,v,hb,rfl,rfl,hv,hst⟩:=hrel
    by_cases hb8:b<8
    ·have hb8':(b:Int)<8:=by omega
     obtain ⟨t,ht⟩:=eX (v%2);obtain ⟨v2,hv2⟩:=eX (v/2);have hv2i:(v:Int)/2=(v2:Int):=by omega
     have hvb:v<256:=by rw [hv]; exact Nat.lt_of_le_of_lt (Nat.div_le_self _ _) hvl
     have hvb':(v:Int)<256:=by omega
     have HV2:=zY (show v2=v0/2^(b+1) by rw [hv2,hv,Nat.div_div_eq_div_mul,← Nat.pow_succ]);have hnx:=lowK_next l i b;rw [← HV0.out,← hv,← ht] at hnx;have HDBL:=zY (show times P (256^i*2^(b+1))=plus (times P (256^i*2^b)) (times P (256^i*2^b)) by rw [← times_add,Nat.pow_succ]; congr 1; rw [← Nat.mul_assoc]; omega);have HB8:=zY hb8
     by_cases ht1:t=1
     ·subst ht1;have hbt:((v:Int)%2 == 1)=true:=by rw [beq_iff_eq]; omega
      rw [Nat.one_mul] at hnx;have HNXT:=zY (show times P (lowK l i (b+1))=plus (times P (lowK l i b)) (times P (256^i*2^b)) by rw [hnx,times_add]);obtain ⟨x1,y1,z1,A1,a1,B1,b1,C1,c1,j1,j2,j3,j4,j5,j6,j7,j8,j9,j10,j11⟩:=hst.out.ex;obtain ⟨x2,y2,z2,A2,a2,B2,b2,C2,c2,k1,k2,k3,k4,k5,k6,k7,k8,k9,k10,k11⟩:=hst.own.ex;have HJ:=zY j1;have HK:=zY k1;have HCALL:=zY (fadd_fr j5 k5 j2 j3 j4 k2 k3 k4 j9 j10 j11 k9 k10 k11 hst.d (a1:=a1) (b1:=b1) (c1:=c1) (a2:=a2) (b2:=b2) (c2:=c2) (cD:=cD));have HST:=zY hst;clear j1 j2 j3 j4 j5 j6 j7 j8 j9 j10 j11 k1 k2 k3 k4 k5 k6 k7 k8 k9 k10 k11 hst hnx hv ht hv2 hb8 hb hvb
      go_wp2_with (first
       | (refine qab (x:=.tmp 7) HJ.out rfl rfl rfl hft rfl qbz ?_)
       | (refine qab (x:=.tmp 8) HK.out rfl rfl rfl hft rfl qbz ?_))
      refine qaa HCALL.out ?_;rintro e wa ⟨x3,y3,z3,A3,a3,B3,b3,C3,c3,rfl,m2,m3,m4,m5,m6,m7,m8,m9,m10,m11,mb⟩;have HM:=zY (And.intro m2 (And.intro m3 (And.intro m4 (And.intro m5 (And.intro m6 (And.intro m7 (And.intro m8 (And.intro m9 (And.intro m10 m11)))))))));have HS1:=zY (HST.out.next mb);have HJ1:=zY (HJ.out.below mb HJ.out.lt);clear m2 m3 m4 m5 m6 m7 m8 m9 m10 m11 mb HST HJ HK HCALL hbt;go_wp2_with (refine qaf (x:=.tmp 7) (cells:=triV (.slice A3 32 a3) (.slice B3 32 b3) (.slice C3 32 c3)) HJ1.out rfl rfl rfl rfl qbz rfl (by simp [triV,Value.oneCell']) ?_; intro w5 hb5 hw5; have hs9:=HS1.out.putO HJ1.out hw5 hb5 HM.out; rw [← HNXT.out] at hs9; obtain ⟨x2,y2,z2,A2,a2,B2,b2,C2,c2,k1,k2,k3,k4,k5,k6,k7,k8,k9,k10,k11⟩:=hs9.own.ex; have HK:=zY k1; have HCALL:=zY (fadd_fr k5 k5 k2 k3 k4 k2 k3 k4 k9 k10 k11 k9 k10 k11 hs9.d (a1:=a2) (b1:=b2) (c1:=c2) (a2:=a2) (b2:=b2) (c2:=c2) (cD:=cD)); have HS:=zY hs9; clear hs9 hb5 hw5 k1 k2 k3 k4 k5 k6 k7 k8 k9 k10 k11; go_wp2_with (refine qab (x:=.tmp 8) HK.out rfl rfl rfl hft rfl qbz ?_));refine qaa HCALL.out ?_;rintro e wb ⟨x5,y5,z5,A5,a5,B5,b5,C5,c5,rfl,m2,m3,m4,m5,m6,m7,m8,m9,m10,m11,mb⟩;have HM:=zY (And.intro m2 (And.intro m3 (And.intro m4 (And.intro m5 (And.intro m6 (And.intro m7 (And.intro m8 (And.intro m9 (And.intro m10 m11)))))))));have HS2:=zY (HS.out.next mb);have HK2:=zY (HK.out.below mb HK.out.lt);clear m2 m3 m4 m5 m6 m7 m8 m9 m10 m11 mb HS HK HCALL;go_wp2_with (refine qaf (x:=.tmp 8) (cells:=triV (.slice A5 32 a5) (.slice B5 32 b5) (.slice C5 32 c5)) HK2.out rfl rfl rfl rfl qbz rfl (by simp [triV,Value.oneCell']) ?_; intro wc hbc hwc; have HBC:=zY hbc; have HWC:=zY hwc; clear hbc hwc);refine ⟨⟨b+1,v2,HB8.out,by go_num,rfl,HV2.out,?_⟩,by have:=HB8.out; simp [intOf]; omega⟩;rw [HDBL.out];exact HS2.out.putW HK2.out HWC.out HBC.out HM.out
     ·obtain rfl:t=0:=by omega
      have hbt:((v:Int)%2 == 1)=false:=by rw [beq_eq_false_iff_ne]; omega
      rw [Nat.zero_mul] at hnx;replace hnx:lowK l i (b+1)=lowK l i b:=hnx;obtain ⟨x2,y2,z2,A2,a2,B2,b2,C2,c2,k1,k2,k3,k4,k5,k6,k7,k8,k9,k10,k11⟩:=hst.own.ex;have HK:=zY k1;have HCALL:=zY (fadd_fr k5 k5 k2 k3 k4 k2 k3 k4 k9 k10 k11 k9 k10 k11 hst.d (a1:=a2) (b1:=b2) (c1:=c2) (a2:=a2) (b2:=b2) (c2:=c2) (cD:=cD));rw [← hnx] at hst;have HS:=zY hst;clear k1 k2 k3 k4 k5 k6 k7 k8 k9 k10 k11 hst hnx hv ht hv2 hb8 hb hvb ht1;go_wp2_with (refine qab (x:=.tmp 8) HK.out rfl rfl rfl hft rfl qbz ?_);refine qaa HCALL.out ?_;rintro e wb ⟨x5,y5,z5,A5,a5,B5,b5,C5,c5,rfl,m2,m3,m4,m5,m6,m7,m8,m9,m10,m11,mb⟩;have HM:=zY (And.intro m2 (And.intro m3 (And.intro m4 (And.intro m5 (And.intro m6 (And.intro m7 (And.intro m8 (And.intro m9 (And.intro m10 m11)))))))));have HS2:=zY (HS.out.next mb);have HK2:=zY (HK.out.below mb HK.out.lt);clear m2 m3 m4 m5 m6 m7 m8 m9 m10 m11 mb HS HK HCALL;go_wp2_with (refine qaf (x:=.tmp 8) (cells:=triV (.slice A5 32 a5) (.slice B5 32 b5) (.slice C5 32 c5)) HK2.out rfl rfl rfl rfl qbz rfl (by simp [triV,Value.oneCell']) ?_; intro wc hbc hwc; have HBC:=zY hbc; have HWC:=zY hwc; clear hbc hwc);refine ⟨⟨b+1,v2,HB8.out,by go_num,rfl,HV2.out,?_⟩,by have:=HB8.out; simp [intOf]; omega⟩;rw [HDBL.out];exact HS2.out.putW HK2.out HWC.out HBC.out HM.out
    ·obtain rfl:b=8:=by omega
     rw [lowK_end HD.out i,← qef,show 256^i*2^8=256^(i+1)*2^0 by rw [show (2:Nat)^8=256 from rfl,show (2:Nat)^0=1 from rfl,Nat.mul_one,Nat.pow_succ]] at hst;have HST:=zY hst;clear hst hv hb hb8;go_wp2_with fail;exact ⟨⟨i+1,HI.out,by go_num,HST.out⟩,by have:=HI.out; simp [intOf]; omega⟩
  ·obtain rfl:i=32:=by omega
   rw [qef,List.take_of_length_le (Nat.le_of_eq HL.out)] at hst;obtain ⟨x1,y1,z1,A1',a1,B1,b1,C1,c1',j1,j2,j3,j4,j5,j6,j7,j8,j9,j10,j11⟩:=hst.out.ex;obtain ⟨iv,hiv⟩:=eX (z1^(PN - 2)%PN);have hvl:iv<PN:=by rw [hiv]; exact qav _
   obtain ⟨e1,e2⟩:=j5.pair j4 hiv;have cI:=ninv j4 j11 (c:=c1');rw [← hiv] at cI;have HCI:=zY cI;have HJ:=zY j1;have hd0:=(j1.cell 2).trans (show (triV (.slice A1' 32 a1) (.slice B1 32 b1) (.slice C1 32 c1'))[2]?=some (.slice C1 32 c1') from rfl);go_wp2_with fail;refine qaa HCI.out ?_;rintro e wi ⟨AI,cI2,rfl,hcI,hrI,hbI⟩
   have hst2:FQ w g4 go (triV (.slice A1' 32 a1) (.slice B1 32 b1) (.slice C1 32 c1')) A1' B1 AI x1 y1 iv wi :=
    ⟨hst.bel.trans (hbI.mono hst.bel.size),⟨none,0,0,none,0,0,hst.pt.below hbI hst.pt.lt⟩,j1.below hbI j1.lt,qae j9 hbI,qae j10 hbI,hrI,hst.l4,hst.n2⟩
   have HC1:=zY (show ∀ ww XA xc XB xd,Rd ww ww.heap.size XA (DN x1)→Rd ww ww.heap.size XB (DN iv)→Calls Tryz.prog 39 #[.slice XA 32 xc,.slice XB 32 xd] ww (NumPost (times P (leV l)).x.val ww) from fun ww XA xc XB xd xh xk=>by rw [← e1]; exact nmul j2 hvl xh xk);have HC2:=zY (show ∀ ww XA xc XB xd,Rd ww ww.heap.size XA (DN y1)→Rd ww ww.heap.size XB (DN iv)→Calls Tryz.prog 39 #[.slice XA 32 xc,.slice XB 32 xd] ww (NumPost (times P (leV l)).y.val ww) from fun ww XA xc XB xd xh xk=>by rw [← e2]; exact nmul j3 hvl xh xk);have HS2:=zY hst2;clear j1 j2 j3 j4 j5 j6 j7 j8 j9 j10 j11 hst hiv hvl e1 e2 cI HCI HJ hd0 hcI hrI hbI hst2;generalize (times P (leV l)).x.val=tx at *;generalize (times P (leV l)).y.val=ty at *;go_wp2_with fail;have HC0:=HS2.out.drew;clear HS2
   refine qar (fun u=>FQ w g4 go (triV (.slice A1' 32 a1) (.slice B1 32 b1) (.slice C1 32 c1')) A1' B1 AI x1 y1 iv u) (fun | false=>(fun _=>True) | true=>(fun _=>True)) (fun | false,_=>false | true,_=>false)
    [fun z _=>z 0=.pointer (some ⟨go,0,none⟩),
     fun z _=>z 1=.slice A1' 32 a1,
     fun z _=>z 2=.slice AI 32 cI2,
     fun z u=>(RdV 32 (DN tx)) (z 3) u,
     fun z _=>z 4=.pointer (some ⟨go,1,none⟩),
     fun z _=>z 5=.slice B1 32 b1,
     fun z _=>z 6=.slice AI 32 cI2,
     fun z u=>(RdV 32 (DN ty)) (z 7) u,
     fun z u=>∃ A c B d,z 8=.agg (pairV (.slice A 32 c) (.slice B 32 d))∧32≤c∧32≤d∧Rd u u.heap.size A (DN tx)∧Rd u u.heap.size B (DN ty),
     fun z u=>∃ A c B d,Blk u g4 32 (pairV (.slice A 32 c) (.slice B 32 d))∧32≤c∧32≤d∧Rd u u.heap.size A (DN tx)∧Rd u u.heap.size B (DN ty)]
    [Eq,Eq,Eq,fun u u'=>Below u.heap.size u u',Eq,Eq,Eq,fun u u'=>Below u.heap.size u u',Eq,fun u u'=>True]
    (fun i k=>(i == 9 && k == 3) || (i == 9 && k == 7) || (i == 9 && k == 8)) [(0,some 60),(1,some 61),(2,some 62),(3,some 63),(4,some 64),(5,some 65),(6,some 66),(7,some 67),(8,some 68),(9,none)] (by kernel_rfl) (by kernel_rfl) rfl (fun _=>rfl) ?_ ?_ ?_ ?_ ?_ ?_
   ·exact HC0
   ·intro m; cases m; exact trivial; exact trivial
   ·intro m; cases m
    ·refine ⟨?_,?_,?_,?_,?_,?_,?_,?_,?_,?_,trivial⟩ <;> first | exact .inr fun _ _ h h0=>h▸h0 | exact .inr fun _ _ _ h=>h
    ·refine ⟨?_,?_,?_,?_,?_,?_,?_,?_,?_,?_,trivial⟩ <;> first | exact .inr fun _ _ h h0=>h▸h0 | exact .inr fun _ _ _ h=>h
   ·refine ⟨⟨.inl rfl,?_,?_,?_,?_,?_,?_,?_,?_,?_,trivial⟩,⟨?_,.inl rfl,?_,?_,?_,?_,?_,?_,?_,?_,trivial⟩,⟨?_,?_,.inl rfl,?_,?_,?_,?_,?_,?_,?_,trivial⟩,⟨?_,?_,?_,.inl rfl,?_,?_,?_,?_,?_,?_,trivial⟩,⟨?_,?_,?_,?_,.inl rfl,?_,?_,?_,?_,?_,trivial⟩,⟨?_,?_,?_,?_,?_,.inl rfl,?_,?_,?_,?_,trivial⟩,⟨?_,?_,?_,?_,?_,?_,.inl rfl,?_,?_,?_,trivial⟩,⟨?_,?_,?_,.inr (.inr (.inr (fun _ _ _ _ h h0=>h0.next h))),?_,?_,?_,.inl rfl,?_,?_,trivial⟩,⟨?_,?_,?_,?_,?_,?_,?_,?_,.inl rfl,?_,trivial⟩,⟨?_,?_,?_,.inr (.inl rfl),?_,?_,?_,.inr (.inl rfl),.inr (.inl rfl),.inl rfl,trivial⟩,trivial⟩ <;> first | exact .inr (.inr (.inl rfl)) | exact .inr (.inr (.inr fun _ _ _ _ _ h=>h)) | exact .inr (.inr (.inr fun _ _ _ _ h h0=>by cases h; exact h0))
   ·refine ⟨?_,?_,?_,?_,?_,?_,?_,?_,?_,?_,trivial⟩
    ·refine qac [] (fun _=>rfl) rfl ?_;intro w1 vals hC1 hi0 hf E hE;clear hi0;clear hf;simp only [sP] at hE ⊢;go_wp2;exact .mk (hE _ _ rfl hC1 rfl)
    ·refine qac [(0,some 60)] (fun _=>rfl) rfl ?_;intro w1 vals hC1 hi0 hf E hE;clear hi0;have f0:vals 0=_:=hf 0 rfl
     try dsimp only at f0
     clear hf;have d0:=(hC1.o.cell 0).trans (show (triV (.slice A1' 32 a1) (.slice B1 32 b1) (.slice C1 32 c1'))[0]?=some (.slice A1' 32 a1) from rfl);simp only [sP,f0] at hE ⊢;clear f0;go_wp2;exact .mk (hE _ _ rfl hC1 rfl)
    ·refine qac [] (fun _=>rfl) rfl ?_;intro w1 vals hC1 hi0 hf E hE;clear hi0;clear hf;simp only [sP] at hE ⊢;go_wp2;exact .mk (hE _ _ rfl hC1 rfl)
    ·refine qac [(1,some 61),(2,some 62)] (fun _=>rfl) rfl ?_;intro w1 vals hC1 hi0 hf E hE;clear hi0;have f1:vals 1=_:=hf 1 rfl;have f2:vals 2=_:=hf 2 rfl
     try dsimp only at f1 f2
     clear hf;simp only [sP,f1,f2] at hE ⊢;clear f1 f2;go_wp2_with fail;refine qaa (HC1.out _ _ _ _ _ hC1.r1 hC1.r3) ?_;rintro e w2 ⟨A2,c2,rfl,hc2,hr2,hb2⟩;go_wp2_with fail;exact .mk (hE _ _ ⟨A2,c2,rfl,hc2,hr2⟩ (hC1.next hb2) hb2)
    ·refine qac [] (fun _=>rfl) rfl ?_;intro w1 vals hC1 hi0 hf E hE;clear hi0;clear hf;simp only [sP] at hE ⊢;go_wp2;exact .mk (hE _ _ rfl hC1 rfl)
    ·refine qac [(4,some 64)] (fun _=>rfl) rfl ?_;intro w1 vals hC1 hi0 hf E hE;clear hi0;have f4:vals 4=_:=hf 4 rfl
     try dsimp only at f4
     clear hf;have d0:=(hC1.o.cell 1).trans (show (triV (.slice A1' 32 a1) (.slice B1 32 b1) (.slice C1 32 c1'))[1]?=some (.slice B1 32 b1) from rfl);simp only [sP,f4] at hE ⊢;clear f4;go_wp2;exact .mk (hE _ _ rfl hC1 rfl)
    ·refine qac [] (fun _=>rfl) rfl ?_;intro w1 vals hC1 hi0 hf E hE;clear hi0;clear hf;simp only [sP] at hE ⊢;go_wp2;exact .mk (hE _ _ rfl hC1 rfl)
    ·refine qac [(5,some 65),(6,some 66),(3,some 63)] (fun _=>rfl) rfl ?_;intro w1 vals hC1 hi0 hf E hE;clear hi0;have f3:(RdV 32 (DN tx)) (vals 3) w1:=hf 3 rfl;have f5:vals 5=_:=hf 5 rfl;have f6:vals 6=_:=hf 6 rfl
     try dsimp only at f3 f5 f6
     clear hf;simp only [sP,f5,f6] at hE ⊢;clear f5 f6;go_wp2_with fail;refine qaa (HC2.out _ _ _ _ _ hC1.r2 hC1.r3) ?_;rintro e w2 ⟨A2,c2,rfl,hc2,hr2,hb2⟩;go_wp2_with fail;exact .mk (hE _ _ ⟨A2,c2,rfl,hc2,hr2⟩ (hC1.next hb2) hb2)
    ·refine qac [(3,some 63),(7,some 67)] (fun _=>rfl) rfl ?_;intro w1 vals hC1 hi0 hf E hE;clear hi0;have f3:(RdV 32 (DN tx)) (vals 3) w1:=hf 3 rfl;have f7:(RdV 32 (DN ty)) (vals 7) w1:=hf 7 rfl
     try dsimp only at f3 f7
     clear hf;obtain ⟨A2,c2,hx2,hc2,hr2⟩:=f3;obtain ⟨A3,c3,hx3,hc3,hr3⟩:=f7;simp only [sP,hx2,hx3] at hE ⊢;clear hx2 hx3;go_wp2;exact .mk (hE _ _ ⟨A2,c2,A3,c3,rfl,hc2,hc3,hr2,hr3⟩ hC1 rfl)
    ·refine qac [(8,some 68),(7,some 67),(0,some 60),(1,some 61),(2,some 62),(3,some 63),(4,some 64),(5,some 65),(6,some 66),(7,some 67),(8,some 68)] (fun _=>rfl) rfl ?_;intro w1 vals hC1 hi0 hf E hE;clear hi0;have f0:vals 0=_:=hf 0 rfl;have f1:vals 1=_:=hf 1 rfl;have f2:vals 2=_:=hf 2 rfl;have f3:(RdV 32 (DN tx)) (vals 3) w1:=hf 3 rfl;have f4:vals 4=_:=hf 4 rfl;have f5:vals 5=_:=hf 5 rfl;have f6:vals 6=_:=hf 6 rfl;have f7:(RdV 32 (DN ty)) (vals 7) w1:=hf 7 rfl;have f8:(fun z u=>∃ A c B d,z 8=.agg (pairV (.slice A 32 c) (.slice B 32 d))∧32≤c∧32≤d∧Rd u u.heap.size A (DN tx)∧Rd u u.heap.size B (DN ty)) vals w1:=hf 8 rfl
     try dsimp only at f0 f1 f2 f3 f4 f5 f6 f7 f8
     clear hf;obtain ⟨A2,c2,A3,c3,hx2,hc2,hc3,hr2,hr3⟩:=f8;obtain ⟨A4,a4,b4,C4,c4,d4,hpt4⟩:=hC1.pt;simp only [sP,f0,f1,f2,f4,f5,f6,hx2] at hE ⊢;clear f0 f1 f2 f4 f5 f6;clear hx2;refine qaf (cells:=pairV (.slice A2 32 c2) (.slice A3 32 c3)) hpt4 rfl rfl rfl rfl qat rfl (by simp [pairV,Value.oneCell']) ?_;intro w6 hb6 hw6;go_wp2_with fail;exact .mk (hE undef _ ⟨A2,c2,A3,c3,hb6,hc2,hc3,qaD (hr2.wrote hpt4 hw6 qbK) hw6.size,qaD (hr3.wrote hpt4 hw6 qbK) hw6.size⟩ (hC1.put hpt4 hw6 hb6) trivial)
   intro w1 vals hC1 hf;have f0:vals 0=_:=hf 0 (by decide) rfl;have f1:vals 1=_:=hf 1 (by decide) rfl;have f2:vals 2=_:=hf 2 (by decide) rfl;have f4:vals 4=_:=hf 4 (by decide) rfl;have f5:vals 5=_:=hf 5 (by decide) rfl;have f6:vals 6=_:=hf 6 (by decide) rfl;have f9:(fun z u=>∃ A c B d,Blk u g4 32 (pairV (.slice A 32 c) (.slice B 32 d))∧32≤c∧32≤d∧Rd u u.heap.size A (DN tx)∧Rd u u.heap.size B (DN ty)) vals w1:=hf 9 (by decide) rfl
   try dsimp only at f0 f1 f2 f4 f5 f6 f9
   clear hf;simp only [sP,f0,f1,f2,f4,f5,f6];clear f0 f1 f2 f4 f5 f6;generalize vals 3=x3 at *;generalize vals 7=x7 at *;generalize vals 8=x8 at *;obtain ⟨A2,c2,A3,c3,hb6,hc2,hc3,hr2,hr3⟩:=f9;go_wp2_with fail;refine bodyPost_ret (qau (P:=Tryz.prog) rfl rfl hb6 hpt rfl qat) rfl ?_;exact ⟨_,_,_,_,rfl,hc2,hc3,hr2,hr3,hC1.bel⟩
end Go.Proofs.YtdgheahbafnboaaGreatDoor
