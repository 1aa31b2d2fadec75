/-
  PROVED: 'brevetlaw06.SignSigns': for every seed and message the signature is the document's. The listed variable (the words of the steps) is tied to the program's text by the card.
-/
import Derived.Test.YtdgheahbafnboaaDoorCards
import Derived.Test.YtdgheahbafnboaaDoorTie
import Derived.SevenTiedAt
import Derived.ProofKit
import Derived.OpenShut
import Derived.Test.YtdgheahbafnboaaDoorJ2
import Derived.Test.YtdgheahbafnboaaDoorJ4
import Derived.Test.YtdgheahbafnboaaDoorJ3
import Derived.Test.YtdgheahbafnboaaDoorJ1
import Derived.Test.YtdgheahbafnboaaDoorJ7
/-
  Walk: the reference's Minus, whose result may be written to.
-/
namespace Go.Proofs.YtdgheahbafnboaaDoor
set_option linter.unusedSimpArgs false
set_option linter.unusedVariables false
open Go.RowKit
def BDigPost (n:Nat) (l:List Nat) (w:World) (e:Ending) (w':World):Prop:=∃ o,e=.returned (.slice (some ⟨o,0,none⟩) n n)∧D1 w o l w'
set_option maxRecDepth 100000 in
set_option maxHeartbeats 2000000 in
theorem minusb_any (a b:List Nat) (ha:Dg a) (hb:Dg b) (hle:leV b≤leV a) (A B:Option Addr) (c d:Nat) (w:World) (hra:Rd w w.heap.size A (dV a)) (hrb:Rd w w.heap.size B (dV b)) (hla:a.length≤1000000) (hlb:b.length≤1000000) :
  Calls Tryd.prog 82 #[.slice A a.length c,.slice B b.length d] w (BDigPost a.length (digN a.length (leV a - leV b)) w):=by
 obtain ⟨n,hn⟩:∃ n,n=a.length:=⟨_,rfl⟩;obtain ⟨m,hm⟩:∃ m,m=b.length:=⟨_,rfl⟩;rw [← hn,← hm];have hn63:(n:Int)≤1000000:=by omega
 have hm63:(m:Int)≤1000000:=by omega
 have hmk:=make_ints n (by omega);have hst0:D1 w w.heap.size (partL [] n) _:=d1_new (partL [] n) (Below.refl w.heap.size w);have HRA:=zY hra;have HRB:=zY hrb;have HA:=zY ha;have HB:=zY hb;have HN:=zY hn;have HM:=zY hm;have HLE:=zY hle;have HST0:=zY hst0;clear hra hrb ha hb hn hm hla hlb hle hst0;go_enter Tryd.func82,Tryd.ntmps82;go_wp2_with fail;generalize hg:w.heap.size=g at HST0 HRA HRB ⊢;have HG:=zY hg;clear hg hmk
 go_loopw [6,7] (fun s i wr=>∃ (k bor:Nat) (out:List Nat),k≤n∧i=.int .i64 k∧bor≤1∧s=.int .i64 bor∧out.length=k∧Dg out∧leV out+leV (b.take k)=leV (a.take k)+256^k*bor∧D1 w g (partL out n) wr) (fun _ i _=>n - (intOf i).toNat)
 case atStart=>exact ⟨0,0,[],by omega,rfl,by omega,rfl,rfl,by unfold Dg; simp,by simp [leV],HST0.out⟩
 case round =>
  clear HST0;obtain ⟨k,s,out,hk,rfl,hs,rfl,hol,hod,heq,hst⟩:=hrel
  by_cases hlt:k<n
  ·have hlt':(k:Int)<(n:Int):=by omega
   have hel:Below g w wr:=by have h:=hst.bel; rw [HG.out] at h; exact h
   have hgs:g≤wr.heap.size:=by rw [← HG.out]; exact hst.bel.size
   obtain ⟨ad,rfl,hca⟩:=dig_cell ((HRA.out.below hel).mono hgs) (k:=k) (by rw [← HN.out]; exact hlt);obtain ⟨x,hx⟩:∃ x,x=a.getD k 0:=⟨_,rfl⟩;obtain ⟨y,hy⟩:∃ y,y=b.getD k 0:=⟨_,rfl⟩;have hxl:x<256:=by rw [hx]; exact dg_getD HA.out k
   have hyl:y<256:=by rw [hy]; exact dg_getD HB.out k
   rw [← hx] at hca;have hstep:=minus_step (a:=a) HB.out hs hol heq;rw [← hx,← hy] at hstep;have hdl:=subD_lt hxl hyl hs;have hset:=partL_set out n k (subD x y s) hol hlt;have hod2:=dg_snoc hod hdl;have hol2:(out++[subD x y s]).length=k+1:=by rw [List.length_append,hol]; rfl
   have HSTEP:=zY hstep;have HSET:=zY hset;have HOD:=zY hod2;have HOL:=zY hol2;have HST:=zY hst;have HSZ:=zY (partL_length out n (by omega));have hx':(x:Int)<256:=by omega
   have hy':(y:Int)<256:=by omega
   have hs':(s:Int)≤1:=by omega
   have hKM:(k<m→∃ bd,B=some bd∧wr.cell? (bd.add k)=some (.int .i64 (y:Int)))∧(¬ k<m→y=0):=⟨fun h=>by
    obtain ⟨bd,h1,h2⟩:=dig_cell ((HRB.out.below hel).mono hgs) (k:=k) (by rw [← HM.out]; exact h);rw [← hy] at h2;exact ⟨bd,h1,h2⟩,fun h=>by rw [hy]; exact dig_none (by rw [← HM.out]; exact h)⟩
   obtain ⟨hk1,hk2⟩:=hKM;clear hst hstep hset hod hod2 hol hol2 heq hx hy hxl hyl hs hdl hel hgs;obtain ⟨dd,hDD⟩:∃ dd,subD x y s=dd:=⟨_,rfl⟩
   by_cases hkm:k<m <;> by_cases hlo:x<s+y
   ·obtain ⟨bd,rfl,hcb⟩:=hk1 hkm;have hkm':(k:Int)<(m:Int):=by omega
    clear hk1 hk2;have hv0:(x:Int) - (s:Int) - (y:Int)<0:=by omega
    have hdd:subD x y s=dd:=hDD;have hv:(x:Int) - (s:Int) - (y:Int)+256=(dd:Int):=by rw [← hdd]; unfold subD; rw [if_pos hlo]; omega
    have hc1:subC x y s=1:=by unfold subC; rw [if_pos hlo]
    have hdl:(dd:Int)<256:=by omega
    rw [hdd] at HSTEP HSET HOD HOL;rw [hc1] at HSTEP;have HD:=zY hdd;clear hdd hDD hc1 hlo hkm;go_wp2_with (refine wpList_put_cell (x:=.tmp 41) (i:=k) (v:=.int .i64 (dd:Int)) HST.out.out rfl rfl rfl rfl int_size (by rw [dig_len,HSZ.out]; exact hlt) rfl ?_; intro w5 hb5 hw5; have hst5:=HST.out.put (l':=partL (out++[dd]) n) hw5 (by rw [dV_set,HSET.out] at hb5; exact hb5); have HST5:=zY hst5; clear hst5 hb5 hw5);exact ⟨⟨k+1,1,out++[dd],by omega,by go_num,by omega,rfl,HOL.out,HOD.out,HSTEP.out,HST5.out⟩,by simp [intOf]; omega⟩
   ·obtain ⟨bd,rfl,hcb⟩:=hk1 hkm;have hkm':(k:Int)<(m:Int):=by omega
    clear hk1 hk2;have hv0:¬ (x:Int) - (s:Int) - (y:Int)<0:=by omega
    have hdd:subD x y s=dd:=hDD;have hv:(x:Int) - (s:Int) - (y:Int)=(dd:Int):=by rw [← hdd]; unfold subD; rw [if_neg hlo]; omega
    have hc1:subC x y s=0:=by unfold subC; rw [if_neg hlo]
    have hdl:(dd:Int)<256:=by omega
    rw [hdd] at HSTEP HSET HOD HOL;rw [hc1] at HSTEP;have HD:=zY hdd;clear hdd hDD hc1 hlo hkm;go_wp2_with (refine wpList_put_cell (x:=.tmp 41) (i:=k) (v:=.int .i64 (dd:Int)) HST.out.out rfl rfl rfl rfl int_size (by rw [dig_len,HSZ.out]; exact hlt) rfl ?_; intro w5 hb5 hw5; have hst5:=HST.out.put (l':=partL (out++[dd]) n) hw5 (by rw [dV_set,HSET.out] at hb5; exact hb5); have HST5:=zY hst5; clear hst5 hb5 hw5);exact ⟨⟨k+1,0,out++[dd],by omega,by go_num,by omega,rfl,HOL.out,HOD.out,HSTEP.out,HST5.out⟩,by simp [intOf]; omega⟩
   ·obtain rfl:=hk2 hkm;have hkm':¬ (k:Int)<(m:Int):=by omega
    clear hk1 hk2;have hv0:(x:Int) - (s:Int)<0:=by omega
    have hdd:subD x 0 s=dd:=hDD;have hv:(x:Int) - (s:Int)+256=(dd:Int):=by rw [← hdd]; unfold subD; rw [if_pos hlo]; omega
    have hc1:subC x 0 s=1:=by unfold subC; rw [if_pos hlo]
    have hdl:(dd:Int)<256:=by omega
    rw [hdd] at HSTEP HSET HOD HOL;rw [hc1] at HSTEP;have HD:=zY hdd;clear hdd hDD hc1 hlo hkm;go_wp2_with (refine wpList_put_cell (x:=.tmp 41) (i:=k) (v:=.int .i64 (dd:Int)) HST.out.out rfl rfl rfl rfl int_size (by rw [dig_len,HSZ.out]; exact hlt) rfl ?_; intro w5 hb5 hw5; have hst5:=HST.out.put (l':=partL (out++[dd]) n) hw5 (by rw [dV_set,HSET.out] at hb5; exact hb5); have HST5:=zY hst5; clear hst5 hb5 hw5);exact ⟨⟨k+1,1,out++[dd],by omega,by go_num,by omega,rfl,HOL.out,HOD.out,HSTEP.out,HST5.out⟩,by simp [intOf]; omega⟩
   ·obtain rfl:=hk2 hkm;have hkm':¬ (k:Int)<(m:Int):=by omega
    clear hk1 hk2;have hv0:¬ (x:Int) - (s:Int)<0:=by omega
    have hdd:subD x 0 s=dd:=hDD;have hv:(x:Int) - (s:Int)=(dd:Int):=by rw [← hdd]; unfold subD; rw [if_neg hlo]; omega
    have hc1:subC x 0 s=0:=by unfold subC; rw [if_neg hlo]
    have hdl:(dd:Int)<256:=by omega
    rw [hdd] at HSTEP HSET HOD HOL;rw [hc1] at HSTEP;have HD:=zY hdd;clear hdd hDD hc1 hlo hkm;go_wp2_with (refine wpList_put_cell (x:=.tmp 41) (i:=k) (v:=.int .i64 (dd:Int)) HST.out.out rfl rfl rfl rfl int_size (by rw [dig_len,HSZ.out]; exact hlt) rfl ?_; intro w5 hb5 hw5; have hst5:=HST.out.put (l':=partL (out++[dd]) n) hw5 (by rw [dV_set,HSET.out] at hb5; exact hb5); have HST5:=zY hst5; clear hst5 hb5 hw5);exact ⟨⟨k+1,0,out++[dd],by omega,by go_num,by omega,rfl,HOL.out,HOD.out,HSTEP.out,HST5.out⟩,by simp [intOf]; omega⟩
  ·obtain rfl:k=n:=by omega
   have hfin:=minus_end HA.out HB.out hod hol HN.out.symm HLE.out heq;rw [partL_full out _ hol] at hst;have HST:=zY hst;have HFIN:=zY hfin;have HOL:=zY hol;clear hst hfin hol hod heq hs hk hlt;go_wp2_with fail;go_ret;rw [← HFIN.out];exact ⟨_,rfl,HST.out⟩
end Go.Proofs.YtdgheahbafnboaaDoor
/-
  Walk: the reference's Mod.
-/
namespace Go.Proofs.YtdgheahbafnboaaDoor
set_option linter.unusedSimpArgs false
set_option linter.unusedVariables false
open Go.RowKit
structure Dbl (l:List Nat) (bit:Nat) (j cy:Nat) (o:List Nat):Prop where
 len:o.length=33
 dg:Dg o
 out:∀ p,j≤p→o.getD p 0=l.getD p 0
 cy1:cy≤1
 val:leV (o.take j)+256^j*cy=2*leV (l.take j)+bit
theorem Dbl.step {l:List Nat} {bit j cy:Nat} {o:List Nat} (h:Dbl l bit j cy o) (hl:Dg l) (hj:j<33) {v:Nat} (hv:v=2*l.getD j 0+cy):Dbl l bit (j+1) (v/256) (o.set j (v%256)):=by
 have hb:=dg_getD hl j;have hc:=h.cy1;refine ⟨by rw [List.length_set]; exact h.len,dg_set h.dg j _ (Nat.mod_lt _ (by decide)),fun p hp=>?_,by omega,?_⟩
 ·rw [List.getD_eq_getElem?_getD,List.getElem?_set_ne (by omega),← List.getD_eq_getElem?_getD];exact h.out p (by omega)
 ·have e1:(o.set j (v%256)).take j=o.take j:=by rw [List.take_set,List.set_eq_of_length_le (by rw [List.length_take]; omega)]
  have e2:(o.set j (v%256)).getD j 0=v%256:=by rw [List.getD_eq_getElem?_getD,List.getElem?_set_self (by rw [h.len]; exact hj)]; rfl
  have hval:=h.val;rw [leV_take_step,leV_take_step,e1,e2,Nat.pow_succ,Nat.mul_assoc];generalize 256^j=p at *;have hd:p*(v%256)+p*(256*(v/256))=p*v:=by rw [← Nat.mul_add]; congr 1; omega
  have hm:p*v=2*(p*l.getD j 0)+p*cy:=by rw [hv,Nat.mul_add,Nat.mul_left_comm]
  omega
theorem Dbl.fin {l:List Nat} {bit cy:Nat} {o:List Nat} (h:Dbl l bit 33 cy o) (hl:l.length=33) (hv:2*leV l+bit<256^33):leV o=2*leV l+bit:=by
 have hval:=h.val;rw [List.take_of_length_le (Nat.le_of_eq h.len),List.take_of_length_le (Nat.le_of_eq hl)] at hval;have hc:=h.cy1;generalize 256^33=p at *
 by_cases h0:cy=0
 ·subst h0; omega
 ·obtain rfl:cy=1:=by omega
  omega
theorem mod_dbl {V M bit:Nat}:(2*(V%M)+bit)%M=(2*V+bit)%M:=by
 rw [Nat.add_mod,Nat.mul_mod,Nat.mod_mod,← Nat.mul_mod,← Nat.add_mod]
theorem bit_step (x k:Nat) (hk:k<8):x/2^(8 - (k+1))=2*(x/2^(8 - k))+x/2^(7 - k)%2:=by
 have e:8 - k=(7 - k)+1:=by omega
 rw [show 8 - (k+1)=7 - k by omega,e,Nat.pow_succ,← Nat.div_div_eq_div_mul];omega
def inV (a:List Nat) (i k:Nat):Nat:=leV (a.drop (i+1))*2^k+a.getD i 0/2^(8 - k)
theorem inV_zero (a:List Nat) (i:Nat) (h:a.getD i 0<256):inV a i 0=leV (a.drop (i+1)):=by
 rw [inV,Nat.div_eq_of_lt (show a.getD i 0<2^(8 - 0) from h)]; simp
theorem inV_end (a:List Nat) (i:Nat) (h:i<a.length):inV a i 8=leV (a.drop i):=by
 rw [List.drop_eq_getElem_cons h,inV,List.getD_eq_getElem?_getD,List.getElem?_eq_getElem h];simp [leV];omega
theorem inV_step (a:List Nat) (i k:Nat) (hk:k<8):inV a i (k+1)=2*inV a i k+a.getD i 0/2^(7 - k)%2:=by
 rw [inV,inV,bit_step _ k hk,Nat.pow_succ,Nat.mul_add];generalize leV (a.drop (i+1))=L;generalize 2^k=p;rw [← Nat.mul_assoc L p 2,Nat.mul_comm (L*p) 2];omega
theorem sub_modM {v M:Nat} (h1:M≤v) (h2:v<2*M):v - M=v%M:=by
 rw [Nat.mod_eq_sub_mod h1,Nat.mod_eq_of_lt (by omega)]
theorem pow2_cell (k:Nat) (h:k<7):2^(7 - k)/2=2^(7 - (k+1)):=by
 rw [show 7 - k=(7 - (k+1))+1 by omega,Nat.pow_succ,Nat.mul_div_cancel _ (by decide)]
set_option maxRecDepth 100000 in
set_option maxHeartbeats 4000000 in
theorem mod_any (a m:List Nat) (ha:Dg a) (hm:Dg m) (lm:m.length=32) (hm0:0<leV m) (la:a.length≤1000) (A B:Option Addr) (ca cb:Nat) (w:World) (ra:Rd w w.heap.size A (dV a)) (rb:Rd w w.heap.size B (dV m)) :
  Calls Tryd.prog 59 #[.slice A a.length ca,.slice B 32 cb] w (DigPost (digN 32 (leV a%leV m)) w):=by
 obtain ⟨n,hn⟩:∃ n,n=a.length:=⟨_,rfl⟩;obtain ⟨M,hM⟩:∃ M,M=leV m:=⟨_,rfl⟩;have hMl:M<256^32:=by rw [hM,← lm]; exact leV_lt m hm
 rw [← hn,← hM];have hn63:(n:Int)≤1000:=by omega
 have hmk:∀ u:World,(Instr.makeSlice 48 (.int .i64 33) (.int .i64 33)).run Tryd.prog u=.ok (.slice (some ⟨u.heap.size,0,none⟩) 33 33) (u.alloc (.cells (dV (partL [] 33)).toArray 3)):=fun u=>make_ints 33 (by decide) u;have hst0:D1 w w.heap.size (partL [] 33) _:=d1_new (partL [] 33) (Below.refl w.heap.size w);have RA:=zY ra;have RB:=zY rb;have HA:=zY ha;have HM:=zY hm;have LM:=zY lm;have HMV:=zY hM;have HML:=zY hMl;have HN:=zY hn;have HM0:=zY (show 0<M by rw [hM]; exact hm0);have HST0:=zY hst0;clear ra rb ha hm lm hM hMl hn hm0 hst0 la;go_enter Tryd.func59,Tryd.ntmps59;go_wp2_with fail;clear hmk;obtain ⟨g,hg⟩:∃ g,g=w.heap.size:=⟨_,rfl⟩;rw [← hg] at HST0 RA RB ⊢;generalize w.alloc (.cells (dV (partL [] 33)).toArray 3)=w9 at HST0 ⊢;have HG:=zY hg;clear hg
 go_loopw [5,6] (fun rv iv wr=>∃ (q o:Nat) (x:Int) (l:List Nat),q≤n∧rv=.slice (some ⟨o,0,none⟩) 33 33∧iv=.int .i64 x∧x=(q:Int) - 1∧l.length=33∧Dg l∧leV l=leV (a.drop q)%M∧D1 w o l wr) (fun _ iv _=>(intOf iv+1).toNat)
 case atStart=>exact ⟨n,g,(n:Int) - 1,partL [] 33,Nat.le_refl _,rfl,rfl,rfl,rfl,fun d h=>by rw [List.eq_of_mem_replicate (show d ∈ List.replicate 33 0 from h)]; decide,by rw [List.drop_eq_nil_of_le (by rw [HN.out]; exact Nat.le_refl _),partL_nil,leV_replicate]; exact (Nat.zero_mod _).symm,HST0.out⟩
 case round =>
  clear HST0;obtain ⟨q,o,x,l,hq,rfl,rfl,hx,hl,hd,hv,hst⟩:=hrel
  by_cases hq0:0<q
  ·obtain ⟨p,rfl⟩:∃ p,q=p+1:=⟨q - 1,by omega⟩;obtain rfl:x=(p:Int):=by omega
   have hpn:(p:Int)<(n:Int):=by omega
   have hpl:p<a.length:=by rw [← HN.out]; omega
   rw [← inV_zero a p (dg_getD HA.out p)] at hv;have HST:=zY hst;have HL:=zY hl;have HD:=zY hd;have HV:=zY hv;have HPL:=zY hpl;clear hst hl hd hv hpl hx hq hq0;go_wp2_with fail;obtain ⟨wo1,rfl⟩:∃ x:World,x=wr:=⟨_,rfl⟩
   go_loopw [5,7,8] (fun rv dv kv wr=>∃ (k o dd:Nat) (l:List Nat),k≤8∧rv=.slice (some ⟨o,0,none⟩) 33 33∧dv=.int .i64 (dd:Int)∧kv=.int .i64 (k:Int)∧(k<8→dd=2^(7 - k))∧l.length=33∧Dg l∧leV l=inV a p k%M∧D1 w o l wr) (fun _ _ kv _=>(8 - intOf kv).toNat)
   case atStart=>exact ⟨0,o,128,l,by omega,rfl,rfl,rfl,fun _=>rfl,HL.out,HD.out,HV.out,HST.out⟩
   case round =>
    clear HST HL HD HV;obtain ⟨k,o,dd,l,hk,rfl,rfl,rfl,hdd,hl,hd,hv,hst⟩:=hrel
    by_cases hk8:k<8
    ·have hk8':(k:Int)<8:=by omega
     have hdd':=hdd hk8;have hdp:0<dd:=by rw [hdd']; exact Nat.pow_pos (by decide)
     have hdm:dd≤128:=by rw [hdd']; exact Nat.pow_le_pow_right (by decide) (show 7 - k≤7 by omega)
     obtain ⟨x,hx⟩:∃ x,x=a.getD p 0:=⟨_,rfl⟩;have hxl:x<256:=by rw [hx]; exact dg_getD HA.out p
     obtain ⟨t,ht⟩:∃ t,x/dd=t:=⟨_,rfl⟩;have hti:(x:Int)/(dd:Int)=(t:Int):=by rw [← ht]; simp
     have htl:t<256:=by rw [← ht]; exact Nat.lt_of_le_of_lt (Nat.div_le_self _ _) hxl
     obtain ⟨bit,hbit⟩:∃ bit,t%2=bit:=⟨_,rfl⟩;have hbi:(t:Int)%2=(bit:Int):=by omega
     have hel:Below g w wr:=by have h:=hst.bel; rw [← HG.out] at h; exact h
     obtain ⟨ad,rfl,d1⟩:=dig_cell ((RA.out.below hel).mono (by have:=hel.size; rw [HG.out]; exact hst.bel.size)) (k:=p) HPL.out;rw [← hx] at d1
     by_cases hk7:k<7
     ·obtain ⟨d2,hd2⟩:∃ d2,dd/2=d2:=⟨_,rfl⟩;have hd2i:(dd:Int)/2=(d2:Int):=by omega
      have hd2e:d2=2^(7 - (k+1)):=by rw [← hd2,hdd',pow2_cell k hk7]
      have hd2p:0<d2:=by rw [hd2e]; exact Nat.pow_pos (by decide)
      have hdz:((d2:Int) == 0)=false:=by rw [beq_eq_false_iff_ne]; omega
      have HD2:=zY hd2e;clear hd2 hd2e;have hdn:(dd:Int)≠0:=by omega
      have hdm':(dd:Int)≤128:=by omega
      have hdp':(0:Int)<(dd:Int):=by omega
      have hxl':(x:Int)<256:=by omega
      have htl':(t:Int)<256:=by omega
      have HST:=zY hst;have HL:=zY hl;have HD:=zY hd;have HV:=zY hv;have HDB:=zY (show Dbl l bit 0 bit l from ⟨hl,hd,fun _ _=>rfl,by omega,by simp [leV]⟩);have HK8:=zY hk8;have HBIT:=zY (show a.getD p 0/2^(7 - k)%2=bit by rw [← hx,← hdd',ht,hbit]);have hbl:bit≤1:=by omega
      have HBL:=zY hbl;have HDE:=zY hdd';clear hst hl hd hv hdd hdd' hx ht hbit hel hk hk8 hxl htl;go_wp2_with fail;obtain ⟨wo2,rfl⟩:∃ x:World,x=wr:=⟨_,rfl⟩
      go_loopw [10,11] (fun cv jv wr=>∃ (j cy:Nat) (out:List Nat),j≤33∧cv=.int .i64 (cy:Int)∧jv=.int .i64 (j:Int)∧Dbl l bit j cy out∧D1 w o out wr) (fun _ jv _=>(33 - intOf jv).toNat)
      case atStart=>exact ⟨0,bit,l,by omega,by first | rfl | (rw [hbi]),rfl,HDB.out,HST.out⟩
      case round =>
       clear HST HDB;obtain ⟨j,cy,out,hj,rfl,rfl,hdb,hst⟩:=hrel
       by_cases hj33:j<33
       ·have hj33':(j:Int)<33:=by omega
        obtain ⟨y,hy⟩:∃ y,y=out.getD j 0:=⟨_,rfl⟩;have hyl:y<256:=by rw [hy]; exact dg_getD hdb.dg j
        have hyo:=hdb.out j (Nat.le_refl _);rw [← hy] at hyo;have hcy:=hdb.cy1;obtain ⟨v,hv⟩:∃ v,v=2*y+cy:=⟨_,rfl⟩;have hvi:2*(y:Int)+(cy:Int)=(v:Int):=by omega
        obtain ⟨e,he⟩:∃ e,v%256=e:=⟨_,rfl⟩;obtain ⟨c2,hc2⟩:∃ c2,v/256=c2:=⟨_,rfl⟩;have hei:(v:Int)%256=(e:Int):=by omega
        have hci:(v:Int)/256=(c2:Int):=by omega
        have hstep:=hdb.step HD.out hj33 (v:=v) (by rw [← hyo]; exact hv);rw [he,hc2] at hstep
        have d0:wr.cell? ⟨o,j,none⟩=some (.int .i64 (y:Int)):=by
         have h9:=hst.out.cell j;rw [dV_cell (by rw [hdb.len]; exact hj33),← hy] at h9;exact h9
        have q0:=hst.out.free j;have hyl':(y:Int)<256:=by omega
        have hcyl:(cy:Int)≤1:=by omega
        have hvl:(v:Int)<1024:=by omega
        have HST:=zY hst;have HSTEP:=zY hstep;have HJ:=zY hj33;clear hst hstep hdb hj33 hyo hyl hy hv he hc2 hcy hj;go_wp2_with fail;refine ⟨⟨j+1,c2,out.set j e,HJ.out,rfl,by go_num,HSTEP.out,?_⟩,by have:=HJ.out; simp [intOf]; omega⟩;have h:=blk_setCell_at (i:=j) HST.out.out (.int .i64 (e:Int));rw [dV_set] at h;exact HST.out.put (wrote_setCell_at _ _ _ _) h
       ·obtain rfl:j=33:=by omega
        have hlM:leV l<M:=by rw [HV.out]; exact Nat.mod_lt _ HM0.out
        have hML:=HML.out
        have hfin:=hdb.fin HL.out (by
         have:(256:Nat)^33=256^32*256:=Nat.pow_succ 256 32
         omega)
        have hnx:inV a p (k+1)%M=leV out%M:=by
         rw [inV_step a p k HK8.out,HBIT.out,hfin,HV.out,mod_dbl]
        have hlt2:leV out<2*M:=by rw [hfin]; omega
        have hbel:Below w.heap.size w wr:=hst.bel;have rdo:Rd wr wr.heap.size (some ⟨o,0,none⟩) (dV out):=Rd.of_blk hst.out hst.out.lt;have rdm:=((RB.out.below (by rw [HG.out]; exact hbel)).mono (by rw [HG.out]; exact hbel.size));have hless:=less_any out m hdb.dg HM.out (some ⟨o,0,none⟩) B 33 cb wr rdo rdm (by rw [hdb.len]; decide) (by rw [LM.out]; decide);rw [hdb.len,LM.out,← HMV.out] at hless
        by_cases hlo:leV out<M
        ·rw [decide_eq_true hlo] at hless;rw [Nat.mod_eq_of_lt hlo] at hnx;have HNX:=zY hnx;have HLESS:=zY hless;have HST:=zY hst;have HDB:=zY hdb;clear hnx hless hst hdb hfin hlM hML hlt2 hlo hbel rdo rdm;go_wp2_with fail;refine calls_then HLESS.out ?_;rintro e w2 ⟨he,hw⟩;subst he;subst hw;go_wp2_with fail;exact ⟨⟨k+1,o,d2,out,HK8.out,rfl,rfl,by go_num,fun _=>HD2.out,HDB.out.len,HDB.out.dg,HNX.out.symm,HST.out⟩,by have:=HK8.out; simp [intOf]; omega⟩
        ·rw [decide_eq_false hlo] at hless;rw [← sub_modM (Nat.le_of_not_lt hlo) hlt2] at hnx;have hsub:=minusb_any out m hdb.dg HM.out (by rw [← HMV.out]; exact Nat.le_of_not_lt hlo) (some ⟨o,0,none⟩) B 33 cb wr rdo rdm (by rw [hdb.len]; decide) (by rw [LM.out]; decide);rw [hdb.len,LM.out,← HMV.out] at hsub
         have hdv:leV (digN 33 (leV out - M))=leV out - M:=digN_val _ _ (by
          have:(256:Nat)^33=256^32*256:=Nat.pow_succ 256 32
          omega)
         have HNX:=zY hnx;have HDV:=zY hdv;have HLESS:=zY hless;have HSUB:=zY hsub;have HST:=zY hst;clear hnx hless hst hdb hfin hlM hML hlt2 hlo hbel rdo rdm hsub hdv;go_wp2_with fail;refine calls_then HLESS.out ?_;rintro e w2 ⟨he,hw⟩;subst he;subst hw;go_wp2_with fail;refine calls_then HSUB.out ?_;rintro e w3 ⟨o3,rfl,hd3⟩;have HD3:=zY hd3;clear hd3;go_wp2_with fail;exact ⟨⟨k+1,o3,d2,digN 33 (leV out - M),HK8.out,rfl,rfl,by go_num,fun _=>HD2.out,digN_length _ _,digN_dg _ _,by rw [HDV.out,HNX.out],⟨HST.out.bel.trans (HD3.out.bel.mono HST.out.bel.size),HD3.out.out,Nat.le_trans HST.out.bel.size HD3.out.lo⟩⟩,by have:=HK8.out; simp [intOf]; omega⟩
     ·have hk7e:k=7:=by omega
      have hd1:dd=1:=by rw [hdd',hk7e]
      have hd2i:(dd:Int)/2=0:=by omega
      have hdn:(dd:Int)≠0:=by omega
      have hdm':(dd:Int)≤128:=by omega
      have hdp':(0:Int)<(dd:Int):=by omega
      have HK7:=zY hk7e;clear hd1 hk7e hk7;have hxl':(x:Int)<256:=by omega
      have htl':(t:Int)<256:=by omega
      have HST:=zY hst;have HL:=zY hl;have HD:=zY hd;have HV:=zY hv;have HDB:=zY (show Dbl l bit 0 bit l from ⟨hl,hd,fun _ _=>rfl,by omega,by simp [leV]⟩);have HK8:=zY hk8;have HBIT:=zY (show a.getD p 0/2^(7 - k)%2=bit by rw [← hx,← hdd',ht,hbit]);have hbl:bit≤1:=by omega
      have HBL:=zY hbl;have HDE:=zY hdd';clear hst hl hd hv hdd hdd' hx ht hbit hel hk hk8 hxl htl;go_wp2_with fail;obtain ⟨wo2,rfl⟩:∃ x:World,x=wr:=⟨_,rfl⟩
      go_loopw [10,11] (fun cv jv wr=>∃ (j cy:Nat) (out:List Nat),j≤33∧cv=.int .i64 (cy:Int)∧jv=.int .i64 (j:Int)∧Dbl l bit j cy out∧D1 w o out wr) (fun _ jv _=>(33 - intOf jv).toNat)
      case atStart=>exact ⟨0,bit,l,by omega,by first | rfl | (rw [hbi]),rfl,HDB.out,HST.out⟩
      case round =>
       clear HST HDB;obtain ⟨j,cy,out,hj,rfl,rfl,hdb,hst⟩:=hrel
       by_cases hj33:j<33
       ·have hj33':(j:Int)<33:=by omega
        obtain ⟨y,hy⟩:∃ y,y=out.getD j 0:=⟨_,rfl⟩;have hyl:y<256:=by rw [hy]; exact dg_getD hdb.dg j
        have hyo:=hdb.out j (Nat.le_refl _);rw [← hy] at hyo;have hcy:=hdb.cy1;obtain ⟨v,hv⟩:∃ v,v=2*y+cy:=⟨_,rfl⟩;have hvi:2*(y:Int)+(cy:Int)=(v:Int):=by omega
        obtain ⟨e,he⟩:∃ e,v%256=e:=⟨_,rfl⟩;obtain ⟨c2,hc2⟩:∃ c2,v/256=c2:=⟨_,rfl⟩;have hei:(v:Int)%256=(e:Int):=by omega
        have hci:(v:Int)/256=(c2:Int):=by omega
        have hstep:=hdb.step HD.out hj33 (v:=v) (by rw [← hyo]; exact hv);rw [he,hc2] at hstep
        have d0:wr.cell? ⟨o,j,none⟩=some (.int .i64 (y:Int)):=by
         have h9:=hst.out.cell j;rw [dV_cell (by rw [hdb.len]; exact hj33),← hy] at h9;exact h9
        have q0:=hst.out.free j;have hyl':(y:Int)<256:=by omega
        have hcyl:(cy:Int)≤1:=by omega
        have hvl:(v:Int)<1024:=by omega
        have HST:=zY hst;have HSTEP:=zY hstep;have HJ:=zY hj33;clear hst hstep hdb hj33 hyo hyl hy hv he hc2 hcy hj;go_wp2_with fail;refine ⟨⟨j+1,c2,out.set j e,HJ.out,rfl,by go_num,HSTEP.out,?_⟩,by have:=HJ.out; simp [intOf]; omega⟩;have h:=blk_setCell_at (i:=j) HST.out.out (.int .i64 (e:Int));rw [dV_set] at h;exact HST.out.put (wrote_setCell_at _ _ _ _) h
       ·obtain rfl:j=33:=by omega
        have hlM:leV l<M:=by rw [HV.out]; exact Nat.mod_lt _ HM0.out
        have hML:=HML.out
        have hfin:=hdb.fin HL.out (by
         have:(256:Nat)^33=256^32*256:=Nat.pow_succ 256 32
         omega)
        have hnx:inV a p (k+1)%M=leV out%M:=by
         rw [inV_step a p k HK8.out,HBIT.out,hfin,HV.out,mod_dbl]
        have hlt2:leV out<2*M:=by rw [hfin]; omega
        have hbel:Below w.heap.size w wr:=hst.bel;have rdo:Rd wr wr.heap.size (some ⟨o,0,none⟩) (dV out):=Rd.of_blk hst.out hst.out.lt;have rdm:=((RB.out.below (by rw [HG.out]; exact hbel)).mono (by rw [HG.out]; exact hbel.size));have hless:=less_any out m hdb.dg HM.out (some ⟨o,0,none⟩) B 33 cb wr rdo rdm (by rw [hdb.len]; decide) (by rw [LM.out]; decide);rw [hdb.len,LM.out,← HMV.out] at hless
        by_cases hlo:leV out<M
        ·rw [decide_eq_true hlo] at hless;rw [Nat.mod_eq_of_lt hlo] at hnx;have HNX:=zY hnx;have HLESS:=zY hless;have HST:=zY hst;have HDB:=zY hdb;clear hnx hless hst hdb hfin hlM hML hlt2 hlo hbel rdo rdm;go_wp2_with fail;refine calls_then HLESS.out ?_;rintro e w2 ⟨he,hw⟩;subst he;subst hw;go_wp2_with fail;exact ⟨⟨k+1,o,1,out,HK8.out,rfl,rfl,by go_num,fun h=>by have:=HK7.out; omega,HDB.out.len,HDB.out.dg,HNX.out.symm,HST.out⟩,by have:=HK8.out; simp [intOf]; omega⟩
        ·rw [decide_eq_false hlo] at hless;rw [← sub_modM (Nat.le_of_not_lt hlo) hlt2] at hnx;have hsub:=minusb_any out m hdb.dg HM.out (by rw [← HMV.out]; exact Nat.le_of_not_lt hlo) (some ⟨o,0,none⟩) B 33 cb wr rdo rdm (by rw [hdb.len]; decide) (by rw [LM.out]; decide);rw [hdb.len,LM.out,← HMV.out] at hsub
         have hdv:leV (digN 33 (leV out - M))=leV out - M:=digN_val _ _ (by
          have:(256:Nat)^33=256^32*256:=Nat.pow_succ 256 32
          omega)
         have HNX:=zY hnx;have HDV:=zY hdv;have HLESS:=zY hless;have HSUB:=zY hsub;have HST:=zY hst;clear hnx hless hst hdb hfin hlM hML hlt2 hlo hbel rdo rdm hsub hdv;go_wp2_with fail;refine calls_then HLESS.out ?_;rintro e w2 ⟨he,hw⟩;subst he;subst hw;go_wp2_with fail;refine calls_then HSUB.out ?_;rintro e w3 ⟨o3,rfl,hd3⟩;have HD3:=zY hd3;clear hd3;go_wp2_with fail;exact ⟨⟨k+1,o3,1,digN 33 (leV out - M),HK8.out,rfl,rfl,by go_num,fun h=>by have:=HK7.out; omega,digN_length _ _,digN_dg _ _,by rw [HDV.out,HNX.out],⟨HST.out.bel.trans (HD3.out.bel.mono HST.out.bel.size),HD3.out.out,Nat.le_trans HST.out.bel.size HD3.out.lo⟩⟩,by have:=HK8.out; simp [intOf]; omega⟩
    ·obtain rfl:k=8:=by omega
     rw [inV_end a p HPL.out] at hv;have HST:=zY hst;have HL:=zY hl;have HD:=zY hd;have HV:=zY hv;clear hst hl hd hv hdd;go_wp2_with fail;exact ⟨⟨p,o,(p:Int) - 1,l,by omega,rfl,rfl,rfl,HL.out,HD.out,HV.out,HST.out⟩,by simp [intOf]⟩
  ·obtain rfl:q=0:=by omega
   have hxn:¬ (0:Int)≤x:=by omega
   clear hx;rw [List.drop_zero] at hv;have htv:leV (l.take 32)=leV l:=leV_take_of (Nat.le_refl _) (by rw [hv]; exact Nat.lt_trans (Nat.mod_lt _ HM0.out) HML.out);have htk:l.take 32=digN 32 (leV a%M):=digN_eq (fun d h=>hd d (List.mem_of_mem_take h)) (by rw [List.length_take,hl]; rfl) (by rw [htv,hv])
   have hrd:Rd wr wr.heap.size (some ⟨o,0,none⟩) (dV (digN 32 (leV a%M))):=by
    have h:=Rd.of_blk hst.out hst.out.lt;rw [← List.take_append_drop 32 l,dV_append] at h;rw [← htk];exact h.front
   have HRD:=zY hrd;have HB:=zY hst.bel;clear hrd htk htv hst hv hd hl;go_wp2_with fail;go_ret;exact ⟨some ⟨o,0,none⟩,33,by rw [digN_length]; rfl,by rw [digN_length]; decide,HRD.out,HB.out⟩
end Go.Proofs.YtdgheahbafnboaaDoor
/-
  Walks: the reference's cut, Reduce, MulAdd and Is.
-/
namespace Go.Proofs.YtdgheahbafnboaaDoor
set_option linter.unusedSimpArgs false
set_option linter.unusedVariables false
open Go.RowKit
theorem own_dig {l:List Nat} {n:Nat} {w w':World} {e:Ending} (h:OwnPostZ 3 n (dV l) w e w') (hn:l.length=n):DigPost l w e w':=by
 obtain ⟨A,c,he,ho,hb⟩:=h;exact ⟨A,c,by rw [hn]; exact he,by rw [hn]; exact (own_cap ho.x).1,Rd.of_own ho.x (Nat.le_refl _),hb⟩
theorem rd_takeK {w:World} {B:Nat} {A:Option Addr} {b:List UInt8} (h:Rd w B A (bytesV b)) (k:Nat):Rd w B A (bytesV (b.take k)):=by
 rw [← List.take_append_drop k b] at h;rw [bytesV_append] at h;exact h.front
theorem dig_rd {l:List Nat} {w w':World} {e:Ending} (h:DigPost l w e w'):∃ A c,e=.returned (.slice A l.length c)∧Rd w' w'.heap.size A (dV l)∧Below w.heap.size w w':=by
 obtain ⟨A,c,he,_,hr,hb⟩:=h;exact ⟨A,c,he,hr,hb⟩
set_option maxRecDepth 100000 in
set_option maxHeartbeats 4000000 in
theorem rcut_any (b:List UInt8) (k:Nat) (hk:k≤1000) (A:Option Addr) (c:Nat) (w:World) (hr:Rd w w.heap.size A (bytesV b)) (hc:b.length≤c) (hl:b.length≤1000000) :
  Calls Tryd.prog 58 #[.slice A b.length c,.int .i64 (k:Int)] w (DigPost (digs (b.take k)) w):=by
 obtain ⟨n,hn⟩:∃ n,n=b.length:=⟨_,rfl⟩;rw [← hn];obtain ⟨T,hT⟩:∃ T,T=b.take k:=⟨_,rfl⟩;have hn63:(n:Int)≤1000000:=by omega
 have hk63:(k:Int)≤1000:=by omega
 have hnc:n≤c:=by omega
 have hrt:Rd w w.heap.size A (bytesV T):=by rw [hT]; exact rd_takeK hr k
 have HC:=zY (show ∀ m,m=T.length→m≤c→Calls Tryd.prog 86 #[.slice A m c] w (DigPost (digs T) w) from fun m hm hmc=>by
  have h:=digitsz_any T A c w hrt (by omega) (by rw [hT,List.length_take]; omega);rw [hm];exact Calls.mono h fun e w' q=>own_dig q (by rw [digs,List.length_map]))
 rw [← hT];have HN:=zY hn;have HT:=zY hT;clear hr hrt hn hT hl hc
 by_cases hkn:k<n
 ·have hkn':(k:Int)<(n:Int):=by omega
  have hkc:k≤c:=by omega
  go_enter Tryd.func58,Tryd.ntmps58;go_wp2_with fail;refine calls_then (HC.out k (by rw [HT.out,List.length_take,← HN.out]; omega) hkc) ?_;rintro e w2 ⟨A2,c2,rfl,h1,h2,h3⟩;have HF:=zY (And.intro h1 (And.intro h2 h3));clear h1 h2 h3;go_wp2_with fail;go_ret;exact ⟨A2,c2,rfl,HF.out⟩
 ·have hkn':¬ (k:Int)<(n:Int):=by omega
  go_enter Tryd.func58,Tryd.ntmps58;go_wp2_with fail;refine calls_then (HC.out n (by rw [HT.out,List.length_take,← HN.out]; omega) hnc) ?_;rintro e w2 ⟨A2,c2,rfl,h1,h2,h3⟩;have HF:=zY (And.intro h1 (And.intro h2 h3));clear h1 h2 h3;go_wp2_with fail;go_ret;exact ⟨A2,c2,rfl,HF.out⟩
set_option maxRecDepth 100000 in
set_option maxHeartbeats 4000000 in
theorem rsc_reduce (b:List UInt8) (A:Option Addr) (c:Nat) (w:World) (hr:Rd w w.heap.size A (bytesV b)) (hc:b.length≤c) (hl:b.length≤1000000) :
  Calls Tryd.prog 55 #[.slice A b.length c] w (OwnPost 5 32 (bytesV (byB (leV (digs (b.take 64))%LN))) w):=by
 obtain ⟨n,hn⟩:∃ n,n=b.length:=⟨_,rfl⟩;obtain ⟨D,hD⟩:∃ D,D=digs (b.take 64):=⟨_,rfl⟩;have dD:Dg D:=by rw [hD]; exact digs_dg _
 have lD:D.length≤64:=by rw [hD,digs,List.length_map,List.length_take]; omega
 have hcut:=rcut_any b 64 (by decide) A c w hr hc hl;rw [← hn,← hD] at hcut;rw [← hn,← hD];have HCUT:=zY hcut;have DD:=zY dD;have LD:=zY lD;have hn63:(n:Int)≤1000000:=by omega
 clear hr hc hl hn hD dD lD hcut;go_enter Tryd.func55,Tryd.ntmps55;go_wp2_with fail;refine calls_then HCUT.out ?_;rintro e w2 h;obtain ⟨A2,c2,rfl,h1,h2⟩:=dig_rd h;clear h;obtain ⟨m,hm⟩:∃ m,m=D.length:=⟨_,rfl⟩;rw [← hm];have HD:=zY (And.intro h1 h2);have HM:=zY hm;clear h1 h2 hm;go_wp2_with fail;refine calls_then (rl_any w2) ?_;rintro e w3 h;obtain ⟨A3,c3,rfl,h3,h4⟩:=dig_rd h;clear h;have HL:=zY (And.intro h3 h4);rw [digN_length];clear h3 h4;go_wp2_with fail
 refine calls_then (by
  have h:=mod_any D (digN 32 LN) DD.out (digN_dg _ _) (digN_length _ _) (by rw [digN_val _ _ (by decide)]; decide) (by have:=LD.out; omega) A2 A3 c2 c3 w3 ((HD.out.1.below HL.out.2).mono HL.out.2.size) HL.out.1;rw [digN_val _ _ (show LN<256^32 by decide),← HM.out] at h;exact h) ?_
 rintro e w4 h;obtain ⟨A4,c4,he,h5,h6,h7⟩:=h;have he':e=.returned (.slice A4 32 c4):=by rw [he,digN_length]
 clear he;subst he';rw [digN_length] at h5;have HR:=zY (And.intro h5 (And.intro h6 h7));clear h5 h6 h7;go_wp2_with fail
 refine calls_then (by
  have h:=rbytes_any (digN 32 (leV D%LN)) (digN_dg _ _) A4 c4 w4 HR.out.2.1 (by rw [digN_length]; exact HR.out.1) (by rw [digN_length]; decide);rw [digN_length,refB_dig] at h;exact h) ?_
 rintro e w5 ⟨A5,c5,rfl,h8,h9⟩;have HF:=zY (And.intro (h8.mono (Nat.le_trans HD.out.2.size (Nat.le_trans HL.out.2.size HR.out.2.2.size))) (((HD.out.2.trans (HL.out.2.mono HD.out.2.size)).trans (HR.out.2.2.mono (Nat.le_trans HD.out.2.size HL.out.2.size))).trans (h9.mono (Nat.le_trans HD.out.2.size (Nat.le_trans HL.out.2.size HR.out.2.2.size)))));clear h8 h9;go_wp2_with fail;go_ret;exact ⟨A5,c5,rfl,HF.out⟩
theorem lev32 {l:List Nat} (h:Dg l) (hl:l.length=32):leV l<256^32:=by rw [← hl]; exact leV_lt l h
theorem mul32 {x y z:Nat} (h1:x<256^32) (h2:y<256^32) (h3:z<256^32):x*y<256^65∧x*y+z<256^66:=by
 have h4:x*y<256^32*256^32:=Nat.mul_lt_mul'' h1 h2;have h5:(256:Nat)^32*256^32<256^65:=by decide
 have h6:(256:Nat)^65+256^32<256^66:=by decide
 omega
set_option maxRecDepth 100000 in
set_option maxHeartbeats 4000000 in
theorem rsc_muladd (a b d:List UInt8) (la:a.length=32) (lb:b.length=32) (ld:d.length=32) (A B D:Option Addr) (ca cb cd:Nat) (w:World)
  (ra:Rd w w.heap.size A (bytesV a)) (rb:Rd w w.heap.size B (bytesV b)) (rd:Rd w w.heap.size D (bytesV d)) (hca:32≤ca) (hcb:32≤cb) (hcd:32≤cd) :
  Calls Tryd.prog 28 #[.slice A 32 ca,.slice B 32 cb,.slice D 32 cd] w (OwnPost 5 32 (bytesV (byB ((leV (digs a)*leV (digs b)+leV (digs d))%LN))) w):=by
 have cut (x:List UInt8) (lx:x.length=32) (X:Option Addr) (cx:Nat) (hcx:32≤cx) (rx:Rd w w.heap.size X (bytesV x)):∀ u,Below w.heap.size w u→Calls Tryd.prog 58 #[.slice X 32 cx,.int .i64 32] u (fun e w'=>∃ A c,e=.returned (.slice A 32 c)∧Rd w' w'.heap.size A (dV (digs x))∧Below u.heap.size u w'):=fun u hu=>by
  have h:=rcut_any x 32 (by decide) X cx u ((rx.below hu).mono hu.size) (by omega) (by omega);rw [List.take_of_length_le (by omega),lx] at h;refine Calls.mono h fun e w' q=>?_;obtain ⟨A2,c2,he,h1,h2⟩:=dig_rd q;exact ⟨A2,c2,by rw [he,digs,List.length_map,lx],h1,h2⟩
 have CA:=zY (cut a la A ca hca ra);have CB:=zY (cut b lb B cb hcb rb);have CD:=zY (cut d ld D cd hcd rd);have dla:(digs a).length=32:=by rw [digs,List.length_map,la]
 have dlb:(digs b).length=32:=by rw [digs,List.length_map,lb]
 have dld:(digs d).length=32:=by rw [digs,List.length_map,ld]
 have dga:=digs_dg a;have dgb:=digs_dg b;have dgd:=digs_dg d;clear cut ra rb rd la lb ld hca hcb hcd;generalize digs a=DA at *;generalize digs b=DB at *;generalize digs d=DD at *;obtain ⟨hv1,hv2⟩:=mul32 (lev32 dga dla) (lev32 dgb dlb) (lev32 dgd dld);obtain ⟨V1,hV1⟩:∃ v,leV DA*leV DB=v:=⟨_,rfl⟩;obtain ⟨V2,hV2⟩:∃ v,V1+leV DD=v:=⟨_,rfl⟩;rw [hV1,hV2] at hv2;rw [hV1] at hv1;rw [hV1,hV2]
 have CT:=zY (show ∀ u X cx Y cy,Rd u u.heap.size X (dV DA)→Rd u u.heap.size Y (dV DB)→Calls Tryd.prog 57 #[.slice X 32 cx,.slice Y 32 cy] u (fun e w'=>∃ A c,e=.returned (.slice A 65 c)∧Rd w' w'.heap.size A (dV (digN 65 V1))∧Below u.heap.size u w') from fun u X cx Y cy h1 h2=>by
  have h:=times_any DA DB dga dgb X Y cx cy u h1 h2 (by rw [dla]; decide) (by rw [dlb]; decide);rw [dla,dlb,hV1] at h;refine Calls.mono h fun e w' q=>?_;obtain ⟨A2,c2,he,h1,h2⟩:=dig_rd q;exact ⟨A2,c2,by rw [he,digN_length],h1,h2⟩)
 have CP:=zY (show ∀ u X cx Y cy,Rd u u.heap.size X (dV (digN 65 V1))→Rd u u.heap.size Y (dV DD)→Calls Tryd.prog 56 #[.slice X 65 cx,.slice Y 32 cy] u (fun e w'=>∃ A c,e=.returned (.slice A 66 c)∧Rd w' w'.heap.size A (dV (digN 66 V2))∧Below u.heap.size u w') from fun u X cx Y cy h1 h2=>by
  have h:=rplus_any (digN 65 V1) DD (digN_dg _ _) dgd X Y cx cy u h1 h2 (by rw [digN_length]; decide) (by rw [dld]; decide);rw [digN_length,dld,digN_val _ _ hv1,hV2] at h;refine Calls.mono h fun e w' q=>?_;obtain ⟨A2,c2,he,h1,h2⟩:=dig_rd q;exact ⟨A2,c2,by rw [he,digN_length]; rfl,h1,h2⟩)
 have CM:=zY (show ∀ u X cx Y cy,Rd u u.heap.size X (dV (digN 66 V2))→Rd u u.heap.size Y (dV (digN 32 LN))→Calls Tryd.prog 59 #[.slice X 66 cx,.slice Y 32 cy] u (fun e w'=>∃ A c,e=.returned (.slice A 32 c)∧32≤c∧Rd w' w'.heap.size A (dV (digN 32 (V2%LN)))∧Below u.heap.size u w') from fun u X cx Y cy h1 h2=>by
  have h:=mod_any (digN 66 V2) (digN 32 LN) (digN_dg _ _) (digN_dg _ _) (digN_length _ _) (by rw [digN_val _ _ (by decide)]; decide) (by rw [digN_length]; decide) X Y cx cy u h1 h2;rw [digN_length,digN_val _ _ hv2,digN_val _ _ (show LN<256^32 by decide)] at h;refine Calls.mono h fun e w' q=>?_;obtain ⟨A2,c2,he,h0,h1,h2⟩:=q;rw [digN_length] at h0;exact ⟨A2,c2,by rw [he,digN_length],h0,h1,h2⟩)
 clear dla dlb dld dga dgb dgd hV1 hV2 hv1 hv2;go_enter Tryd.func28,Tryd.ntmps28;go_wp2_with fail;refine calls_then (CA.out _ (Below.refl _ _)) ?_;rintro e w1 ⟨A1,c1,rfl,r1,b1⟩;have H1:=zY (And.intro r1 b1);clear r1 b1;go_wp2_with fail;refine calls_then (CB.out _ H1.out.2) ?_;rintro e w2 ⟨A2,c2,rfl,r2,b2⟩;have H2:=zY (And.intro ((H1.out.1.below b2).mono b2.size) (And.intro r2 (H1.out.2.trans (b2.mono H1.out.2.size))));clear r2 b2 H1;go_wp2_with fail;refine calls_then (CT.out _ _ _ _ _ H2.out.1 H2.out.2.1) ?_;rintro e w3 ⟨A3,c3,rfl,r3,b3⟩;have H3:=zY (And.intro r3 (H2.out.2.2.trans (b3.mono H2.out.2.2.size)));clear r3 b3 H2;go_wp2_with fail;refine calls_then (CD.out _ H3.out.2) ?_;rintro e w4 ⟨A4,c4,rfl,r4,b4⟩;have H4:=zY (And.intro ((H3.out.1.below b4).mono b4.size) (And.intro r4 (H3.out.2.trans (b4.mono H3.out.2.size))));clear r4 b4 H3;go_wp2_with fail;refine calls_then (CP.out _ _ _ _ _ H4.out.1 H4.out.2.1) ?_;rintro e w5 ⟨A5,c5,rfl,r5,b5⟩;have H5:=zY (And.intro r5 (H4.out.2.2.trans (b5.mono H4.out.2.2.size)));clear r5 b5 H4;go_wp2_with fail;refine calls_then (rl_any w5) ?_;rintro e w6 h;obtain ⟨A6,c6,he,r6,b6⟩:=dig_rd h;have he':e=.returned (.slice A6 32 c6):=by rw [he,digN_length]
 clear he h;subst he';have H6:=zY (And.intro ((H5.out.1.below b6).mono b6.size) (And.intro r6 (H5.out.2.trans (b6.mono H5.out.2.size))));clear r6 b6 H5;go_wp2_with fail;refine calls_then (CM.out _ _ _ _ _ H6.out.1 H6.out.2.1) ?_;rintro e w7 ⟨A7,c7,rfl,hc7,r7,b7⟩;have H7:=zY (And.intro r7 (H6.out.2.2.trans (b7.mono H6.out.2.2.size)));clear r7 b7 H6;go_wp2_with fail
 refine calls_then (by
  have h:=rbytes_any (digN 32 (V2%LN)) (digN_dg _ _) A7 c7 w7 H7.out.1 (by rw [digN_length]; exact hc7) (by rw [digN_length]; decide);rw [digN_length,refB_dig] at h;exact h) ?_
 rintro e w8 ⟨A8,c8,rfl,h8,h9⟩;have HF:=zY (And.intro (h8.mono H7.out.2.size) (H7.out.2.trans (h9.mono H7.out.2.size)));clear h8 h9;go_wp2_with fail;go_ret;exact ⟨A8,c8,rfl,HF.out⟩
end Go.Proofs.YtdgheahbafnboaaDoor
/-
  Walk: the reference's hash.
-/
namespace Go.Proofs.YtdgheahbafnboaaDoor
set_option linter.unusedSimpArgs false
set_option linter.unusedVariables false
open Go.RowKit
set_option maxRecDepth 100000 in
set_option maxHeartbeats 4000000 in
theorem rhash_any (a b d:List UInt8) (A B D:Option Addr) (ca cb cd:Nat) (w:World) (ra:Rd w w.heap.size A (bytesV a)) (rb:Rd w w.heap.size B (bytesV b)) (rd:Rd w w.heap.size D (bytesV d))
  (la:a.length≤200) (lb:b.length≤200) (ld:d.length≤200) :
  Calls Tryd.prog 27 #[.slice A a.length ca,.slice B b.length cb,.slice D d.length cd] w (OwnPost 5 32 (bytesV (byB (hshN (a++b++d)))) w):=by
 obtain ⟨na,hna⟩:∃ n,n=a.length:=⟨_,rfl⟩;obtain ⟨nb,hnb⟩:∃ n,n=b.length:=⟨_,rfl⟩;obtain ⟨nd,hnd⟩:∃ n,n=d.length:=⟨_,rfl⟩;rw [← hna,← hnb,← hnd];rw [← hna] at la;rw [← hnb] at lb;rw [← hnd] at ld;have RA:=zY ra;have RB:=zY rb;have RD:=zY rd;have HNA:=zY hna;have HNB:=zY hnb;have HND:=zY hnd;have HOWN0:Hid (OwnX w w.heap.size 5 1 (.slice none 0 0) 0 []):=zY (OwnX.nil _ _ _ _);clear ra rb rd hna hnb hnd;go_enter Tryd.func27,Tryd.ntmps27
 go_wp2_with (first
  | (refine wpList_append_rd (o:=⟨some 10,_,_,_,_,_⟩) (m:=na) sl_bytes rfl rfl HOWN0.out rfl rfl (by rw [bytesV_length,HNA.out,Nat.mul_one]) RA.out (bytesV_one a) (by unfold maxLen; omega) (by omega) (Nat.le_refl _) ?_; intro A1 c1 w1 hown1 hg1 hn1; have HOWN1:Hid (OwnX w1 w.heap.size 5 1 (.slice A1 na c1) na (bytesV a)):=zY (by simpa using hown1); have HB1:Hid (Below w.heap.size w w1):=zY (below_of_grown hg1 (Nat.le_refl _) (by intro k hk; simp [Value.ownBlock] at hk)); clear hown1 hg1 hn1)
  | (refine wpList_append_rd (o:=⟨some 13,_,_,_,_,_⟩) (m:=nb) sl_bytes rfl rfl HOWN1.out rfl rfl (by rw [bytesV_length,HNB.out,Nat.mul_one]) (RB.out.below HB1.out) (bytesV_one b) (by unfold maxLen; omega) (by omega) HB1.out.size ?_; intro A2 c2 w2 hown2 hg2 hn2; have HOWN2:=zY hown2; have HB2:Hid (Below w.heap.size w w2):=zY (below_grow HB1.out HOWN1.out HB1.out.size hg2); clear hown2 hg2 hn2)
  | (refine wpList_append_rd (o:=⟨some 16,_,_,_,_,_⟩) (m:=nd) sl_bytes rfl rfl HOWN2.out rfl rfl (by rw [bytesV_length,HND.out,Nat.mul_one]) (RD.out.below HB2.out) (bytesV_one d) (by unfold maxLen; omega) (by omega) HB2.out.size ?_; intro A3 c3 w3 hown3 hg3 hn3; have HOWN3:=zY hown3; have HB3:Hid (Below w.heap.size w w3):=zY (below_grow HB2.out HOWN2.out HB2.out.size hg3); clear hown3 hg3 hn3))
 obtain ⟨m,hm⟩:∃ m,m=na+nb+nd:=⟨_,rfl⟩;obtain ⟨X,hX⟩:∃ X,X=a++b++d:=⟨_,rfl⟩;have hXl:X.length=m:=by rw [hX,hm,List.length_append,List.length_append,HNA.out,HNB.out,HND.out]
 have hrd:Rd w3 w3.heap.size A3 (bytesV X):=by
  have h:=Rd.of_own HOWN3.out (Nat.le_refl _);rw [hX,bytesV_append,bytesV_append];exact h
 have hcap:=(own_cap HOWN3.out).1;have hs:=Sh.r512z_any X A3 c3 w3.heap.size w3 hrd (Nat.le_refl _) (by rw [hXl,hm]; omega) (by rw [hXl,hm]; exact hcap);rw [hXl] at hs;rw [← hm];have HS:=zY hs;have HX:=zY hX;clear hs hX hXl hrd hcap hm HOWN0 HOWN1 HOWN2 HOWN3 HB1 HB2;refine calls_then HS.out ?_;rintro e w4 ⟨A4,c4,rfl,ho,hb⟩
 have hlen:(Sh.digS Sh.F64 X).length=64:=by
  have h:=ho.1;rw [bytesV_length] at h;rw [h]
 have hcap4:=(own_cap ho.x).1;have hred:=rsc_reduce (Sh.digS Sh.F64 X) A4 c4 w4 (Rd.of_own ho.x (Nat.le_refl _)) (by rw [hlen]; exact hcap4) (by rw [hlen]; decide);rw [hlen,List.take_of_length_le (Nat.le_of_eq hlen),show leV (digs (Sh.digS Sh.F64 X))%LN=hshN (a++b++d) by rw [← HX.out]; rfl] at hred;have HRED:=zY hred;have HB4:=zY (HB3.out.trans (hb.mono HB3.out.size));clear ho hb hlen hcap4 hred;go_wp2_with fail;refine calls_then HRED.out ?_;rintro e w5 ⟨A5,c5,rfl,ho5,hb5⟩;have HF:=zY (And.intro (ho5.mono HB4.out.size) (HB4.out.trans (hb5.mono HB4.out.size)));clear ho5 hb5;go_wp2_with fail;go_ret;exact ⟨A5,c5,rfl,HF.out⟩
end Go.Proofs.YtdgheahbafnboaaDoor
/-
  Walk: the reference's Sign.
-/
namespace Go.Proofs.YtdgheahbafnboaaDoor
set_option linter.unusedSimpArgs false
set_option linter.unusedVariables false
open Go.RowKit
set_option maxRecDepth 100000 in
set_option maxHeartbeats 4000000 in
theorem rsign_any (b m:List UInt8) (lb:b.length=32) (lm:m.length≤200) (A M:Option Addr) (c cm:Nat) (w:World) (rb:Rd w w.heap.size A (bytesV b)) (rm:Rd w w.heap.size M (bytesV m)) (hc:32≤c) :
  Calls Tryd.prog 14 #[.slice A 32 c,.slice M m.length cm] w (OwnPost 5 64 (bytesV (sigB b m)) w):=by
 have hS:=rsecret_any b A c w rb (by rw [lb]; decide) (by rw [lb]; exact hc);rw [lb] at hS;obtain ⟨n,hn⟩:∃ n,n=m.length:=⟨_,rfl⟩;rw [← hn] at lm ⊢;obtain ⟨K,hK⟩:∃ K,K=(secL b).take 32:=⟨_,rfl⟩;obtain ⟨F,hF⟩:∃ F,F=(secL b).drop 32:=⟨_,rfl⟩;have hKl:K.length=32:=by rw [hK,List.length_take,secD_len b (digS_len b)]; rfl
 have hFl:F.length=32:=by rw [hF,List.length_drop,secD_len b (digS_len b)]
 have hKd:Dg K:=fun d hd=>secL_dg b d (List.mem_of_mem_take (by rw [hK] at hd; exact hd));have hFd:Dg F:=fun d hd=>secL_dg b d (List.mem_of_mem_drop (by rw [hF] at hd; exact hd))
 have hS':Calls Tryd.prog 23 #[.slice A 32 c] w (fun e w'=>∃ A c B d,e=.returned (.tuple #[.slice A 32 c,.slice B 32 d])∧32≤c∧32≤d∧Rd w' w'.heap.size A (bytesV (bsN K))∧Rd w' w'.heap.size B (bytesV (bsN F))∧Below w.heap.size w w'):=Calls.mono hS fun e w' q=>by
  obtain ⟨A1,c1,B1,d1,q1,q2,q3,q4,q5,q6⟩:=q;exact ⟨A1,c1,B1,d1,q1,q2,q3,by rw [← bnV_bsN hKd,hK]; exact q4,by rw [← bnV_bsN hFd,hF]; exact q5,q6⟩
 have hkv:leV (digs (bsN K))=keyN b:=by rw [bsN_val hKd,hK,keyN]
 have hfv:bsN F=prefB b:=by rw [hF,prefB]
 have hkl:(bsN K).length=32:=by rw [bsN,List.length_map,hKl]
 have hfl:(bsN F).length=32:=by rw [bsN,List.length_map,hFl]
 generalize bsN K=KB at *;generalize bsN F=FB' at *;obtain ⟨R,hR⟩:∃ R,R=byB (secN b m):=⟨_,rfl⟩;have hRl:R.length=32:=by rw [hR,byB_length]
 have hRv:leV (digs R)=secN b m:=by rw [hR]; exact digs_byB_val (hshN_lt _)
 have CH1:=zY (show ∀ u Af cf Am cm,Rd u u.heap.size Af (bytesV FB')→Rd u u.heap.size Am (bytesV m)→Calls Tryd.prog 27 #[.slice Af 32 cf,.slice Am n cm,.slice none 0 0] u (OwnPost 5 32 (bytesV R) u) from fun u Af cf Am cm h1 h2=>by
  have h:=rhash_any FB' m [] Af Am none cf cm 0 u h1 h2 (fun i v hv=>by simp [bytesV] at hv) (by rw [hfl]; decide) (by rw [← hn]; exact lm) (by decide);rw [hfl,← hn,hfv,show byB (hshN (prefB b++m++[]))=R from hR.symm] at h;exact h)
 obtain ⟨T,hT⟩:∃ T,T=ptB (secN b m):=⟨_,rfl⟩;obtain ⟨U,hU⟩:∃ U,U=ptB (keyN b):=⟨_,rfl⟩;have hTl:T.length=32:=by rw [hT,ptB_len]
 have hUl:U.length=32:=by rw [hU,ptB_len]
 have hTb:bnV (pubL (secN b m))=bytesV T:=by rw [hT,ptB,bnV_bsN (pubL_dg _)]
 have hUb:bnV (pubL (keyN b))=bytesV U:=by rw [hU,ptB,bnV_bsN (pubL_dg _)]
 obtain ⟨H,hH⟩:∃ H,H=byB (hshN (T++U++m)):=⟨_,rfl⟩;have hHl:H.length=32:=by rw [hH,byB_length]
 have hHv:leV (digs H)=hshN (T++U++m):=by rw [hH]; exact digs_byB_val (hshN_lt _)
 have CH2:=zY (show ∀ u At ct Au cu Am cm,Rd u u.heap.size At (bytesV T)→Rd u u.heap.size Au (bytesV U)→Rd u u.heap.size Am (bytesV m)→Calls Tryd.prog 27 #[.slice At 32 ct,.slice Au 32 cu,.slice Am n cm] u (OwnPost 5 32 (bytesV H) u) from fun u At ct Au cu Am cm h1 h2 h3=>by
  have h:=rhash_any T U m At Au Am ct cu cm u h1 h2 h3 (by rw [hTl]; decide) (by rw [hUl]; decide) (by rw [← hn]; exact lm);rw [hTl,hUl,← hn,← hH] at h;exact h)
 obtain ⟨S,hS2⟩:∃ S,S=byB (sigN b m):=⟨_,rfl⟩;have hSl:S.length=32:=by rw [hS2,byB_length]
 have CM:=zY (show ∀ u Ah ch Ak ck Ar cr,Rd u u.heap.size Ah (bytesV H)→Rd u u.heap.size Ak (bytesV KB)→Rd u u.heap.size Ar (bytesV R)→32≤ch→32≤ck→32≤cr→Calls Tryd.prog 28 #[.slice Ah 32 ch,.slice Ak 32 ck,.slice Ar 32 cr] u (OwnPost 5 32 (bytesV S) u) from fun u Ah ch Ak ck Ar cr h1 h2 h3 h4 h5 h6=>by
  have h:=rsc_muladd H KB R hHl hkl hRl Ah Ak Ar ch ck cr u h1 h2 h3 h4 h5 h6;rw [hHv,hkv,hRv,hT,hU,show byB ((hshN (ptB (secN b m)++ptB (keyN b)++m)*keyN b+secN b m)%LN)=S from hS2.symm] at h;exact h)
 have CP:=zY (show ∀ u,Rd u u.heap.size A (bytesV b)→Calls Tryd.prog 12 #[.slice A 32 c] u (BnPost (pubL (keyN b)) u) from fun u h=>rpublic_any b lb (digS_len b) A c u h hc)
 have CB:=zY (show ∀ u X cx Y cy Z cz,Rd u u.heap.size X (DN bxN)→Rd u u.heap.size Y (DN byNN)→Rd u u.heap.size Z (bytesV R)→32≤cx→32≤cy→Calls Tryd.prog 25 #[.agg (pairV (.slice X 32 cx) (.slice Y 32 cy)),.slice Z 32 cz] u (PairPost (times baseF (secN b m)).x.val (times baseF (secN b m)).y.val u) from fun u X cx Y cy Z cz h1 h2 h3 h4 h5=>by
  have h:=rmulbase (l:=digs R) (digs_dg R) (by rw [digs,List.length_map,hRl]) h1 h2 (K:=Z) (ck:=cz) (by rw [bnV_digs']; exact h3) h4 h5;rw [hRv] at h;exact h)
 have HS:=zY hS';have RB:=zY rb;have RM:=zY rm;have HTB:=zY hTb;have HUB:=zY hUb;have HT:=zY hT;have HS2:=zY hS2;have HTL:=zY hTl;have HSL:=zY hSl;have HB:=zY (Below.refl w.heap.size w);have HOWN0:Hid (OwnX w w.heap.size 5 1 (.slice none 0 0) 0 []):=zY (OwnX.nil _ _ _ _);clear hS hS' rb rm hc lb lm hn hK hF hKl hFl hKd hFd hkv hfv hkl hfl hR hRl hRv hT hU hTl hUl hTb hUb hH hHl hHv hS2 hSl;go_enter Tryd.func14,Tryd.ntmps14;go_wp2_with fail;refine calls_then HS.out ?_;rintro e w1 ⟨A1,c1,B1,d1,rfl,hc1,hd1,r1,r2,hb⟩;replace HB:=zY (HB.out.trans (hb.mono HB.out.size));replace RB:=zY (rd_next RB.out hb);replace RM:=zY (rd_next RM.out hb);have R1:=zY r1;have R2:=zY r2;have L1:=zY hc1;clear r1 r2 hb hc1 hd1;go_wp2_with fail;refine calls_then (CP.out _ RB.out) ?_;rintro e w2 ⟨A2,c2,rfl,hc2,r,hb⟩;rw [HUB.out] at r;replace HB:=zY (HB.out.trans (hb.mono HB.out.size));replace RB:=zY (rd_next RB.out hb);replace RM:=zY (rd_next RM.out hb);replace R1:=zY (rd_next R1.out hb);replace R2:=zY (rd_next R2.out hb);have RU:=zY r;clear r hb hc2;go_wp2_with fail;refine calls_then (CH1.out _ _ _ _ _ R2.out RM.out) ?_;rintro e w3 ⟨A3,c3,rfl,ho,hb⟩;replace HB:=zY (HB.out.trans (hb.mono HB.out.size));replace RB:=zY (rd_next RB.out hb);replace RM:=zY (rd_next RM.out hb);replace R1:=zY (rd_next R1.out hb);replace R2:=zY (rd_next R2.out hb);replace RU:=zY (rd_next RU.out hb);have RR:=zY (Rd.of_own ho (Nat.le_refl _));have LR:=zY (own_cap ho).1;clear ho hb;go_wp2_with fail;refine calls_then (nbase_any _) ?_;rintro e w4 ⟨X,cx,Y,cy,rfl,hcx,hcy,rx,ry,hb⟩;replace HB:=zY (HB.out.trans (hb.mono HB.out.size));replace RB:=zY (rd_next RB.out hb);replace RM:=zY (rd_next RM.out hb);replace R1:=zY (rd_next R1.out hb);replace R2:=zY (rd_next R2.out hb);replace RU:=zY (rd_next RU.out hb);replace RR:=zY (rd_next RR.out hb);have hm:=CB.out _ _ cx _ cy _ c3 rx ry RR.out hcx hcy;have HM:=zY hm;clear rx ry hb hcx hcy hm;go_wp2_with fail;refine calls_then HM.out ?_;rintro e w5 ⟨X3,cx3,Y3,cy3,rfl,hcx,hcy,rx,ry,hb⟩;replace HB:=zY (HB.out.trans (hb.mono HB.out.size));replace RB:=zY (rd_next RB.out hb);replace RM:=zY (rd_next RM.out hb);replace R1:=zY (rd_next R1.out hb);replace R2:=zY (rd_next R2.out hb);replace RU:=zY (rd_next RU.out hb);replace RR:=zY (rd_next RR.out hb);have hby:=nbytes_any (times baseF (secN b m)).x.isLt (times baseF (secN b m)).y.isLt (cx:=cx3) hcy rx ry;have HBY:=zY hby;clear rx ry hb hcx hcy hby HM;go_wp2_with fail;refine calls_then HBY.out ?_;rintro e w6 ⟨A6,c6,rfl,hc6,r,hb⟩;rw [show byP (times baseF (secN b m)).x.val (times baseF (secN b m)).y.val=pubL (secN b m) from rfl,HTB.out] at r;replace HB:=zY (HB.out.trans (hb.mono HB.out.size));replace RB:=zY (rd_next RB.out hb);replace RM:=zY (rd_next RM.out hb);replace R1:=zY (rd_next R1.out hb);replace R2:=zY (rd_next R2.out hb);replace RU:=zY (rd_next RU.out hb);replace RR:=zY (rd_next RR.out hb);have RT:=zY r;clear r hb hc6 HBY;go_wp2_with fail;refine calls_then (CH2.out _ _ _ _ _ _ _ RT.out RU.out RM.out) ?_;rintro e w7 ⟨A7,c7,rfl,ho,hb⟩;replace HB:=zY (HB.out.trans (hb.mono HB.out.size));replace RB:=zY (rd_next RB.out hb);replace RM:=zY (rd_next RM.out hb);replace R1:=zY (rd_next R1.out hb);replace R2:=zY (rd_next R2.out hb);replace RU:=zY (rd_next RU.out hb);replace RR:=zY (rd_next RR.out hb);replace RT:=zY (rd_next RT.out hb);have RH:=zY (Rd.of_own ho (Nat.le_refl _));have LH:=zY (own_cap ho).1;clear ho hb;go_wp2_with fail;refine calls_then (CM.out _ _ _ _ _ _ _ RH.out R1.out RR.out LH.out L1.out LR.out) ?_;rintro e w8 ⟨A8,c8,rfl,ho,hb⟩;replace HB:=zY (HB.out.trans (hb.mono HB.out.size));replace RB:=zY (rd_next RB.out hb);replace RM:=zY (rd_next RM.out hb);replace R1:=zY (rd_next R1.out hb);replace R2:=zY (rd_next R2.out hb);replace RU:=zY (rd_next RU.out hb);replace RR:=zY (rd_next RR.out hb);replace RT:=zY (rd_next RT.out hb);replace RH:=zY (rd_next RH.out hb);have RS:=zY (Rd.of_own ho (Nat.le_refl _));clear ho hb;have HN0:Hid (OwnX w8 w8.heap.size 5 1 (.slice none 0 0) 0 []):=zY (OwnX.nil _ _ _ _)
 go_wp2_with (first
  | (refine wpList_append_rd (o:=⟨some 35,_,_,_,_,_⟩) (m:=32) sl_bytes rfl rfl HN0.out rfl rfl (by rw [bytesV_length,HTL.out]) RT.out (bytesV_one T) (by unfold maxLen; omega) (by omega) (Nat.le_refl _) ?_; intro A9 c9 w9 hown9 hg9 hn9; have HOWN9:Hid (OwnX w9 w8.heap.size 5 1 (.slice A9 32 c9) 32 (bytesV T)):=zY (by simpa using hown9); have HB9:Hid (Below w8.heap.size w8 w9):=zY (below_of_grown hg9 (Nat.le_refl _) (by intro k hk; simp [Value.ownBlock] at hk)); clear hown9 hg9 hn9)
  | (refine wpList_append_rd (o:=⟨some 38,_,_,_,_,_⟩) (m:=32) sl_bytes rfl rfl HOWN9.out rfl rfl (by rw [bytesV_length,HSL.out]) (RS.out.below HB9.out) (bytesV_one S) (by unfold maxLen; omega) (by omega) HB9.out.size ?_; intro A10 c10 w10 hown10 hg10 hn10; have HOWN10:=zY hown10; have HB10:Hid (Below w8.heap.size w8 w10):=zY (below_grow HB9.out HOWN9.out HB9.out.size hg10); clear hown10 hg10 hn10))
 go_ret;refine ⟨A10,c10,rfl,?_,HB.out.trans (HB10.out.mono HB.out.size)⟩;have h:=HOWN10.out.mono HB.out.size;rw [sigB,← HT.out,← HS2.out,bytesV_append];exact h
end Go.Proofs.YtdgheahbafnboaaDoor
/-
  Walk: the law SignSigns.
-/
namespace Go.Proofs.YtdgheahbafnboaaDoor
set_option linter.unusedSimpArgs false
set_option linter.unusedVariables false
open Go.RowKit
theorem Sh.TabG.drew {w:World} (h:Sh.TabG w):Sh.TabG w.drew:=h.below (Below.refl w.heap.size w).drew h.size
set_option maxRecDepth 100000 in
set_option maxHeartbeats 4000000 in
theorem signSigns_any (l m0:List UInt8) (A M:Option Addr) (c cm:Nat) (w:World) (hr:Rd w w.heap.size A (bytesV l)) (hs:Rd w w.heap.size M (bytesV m0)) (hc:l.length≤c) (hcm:c≤9223372036854775807) (hd:m0.length≤cm) (hdm:cm≤9223372036854775807) (hG:Sh.TabG w) :
  Calls Tryd.prog 4 #[.slice A l.length c,.slice M m0.length cm] w (BoolPost true w):=by
 have hu:=Tryd.underlying22;obtain ⟨n1,hn1⟩:∃ n,n=l.length:=⟨_,rfl⟩;obtain ⟨n2,hn2⟩:∃ n,n=m0.length:=⟨_,rfl⟩;obtain ⟨m,hm⟩:∃ m,m=m0.take 200:=⟨_,rfl⟩;obtain ⟨nm,hnm⟩:∃ n,n=m.length:=⟨_,rfl⟩;obtain ⟨sd,hsd⟩:∃ s,s=seedB l:=⟨_,rfl⟩;have lsd:sd.length=32:=by rw [hsd]; exact seedB_len l
 have lm:m.length≤200:=by rw [hm,List.length_take]; omega
 have lm2:nm≤cm:=by rw [hnm,hm,List.length_take]; omega
 have rm:Rd w w.heap.size M (bytesV m):=by rw [hm]; exact rd_takeB hs
 obtain ⟨U,hU⟩:∃ U,U=ptB (keyN sd):=⟨_,rfl⟩;obtain ⟨G,hGs⟩:∃ G,G=sigB sd m:=⟨_,rfl⟩;have lU:U.length=32:=by rw [hU,ptB_len]
 have lG:G.length=64:=by rw [hGs,sigB_len]
 have hUb:bnV (pubL (keyN sd))=bytesV U:=by rw [hU,ptB,bnV_bsN (pubL_dg _)]
 have CF:=zY (show ∀ u,Calls Tryd.prog 8 #[.slice M n2 cm,.int .i64 200] u (fun e w'=>e=.returned (.slice M nm cm)∧w'=u) from fun u=>by
  rw [hnm,hm,hn2]; exact few_any m0 200 (by decide) M cm u (nil_len' hs) hd)
 have CSD:=zY (show ∀ u,Rd u u.heap.size A (bytesV l)→Calls Tryd.prog 13 #[.slice A n1 c] u (SeedPost sd u) from fun u h=>by
  rw [hsd,hn1]; exact seed_any l A c u h hc hcm)
 have CP:=zY (show ∀ u o,Rd u u.heap.size (some ⟨o,0,none⟩) (bytesV sd)→Sh.TabG u→Calls Tryd.prog 9 #[.slice (some ⟨o,0,none⟩) 32 32] u (fun e w'=>∃ o,e=.returned (.tuple #[.slice (some ⟨o,0,none⟩) 32 32,.int .i64 0])∧u.heap.size≤o∧Blk w' o 5 (bytesV U).toArray∧Below u.heap.size u w') from fun u o h g=>by
  rw [← hUb]; exact spublic_any sd lsd _ 32 u h (Nat.le_refl _) g)
 have CS:=zY (show ∀ u o,Rd u u.heap.size (some ⟨o,0,none⟩) (bytesV sd)→Rd u u.heap.size M (bytesV m)→Sh.TabG u→Calls Tryd.prog 10 #[.slice (some ⟨o,0,none⟩) 32 32,.slice M nm cm] u (SsgPost G u) from fun u o h1 h2 g=>by
  rw [hGs,hnm]; exact ssign_any sd m lsd (by omega) _ M 32 cm u h1 h2 (Nat.le_refl _) g)
 have CRS:=zY (show ∀ u o,Rd u u.heap.size (some ⟨o,0,none⟩) (bytesV sd)→Rd u u.heap.size M (bytesV m)→Calls Tryd.prog 14 #[.slice (some ⟨o,0,none⟩) 32 32,.slice M nm cm] u (OwnPost 5 64 (bytesV G) u) from fun u o h1 h2=>by
  rw [hGs,hnm]; exact rsign_any sd m lsd (by omega) _ M 32 cm u h1 h2 (Nat.le_refl _))
 obtain ⟨SG,hSG⟩:∃ s:ByteArray,s=⟨G.toArray⟩:=⟨_,rfl⟩
 have CG:=zY (show ∀ (u:World) (A:Option Addr) (c:Nat),Rd u u.heap.size A (bytesV G)→(convert 22 9 (.slice A 64 c)).run Tryd.prog u=.ok (.string SG) u from fun u A c h=>by
  have e:=run_str_of (P:=Tryd.prog) Tryd.underlying22 Tryd.underlying5 Tryd.underlying9 h c;rw [lG,← hSG] at e;exact e)
 have CL:=zY (show ∀ u,Sh.TabG u→Calls Tryd.prog 11 #[] u (BoolPost true u) from fun u g=>lives_any u g);have HST:=zY (show Cs [.rd A (bytesV l),.rd M (bytesV m)] w w from ⟨⟨hr,rm,trivial⟩,Below.refl _ _⟩);have HG:=zY hG;have HLU:=zY lU;have HLG:=zY lG;have HLM:=zY hnm;have HLS:=zY lsd;have nm63:(nm:Int)≤200:=by omega
 rw [← hn1,← hn2];clear hr hs hc hcm hd hdm hG hn1 hn2 hm hnm hsd lsd lm rm hU hGs lU lG hUb hSG;go_enter Tryd.func4,Tryd.ntmps4;go_wp2_with fail;refine calls_then (CSD.out _ HST.out.1.1) ?_;rintro e w1 ⟨os1,rfl,hos,hks,hb⟩;replace HST:=zY (HST.out.next hb);replace HG:=zY (HG.out.below hb HG.out.size);have RS:=zY (Rd.of_blk hks hks.lt);clear hos hks hb;go_wp2_with fail;refine calls_then (CF.out _) ?_;rintro e w0 ⟨rfl,rfl⟩;go_wp2_with fail;refine calls_then (CS.out _ _ RS.out HST.out.1.2.1 HG.out) ?_;rintro e w2 ⟨Ag2,cg2,rfl,hog,hb⟩;have HOW:=zY (And.intro hog HST.out.2.size);replace HST:=zY (HST.out.next hb);replace HG:=zY (HG.out.below hb HG.out.size);replace RS:=zY (rd_next RS.out hb);have RG:=zY (Rd.of_own hog.x (Nat.le_refl _));have hcg2:=(own_cap hog.x).1;clear hog hb;go_wp2_with fail;have HC0:=And.intro (show Cs [.rd Ag2 (bytesV G),.rd A (bytesV l),.rd M (bytesV m)] w w2 from ⟨⟨RG.out,HST.out.1⟩,HST.out.2⟩).drew HG.out.drew;have HG0:=zY (And.intro HG.out HST.out.2.size);clear HST RS RG HOW
 refine wp_region_list (fun u=>Cs [.rd Ag2 (bytesV G),.rd A (bytesV l),.rd M (bytesV m)] w u∧Sh.TabG u) (fun | false=>(fun _=>True) | true=>(fun _=>True)) (fun | false,_=>false | true,_=>false)
  [fun z _=>z 0=.slice Ag2 64 cg2,
   fun z _=>z 1=.string SG,
   fun z _=>z 2=.slice A n1 c,
   fun z u=>(fun v u=>∃ o,v=.slice (some ⟨o,0,none⟩) 32 32∧Rd u u.heap.size (some ⟨o,0,none⟩) (bytesV sd)) (z 3) u,
   fun z _=>z 4=.slice M n2 cm,
   fun z _=>z 5=.slice M nm cm,
   fun z u=>(fun v u=>∃ A c,v=.slice A 64 c∧Rd u u.heap.size A (bytesV G)) (z 6) u,
   fun z _=>z 7=.string SG,
   fun z _=>z 8=.bool true,
   fun z _=>z 9=.bool true,
   fun z _=>z 10=.int .i64 0,
   fun z _=>z 11=.bool true,
   fun z _=>z 12=.bool true,
   fun z _=>z 13=.bool true,
   fun z _=>z 14=.bool true,
   fun z _=>z 15=.bool true,
   fun z _=>z 16=.bool true]
  [Eq,Eq,Eq,fun u u'=>Below u.heap.size u u',Eq,Eq,fun u u'=>Below u.heap.size u u',Eq,Eq,Eq,Eq,Eq,Eq,Eq,fun u u'=>Below u.heap.size u u',Eq,Eq]
  (fun _ _=>false) [(0,some 15),(1,some 16),(2,some 17),(3,some 18),(4,some 19),(5,some 20),(6,some 21),(7,some 22),(8,some 23),(9,some 24),(10,some 25),(11,some 26),(12,some 27),(13,some 28),(14,some 29),(15,some 30),(16,some 4)] (by kernel_rfl) (by kernel_rfl) rfl (fun _=>rfl) ?_ ?_ ?_ ?_ ?_ ?_
 ·exact HC0
 ·intro m; cases m; exact trivial; exact trivial
 ·intro m; cases m
  ·refine ⟨?_,?_,?_,.inr (fun _ _ _ h=>h),?_,?_,.inr (fun _ _ _ h=>h),?_,?_,?_,?_,?_,?_,?_,.inr (fun _ _ _ h=>h),?_,?_,trivial⟩ <;> exact .inr fun _ _ h h0=>h▸h0
  ·refine ⟨?_,?_,?_,.inr (fun _ _ _ h=>h),?_,?_,.inr (fun _ _ _ h=>h),?_,?_,?_,?_,?_,?_,?_,.inr (fun _ _ _ h=>h),?_,?_,trivial⟩ <;> exact .inr fun _ _ h h0=>h▸h0
 ·refine ⟨⟨.inl rfl,?_,?_,.inr (.inr (.inr (fun _ _ _ _ h h0=>by cases h; exact h0))),?_,?_,.inr (.inr (.inr (fun _ _ _ _ h h0=>by cases h; exact h0))),?_,?_,?_,?_,?_,?_,?_,?_,?_,?_,trivial⟩,⟨?_,.inl rfl,?_,.inr (.inr (.inr (fun _ _ _ _ h h0=>by cases h; exact h0))),?_,?_,.inr (.inr (.inr (fun _ _ _ _ h h0=>by cases h; exact h0))),?_,?_,?_,?_,?_,?_,?_,?_,?_,?_,trivial⟩,⟨?_,?_,.inl rfl,?_,?_,?_,?_,?_,?_,?_,?_,?_,?_,?_,?_,?_,?_,trivial⟩,⟨?_,?_,?_,.inl rfl,?_,?_,?_,?_,?_,?_,?_,?_,?_,?_,?_,?_,?_,trivial⟩,⟨?_,?_,?_,.inr (.inr (.inr (fun _ _ _ _ h h0=>by cases h; exact h0))),.inl rfl,?_,?_,?_,?_,?_,?_,?_,?_,?_,?_,?_,?_,trivial⟩,⟨?_,?_,?_,.inr (.inr (.inr (fun _ _ _ _ h h0=>by cases h; exact h0))),?_,.inl rfl,?_,?_,?_,?_,?_,?_,?_,?_,?_,?_,?_,trivial⟩,⟨?_,?_,?_,.inr (.inr (.inr (fun _ _ _ _ h h0=>h0.elim fun o k=>⟨o,k.1,rd_next k.2 h⟩))),?_,?_,.inl rfl,?_,?_,?_,?_,?_,?_,?_,?_,?_,?_,trivial⟩,⟨?_,?_,?_,.inr (.inr (.inr (fun _ _ _ _ h h0=>by cases h; exact h0))),?_,?_,.inr (.inr (.inr (fun _ _ _ _ h h0=>by cases h; exact h0))),.inl rfl,?_,?_,?_,?_,?_,?_,?_,?_,?_,trivial⟩,⟨?_,?_,?_,.inr (.inr (.inr (fun _ _ _ _ h h0=>by cases h; exact h0))),?_,?_,.inr (.inr (.inr (fun _ _ _ _ h h0=>by cases h; exact h0))),?_,.inl rfl,?_,?_,?_,?_,?_,?_,?_,?_,trivial⟩,⟨?_,?_,?_,.inr (.inr (.inr (fun _ _ _ _ h h0=>by cases h; exact h0))),?_,?_,.inr (.inr (.inr (fun _ _ _ _ h h0=>by cases h; exact h0))),?_,?_,.inl rfl,?_,?_,?_,?_,?_,?_,?_,trivial⟩,⟨?_,?_,?_,.inr (.inr (.inr (fun _ _ _ _ h h0=>by cases h; exact h0))),?_,?_,.inr (.inr (.inr (fun _ _ _ _ h h0=>by cases h; exact h0))),?_,?_,?_,.inl rfl,?_,?_,?_,?_,?_,?_,trivial⟩,⟨?_,?_,?_,.inr (.inr (.inr (fun _ _ _ _ h h0=>by cases h; exact h0))),?_,?_,.inr (.inr (.inr (fun _ _ _ _ h h0=>by cases h; exact h0))),?_,?_,?_,?_,.inl rfl,?_,?_,?_,?_,?_,trivial⟩,⟨?_,?_,?_,.inr (.inr (.inr (fun _ _ _ _ h h0=>by cases h; exact h0))),?_,?_,.inr (.inr (.inr (fun _ _ _ _ h h0=>by cases h; exact h0))),?_,?_,?_,?_,?_,.inl rfl,?_,?_,?_,?_,trivial⟩,⟨?_,?_,?_,.inr (.inr (.inr (fun _ _ _ _ h h0=>by cases h; exact h0))),?_,?_,.inr (.inr (.inr (fun _ _ _ _ h h0=>by cases h; exact h0))),?_,?_,?_,?_,?_,?_,.inl rfl,?_,?_,?_,trivial⟩,⟨?_,?_,?_,.inr (.inr (.inr (fun _ _ _ _ h h0=>h0.elim fun o k=>⟨o,k.1,rd_next k.2 h⟩))),?_,?_,.inr (.inr (.inr (fun _ _ _ _ h h0=>h0.elim fun A h1=>h1.elim fun c k=>⟨A,c,k.1,rd_next k.2 h⟩))),?_,?_,?_,?_,?_,?_,?_,.inl rfl,?_,?_,trivial⟩,⟨?_,?_,?_,.inr (.inr (.inr (fun _ _ _ _ h h0=>by cases h; exact h0))),?_,?_,.inr (.inr (.inr (fun _ _ _ _ h h0=>by cases h; exact h0))),?_,?_,?_,?_,?_,?_,?_,?_,.inl rfl,?_,trivial⟩,⟨?_,?_,?_,.inr (.inr (.inr (fun _ _ _ _ h h0=>by cases h; exact h0))),?_,?_,.inr (.inr (.inr (fun _ _ _ _ h h0=>by cases h; exact h0))),?_,?_,?_,?_,?_,?_,?_,?_,?_,.inl rfl,trivial⟩,trivial⟩ <;> first | exact .inr (.inr (.inl rfl)) | exact .inr (.inr (.inr fun _ _ _ _ _ h=>h))
 ·refine ⟨?_,?_,?_,?_,?_,?_,?_,?_,?_,?_,?_,?_,?_,?_,?_,?_,?_,trivial⟩
  ·refine step_plain [] (fun _=>rfl) rfl ?_;intro w1 vals hC1 hi0 hf E hE;clear hi0;clear hf;simp only [sP] at hE ⊢;go_wp2;exact .mk (hE _ _ rfl hC1 rfl)
  ·refine step_plain [(0,some 15)] (fun _=>rfl) rfl ?_;intro w1 vals hC1 hi0 hf E hE;clear hi0;have f0:vals 0=.slice Ag2 64 cg2:=hf 0 rfl
   try dsimp only at f0
   clear hf;have cv:=CG.out _ Ag2 cg2 hC1.1.1.1;simp only [sP,f0] at hE ⊢;clear f0;go_wp2_with fail;exact .mk (hE _ _ rfl hC1 rfl)
  ·refine step_plain [] (fun _=>rfl) rfl ?_;intro w1 vals hC1 hi0 hf E hE;clear hi0;clear hf;simp only [sP] at hE ⊢;go_wp2;exact .mk (hE _ _ rfl hC1 rfl)
  ·refine step_plain [(2,some 17)] (fun _=>rfl) rfl ?_;intro w1 vals hC1 hi0 hf E hE;clear hi0;have f2:vals 2=.slice A n1 c:=hf 2 rfl
   try dsimp only at f2
   clear hf;simp only [sP,f2] at hE ⊢;clear f2;go_wp2_with fail;refine calls_then (CSD.out _ hC1.1.1.2.1) ?_;rintro e w2 ⟨o,rfl,ho,hk,hb2⟩;have hr:=Rd.of_blk hk hk.lt;go_wp2_with fail;exact .mk (hE _ _ ⟨o,rfl,hr⟩ ⟨hC1.1.next hb2,hC1.2.below hb2 hC1.2.size⟩ hb2)
  ·refine step_plain [] (fun _=>rfl) rfl ?_;intro w1 vals hC1 hi0 hf E hE;clear hi0;clear hf;simp only [sP] at hE ⊢;go_wp2;exact .mk (hE _ _ rfl hC1 rfl)
  ·refine step_plain [(4,some 19),(3,some 18)] (fun _=>rfl) rfl ?_;intro w1 vals hC1 hi0 hf E hE;clear hi0;have f3:(fun v u=>∃ o,v=.slice (some ⟨o,0,none⟩) 32 32∧Rd u u.heap.size (some ⟨o,0,none⟩) (bytesV sd)) (vals 3) w1:=hf 3 rfl;have f4:vals 4=.slice M n2 cm:=hf 4 rfl
   try dsimp only at f3 f4
   clear hf;simp only [sP,f4] at hE ⊢;clear f4;go_wp2_with fail;refine calls_then (CF.out _) ?_;rintro e w2 ⟨rfl,rfl⟩;go_wp2_with fail;exact .mk (hE _ _ rfl hC1 rfl)
  ·refine step_plain [(3,some 18),(5,some 20),(5,some 20)] (fun _=>rfl) rfl ?_;intro w1 vals hC1 hi0 hf E hE;clear hi0;have f3:(fun v u=>∃ o,v=.slice (some ⟨o,0,none⟩) 32 32∧Rd u u.heap.size (some ⟨o,0,none⟩) (bytesV sd)) (vals 3) w1:=hf 3 rfl;have f5:vals 5=.slice M nm cm:=hf 5 rfl
   try dsimp only at f3 f5
   clear hf;obtain ⟨o,hx,hr⟩:=f3;simp only [sP,f5,hx] at hE ⊢;clear f5;clear hx;go_wp2_with fail;refine calls_then (CRS.out _ _ hr hC1.1.1.2.2.1) ?_;rintro e w2 ⟨A2,c2,rfl,ho2,hb2⟩;have hr2:=Rd.of_own ho2 (Nat.le_refl _);go_wp2_with fail;exact .mk (hE _ _ ⟨A2,c2,rfl,hr2⟩ ⟨hC1.1.next hb2,hC1.2.below hb2 hC1.2.size⟩ hb2)
  ·refine step_plain [(6,some 21)] (fun _=>rfl) rfl ?_;intro w1 vals hC1 hi0 hf E hE;clear hi0;have f6:(fun v u=>∃ A c,v=.slice A 64 c∧Rd u u.heap.size A (bytesV G)) (vals 6) w1:=hf 6 rfl
   try dsimp only at f6
   clear hf;obtain ⟨A2,c2,hx,hr⟩:=f6;have cv:=CG.out _ A2 c2 hr;simp only [sP,hx] at hE ⊢;clear hx;go_wp2_with fail;exact .mk (hE _ _ rfl hC1 rfl)
  ·refine step_plain [(1,some 16),(7,some 22)] (fun _=>rfl) rfl ?_;intro w1 vals hC1 hi0 hf E hE;clear hi0;have f1:vals 1=.string SG:=hf 1 rfl;have f7:vals 7=.string SG:=hf 7 rfl
   try dsimp only at f1 f7
   clear hf;simp only [sP,f1,f7] at hE ⊢;clear f1 f7;go_wp2;exact .mk (hE _ _ rfl hC1 rfl)
  ·refine step_plain [(8,some 23),(6,some 21)] (fun _=>rfl) rfl ?_;intro w1 vals hC1 hi0 hf E hE;clear hi0;have f6:(fun v u=>∃ A c,v=.slice A 64 c∧Rd u u.heap.size A (bytesV G)) (vals 6) w1:=hf 6 rfl;have f8:vals 8=.bool true:=hf 8 rfl
   try dsimp only at f6 f8
   clear hf;simp only [sP,f8] at hE ⊢;clear f8;go_wp2;exact .mk (hE _ _ rfl hC1 rfl)
  ·refine step_guard [(9,some 24)] (fun _=>rfl) 9 24 true rfl rfl ?_ ?_
   ·intro w1 vals hC1 hi0 hf hy E hE;dsimp only at hE ⊢;clear hi0;have f9:vals 9=.bool true:=hf 9 rfl
    try dsimp only at f9
    clear hf;clear hy;simp only [sP,f9] at hE ⊢;clear f9;go_wp2;exact .mk (hE _ _ rfl hC1 rfl)
   ·intro w1 vals hC1 hi0 hf hy;clear hi0;have f9:vals 9=.bool true:=hf 9 rfl
    try dsimp only at f9
    clear hf;exact absurd (by simp only [sP,f9]; rfl) hy
  ·refine step_guard [(10,some 25),(9,some 24)] (fun _=>rfl) 9 24 true rfl rfl ?_ ?_
   ·intro w1 vals hC1 hi0 hf hy E hE;dsimp only at hE ⊢;clear hi0;have f9:vals 9=.bool true:=hf 9 rfl;have f10:vals 10=.int .i64 0:=hf 10 rfl
    try dsimp only at f9 f10
    clear hf;clear hy;simp only [sP,f9,f10] at hE ⊢;clear f9 f10;go_wp2;exact .mk (hE _ _ rfl hC1 rfl)
   ·intro w1 vals hC1 hi0 hf hy;clear hi0;have f9:vals 9=.bool true:=hf 9 rfl;have f10:vals 10=.int .i64 0:=hf 10 rfl
    try dsimp only at f9 f10
    clear hf;exact absurd (by simp only [sP,f9]; rfl) hy
  ·refine step_plain [(9,some 24),(11,some 26)] (fun _=>rfl) rfl ?_;intro w1 vals hC1 hi0 hf E hE;clear hi0;have f9:vals 9=.bool true:=hf 9 rfl;have f11:vals 11=.bool true:=hf 11 rfl
   try dsimp only at f9 f11
   clear hf;simp only [sP,f9,f11] at hE ⊢;clear f9 f11;go_wp2;exact .mk (hE _ _ rfl hC1 rfl)
  ·refine step_plain [(12,some 27),(9,some 24)] (fun _=>rfl) rfl ?_;intro w1 vals hC1 hi0 hf E hE;clear hi0;have f9:vals 9=.bool true:=hf 9 rfl;have f12:vals 12=.bool true:=hf 12 rfl
   try dsimp only at f9 f12
   clear hf;simp only [sP,f9,f12] at hE ⊢;clear f9 f12;go_wp2;exact .mk (hE _ _ rfl hC1 rfl)
  ·refine step_guard [(13,some 28),(13,some 28)] (fun _=>rfl) 13 28 true rfl rfl ?_ ?_
   ·intro w1 vals hC1 hi0 hf hy E hE;dsimp only at hE ⊢;clear hi0;have f13:vals 13=.bool true:=hf 13 rfl
    try dsimp only at f13
    clear hf;clear hy;simp only [sP,f13] at hE ⊢;clear f13;go_wp2_with fail;refine calls_then (CL.out _ hC1.2) ?_;rintro e w2 ⟨rfl,hb2⟩;go_wp2_with fail;exact .mk (hE _ _ rfl ⟨hC1.1.next hb2,hC1.2.below hb2 hC1.2.size⟩ hb2)
   ·intro w1 vals hC1 hi0 hf hy;clear hi0;have f13:vals 13=.bool true:=hf 13 rfl
    try dsimp only at f13
    clear hf;exact absurd (by simp only [sP,f13]; rfl) hy
  ·refine step_plain [(13,some 28),(14,some 29)] (fun _=>rfl) rfl ?_;intro w1 vals hC1 hi0 hf E hE;clear hi0;have f13:vals 13=.bool true:=hf 13 rfl;have f14:vals 14=.bool true:=hf 14 rfl
   try dsimp only at f13 f14
   clear hf;simp only [sP,f13,f14] at hE ⊢;clear f13 f14;go_wp2;exact .mk (hE _ _ rfl hC1 rfl)
  ·refine step_plain [(15,some 30),(14,some 29),(0,some 15),(1,some 16),(2,some 17),(3,some 18),(4,some 19),(5,some 20),(6,some 21),(7,some 22),(8,some 23),(9,some 24),(10,some 25),(11,some 26),(12,some 27),(13,some 28),(14,some 29),(15,some 30)] (fun _=>rfl) rfl ?_;intro w1 vals hC1 hi0 hf E hE;clear hi0;have f0:vals 0=.slice Ag2 64 cg2:=hf 0 rfl;have f1:vals 1=.string SG:=hf 1 rfl;have f2:vals 2=.slice A n1 c:=hf 2 rfl;have f3:(fun v u=>∃ o,v=.slice (some ⟨o,0,none⟩) 32 32∧Rd u u.heap.size (some ⟨o,0,none⟩) (bytesV sd)) (vals 3) w1:=hf 3 rfl;have f4:vals 4=.slice M n2 cm:=hf 4 rfl;have f5:vals 5=.slice M nm cm:=hf 5 rfl;have f6:(fun v u=>∃ A c,v=.slice A 64 c∧Rd u u.heap.size A (bytesV G)) (vals 6) w1:=hf 6 rfl;have f7:vals 7=.string SG:=hf 7 rfl;have f8:vals 8=.bool true:=hf 8 rfl;have f9:vals 9=.bool true:=hf 9 rfl;have f10:vals 10=.int .i64 0:=hf 10 rfl;have f11:vals 11=.bool true:=hf 11 rfl;have f12:vals 12=.bool true:=hf 12 rfl;have f13:vals 13=.bool true:=hf 13 rfl;have f14:vals 14=.bool true:=hf 14 rfl;have f15:vals 15=.bool true:=hf 15 rfl
   try dsimp only at f0 f1 f2 f3 f4 f5 f6 f7 f8 f9 f10 f11 f12 f13 f14 f15
   clear hf;simp only [sP,f0,f1,f2,f4,f5,f7,f8,f9,f10,f11,f12,f13,f14,f15] at hE ⊢;clear f0 f1 f2 f4 f5 f7 f8 f9 f10 f11 f12 f13 f14 f15;go_wp2;exact .mk (hE _ _ rfl hC1 rfl)
 intro w1 vals hC1 hf;have f0:vals 0=.slice Ag2 64 cg2:=hf 0 (by decide) rfl;have f1:vals 1=.string SG:=hf 1 (by decide) rfl;have f2:vals 2=.slice A n1 c:=hf 2 (by decide) rfl;have f3:(fun v u=>∃ o,v=.slice (some ⟨o,0,none⟩) 32 32∧Rd u u.heap.size (some ⟨o,0,none⟩) (bytesV sd)) (vals 3) w1:=hf 3 (by decide) rfl;have f4:vals 4=.slice M n2 cm:=hf 4 (by decide) rfl;have f5:vals 5=.slice M nm cm:=hf 5 (by decide) rfl;have f6:(fun v u=>∃ A c,v=.slice A 64 c∧Rd u u.heap.size A (bytesV G)) (vals 6) w1:=hf 6 (by decide) rfl;have f7:vals 7=.string SG:=hf 7 (by decide) rfl;have f8:vals 8=.bool true:=hf 8 (by decide) rfl;have f9:vals 9=.bool true:=hf 9 (by decide) rfl;have f10:vals 10=.int .i64 0:=hf 10 (by decide) rfl;have f11:vals 11=.bool true:=hf 11 (by decide) rfl;have f12:vals 12=.bool true:=hf 12 (by decide) rfl;have f13:vals 13=.bool true:=hf 13 (by decide) rfl;have f14:vals 14=.bool true:=hf 14 (by decide) rfl;have f15:vals 15=.bool true:=hf 15 (by decide) rfl;have f16:vals 16=.bool true:=hf 16 (by decide) rfl
 try dsimp only at f0 f1 f2 f3 f4 f5 f6 f7 f8 f9 f10 f11 f12 f13 f14 f15 f16
 clear hf;simp only [sP,f0,f1,f2,f4,f5,f7,f8,f9,f10,f11,f12,f13,f14,f15,f16];clear f0 f1 f2 f4 f5 f7 f8 f9 f10 f11 f12 f13 f14 f15 f16;generalize vals 3=x3 at *;generalize vals 6=x6 at *;have HF:=zY hC1.1.2;clear hC1 HC0;go_wp2_with fail;go_ret;exact ⟨rfl,HF.out⟩
end Go.Proofs.YtdgheahbafnboaaDoor
namespace Go.Proofs.YtdgheahbafnboaaDoor.signSigns
set_option linter.unusedSimpArgs false
set_option linter.unusedVariables false
open Go.ChangeShapes Go.WideShapes Go.ChangeAt Go.RowKit Go.Joins Sh
set_option maxRecDepth 100000 in
theorem lifted (os:Os) (started:os.Started) (H:Type) (enc:TypeId × Value→H) :
  ReturnsInHanded {} Tryd.checked os 4 .any (fun w args=>(Rows.signSignsSpec.pre enc Tryd.prog Tryd.f4 [] false w args∧laidMetH Tryd.prog laidL w)∧sizedMet enc Tryd.prog Tryd.f4 (OpenSpec.ofChange Rows.signSignsSpec) false w args)
   (Rows.signSignsSpec.post enc Tryd.prog Tryd.f4 false true false false):=by
 refine returnsInHanded_of_change_and (C:=Tryd.checked) (X:=fun w _=>laidMetH Tryd.prog laidL w) (fun _ _ _ hh h=>h.of_heap hh) own started (by kernel_rfl) Tryd.func4
  (ChangeSpec.witness_shaped (enc:=enc) (C:=Tryd.checked) (os:=os) (X:=fun w _=>laidMetH Tryd.prog laidL w) false (World.doorLaid Tryd.prog 400 os) #[.slice none 0 0,.slice none 0 0] 8 rfl (World.shaped_of_RefB (by kernel_rfl) (by kernel_rfl)) (by kernel_rfl) (by kernel_rfl) (by kernel_rfl) (door_met os _)) ?_
 intro W base args ds gs before hval0 hW _ _ hL _;have hval:∀ (j:Nat) t v,Tryd.f4.params[j]?=some t→args[j]?=some v→Value.okWide Tryd.prog W .any base t v:=hval0;have hW':=hW;obtain ⟨p,q,hA0,hV,rfl,hfz,hnd⟩:=hW;have hA:DataW.TrodAll enc Tryd.prog W 0 (fun _=>true) true Tryd.f4.params.toList args.toList ds p:=hA0;rw [Tryd.params4] at hA hval;have hG:=tab_of_laid hL;obtain ⟨v0,v1,y0,y1,p0,p1,rfl,rfl,rfl,h0,h1⟩:=trodAll_two hA;obtain ⟨rfl,rfl⟩:=trodVars_none hV;have h0k:=h0;have h1k:=h1;obtain ⟨l1,A1,c1,rfl,rm1,qm1,okm1⟩:=open_bytes_cap (hval 0 22 v0 rfl rfl) h0;obtain ⟨l2,A2,c2,rfl,rm2,qm2,okm2⟩:=open_bytes_cap (hval 1 22 v1 rfl rfl) h1;clear hA0 hval0;simp only [List.append_nil] at hW';refine (signSigns_any l1 l2 A1 A2 c1 c2 W rm1 rm2 qm1 okm1 qm2 okm2 hG).mono fun e W' ⟨he,hb⟩=>?_;subst he;have hlt:∀ x ∈ p0++p1,x.block<W.heap.size:=fun x hx=>hW'.lt x (by simpa using hx)
 exact ⟨_,rfl,post_of_below (pa:=p0++p1) (pv:=[]) hW' (fun _ _ _=>trodAll_mk1 (shut_bool Tryd.underlying4 _))
  (fun sp hsp=>trodAll_mk2 (stays laidOut (by kernel_rfl) (of_decide_eq_true (by kernel_rfl)) h0k hb (fun x hx=>hlt x (List.mem_append_left _ hx)) (fun x hx=>hsp x (by simp [hx]))) (stays laidOut (by kernel_rfl) (of_decide_eq_true (by kernel_rfl)) h1k hb (fun x hx=>hlt x (List.mem_append_right _ hx)) (fun x hx=>hsp x (by simp [hx]))))
  (fun _ _=>rfl) (by simp) hb (ok_one (by kernel_rfl) rfl (okWide_bool_mk Tryd.underlying4 _))⟩
theorem row_holds:Rows.SignSignsSaid :=
 OpenClaim.holds_of_wide 4 Tryd.f4 rfl rfl rfl rfl rfl rfl rfl ⟨rfl,rfl,rfl,rfl,rfl⟩ rfl rfl rfl rfl rfl (by kernel_rfl) Tryd.func4 (by kernel_rfl)
  (of_decide_eq_true (by kernel_rfl)) (by unfold Func.isWrapper; first | (rw [if_pos (by decide +kernel)]; kernel_rfl) | (rw [if_neg (by decide +kernel)]; exact ⟨rfl,rfl⟩))
  (fun os started H enc _=>lifted os started H enc)
theorem holds:Rows.SignSignsCardSaid :=
 Claim7.holds_tied_plain_at .later [] [.data] true (true, "0784ad3089ade6ce65c23d6f7e779087f08751140f5f821148598f103a639288") false
  row_holds (fun _ h=>by cases h) (by kernel_rfl) (fun _ h=>by cases h) signSigns_row_tie rfl ⟨rfl,rfl⟩ (by kernel_rfl) rfl
  (fun f fn hf hfn=>by
   obtain rfl:f=4:=Option.some.inj ((show Tryd.prog.funcNamed "brevet/brevetlaw06.SignSigns" = some 4 by kernel_rfl).symm.trans hf) |>.symm;obtain rfl:fn=Tryd.f4:=(Option.some.inj (Tryd.func4.symm.trans hfn)).symm
   exact ⟨by kernel_rfl,fun j t ht=>by
    rw [Tryd.params4] at ht;have hm:t ∈ [22]:=by simpa using Array.mem_of_getElem? ht
    have hall:([22].all fun u=>!Tryd.prog.wantsStandIn u)=true:=by kernel_rfl
    exact (show Tryd.prog.wantsStandIn t=false by simpa using List.all_eq_true.1 hall t hm)⟩)
  (by kernel_rfl)
#print axioms holds
end Go.Proofs.YtdgheahbafnboaaDoor.signSigns
