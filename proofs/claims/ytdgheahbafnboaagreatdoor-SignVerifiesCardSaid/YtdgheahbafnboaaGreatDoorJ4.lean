/-
  Joined texts: Sma Ssg Rdx Eql Sis Rep Crt Rr Es Clo Ro Rqp Rrd Cre Et Rrp Eb Svf Ris TurnR RefT RefX ShaH RefB8 Dgs Less Roots Primes.
-/
import Derived.Laws.CopyOwn
import Derived.Test.YtdgheahbafnboaaGreatDoorProg
import Derived.Test.YtdgheahbafnboaaGreatDoorJ3
import Derived.Test.YtdgheahbafnboaaGreatDoorJ1
import Derived.Test.YtdgheahbafnboaaGreatDoorJ2
namespace Go.Proofs.YtdgheahbafnboaaGreatDoor
set_option linter.unusedSimpArgs false
set_option linter.unusedVariables false
set_option maxRecDepth 100000
set_option maxHeartbeats 4000000
open Go.RowKit
theorem min_run32 (n m:Nat) (h:min n 32=m) (ts:Array TypeId) (t:TypeId) (u:World):(Builtin.min_ ts t #[.int .i64 (n:Int),.int .i64 32]).run Tryz.prog u=.ok (.int .i64 (m:Int)) u:=by
 by_cases h1:n≤32
 ·obtain rfl:m=n:=by omega
  have h3:¬ (32:Int)<(m:Int):=by omega
  simp [Builtin.min_,Builtin.min2,List.foldlM]
  try omega
 ·obtain rfl:m=32:=by omega
  have h3:(32:Int)<(n:Int):=by omega
  simp [Builtin.min_,Builtin.min2,List.foldlM]
  try omega
theorem leV_next (b:List Nat) (j:Nat) (h:j<b.length):leV (b.take (j+1))=leV (b.take j)+256^j*b.getD j 0:=by
 rw [qbA h,qa9,List.length_take,Nat.min_eq_left (Nat.le_of_lt h),List.getD_eq_getElem?_getD,List.getElem?_eq_getElem h];show _+_*(b[j]+256*0)=_;simp
structure MA (C:Nat) (a b:List Nat) (i j:Nat) (X:List Int):Prop where
 len:X.length=64
 bd:∀ p,0≤X.getD p 0∧X.getD p 0≤255+65025*(if p<i+j then (i:Int)+1 else (i:Int))
 val:vI X=(C:Int)+(leV (a.take i):Int)*(leV b:Int)+256^i*((a.getD i 0:Nat)*(leV (b.take j):Int))
theorem ma_alg {V C S B p x t q y z:Int} (h:V=C+S*B+p*(x*t)) (hz:x*y=z):V+z*(p*q)=C+S*B+p*(x*(t+q*y)):=by grind
theorem MA.step {C:Nat} {a b:List Nat} {i j:Nat} {X:List Int} (h:MA C a b i j X) (ha:Dg a) (hb:Dg b) (hi:i<32) (hj:j<32) (hbl:j<b.length) {y:Int} {z:Nat} (hy:y=X.getD (i+j) 0) (hz:a.getD i 0*b.getD j 0=z) :
  MA C a b i (j+1) (X.set (i+j) (y+(z:Int))):=by
 have hzb:z≤255*255:=by rw [← hz]; exact Nat.mul_le_mul (by have:=qaA ha i; omega) (by have:=qaA hb j; omega)
 refine ⟨by rw [List.length_set]; exact h.len,fun p=>?_,?_⟩
 ·have h0:=h.bd p
  by_cases hp:p=i+j
  ·subst hp;rw [getD_set_same _ (by rw [h.len]; omega),if_pos (by omega)];rw [if_neg (by omega),← hy] at h0;omega
  ·rw [getD_set_ne _ (by omega)];refine ⟨h0.1,Int.le_trans h0.2 ?_⟩
   split <;> split <;> omega
 ·rw [qdR _ _ _ (by rw [h.len]; omega),← hy,show y+(z:Int) - y=(z:Int) by omega,leV_next b j hbl,Int.pow_add];have hz':((a.getD i 0:Nat):Int)*((b.getD j 0:Nat):Int)=(z:Int):=by rw [← hz]; simp
  rw [Int.natCast_add,Int.natCast_mul,Int.natCast_pow];exact ma_alg h.val hz'
theorem ma_row {V C S B p x:Int} (h:V=C+S*B+p*(x*B)):V=C+(S+p*x)*B:=by grind
theorem MA.row {C:Nat} {a b:List Nat} {i j:Nat} {X:List Int} (h:MA C a b i j X) (hj:b.length≤j) (hj2:j≤32) (hi:i<a.length):MA C a b (i+1) 0 X:=by
 refine ⟨h.len,fun p=>?_,?_⟩
 ·have h0:=h.bd p;refine ⟨h0.1,Int.le_trans h0.2 ?_⟩
  split <;> split <;> omega
 ·have hv:=h.val;rw [List.take_of_length_le hj] at hv;rw [leV_next a i hi,Int.natCast_add,Int.natCast_mul,Int.natCast_pow];rw [show leV (b.take 0)=0 from rfl,Int.natCast_zero,Int.mul_zero,Int.mul_zero,Int.add_zero];exact ma_row hv
theorem MA.start {C:List Nat} (a b:List Nat) (hd:Dg C) (hl:C.length≤64):MA (leV C) a b 0 0 (padI C):=by
 refine ⟨qcW hl,fun p=>?_,?_⟩
 ·rw [padI,getD_mapI];have:=qaA (part_dg hd 64) p;refine ⟨by omega,?_⟩
  split <;> omega
 ·rw [padI_val]; simp [leV]
theorem MA.fin {C:Nat} {a b:List Nat} {i:Nat} {X:List Int} (h:MA C a b i 0 X) (hi:a.length≤i) (hi2:i≤32):(∀ p,-4194304≤X.getD p 0∧X.getD p 0≤4194304)∧vI X=((leV a*leV b+C:Nat):Int):=by
 refine ⟨fun p=>?_,?_⟩
 ·have h0:=h.bd p
  split at h0 <;> omega
 ·have hv:=h.val;rw [List.take_of_length_le hi,show leV (b.take 0)=0 from rfl,Int.natCast_zero,Int.mul_zero,Int.mul_zero,Int.add_zero] at hv;rw [hv,Int.natCast_add,Int.natCast_mul];omega
theorem scl_muladd (a b d:List Nat) (ha:Dg a) (hb:Dg b) (hd:Dg d) (la:a.length=32) (lb:b.length=32) (ld:d.length=32) (A B D:Option Addr) (ca cb cd:Nat) (w:World)
  (ra:Rd w w.heap.size A (bnV a)) (rb:Rd w w.heap.size B (bnV b)) (rd:Rd w w.heap.size D (bnV d)) :
  Calls Tryz.prog 65 #[.slice A 32 ca,.slice B 32 cb,.slice D 32 cd] w (SclPost ((leV a*leV b+leV d)%LN) w):=by
 have hst0:=scl_new w;have hmin:=min_run32 32 32 rfl;have RA:=zY ra;have RB:=zY rb;have RD:=zY rd;have HA:=zY ha;have HB:=zY hb;have HD:=zY hd;have LA:=zY la;have LB:=zY lb;have LD:=zY ld;have HST0:=zY hst0;clear ra rb rd ha hb hd la lb ld hst0;go_enter Tryz.func65,Tryz.ntmps65;go_wp2_with fail;generalize hg:w.heap.size=g at HST0 RA RB RD ⊢;have HG:=zY hg;clear hg
 change Code.wp Tryz.prog _ _ _ (w.alloc (.cells (iV (padI [])).toArray 80))
 generalize w.alloc (.cells (iV (padI [])).toArray 80)=w9 at HST0 ⊢
 go_loopw [14] (fun jv wr=>∃ k:Nat,k≤32∧jv=.int .i64 (k:Int)∧D64 w g (padI (d.take k)) wr) (fun jv _=>(32 - intOf jv).toNat)
 case atStart=>exact ⟨0,by omega,rfl,HST0.out⟩
 case round =>
  clear HST0;obtain ⟨k,hk,rfl,hst⟩:=hrel
  by_cases hlt:k<32
  ·have hlt':(k:Int)<32:=by omega
   have hk64:(k:Int)<64:=by omega
   have hkl:k<d.length:=by rw [LD.out]; omega
   have hrd:=RD.out.below (by have h:=hst.bel; rw [HG.out] at h; exact h);obtain ⟨ad,rfl,d1⟩:=qcQ hrd hkl;obtain ⟨y,hy⟩:=eX (d.getD k 0);have hyl:(y:Int)<256:=by have:=qaA HD.out k; rw [← hy] at this; omega
   rw [← hy] at d1;have htl:(d.take k).length=k:=by rw [List.length_take]; omega
   have hset:(padI (d.take k)).set k (y:Int)=padI (d.take (k+1)):=by
    rw [padI_set _ k y htl (by omega),qbA hkl,hy,List.getD_eq_getElem?_getD,List.getElem?_eq_getElem hkl]; rfl
   have hd0:∃ z,wr.cell? ⟨g,k,none⟩=some (.int .i64 z):=⟨_,by rw [hst.x.cell,iV_at (by rw [qcW (by rw [htl]; omega)]; omega)]⟩;obtain ⟨z0,d0⟩:=hd0;have q0:=hst.x.free k;have HSET:=zY hset;have HST:=zY hst;have HK:=zY hlt;clear hst hset hrd hy hkl htl hk hlt;go_wp2_with fail;refine ⟨⟨k+1,HK.out,by go_num,?_⟩,by have:=HK.out; simp [intOf]; omega⟩;have h:=qaj (i:=k) HST.out.x (.int .i64 (y:Int));rw [qck,HSET.out] at h;exact HST.out.put (qah _ _ _ _) h
  ·obtain rfl:k=32:=by omega
   have hma:=MA.start a b HD.out (by rw [LD.out]; decide);rw [List.take_of_length_le (by rw [LD.out]; exact Nat.le_refl _)] at hst;have HST:=zY hst;have HMA:=zY hma;clear hst hma;go_wp2_with fail;obtain ⟨wo1,rfl⟩:∃ x:World,x=wr:=⟨_,rfl⟩
   go_loopw [28] (fun iv wr=>∃ (i:Nat) (X:List Int),i≤32∧iv=.int .i64 (i:Int)∧MA (leV d) a b i 0 X∧D64 w g X wr) (fun iv _=>(32 - intOf iv).toNat)
   case atStart=>exact ⟨0,padI d,by omega,rfl,HMA.out,HST.out⟩
   case round =>
    clear HST HMA;obtain ⟨i,X,hi,rfl,hma,hst⟩:=hrel
    by_cases hlti:i<32
    ·have hlti':(i:Int)<32:=by omega
     have HST:=zY hst;have HMA:=zY hma;have HLI:=zY hlti;clear hst hma hi hlti;go_wp2_with fail;obtain ⟨wo2,rfl⟩:∃ x:World,x=wr:=⟨_,rfl⟩
     go_loopw [34] (fun jv wr=>∃ (j:Nat) (Y:List Int),j≤32∧jv=.int .i64 (j:Int)∧MA (leV d) a b i j Y∧D64 w g Y wr) (fun jv _=>(32 - intOf jv).toNat)
     case atStart=>exact ⟨0,X,by omega,rfl,HMA.out,HST.out⟩
     case round =>
      clear HST HMA;obtain ⟨j,Y,hj,rfl,hma,hst⟩:=hrel
      by_cases hltj:j<32
      ·have hltj':(j:Int)<32:=by omega
       obtain ⟨p,hp⟩:=eX (i+j);have hpi:(i:Int)+(j:Int)=(p:Int):=by omega
       have hp64:(p:Int)<64:=by have:=HLI.out; omega
       have hel:∀ u,D64 w g Y u→Below g w u:=fun u h=>by have h2:=h.bel; rw [HG.out] at h2; exact h2
       obtain ⟨ad,rfl,_⟩:=qcQ (RA.out.below (hel _ hst)) (k:=i) (by rw [LA.out]; exact HLI.out);obtain ⟨bd,rfl,_⟩:=qcQ (RB.out.below (hel _ hst)) (k:=j) (by rw [LB.out]; exact hltj);obtain ⟨x,hx⟩:=eX (a.getD i 0);obtain ⟨y,hy⟩:=eX (b.getD j 0);have hxl:x<256:=by rw [hx]; exact qaA HA.out i
       have hyl:y<256:=by rw [hy]; exact qaA HB.out j
       obtain ⟨z,hz⟩:∃ z,x*y=z:=⟨_,rfl⟩;have hzl:z≤255*255:=by rw [← hz]; exact Nat.mul_le_mul (by omega) (by omega)
       have hzi:(x:Int)*(y:Int)=(z:Int):=by rw [← hz]; simp
       obtain ⟨e,he⟩:=eX (Y.getD p 0);have hbd:=hma.bd p;rw [← he] at hbd
       have heb:0≤e∧e≤2100000:=by
        have:=HLI.out
        split at hbd <;> omega
       obtain ⟨r,hr⟩:∃ r,e+(z:Int)=r:=⟨_,rfl⟩;have hrb:0≤r∧r≤3000000:=by omega
       have hstep:=hma.step HA.out HB.out HLI.out hltj (by rw [LB.out]; exact hltj) (y:=e) (z:=z) (by rw [he,hp]) (by rw [← hx,← hy,hz]);rw [hr,← hp] at hstep
       have dA:∀ u,D64 w g Y u→u.cell? (ad.add i)=some (.int .u8 (x:Int)):=fun u h=>by
        obtain ⟨ad2,h1,h2⟩:=qcQ (RA.out.below (hel _ h)) (k:=i) (by rw [LA.out]; exact HLI.out)
        injection h1 with h1
        rw [h1,h2,hx]
       have dB:∀ u,D64 w g Y u→u.cell? (bd.add j)=some (.int .u8 (y:Int)):=fun u h=>by
        obtain ⟨ad2,h1,h2⟩:=qcQ (RB.out.below (hel _ h)) (k:=j) (by rw [LB.out]; exact hltj)
        injection h1 with h1
        rw [h1,h2,hy]
       have dX:∀ u,D64 w g Y u→u.cell? ⟨g,p,none⟩=some (.int .i64 e):=fun u h=>by
        rw [h.x.cell,iV_at (by rw [hma.len]; omega),he]
       have DA:=zY dA;have DB:=zY dB;have DX:=zY dX;have HSTEP:=zY hstep;have HJ:=zY hltj;have hxl':(x:Int)<256:=by omega
       have hyl':(y:Int)<256:=by omega
       have hzl':(z:Int)≤65025:=by omega
       obtain ⟨le,he1⟩:=heb;obtain ⟨lr,hr1⟩:=hrb;have HC0:=hst.drew;clear dA dB dX hstep hst hma hbd he hx hy hz hel hp hj hltj hxl hyl hzl;go_wp2_with fail;refine qal (fun u=>D64 w g Y u) (fun u=>D64 w g (Y.set p r) u) [(0,some 37),(1,some 38),(2,some 39),(3,some 40),(4,some 41),(5,some 42),(6,some 43),(7,some 44),(8,some 45),(9,some 46),(10,some 47),(11,some 48),(12,some 49),(13,some 50),(14,some 51),(15,some 52),(16,some 53),(17,some 54),(18,none)] (by kernel_rfl) (by kernel_rfl) (by decide) (by kernel_rfl) (fun _=>rfl) HC0 ?_;apply yN_
       ·apply dP [];exact fun _=>rfl;rfl;rintro vals - w1 hC1 E hE;simp only [sP] at hE ⊢;go_wp2;exact .mk (hE _ hC1)
       apply yN_
       ·apply dP [];exact fun _=>rfl;rfl;rintro vals ⟨-,-⟩ w1 hC1 E hE;simp only [sP] at hE ⊢;go_wp2;exact .mk (hE _ hC1)
       apply yN_
       ·apply dP [(0,some 37),(1,some 38)];exact fun _=>rfl;rfl;intro vals vq w1 hC1 E hE;simp only [sP,vq] at hE ⊢;clear vq;go_wp2;exact .mk (hE _ hC1)
       apply yN_
       ·apply dP [(2,some 39)];exact fun _=>rfl;rfl;intro vals vq w1 hC1 E hE;simp only [sP,vq] at hE ⊢;clear vq;go_wp2;exact .mk (hE _ hC1)
       apply yN_
       ·apply dP [(3,some 40)];exact fun _=>rfl;rfl;intro vals vq w1 hC1 E hE;have d0:=DX.out _ hC1;simp only [sP,vq] at hE ⊢;clear vq;go_wp2;exact .mk (hE _ hC1)
       apply yN_
       ·apply dP [];exact fun _=>rfl;rfl;intro vals vq w1 hC1 E hE;clear vq;simp only [sP] at hE ⊢;go_wp2;exact .mk (hE _ hC1)
       apply yN_
       ·apply dP [];exact fun _=>rfl;rfl;intro vals vq w1 hC1 E hE;clear vq;simp only [sP] at hE ⊢;go_wp2;exact .mk (hE _ hC1)
       apply yN_
       ·apply dP [(5,some 42),(6,some 43)];exact fun _=>rfl;rfl;intro vals vq w1 hC1 E hE;simp only [sP,vq] at hE ⊢;clear vq;go_wp2;exact .mk (hE _ hC1)
       apply yN_
       ·apply dP [(7,some 44)];exact fun _=>rfl;rfl;intro vals vq w1 hC1 E hE;have d0:=DA.out _ hC1;simp only [sP,vq] at hE ⊢;clear vq;go_wp2;exact .mk (hE _ hC1)
       apply yN_
       ·apply dP [(8,some 45)];exact fun _=>rfl;rfl;intro vals vq w1 hC1 E hE;simp only [sP,vq] at hE ⊢;clear vq;go_wp2;exact .mk (hE _ hC1)
       apply yN_
       ·apply dP [];exact fun _=>rfl;rfl;intro vals vq w1 hC1 E hE;clear vq;simp only [sP] at hE ⊢;go_wp2;exact .mk (hE _ hC1)
       apply yN_
       ·apply dP [];exact fun _=>rfl;rfl;intro vals vq w1 hC1 E hE;clear vq;simp only [sP] at hE ⊢;go_wp2;exact .mk (hE _ hC1)
       apply yN_
       ·apply dP [(10,some 47),(11,some 48)];exact fun _=>rfl;rfl;intro vals vq w1 hC1 E hE;simp only [sP,vq] at hE ⊢;clear vq;go_wp2;exact .mk (hE _ hC1)
       apply yN_
       ·apply dP [(12,some 49)];exact fun _=>rfl;rfl;intro vals vq w1 hC1 E hE;have d0:=DB.out _ hC1;simp only [sP,vq] at hE ⊢;clear vq;go_wp2;exact .mk (hE _ hC1)
       apply yN_
       ·apply dP [(13,some 50)];exact fun _=>rfl;rfl;intro vals vq w1 hC1 E hE;simp only [sP,vq] at hE ⊢;clear vq;go_wp2;exact .mk (hE _ hC1)
       apply yN_
       ·apply dP [(9,some 46),(14,some 51)];exact fun _=>rfl;rfl;intro vals vq w1 hC1 E hE;simp only [sP,vq] at hE ⊢;clear vq;go_wp2;exact .mk (hE _ hC1)
       apply yN_
       ·apply dP [(4,some 41),(15,some 52)];exact fun _=>rfl;rfl;intro vals vq w1 hC1 E hE;simp only [sP,vq] at hE ⊢;clear vq;go_wp2;exact .mk (hE _ hC1)
       apply yN_
       ·apply dP [(2,some 39),(0,some 37),(1,some 38),(2,some 39),(3,some 40),(4,some 41),(5,some 42),(6,some 43),(7,some 44),(8,some 45),(9,some 46),(10,some 47),(11,some 48),(12,some 49),(13,some 50),(14,some 51),(15,some 52),(16,some 53)];exact fun _=>rfl;rfl;intro vals vq w1 hC1 E hE;simp only [sP,vq] at hE ⊢;clear vq;go_wp2;exact .mk (hE _ hC1)
       apply yL_ (v:=undef)
       ·apply dP [(17,some 54),(16,some 53),(0,some 37),(1,some 38),(2,some 39),(3,some 40),(4,some 41),(5,some 42),(6,some 43),(7,some 44),(8,some 45),(9,some 46),(10,some 47),(11,some 48),(12,some 49),(13,some 50),(14,some 51),(15,some 52),(16,some 53)];exact fun _=>rfl;rfl;intro vals vq w1 hC1 E hE;have d0:=DX.out _ hC1;have q0:=hC1.x.free p;simp only [sP,vq] at hE ⊢;clear vq;go_wp2;refine .mk (hE _ (hC1.put (qah _ _ _ _) ?_));have h:=qaj (i:=p) hC1.x (.int .i64 r);rw [qck] at h;exact h
       intro vals vq w1 hC1;simp only [sP,vq];clear vq;have HW1:=zY hC1;clear HC0 hC1;go_wp2_with fail;exact ⟨⟨j+1,Y.set p r,HJ.out,by go_num,HSTEP.out,HW1.out⟩,by have:=HJ.out; simp [intOf]; omega⟩
      ·obtain rfl:j=32:=by omega
       have hrow:=hma.row (by rw [LB.out]; exact Nat.le_refl _) (Nat.le_refl _) (by rw [LA.out]; exact HLI.out);have HROW:=zY hrow;have HST:=zY hst;clear hrow hst hma;go_wp2_with fail;exact ⟨⟨i+1,Y,HLI.out,by go_num,HROW.out,HST.out⟩,by have:=HLI.out; simp [intOf]; omega⟩
    ·obtain rfl:i=32:=by omega
     obtain ⟨hbd,hval⟩:=hma.fin (by rw [LA.out]; exact Nat.le_refl _) (Nat.le_refl _);have hpost:=left_any X hma.len hbd g wr hst.x;have hlv:=left_val (left_ok hma.len hbd) hval;have HST:=zY hst;have HPOST:=zY hpost;have HVAL:=zY hlv;clear hst hpost hlv hma hbd hval;go_wp2_with fail;refine qaa HPOST.out ?_;rintro e w2 ⟨o,rfl,ho,hbk,hb2⟩;rw [HVAL.out] at hbk
     have HF:=zY (show w.heap.size≤o∧Blk w2 o 5 (bnV (digN 32 ((leV a*leV b+leV d)%LN))).toArray∧Below w.heap.size w w2 from
      ⟨Nat.le_trans HST.out.bel.size ho,hbk,HST.out.bel.trans (hb2.mono HST.out.lo)⟩)
     clear ho hbk hb2;go_wp2_with fail;go_ret;exact ⟨o,rfl,HF.out⟩
def DgPost (d:List UInt8) (u:World) (e:Ending) (w':World):Prop :=
 ∃ A c,e=.returned (.slice A 64 c)∧Rd w' w'.heap.size A (bytesV (Sh.digS Sh.F64 d))∧Below u.heap.size u w'
theorem dgPost {d:List UInt8} {u u0:World} {e:Ending} {w':World} (hb:Below u.heap.size u u0) (q:Sh.SumPost64 d u0 e w'):DgPost d u e w':=by
 obtain ⟨A,c,q1,q2,q3⟩:=q;exact ⟨A,c,q1,Rd.of_own (OwnX.of q2) (Nat.le_refl _),hb.trans (q3.mono hb.size)⟩
theorem dig2 (a b:List UInt8) (n:Nat) (la:a.length=32) (lb:b.length=n) (hn:n≤20000) (A B:Option Addr) (ca cb:Nat) (u:World) (ra:Rd u u.heap.size A (bytesV a)) (rb:Rd u u.heap.size B (bytesV b)) (hG:Sh.TabG u) :
  Calls Tryz.prog 20 #[.slice (some ⟨u.heap.size,0,none⟩) 2 2] (u.alloc (.cells #[.slice A 32 ca,.slice B n cb] 22)) (DgPost (a++b) u):=by
 have hb:=below_new u (.cells #[.slice A 32 ca,.slice B n cb] 22)
 have h:=qcH [a,b] [.slice A a.length ca,.slice B b.length cb] u.heap.size _ ⟨rfl,fun i x hi=>by
  match i with
  | 0=>injection hi with hi; subst hi; exact ⟨A,ca,rfl,qae ra hb⟩
  | 1=>injection hi with hi; subst hi; exact ⟨B,cb,rfl,qae rb hb⟩
  | i+2=>cases hi⟩ (by rw [la,lb]; exact Blk.new u _ _) (by simp; omega) (by show 2≤4; decide) (hG.below hb hG.size)
 rw [show [a,b].flatten=a++b by simp] at h;exact Calls.mono h fun e w' q=>dgPost hb q
theorem dig3 (a b d:List UInt8) (n:Nat) (la:a.length=32) (lb:b.length=32) (ld:d.length=n) (hn:n≤20000) (A B D:Option Addr) (ca cb cd:Nat) (u:World) (ra:Rd u u.heap.size A (bytesV a)) (rb:Rd u u.heap.size B (bytesV b)) (rd:Rd u u.heap.size D (bytesV d)) (hG:Sh.TabG u) :
  Calls Tryz.prog 20 #[.slice (some ⟨u.heap.size,0,none⟩) 3 3] (u.alloc (.cells #[.slice A 32 ca,.slice B 32 cb,.slice D n cd] 22)) (DgPost (a++b++d) u):=by
 have hb:=below_new u (.cells #[.slice A 32 ca,.slice B 32 cb,.slice D n cd] 22)
 have h:=qcH [a,b,d] [.slice A a.length ca,.slice B b.length cb,.slice D d.length cd] u.heap.size _ ⟨rfl,fun i x hi=>by
  match i with
  | 0=>injection hi with hi; subst hi; exact ⟨A,ca,rfl,qae ra hb⟩
  | 1=>injection hi with hi; subst hi; exact ⟨B,cb,rfl,qae rb hb⟩
  | 2=>injection hi with hi; subst hi; exact ⟨D,cd,rfl,qae rd hb⟩
  | i+3=>cases hi⟩ (by rw [la,lb,ld]; exact Blk.new u _ _) (by simp; omega) (by show 3≤4; decide) (hG.below hb hG.size)
 rw [show [a,b,d].flatten=a++b++d by simp] at h;exact Calls.mono h fun e w' q=>dgPost hb q
theorem bn_byB (N:Nat):bnV (digN 32 N)=bytesV (byB N):=by rw [← byN_dig,qcp (byN_lt N)]; rfl
def NbPost (R:List UInt8) (u:World) (e:Ending) (w':World):Prop :=
 ∃ o,e=.returned (.slice (some ⟨o,0,none⟩) 32 32)∧Rd w' w'.heap.size (some ⟨o,0,none⟩) (bytesV R)∧Below u.heap.size u w'
theorem nbPost {N:Nat} {u:World} {e:Ending} {w':World} (q:SclPost N u e w'):NbPost (byB N) u e w':=by
 obtain ⟨o,q1,q2,q3,q4⟩:=q;exact ⟨o,q1,by rw [← bn_byB]; exact Rd.of_blk q3 q3.lt,q4⟩
theorem qcG (d:List UInt8) (A:Option Addr) (c:Nat) (u:World) (hr:Rd u u.heap.size A (bytesV (Sh.digS Sh.F64 d))) :
  Calls Tryz.prog 19 #[.slice A 64 c] u (NbPost (byB (hshN d)) u):=by
 have hl:(digs (Sh.digS Sh.F64 d)).length=64:=by rw [digs,List.length_map,digS_len]
 have h:=scl_reduce (digs (Sh.digS Sh.F64 d)) (qca _) A c u (by rw [qbJ]; exact hr) (by rw [hl]; decide);rw [hl,List.take_of_length_le (by rw [hl]; decide)] at h;exact Calls.mono h fun e w' q=>nbPost q
theorem smuladd_any (H K R:List UInt8) (lh:H.length=32) (lk:K.length=32) (lr:R.length=32) (A B D:Option Addr) (ca cb cd:Nat) (u:World) (ra:Rd u u.heap.size A (bytesV H)) (rb:Rd u u.heap.size B (bytesV K)) (rd:Rd u u.heap.size D (bytesV R)) :
  Calls Tryz.prog 65 #[.slice A 32 ca,.slice B 32 cb,.slice D 32 cd] u (NbPost (byB ((leV (digs H)*leV (digs K)+leV (digs R))%LN)) u):=by
 have h:=scl_muladd (digs H) (digs K) (digs R) (qca _) (qca _) (qca _) (by rw [digs,List.length_map,lh]) (by rw [digs,List.length_map,lk]) (by rw [digs,List.length_map,lr]) A B D ca cb cd u
  (by rw [qbJ]; exact ra) (by rw [qbJ]; exact rb) (by rw [qbJ]; exact rd)
 exact Calls.mono h fun e w' q=>nbPost q
theorem own_blk {w:World} {o base:Nat} {e:TypeId} {xs:List Value} {n:Nat} (h:Blk w o e xs.toArray) (hl:xs.length=n) (hn:n≤9223372036854775807) (hb:base≤o):OwnZ w base e 1 (.slice (some ⟨o,0,none⟩) n n) n xs :=
 ⟨by rw [hl,Nat.mul_one],.inr ⟨o,n,xs.toArray,rfl,hb,h,Nat.le_refl _,by unfold maxLen; omega,by simp [hl],by simp [← hl]⟩⟩
def SsgPost (L:List UInt8) (w:World) (e:Ending) (w':World):Prop :=
 ∃ A c,e=.returned (.tuple #[.slice A 64 c,.int .i64 0])∧OwnZ w' w.heap.size 5 1 (.slice A 64 c) 64 (bytesV L)∧Below w.heap.size w w'
theorem ssign_any (b m:List UInt8) (lb:b.length=32) (lm:m.length≤20000) (A M:Option Addr) (c cm:Nat) (w:World) (rb:Rd w w.heap.size A (bytesV b)) (rm:Rd w w.heap.size M (bytesV m)) (hc:32≤c) (hG:Sh.TabG w) :
  Calls Tryz.prog 28 #[.slice A 32 c,.slice M m.length cm] w (SsgPost (sigB b m) w):=by
 obtain ⟨n,hn⟩:=eX (m.length);rw [← hn] at lm ⊢;obtain ⟨K,hK⟩:=eX (bsN ((secL b).take 32));have hKl:K.length=32:=by rw [hK]; exact keyB_len b
 have hkv:leV (digs K)=keyN b:=by rw [hK]; exact keyB_val b
 obtain ⟨F,hF⟩:=eX (prefB b);have hFl:F.length=32:=by rw [hF]; exact prefB_len b
 have CP:=zY (show ∀ u,Rd u u.heap.size A (bytesV b)→Sh.TabG u→Calls Tryz.prog 27 #[.slice A 32 c] u (SpuPost (pubL (keyN b)) u) from fun u h g=>qdV b lb A c u h hc g);have CS:=zY (show ∀ u,Rd u u.heap.size A (bytesV b)→Sh.TabG u→Calls Tryz.prog 64 #[.slice A 32 c] u (fun e w'=>∃ A c B d,e=.returned (.tuple #[.slice A 32 c,.slice B 32 d])∧32≤c∧32≤d∧Rd w' w'.heap.size A (bytesV K)∧Rd w' w'.heap.size B (bytesV F)∧Below u.heap.size u w') from fun u h g=>by rw [hK,hF]; exact ssec_any b lb A c u h hc g);have CD1:=zY (show ∀ u A B ca cb,Rd u u.heap.size A (bytesV F)→Rd u u.heap.size B (bytesV m)→Sh.TabG u→Calls Tryz.prog 20 #[.slice (some ⟨u.heap.size,0,none⟩) 2 2] (u.alloc (.cells #[.slice A 32 ca,.slice B n cb] 22)) (DgPost (F++m) u) from fun u A B ca cb h1 h2 g=>dig2 F m n hFl hn.symm lm A B ca cb u h1 h2 g);obtain ⟨R,hR⟩:=eX (byB (secN b m));have hRl:R.length=32:=by rw [hR,qbn]
 have hRv:leV (digs R)=secN b m:=by rw [hR]; exact qbI (hshN_lt _)
 have CR1:=zY (show ∀ u A c,Rd u u.heap.size A (bytesV (Sh.digS Sh.F64 (F++m)))→Calls Tryz.prog 19 #[.slice A 64 c] u (NbPost R u) from fun u A c h=>by
  have e:=qcG (F++m) A c u h;rw [show byB (hshN (F++m))=R by rw [hR,secN,hF,List.append_nil]] at e;exact e)
 obtain ⟨B,hB⟩:=eX baseP;obtain ⟨P,hP⟩:=eX (bmP R);have CB:=zY (show ∀ u,Calls Tryz.prog 21 #[] u (PtPost B u) from fun u=>by rw [hB]; exact base_any u);have CM:=zY (show ∀ A c u,Rd u u.heap.size A (bytesV R)→32≤c→Calls Tryz.prog 22 #[.agg (ptV B),.slice A 32 c] u (PtPost P u) from fun A c u h1 h2=>by rw [hB,hP]; exact bm_any R hRl A c u h1 h2);obtain ⟨T,hT⟩:=eX (ptB (secN b m));obtain ⟨U,hU⟩:=eX (ptB (keyN b));have hTl:T.length=32:=by rw [hT,ptB_len]
 have hUl:U.length=32:=by rw [hU,ptB_len]
 have hTb:bnV (pubL (secN b m))=bytesV T:=by rw [hT,ptB,qcp (pubL_dg _)]
 have hUb:bnV (pubL (keyN b))=bytesV U:=by rw [hU,ptB,qcp (pubL_dg _)]
 have CY:=zY (show ∀ u,Calls Tryz.prog 26 #[.agg (ptV P)] u (fun e w'=>∃ o,e=.returned (.slice (some ⟨o,0,none⟩) 32 32)∧u.heap.size≤o∧Blk w' o 5 (bytesV T).toArray∧Below u.heap.size u w') from fun u=>by
  have e:=bb_any R hRl u;rw [hRv,hTb,← hP] at e;exact e)
 have CD2:=zY (show ∀ u A B D ca cb cd,Rd u u.heap.size A (bytesV T)→Rd u u.heap.size B (bytesV U)→Rd u u.heap.size D (bytesV m)→Sh.TabG u→Calls Tryz.prog 20 #[.slice (some ⟨u.heap.size,0,none⟩) 3 3] (u.alloc (.cells #[.slice A 32 ca,.slice B 32 cb,.slice D n cd] 22)) (DgPost (T++U++m) u) from fun u A B D ca cb cd h1 h2 h3 g=>dig3 T U m n hTl hUl hn.symm lm A B D ca cb cd u h1 h2 h3 g);obtain ⟨H,hH⟩:=eX (byB (hshN (T++U++m)));have hHl:H.length=32:=by rw [hH,qbn]
 have hHv:leV (digs H)=hshN (T++U++m):=by rw [hH]; exact qbI (hshN_lt _)
 have CR2:=zY (show ∀ u A c,Rd u u.heap.size A (bytesV (Sh.digS Sh.F64 (T++U++m)))→Calls Tryz.prog 19 #[.slice A 64 c] u (NbPost H u) from fun u A c h=>by
  rw [hH]; exact qcG (T++U++m) A c u h)
 obtain ⟨S,hS⟩:=eX (byB (sigN b m));have hSl:S.length=32:=by rw [hS,qbn]
 have CA:=zY (show ∀ u Ah ch Ak ck Ar cr,Rd u u.heap.size Ah (bytesV H)→Rd u u.heap.size Ak (bytesV K)→Rd u u.heap.size Ar (bytesV R)→Calls Tryz.prog 65 #[.slice Ah 32 ch,.slice Ak 32 ck,.slice Ar 32 cr] u (NbPost S u) from fun u Ah ch Ak ck Ar cr h1 h2 h3=>by
  have h:=smuladd_any H K R hHl hKl hRl Ah Ak Ar ch ck cr u h1 h2 h3;rw [hHv,hkv,hRv,hT,hU,show byB ((hshN (ptB (secN b m)++ptB (keyN b)++m)*keyN b+secN b m)%LN)=S from hS.symm] at h;exact h)
 have hsig:bytesV (sigB b m)=bytesV T++bytesV S:=by rw [sigB,← hT,← hS,qaK]
 have RB:=zY rb;have RM:=zY rm;have HUB:=zY hUb;have HTL:=zY (show (bytesV T).length=32 by rw [qaq,hTl]);have HSL:=zY (show (bytesV S).length=32*1 by rw [qaq,hSl]);have HSG:=zY hsig;have HB:=zY (Below.refl w.heap.size w);have HG:=zY hG;clear rb rm hc hG lb lm hn hK hKl hkv hF hFl hR hRl hRv hB hP hT hU hTl hUl hTb hUb hH hHl hHv hS hSl hsig;go_enter Tryz.func28,Tryz.ntmps28;go_wp2_with fail;refine qaa (CP.out _ RB.out HG.out) ?_;rintro e w1 ⟨o1,rfl,ho1,hk1,hb⟩;rw [HUB.out] at hk1;replace HB:=zY (HB.out.trans (hb.mono HB.out.size));replace HG:=zY (HG.out.below hb HG.out.size);replace RB:=zY (qae RB.out hb);replace RM:=zY (qae RM.out hb);have RU:=zY (Rd.of_blk hk1 hk1.lt);clear ho1 hk1 hb;go_wp2_with fail;refine qaa (CS.out _ RB.out HG.out) ?_;rintro e w2 ⟨A1,c1,B1,d1,rfl,hc1,hd1,r1,r2,hb⟩;replace HB:=zY (HB.out.trans (hb.mono HB.out.size));replace HG:=zY (HG.out.below hb HG.out.size);replace RM:=zY (qae RM.out hb);replace RU:=zY (qae RU.out hb);have RK:=zY r1;have RF:=zY r2;clear r1 r2 hb hc1 hd1 RB;go_wp2_with fail;refine qaa (CD1.out _ _ _ _ _ RF.out RM.out HG.out) ?_;rintro e w3 ⟨A3,c3,rfl,r,hb⟩;replace HB:=zY (HB.out.trans (hb.mono HB.out.size));replace HG:=zY (HG.out.below hb HG.out.size);replace RM:=zY (qae RM.out hb);replace RU:=zY (qae RU.out hb);replace RK:=zY (qae RK.out hb);have RD:=zY r;clear r hb RF;go_wp2_with fail;refine qaa (CR1.out _ _ _ RD.out) ?_;rintro e w4 ⟨o4,rfl,r,hb⟩;replace HB:=zY (HB.out.trans (hb.mono HB.out.size));replace HG:=zY (HG.out.below hb HG.out.size);replace RM:=zY (qae RM.out hb);replace RU:=zY (qae RU.out hb);replace RK:=zY (qae RK.out hb);have RR:=zY r;clear r hb RD;go_wp2_with fail;refine qaa (CB.out _) ?_;rintro e w5 ⟨rfl,hb⟩;replace HB:=zY (HB.out.trans (hb.mono HB.out.size));replace HG:=zY (HG.out.below hb HG.out.size);replace RM:=zY (qae RM.out hb);replace RU:=zY (qae RU.out hb);replace RK:=zY (qae RK.out hb);replace RR:=zY (qae RR.out hb);clear hb;go_wp2_with fail;refine qaa (CM.out _ _ _ RR.out (Nat.le_refl _)) ?_;rintro e w6 ⟨rfl,hb⟩;replace HB:=zY (HB.out.trans (hb.mono HB.out.size));replace HG:=zY (HG.out.below hb HG.out.size);replace RM:=zY (qae RM.out hb);replace RU:=zY (qae RU.out hb);replace RK:=zY (qae RK.out hb);replace RR:=zY (qae RR.out hb);clear hb;go_wp2_with fail;refine qaa (CY.out _) ?_;rintro e w7 ⟨o7,rfl,ho7,hk7,hb⟩;have HO7:=zY (Nat.le_trans HB.out.size ho7);replace HB:=zY (HB.out.trans (hb.mono HB.out.size));replace HG:=zY (HG.out.below hb HG.out.size);replace RM:=zY (qae RM.out hb);replace RU:=zY (qae RU.out hb);replace RK:=zY (qae RK.out hb);replace RR:=zY (qae RR.out hb);have KT:=zY hk7;clear hk7 ho7 hb;go_wp2_with fail;refine qaa (CD2.out _ _ _ _ _ _ _ (Rd.of_blk KT.out KT.out.lt) RU.out RM.out HG.out) ?_;rintro e w8 ⟨A8,c8,rfl,r,hb⟩;replace HB:=zY (HB.out.trans (hb.mono HB.out.size));replace RK:=zY (qae RK.out hb);replace RR:=zY (qae RR.out hb);replace KT:=zY (KT.out.below hb KT.out.lt);have RD:=zY r;clear r hb RU RM HG;go_wp2_with fail;refine qaa (CR2.out _ _ _ RD.out) ?_;rintro e w9 ⟨o9,rfl,r,hb⟩;replace HB:=zY (HB.out.trans (hb.mono HB.out.size));replace RK:=zY (qae RK.out hb);replace RR:=zY (qae RR.out hb);replace KT:=zY (KT.out.below hb KT.out.lt);have RH:=zY r;clear r hb RD;go_wp2_with fail;refine qaa (CA.out _ _ _ _ _ _ _ RH.out RK.out RR.out) ?_;rintro e w10 ⟨o10,rfl,r,hb⟩;replace HB:=zY (HB.out.trans (hb.mono HB.out.size));replace KT:=zY (KT.out.below hb KT.out.lt);have RS:=zY r;have HOW:=zY (own_blk KT.out HTL.out (by decide) HO7.out);clear r hb RH RK RR;go_wp2_with (refine qb1 (m:=32) sl_bytes rfl rfl HOW.out rfl rfl HSL.out (by decide) RS.out (qb7 S) (by unfold maxLen; omega) (by omega) HB.out.size ?_; intro A11 c11 w11 hown11 hg11; have HOWN:=zY hown11; have HB11:Hid (Below w.heap.size w w11):=zY (qaT HB.out HOW.out.x HB.out.size hg11); clear hown11 hg11);go_ret2;exact ⟨A11,c11,rfl,by rw [HSG.out]; exact HOWN.out,HB11.out⟩
theorem Rd.val {w:World} {B:Nat} {ad:Addr} {xs:List Value} (h:Rd w B (some ad) xs) {k:Nat} {v:Value} (hv:xs[k]?=some v):w.cell? (ad.add k)=some v:=by
 obtain ⟨ad',e,_,hc⟩:=h k v hv
 injection e with e
 subst e;exact hc
theorem Rd.val0 {w:World} {B:Nat} {ad:Addr} {xs:List Value} (h:Rd w B (some ad) xs) {v:Value} (hv:xs[0]?=some v):w.cell? ad=some v:=by
 have:=h.val hv
 rwa [show ad.add 0=ad by unfold Addr.add; simp] at this
theorem Rd.lit {w:World} {B:Nat} {ad:Addr} {xs:List Value} (h:Rd w B (some ad) xs) {k:Nat} {v:Value} (hv:xs[k]?=some v) (hk:k≠0):w.cell? ⟨ad.block,ad.off+k,none⟩=some v:=by
 have:=h.val hv
 rwa [show ad.add k=⟨ad.block,ad.off+k,none⟩ by unfold Addr.add; simp [hk]] at this
theorem OwnX.ptr {w:World} {base e n c:Nat} {A:Option Addr} {xs:List Value} (h:OwnX w base e 1 (.slice A n c) n xs) (hn:0<n):∃ g,A=some ⟨g,0,none⟩∧base≤g∧g<w.heap.size:=by
 have hl:=h.lt
 rcases h.2 with ⟨_,h0⟩ | ⟨g,cap,cur,fz,hv,hb,hg,_⟩
 ·omega
 ·injection hv with h1
  subst h1;exact ⟨g,rfl,hb,(Array.getElem?_eq_some_iff.1 hg).1⟩
theorem OwnX.atN {w:World} {base e n c g i:Nat} {xs:List Value} {v:Value} (h:OwnX w base e 1 (.slice (some ⟨g,0,none⟩) n c) n xs) (hv:xs[i]?=some v):w.cell? ⟨g,i,none⟩=some v:=by
 have:=h.cells (g:=g) rfl i v hv
 rwa [Addr.add_lit,Nat.zero_add] at this
structure EqSt (w0:World) (A1 A2:Option Addr) (l1 l2:List UInt8) (u:World):Prop where
 bel:Below w0.heap.size w0 u
 r1:Rd u w0.heap.size A1 (bytesV l1)
 r2:Rd u w0.heap.size A2 (bytesV l2)
theorem EqSt.drew {w0 u:World} {A1 A2:Option Addr} {l1 l2:List UInt8} (h:EqSt w0 A1 A2 l1 l2 u):EqSt w0 A1 A2 l1 l2 u.drew :=
 ⟨h.bel.drew,h.r1.below (Below.refl _ _).drew,h.r2.below (Below.refl _ _).drew⟩
theorem take_eq_iff {l1 l2:List UInt8} {k:Nat} (h1:k<l1.length) (h2:k<l2.length):l1.take (k+1)=l2.take (k+1)↔l1.take k=l2.take k∧l1[k]=l2[k]:=by
 rw [List.take_succ_eq_append_getElem h1,List.take_succ_eq_append_getElem h2]
 constructor
 ·intro h;have:=List.append_inj h (by rw [List.length_take,List.length_take]; omega);exact ⟨this.1,by simpa using this.2⟩
 ·rintro ⟨e1,e2⟩;rw [e1,e2]
theorem xor_zero (p q:Nat):p ^^^ q=0↔p=q:=by
 constructor
 ·intro h;apply Nat.eq_of_testBit_eq;intro i;have:=congrArg (·.testBit i) h
  simpa [Nat.testBit_xor] using this
 ·rintro rfl;exact Nat.xor_self _
theorem step_zero (x p q:Nat):(x ||| (p ^^^ q))=0↔x=0∧p=q:=by
 rw [Nat.or_eq_zero_iff,xor_zero]
theorem bequal_any (l1 l2:List UInt8) (A1 A2:Option Addr) (c1 c2:Nat) (w:World) (h1:Rd w w.heap.size A1 (bytesV l1)) (h2:Rd w w.heap.size A2 (bytesV l2)) (hc1:l1.length≤c1) (hc2:l2.length≤c2) (hl1:l1.length≤1000) :
  Calls Tryz.prog 25 #[.slice A1 l1.length c1,.slice A2 l2.length c2] w fun e w'=>e=.returned (.bool (decide (l1=l2)))∧Below w.heap.size w w':=by
 by_cases hlen:l1.length=l2.length
 ·have hst0:EqSt w A1 A2 l1 l2 w:=⟨Below.refl _ _,h1,h2⟩;obtain ⟨n,hn⟩:=eX (l1.length);rw [← hlen,← hn];have hn2:l2.length=n:=by omega
  have hn1:n≤1000:=by omega
  have HST0:=zY hst0;have HN:=zY hn;have HN2:=zY hn2;rw [← hn] at hc1;rw [hn2] at hc2;clear h1 h2 hlen hst0 hn hn2 hl1;go_enter Tryz.func25,Tryz.ntmps25;go_wp2_with fail
  go_loopw [5,14] (fun v i wr=>∃ k x:Nat,k≤n∧i=.int .i64 k∧v=.int .u8 x∧x<256∧(x=0↔l1.take k=l2.take k)∧EqSt w A1 A2 l1 l2 wr) (fun _ i _=>n - (intOf i).toNat)
  case atStart=>exact ⟨0,0,Nat.zero_le _,rfl,rfl,by decide,by simp,HST0.out⟩
  case round =>
   clear HST0;obtain ⟨k,x,hk,rfl,rfl,hx,hiff,hst⟩:=hrel
   by_cases hlt:k<n
   ·have hlt':(k:Int)<(n:Int):=by omega
    have hk1:k<l1.length:=by rw [← HN.out]; exact hlt
    have hk2:k<l2.length:=by rw [HN2.out]; exact hlt
    obtain ⟨ad1,rfl,hz1,hz2⟩:=hst.r1.at_ (k:=k) (by rw [qaq]; exact hk1);obtain ⟨ad2,rfl,hz3,hz4⟩:=hst.r2.at_ (k:=k) (by rw [qaq]; exact hk2);obtain ⟨p,hp⟩:=eX ((l1[k]).toNat);obtain ⟨q,hq⟩:=eX ((l2[k]).toNat);have hpl:p<256:=by rw [hp]; exact (l1[k]).toNat_lt
    have hql:q<256:=by rw [hq]; exact (l2[k]).toNat_lt
    have e1:(bytesV l1)[k]?=some (.int .u8 (p:Int)):=by rw [bytesV,List.getElem?_map,List.getElem?_eq_getElem hk1,hp]; rfl
    have e2:(bytesV l2)[k]?=some (.int .u8 (q:Int)):=by rw [bytesV,List.getElem?_map,List.getElem?_eq_getElem hk2,hq]; rfl
    obtain ⟨pq,hpq⟩:=eX (p ^^^ q);obtain ⟨xn,hxn⟩:=eX (x ||| pq);have hpql:pq<256:=by rw [hpq]; exact Nat.xor_lt_two_pow (n:=8) hpl hql
    have hxnl:xn<256:=by rw [hxn]; exact Nat.or_lt_two_pow (n:=8) hx hpql
    have hin:xn=0↔l1.take (k+1)=l2.take (k+1):=by
     rw [hxn,hpq,step_zero,take_eq_iff hk1 hk2,hiff,hp,hq];exact and_congr_right fun _=>UInt8.toNat_inj
    have E1:=zY e1;have E2:=zY e2;have HPL:=zY hpl;have HQL:=zY hql;have HX:=zY hx;have HPQL:=zY hpql;have HPQ:=zY hpq;have HXN:=zY hxn;have HXNL:=zY hxnl;have HIN:=zY hin;have HC0:=hst.drew;clear hz1 hz2 hz3 hz4 hp hq hpl hql e1 e2 hpq hxn hpql hxnl hin hx hiff hst hk1 hk2;go_wp2_with fail;refine qal (fun u=>EqSt w (some ad1) (some ad2) l1 l2 u) (fun u=>EqSt w (some ad1) (some ad2) l1 l2 u) [(0,some 17),(1,some 18),(2,some 19),(3,some 20),(4,some 21),(5,some 22),(6,some 23),(7,some 24),(8,some 25),(9,some 26),(10,some 27),(11,some 5)] (by kernel_rfl) (by kernel_rfl) (by decide) (by kernel_rfl) (fun _=>rfl) HC0 ?_;apply yN_
    ·apply dP [];exact fun _=>rfl;rfl;rintro vals - w1 hC1 E hE;simp only [sP] at hE ⊢;go_wp2;exact .mk (hE _ hC1)
    apply yN_
    ·apply dP [];exact fun _=>rfl;rfl;rintro vals ⟨-,-⟩ w1 hC1 E hE;simp only [sP] at hE ⊢;go_wp2;exact .mk (hE _ hC1)
    apply yN_
    ·apply dP [];exact fun _=>rfl;rfl;intro vals vq w1 hC1 E hE;clear vq;simp only [sP] at hE ⊢;go_wp2;exact .mk (hE _ hC1)
    apply yN_
    ·apply dP [(1,some 18),(2,some 19)];exact fun _=>rfl;rfl;intro vals vq w1 hC1 E hE;simp only [sP,vq] at hE ⊢;clear vq;go_wp2;exact .mk (hE _ hC1)
    apply yN_
    ·apply dP [(3,some 20)];exact fun _=>rfl;rfl;intro vals vq w1 hC1 E hE;have d0:=hC1.r1.val E1.out;simp only [sP,vq] at hE ⊢;clear vq;go_wp2;exact .mk (hE _ hC1)
    apply yN_
    ·apply dP [];exact fun _=>rfl;rfl;intro vals vq w1 hC1 E hE;clear vq;simp only [sP] at hE ⊢;go_wp2;exact .mk (hE _ hC1)
    apply yN_
    ·apply dP [];exact fun _=>rfl;rfl;intro vals vq w1 hC1 E hE;clear vq;simp only [sP] at hE ⊢;go_wp2;exact .mk (hE _ hC1)
    apply yN_
    ·apply dP [(5,some 22),(6,some 23)];exact fun _=>rfl;rfl;intro vals vq w1 hC1 E hE;simp only [sP,vq] at hE ⊢;clear vq;go_wp2;exact .mk (hE _ hC1)
    apply yN_
    ·apply dP [(7,some 24)];exact fun _=>rfl;rfl;intro vals vq w1 hC1 E hE;have d0:=hC1.r2.val E2.out;simp only [sP,vq] at hE ⊢;clear vq;go_wp2;exact .mk (hE _ hC1)
    apply yN_
    ·apply dP [(4,some 21),(8,some 25)];exact fun _=>rfl;rfl;intro vals vq w1 hC1 E hE;simp only [sP,vq] at hE ⊢;clear vq;go_wp2;rw [xor8 p q HPL.out HQL.out,← HPQ.out];exact .mk (hE _ hC1)
    apply yN_
    ·apply dP [(0,some 17),(9,some 26)];exact fun _=>rfl;rfl;intro vals vq w1 hC1 E hE;simp only [sP,vq] at hE ⊢;clear vq;go_wp2;rw [or8 x pq HX.out HPQL.out,← HXN.out];exact .mk (hE _ hC1)
    apply yL_
    ·apply dP [(10,some 27),(0,some 17),(1,some 18),(2,some 19),(3,some 20),(4,some 21),(5,some 22),(6,some 23),(7,some 24),(8,some 25),(9,some 26),(10,some 27)];exact fun _=>rfl;rfl;intro vals vq w1 hC1 E hE;simp only [sP,vq] at hE ⊢;clear vq;go_wp2;exact .mk (hE _ hC1)
    intro vals vq w1 hC1;simp only [sP,vq];clear vq;clear HC0;have HC1:=zY hC1;clear hC1;go_wp2_with fail;exact ⟨⟨k+1,xn,by omega,by go_num,rfl,HXNL.out,HIN.out,HC1.out⟩,by simp [intOf]; omega⟩
   ·obtain rfl:k=n:=by omega
    rw [List.take_of_length_le (by rw [HN.out]; exact Nat.le_refl _),List.take_of_length_le (by rw [HN2.out]; exact Nat.le_refl _)] at hiff;have HIFF:=zY hiff;have HST:=zY hst;clear hiff hst;go_wp2_with fail;go_ret;refine ⟨qdy ?_,HST.out.bel⟩;rw [Bool.eq_iff_iff];have:=HIFF.out;simp;exact this
 ·have hne:((l1.length:Int) != (l2.length:Int))=true:=by rw [bne_iff_ne]; omega
  have hd:decide (l1=l2)=false:=decide_eq_false (fun e=>hlen (by rw [e]));rw [hd];have hne2:¬ l1.length=l2.length:=hlen;clear h1 h2 hlen hd;go_enter Tryz.func25,Tryz.ntmps25;go_wp2;go_ret;exact ⟨rfl,Below.refl _ _⟩
theorem is_same (b:List UInt8) (h:b.length=32):(bsN (digN 32 (leV (digs b)%LN)) == b)=decide (leV (digs b)<LN):=by
 rw [Bool.eq_iff_iff,beq_iff_eq,decide_eq_true_iff]
 constructor
 ·intro h1;have h2:=qdL (qaE 32 (leV (digs b)%LN));rw [h1] at h2;rw [h2,qaQ _ _ (Nat.lt_of_lt_of_le (Nat.mod_lt _ ln_pos) (by decide))];exact Nat.mod_lt _ ln_pos
 ·intro h1;apply digs_inj;rw [qdL (qaE _ _),Nat.mod_eq_of_lt h1];exact (qcb (qca b) (by rw [digs,List.length_map,h]) rfl).symm
def isB (b:List UInt8):Bool:=decide (b.length=32) && decide (leV (digs b)<LN)
theorem scl_is (b:List UInt8) (A:Option Addr) (c:Nat) (w:World) (hr:Rd w w.heap.size A (bytesV b)) (hl:b.length≤1000000) :
  Calls Tryz.prog 18 #[.slice A b.length c] w (BoolPost (isB b) w):=by
 by_cases h32:b.length=32
 ·rw [isB,decide_eq_true h32,Bool.true_and,h32];obtain ⟨R,hR⟩:=eX (bsN (digN 32 (leV (digs b)%LN)));have hRl:R.length=32:=by rw [hR,bsN,List.length_map,qai]
  have hsame:=is_same b h32;rw [← hR] at hsame
  have hC:∀ u,Below w.heap.size w u→Calls Tryz.prog 19 #[.slice A 32 c] u (fun e w'=>∃ o,e=.returned (.slice (some ⟨o,0,none⟩) 32 32)∧Blk w' o 5 (bytesV R).toArray∧Below u.heap.size u w'):=fun u hu=>by
   have h:=scl_reduce (digs b) (qca b) A c u (by rw [qbJ]; exact (hr.below hu).mono hu.size) (by rw [digs,List.length_map]; exact hl);rw [show (digs b).length=32 by rw [digs,List.length_map,h32],List.take_of_length_le (by rw [digs,List.length_map,h32]; decide)] at h;refine Calls.mono h fun e w' hq=>?_;obtain ⟨o,he,_,hb,hbel⟩:=hq;refine ⟨o,he,?_,hbel⟩;rw [hR,← qcp (qaE _ _)];exact hb
  rw [← hsame];have HC:=zY hC;have HRL:=zY hRl;have HR:=zY hr;have HL:=zY h32;clear hC hRl hr hl h32 hsame hR;go_enter Tryz.func18,Tryz.ntmps18;go_wp2_with fail;have HC0:Below w.heap.size w w.drew:=(Below.refl _ _).drew
  refine qar (fun u=>Below w.heap.size w u) (fun | false=>(fun _=>True) | true=>(fun _=>True)) (fun | false,_=>false | true,_=>false)
   [fun z _=>z 0=.slice A 32 c,
    fun z _=>z 1=.int .i64 32,
    fun z _=>z 2=.bool true,
    fun z _=>z 3=.bool true,
    fun z _=>z 4=.slice A 32 c,
    fun z u=>∃ o2,z 5=.slice (some ⟨o2,0,none⟩) 32 32∧Blk u o2 5 (bytesV R).toArray,
    fun z _=>z 6=.string ⟨R.toArray⟩,
    fun z _=>z 7=.slice A 32 c,
    fun z _=>z 8=.string ⟨b.toArray⟩,
    fun z _=>z 9=.bool (R == b),
    fun z _=>z 10=.bool (R == b),
    fun z _=>z 11=.bool (R == b)]
   [Eq,Eq,Eq,Eq,Eq,fun u u'=>Below u.heap.size u u',Eq,Eq,Eq,Eq,Eq,Eq]
   (fun _ _=>false) [(0,some 3),(1,some 4),(2,some 5),(3,some 6),(4,some 7),(5,some 8),(6,some 9),(7,some 10),(8,some 11),(9,some 12),(10,some 13),(11,some 2)] (by kernel_rfl) (by kernel_rfl) rfl (fun _=>rfl) ?_ ?_ ?_ ?_ ?_ ?_
  ·exact HC0
  ·intro m; cases m; exact trivial; exact trivial
  ·intro m; cases m
   ·refine ⟨?_,?_,?_,?_,?_,.inr (fun _ _ _ h=>h),?_,?_,?_,?_,?_,?_,trivial⟩ <;> exact .inr fun _ _ h h0=>h▸h0
   ·refine ⟨?_,?_,?_,?_,?_,.inr (fun _ _ _ h=>h),?_,?_,?_,?_,?_,?_,trivial⟩ <;> exact .inr fun _ _ h h0=>h▸h0
  ·refine ⟨⟨.inl rfl,?_,?_,?_,?_,?_,?_,?_,?_,?_,?_,?_,trivial⟩,⟨?_,.inl rfl,?_,?_,?_,?_,?_,?_,?_,?_,?_,?_,trivial⟩,⟨?_,?_,.inl rfl,?_,?_,?_,?_,?_,?_,?_,?_,?_,trivial⟩,⟨?_,?_,?_,.inl rfl,?_,?_,?_,?_,?_,?_,?_,?_,trivial⟩,⟨?_,?_,?_,?_,.inl rfl,?_,?_,?_,?_,?_,?_,?_,trivial⟩,⟨?_,?_,?_,?_,?_,.inl rfl,?_,?_,?_,?_,?_,?_,trivial⟩,⟨?_,?_,?_,?_,?_,?_,.inl rfl,?_,?_,?_,?_,?_,trivial⟩,⟨?_,?_,?_,?_,?_,?_,?_,.inl rfl,?_,?_,?_,?_,trivial⟩,⟨?_,?_,?_,?_,?_,?_,?_,?_,.inl rfl,?_,?_,?_,trivial⟩,⟨?_,?_,?_,?_,?_,?_,?_,?_,?_,.inl rfl,?_,?_,trivial⟩,⟨?_,?_,?_,?_,?_,?_,?_,?_,?_,?_,.inl rfl,?_,trivial⟩,⟨?_,?_,?_,?_,?_,?_,?_,?_,?_,?_,?_,.inl rfl,trivial⟩,trivial⟩ <;> first | exact .inr (.inr (.inl rfl)) | exact .inr (.inr (.inr fun _ _ _ _ _ h=>h)) | exact .inr (.inr (.inr fun _ _ _ _ h h0=>by cases h; exact h0))
  ·refine ⟨?_,?_,?_,?_,?_,?_,?_,?_,?_,?_,?_,?_,trivial⟩
   ·refine qac [] (fun _=>rfl) rfl ?_;intro w1 vals hC1 hi0 hf E hE;clear hi0;clear hf;simp only [sP] at hE ⊢;go_wp2;exact .mk (hE _ _ rfl hC1 rfl)
   ·refine qac [(0,some 3)] (fun _=>rfl) rfl ?_;intro w1 vals hC1 hi0 hf E hE;clear hi0;have f0:vals 0=_:=hf 0 rfl
    try dsimp only at f0
    clear hf;simp only [sP,f0] at hE ⊢;clear f0;go_wp2;exact .mk (hE _ _ rfl hC1 rfl)
   ·refine qac [(1,some 4)] (fun _=>rfl) rfl ?_;intro w1 vals hC1 hi0 hf E hE;clear hi0;have f1:vals 1=_:=hf 1 rfl
    try dsimp only at f1
    clear hf;simp only [sP,f1] at hE ⊢;clear f1;go_wp2;exact .mk (hE _ _ rfl hC1 rfl)
   ·refine qac [(2,some 5)] (fun _=>rfl) rfl ?_;intro w1 vals hC1 hi0 hf E hE;clear hi0;have f2:vals 2=_:=hf 2 rfl
    try dsimp only at f2
    clear hf;simp only [sP,f2] at hE ⊢;clear f2;go_wp2;exact .mk (hE _ _ rfl hC1 rfl)
   ·refine qbO [(3,some 6)] (fun _=>rfl) 3 6 true rfl rfl ?_ ?_
    ·intro w1 vals hC1 hi0 hf hy E hE;dsimp only at hE ⊢;clear hi0;have f3:vals 3=_:=hf 3 rfl
     try dsimp only at f3
     clear hf;clear hy;simp only [sP,f3] at hE ⊢;clear f3;go_wp2;exact .mk (hE _ _ rfl hC1 rfl)
    ·intro w1 vals hC1 hi0 hf hy;clear hi0;have f3:vals 3=_:=hf 3 rfl
     try dsimp only at f3
     clear hf;exact absurd (by simp only [sP,f3]; rfl) hy
   ·refine qbO [(4,some 7),(3,some 6),(3,some 6)] (fun _=>rfl) 3 6 true rfl rfl ?_ ?_
    ·intro w1 vals hC1 hi0 hf hy E hE;dsimp only at hE ⊢;clear hi0;have f3:vals 3=_:=hf 3 rfl;have f4:vals 4=_:=hf 4 rfl
     try dsimp only at f3 f4
     clear hf;clear hy;simp only [sP,f3,f4] at hE ⊢;clear f3 f4;go_wp2_with fail;refine qaa (HC.out _ hC1) ?_;rintro e w2 ⟨o2,rfl,hblk,hb2⟩;go_wp2_with fail;exact .mk (hE _ _ ⟨o2,rfl,hblk⟩ (hC1.trans (hb2.mono hC1.size)) hb2)
    ·intro w1 vals hC1 hi0 hf hy;clear hi0;have f3:vals 3=_:=hf 3 rfl;have f4:vals 4=_:=hf 4 rfl
     try dsimp only at f3 f4
     clear hf;exact absurd (by simp only [sP,f3]; rfl) hy
   ·refine qbO [(5,some 8),(3,some 6)] (fun _=>rfl) 3 6 true rfl rfl ?_ ?_
    ·intro w1 vals hC1 hi0 hf hy E hE;dsimp only at hE ⊢;clear hi0;have f3:vals 3=_:=hf 3 rfl;have f5:(fun z u=>∃ o2,z 5=.slice (some ⟨o2,0,none⟩) 32 32∧Blk u o2 5 (bytesV R).toArray) vals w1:=hf 5 rfl
     try dsimp only at f3 f5
     clear hf;clear hy;obtain ⟨o2,hx,hblk⟩:=f5;simp only [sP,f3,hx] at hE ⊢;clear f3;clear hx;refine qa1 (l:=R) (Rd.of_blk hblk hblk.lt) Tryz.underlying22 Tryz.underlying5 Tryz.underlying9 rfl rfl (by rw [HRL.out]; rfl) ?_;go_wp2_with fail;exact .mk (hE _ _ rfl hC1 rfl)
    ·intro w1 vals hC1 hi0 hf hy;clear hi0;have f3:vals 3=_:=hf 3 rfl;have f5:(fun z u=>∃ o2,z 5=.slice (some ⟨o2,0,none⟩) 32 32∧Blk u o2 5 (bytesV R).toArray) vals w1:=hf 5 rfl
     try dsimp only at f3 f5
     clear hf;exact absurd (by simp only [sP,f3]; rfl) hy
   ·refine qbO [(3,some 6)] (fun _=>rfl) 3 6 true rfl rfl ?_ ?_
    ·intro w1 vals hC1 hi0 hf hy E hE;dsimp only at hE ⊢;clear hi0;have f3:vals 3=_:=hf 3 rfl
     try dsimp only at f3
     clear hf;clear hy;simp only [sP,f3] at hE ⊢;clear f3;go_wp2;exact .mk (hE _ _ rfl hC1 rfl)
    ·intro w1 vals hC1 hi0 hf hy;clear hi0;have f3:vals 3=_:=hf 3 rfl
     try dsimp only at f3
     clear hf;exact absurd (by simp only [sP,f3]; rfl) hy
   ·refine qbO [(7,some 10),(3,some 6)] (fun _=>rfl) 3 6 true rfl rfl ?_ ?_
    ·intro w1 vals hC1 hi0 hf hy E hE;dsimp only at hE ⊢;clear hi0;have f3:vals 3=_:=hf 3 rfl;have f7:vals 7=_:=hf 7 rfl
     try dsimp only at f3 f7
     clear hf;clear hy;simp only [sP,f3,f7] at hE ⊢;clear f3 f7;refine qa1 (l:=b) (HR.out.below hC1) Tryz.underlying22 Tryz.underlying5 Tryz.underlying9 rfl rfl (by rw [HL.out]; rfl) ?_;go_wp2_with fail;exact .mk (hE _ _ rfl hC1 rfl)
    ·intro w1 vals hC1 hi0 hf hy;clear hi0;have f3:vals 3=_:=hf 3 rfl;have f7:vals 7=_:=hf 7 rfl
     try dsimp only at f3 f7
     clear hf;exact absurd (by simp only [sP,f3]; rfl) hy
   ·refine qbO [(6,some 9),(8,some 11),(3,some 6)] (fun _=>rfl) 3 6 true rfl rfl ?_ ?_
    ·intro w1 vals hC1 hi0 hf hy E hE;dsimp only at hE ⊢;clear hi0;have f3:vals 3=_:=hf 3 rfl;have f6:vals 6=_:=hf 6 rfl;have f8:vals 8=_:=hf 8 rfl
     try dsimp only at f3 f6 f8
     clear hf;clear hy;simp only [sP,f3,f6,f8] at hE ⊢;clear f3 f6 f8;go_wp2;exact .mk (hE _ _ rfl hC1 rfl)
    ·intro w1 vals hC1 hi0 hf hy;clear hi0;have f3:vals 3=_:=hf 3 rfl;have f6:vals 6=_:=hf 6 rfl;have f8:vals 8=_:=hf 8 rfl
     try dsimp only at f3 f6 f8
     clear hf;exact absurd (by simp only [sP,f3]; rfl) hy
   ·refine qac [(3,some 6),(9,some 12)] (fun _=>rfl) rfl ?_;intro w1 vals hC1 hi0 hf E hE;clear hi0;have f3:vals 3=_:=hf 3 rfl;have f9:vals 9=_:=hf 9 rfl
    try dsimp only at f3 f9
    clear hf;simp only [sP,f3,f9] at hE ⊢;clear f3 f9;go_wp2;exact .mk (hE _ _ rfl hC1 rfl)
   ·refine qac [(10,some 13),(5,some 8),(0,some 3),(1,some 4),(2,some 5),(3,some 6),(4,some 7),(5,some 8),(6,some 9),(7,some 10),(8,some 11),(9,some 12),(10,some 13)] (fun _=>rfl) rfl ?_;intro w1 vals hC1 hi0 hf E hE;clear hi0;have f0:vals 0=_:=hf 0 rfl;have f1:vals 1=_:=hf 1 rfl;have f2:vals 2=_:=hf 2 rfl;have f3:vals 3=_:=hf 3 rfl;have f4:vals 4=_:=hf 4 rfl;have f5:(fun z u=>∃ o2,z 5=.slice (some ⟨o2,0,none⟩) 32 32∧Blk u o2 5 (bytesV R).toArray) vals w1:=hf 5 rfl;have f6:vals 6=_:=hf 6 rfl;have f7:vals 7=_:=hf 7 rfl;have f8:vals 8=_:=hf 8 rfl;have f9:vals 9=_:=hf 9 rfl;have f10:vals 10=_:=hf 10 rfl
    try dsimp only at f0 f1 f2 f3 f4 f5 f6 f7 f8 f9 f10
    clear hf;simp only [sP,f0,f1,f2,f3,f4,f6,f7,f8,f9,f10] at hE ⊢;clear f0 f1 f2 f3 f4 f6 f7 f8 f9 f10;go_wp2;exact .mk (hE _ _ rfl hC1 rfl)
  intro w1 vals hC1 hf;have f0:vals 0=_:=hf 0 (by decide) rfl;have f1:vals 1=_:=hf 1 (by decide) rfl;have f2:vals 2=_:=hf 2 (by decide) rfl;have f3:vals 3=_:=hf 3 (by decide) rfl;have f4:vals 4=_:=hf 4 (by decide) rfl;have f5:(fun z u=>∃ o2,z 5=.slice (some ⟨o2,0,none⟩) 32 32∧Blk u o2 5 (bytesV R).toArray) vals w1:=hf 5 (by decide) rfl;have f6:vals 6=_:=hf 6 (by decide) rfl;have f7:vals 7=_:=hf 7 (by decide) rfl;have f8:vals 8=_:=hf 8 (by decide) rfl;have f9:vals 9=_:=hf 9 (by decide) rfl;have f10:vals 10=_:=hf 10 (by decide) rfl;have f11:vals 11=_:=hf 11 (by decide) rfl
  try dsimp only at f0 f1 f2 f3 f4 f5 f6 f7 f8 f9 f10 f11
  clear hf;simp only [sP,f0,f1,f2,f3,f4,f6,f7,f8,f9,f10,f11];clear f0 f1 f2 f3 f4 f6 f7 f8 f9 f10 f11;generalize vals 5=x5 at *;clear HC0 f5;go_wp2_with fail;go_ret;exact ⟨rfl,hC1⟩
 ·rw [isB,decide_eq_false h32,Bool.false_and];obtain ⟨n,hn⟩:=eX (b.length);have hn32:((n:Int) == 32)=false:=by rw [beq_eq_false_iff_ne]; omega
  rw [← hn];clear hn h32 hr;go_enter Tryz.func18,Tryz.ntmps18;go_wp2_with fail;have HC0:Below w.heap.size w w.drew:=(Below.refl _ _).drew;refine qal (fun u=>Below w.heap.size w u) (fun u=>Below w.heap.size w u) [(0,some 3),(1,some 4),(2,some 5),(3,some 6),(4,some 7),(5,some 8),(6,some 9),(7,some 10),(8,some 11),(9,some 12),(10,some 13),(11,some 2)] (by kernel_rfl) (by kernel_rfl) (by decide) (by kernel_rfl) (fun _=>rfl) HC0 ?_;apply yN_
  ·apply dP [];exact fun _=>rfl;rfl;rintro vals - w1 hC1 E hE;simp only [sP] at hE ⊢;go_wp2;exact .mk (hE _ hC1)
  apply yN_
  ·apply dP [(0,some 3)];exact fun _=>rfl;rfl;intro vals vq w1 hC1 E hE;simp only [sP,vq] at hE ⊢;clear vq;go_wp2;exact .mk (hE _ hC1)
  apply yN_
  ·apply dP [(1,some 4)];exact fun _=>rfl;rfl;intro vals vq w1 hC1 E hE;simp only [sP,vq] at hE ⊢;clear vq;go_wp2;exact .mk (hE _ hC1)
  apply yN_
  ·apply dP [(2,some 5)];exact fun _=>rfl;rfl;intro vals vq w1 hC1 E hE;simp only [sP,vq] at hE ⊢;clear vq;go_wp2;exact .mk (hE _ hC1)
  apply yN_ (v:=undef)
  ·refine qbP [(3,some 6)] (fun _=>rfl) 3 6 true rfl rfl ?_ (fun _ h=>h);intro vals vq;simp only [sP,vq];rfl
  apply yN_ (v:=undef)
  ·refine qbP [(4,some 7),(3,some 6),(3,some 6)] (fun _=>rfl) 3 6 true rfl rfl ?_ (fun _ h=>h);intro vals vq;simp only [sP,vq];rfl
  apply yN_ (v:=undef)
  ·refine qbP [(5,some 8),(3,some 6)] (fun _=>rfl) 3 6 true rfl rfl ?_ (fun _ h=>h);intro vals vq;simp only [sP,vq];rfl
  apply yN_ (v:=undef)
  ·refine qbP [(3,some 6)] (fun _=>rfl) 3 6 true rfl rfl ?_ (fun _ h=>h);intro vals vq;simp only [sP,vq];rfl
  apply yN_ (v:=undef)
  ·refine qbP [(7,some 10),(3,some 6)] (fun _=>rfl) 3 6 true rfl rfl ?_ (fun _ h=>h);intro vals vq;simp only [sP,vq];rfl
  apply yN_ (v:=undef)
  ·refine qbP [(6,some 9),(8,some 11),(3,some 6)] (fun _=>rfl) 3 6 true rfl rfl ?_ (fun _ h=>h);intro vals vq;simp only [sP,vq];rfl
  apply yN_
  ·apply dP [(3,some 6),(9,some 12)];exact fun _=>rfl;rfl;intro vals vq w1 hC1 E hE;simp only [sP,vq] at hE ⊢;clear vq;go_wp2;exact .mk (hE _ hC1)
  apply yL_
  ·apply dP [(10,some 13),(5,some 8),(0,some 3),(1,some 4),(2,some 5),(3,some 6),(4,some 7),(5,some 8),(6,some 9),(7,some 10),(8,some 11),(9,some 12),(10,some 13)];exact fun _=>rfl;rfl;intro vals vq w1 hC1 E hE;simp only [sP,vq] at hE ⊢;clear vq;go_wp2;exact .mk (hE _ hC1)
  intro vals vq w1 hC1;simp only [sP,vq];clear vq;clear HC0;go_wp2_with fail;go_ret;exact ⟨rfl,hC1⟩
theorem bmul_any (x y:Nat) (hx:x<18446744073709551616) (hy:y<18446744073709551616) (w:World) :
  Calls Tryz.prog 93 #[.int .u64 x,.int .u64 y] w fun e w'=>e=.returned (.tuple #[.int .u64 ((x*y/18446744073709551616:Nat):Int),.int .u64 ((x*y%18446744073709551616:Nat):Int)])∧w'=w:=by
 have HM:=zY (mul64_any x y hx hy w);generalize x*y/18446744073709551616=hi at *;generalize x*y%18446744073709551616=lo at *;clear hx hy;go_enter Tryz.func93,Tryz.ntmps93;go_wp2_with fail;refine qaa HM.out ?_;rintro e w1 ⟨rfl,rfl⟩;go_wp2_with fail;go_ret2;exact ⟨rfl,rfl⟩
def RepPost (w:World) (e:Ending) (w':World):Prop :=
 ∃ o,e=.returned (.slice (some ⟨o,0,none⟩) 32 32)∧w.heap.size≤o∧Blk w' o 5 (bnV (fillL 32)).toArray∧Below w.heap.size w w'
theorem rep_step:∀ n,n=1∨n=2∨n=4∨n=8∨n=16→splice (bnV (fillL n)) n (bnV (List.replicate n 255))=bnV (fillL (n+n))∧splice (bnV (fillL (n+n))) n (bnV (List.replicate n 255))=bnV (fillL (n+n)):=by
 rintro n (rfl | rfl | rfl | rfl | rfl) <;> exact ⟨rfl,rfl⟩
theorem rep_src:∀ n,n=1∨n=2∨n=4∨n=8∨n=16→∀ (j:Nat) (v:Value),(bnV (List.replicate n 255))[j]?=some v→(bnV (fillL n))[j]?=some v∧(bnV (fillL (n+n)))[j]?=some v:=by
 intro n hn j v h
 have hlt:j<n:=by
  have:=(List.getElem?_eq_some_iff.1 h).1
  simpa [bnV] using this
 have h1:v=.int .u8 ((255:Nat):Int):=by
  simp only [bnV,List.map_replicate,List.getElem?_replicate] at h;rw [if_pos hlt] at h;exact (Option.some.inj h).symm
 have h2:∀ m,n≤m→(bnV (fillL m))[j]?=some v:=fun m hm=>by
  rw [bnV,fillL,List.map_append,List.getElem?_append_left (by simp; omega),List.map_replicate,List.getElem?_replicate,if_pos (by omega),h1]
 exact ⟨h2 n (Nat.le_refl _),h2 (n+n) (by omega)⟩
theorem rep_one (n:Nat):∀ v ∈ bnV (List.replicate n 255),v.oneCell'=true:=by
 intro v h;simp only [bnV,List.mem_map] at h;obtain ⟨m,_,rfl⟩:=h;rfl
theorem qde (n:Nat):(bnV (List.replicate n 255)).length=n:=by simp [bnV]
theorem qeo (k:Nat) (h:k≤32):(bnV (fillL k)).length=32:=by rw [bnV,List.length_map,qbe k (by omega)]
theorem qdj:(Tryz.prog.info? 5).map (·.size)=some 1:=by kernel_rfl
theorem add0 (o j:Nat):(⟨o,0,none⟩:Addr).add j=⟨o,j,none⟩:=by unfold Addr.add; split <;> simp_all
structure RepS (w0:World) (o k:Nat) (u:World):Prop where
 bel:Below w0.heap.size w0 u
 out:Blk u o 5 (bnV (fillL k)).toArray∨Blk u o 5 (bnV (fillL (k+k))).toArray
theorem repeat_any (ad:Addr) (w:World) (hb:ad.block<w.heap.size) (hcell:w.cell? ad=some (.int .u8 255)) :
  Calls Tryz.prog 78 #[.slice (some ad) 1 1,.int .i64 32] w (RepPost w):=by
 have hus:=Tryz.underlying22;have hmk:∀ u:World,(Instr.makeSlice 22 (.int .i64 32) (.int .i64 32)).run Tryz.prog u=.ok (.slice (some ⟨u.heap.size,0,none⟩) 32 32) (u.alloc (.cells (bnV (fillL 0)).toArray 5)):=fun _=>by kernel_rfl
 have HM:=zY (show ∀ u,Calls Tryz.prog 93 #[.int .u64 1,.int .u64 32] u (fun e w'=>e=.returned (.tuple #[.int .u64 0,.int .u64 32])∧w'=u) from fun u=>bmul_any 1 32 (by decide) (by decide) u);have HC:=zY hcell;have HLB:=zY hb;clear hcell hb;go_enter Tryz.func78,Tryz.ntmps78;go_wp2_with fail;refine qaa (HM.out _) ?_;rintro e W0 ⟨rfl,rfl⟩;have hb0:=below_new W0 (.cells (bnV (fillL 0)).toArray 5);have HN:=zY (Blk.new W0 5 (bnV (fillL 0)).toArray);have hc0:(W0.alloc (.cells (bnV (fillL 0)).toArray 5)).cell? ad=some (.int .u8 255):=(hb0.cell HLB.out).trans HC.out;have HB0:=zY hb0;have HC0:=zY hc0;clear hb0 hc0
 go_wp2_with (refine wpList_copy_splice (P:=Tryz.prog) rfl (.tmp 31) (.tmp 32) _ _ rfl 5 hus qdj _ _ _ _ _ _ rfl rfl W0.heap.size 0 (bnV (fillL 0)) 5 HN.out (bnV [255]) rfl (fun _=>⟨rfl,ad,rfl,fun j v hj=>by
   match j with
   | 0=>injection hj with hj; rw [← hj]; exact HC0.out
   | j+1=>cases hj⟩) (by decide) (rep_one 1) W0.heap.size W0 HB0.out (Nat.le_refl _) ?_; intro w2 hq hb2; have HQ:=zY (show Blk w2 W0.heap.size 5 (bnV (fillL 1)).toArray from hq.out); have HB2:=zY hb2; clear hq hb2)
 clear HM hmk HC HC0 HN HB0;rw [show ((bnV [255]).length:Int)=((1:Nat):Int) from rfl];generalize ho:W0.heap.size=o at HQ ⊢;have HO:=zY ho;clear ho
 go_loopw [8] (fun i wr=>∃ k:Nat,((k=1∨k=2∨k=4∨k=8∨k=16)∨k=32)∧i=.int .i64 k∧Blk wr o 5 (bnV (fillL k)).toArray∧Below W0.heap.size W0 wr) (fun i _=>32 - (intOf i).toNat)
 case atStart=>exact ⟨1,.inl (.inl rfl),rfl,HQ.out,HB2.out⟩
 case round =>
  clear HQ HB2;obtain ⟨n,hn,rfl,hq,hb⟩:=hrel;have HQ:=zY hq;have HB:=zY hb;clear hq hb
  rcases hn with hn | rfl
  ·have h1:(n:Int)<32:=by omega
   have h2:(n:Int)≤32:=by omega
   have h3:(1:Int)≤n:=by omega
   have h4:(n:Int)≤16:=by omega
   have HN:=zY hn;clear hn;go_wp2_with fail;have HC0:RepS W0 o n wr.drew:=⟨HB.out.drew,.inl HQ.out⟩
   refine qar (fun u=>RepS W0 o n u) (fun | false=>(fun _=>True) | true=>(fun _=>True)) (fun | false,_=>false | true,_=>false)
    [fun z _=>z 0=.int .i64 (n:Int),
     fun z _=>z 1=.slice (some ⟨o,0,none⟩) 32 32,
     fun z _=>z 2=.int .i64 (n:Int),
     fun z _=>z 3=.slice (some ⟨o,n,none⟩) (32 - n) (32 - n),
     fun z _=>z 4=.slice (some ⟨o,0,none⟩) 32 32,
     fun z _=>z 5=.int .i64 (n:Int),
     fun z _=>z 6=.slice (some ⟨o,0,none⟩) n 32,
     fun z u=>(fun v u=>v=.int .i64 (n:Int)∧Blk u o 5 (bnV (fillL (n+n))).toArray) (z 7) u,
     fun z _=>z 8=.int .i64 ((n:Int)+n),
     fun z _=>z 9=.int .i64 ((n:Int)+n)]
    [Eq,Eq,Eq,Eq,Eq,Eq,Eq,fun u u'=>True,Eq,Eq]
    (fun _ _=>false) [(0,some 38),(1,some 39),(2,some 40),(3,some 41),(4,some 42),(5,some 43),(6,some 44),(7,some 45),(8,some 46),(9,some 8)] (by kernel_rfl) (by kernel_rfl) rfl (fun _=>rfl) ?_ ?_ ?_ ?_ ?_ ?_
   ·exact HC0
   ·intro m; cases m; exact trivial; exact trivial
   ·intro m; cases m
    ·refine ⟨?_,?_,?_,?_,?_,?_,?_,.inr (fun _ _ _ h=>h),?_,?_,trivial⟩ <;> exact .inr fun _ _ h h0=>h▸h0
    ·refine ⟨?_,?_,?_,?_,?_,?_,?_,.inr (fun _ _ _ h=>h),?_,?_,trivial⟩ <;> exact .inr fun _ _ h h0=>h▸h0
   ·refine ⟨⟨.inl rfl,?_,?_,?_,?_,?_,?_,?_,?_,?_,trivial⟩,⟨?_,.inl rfl,?_,?_,?_,?_,?_,?_,?_,?_,trivial⟩,⟨?_,?_,.inl rfl,?_,?_,?_,?_,?_,?_,?_,trivial⟩,⟨?_,?_,?_,.inl rfl,?_,?_,?_,?_,?_,?_,trivial⟩,⟨?_,?_,?_,?_,.inl rfl,?_,?_,?_,?_,?_,trivial⟩,⟨?_,?_,?_,?_,?_,.inl rfl,?_,?_,?_,?_,trivial⟩,⟨?_,?_,?_,?_,?_,?_,.inl rfl,?_,?_,?_,trivial⟩,⟨?_,?_,?_,?_,?_,?_,?_,.inl rfl,?_,?_,trivial⟩,⟨?_,?_,?_,?_,?_,?_,?_,?_,.inl rfl,?_,trivial⟩,⟨?_,?_,?_,?_,?_,?_,?_,?_,?_,.inl rfl,trivial⟩,trivial⟩ <;> first | exact .inr (.inr (.inl rfl)) | exact .inr (.inr (.inr fun _ _ _ _ _ h=>h)) | exact .inr (.inr (.inr fun _ _ _ _ h h0=>by cases h; exact h0))
   ·refine ⟨?_,?_,?_,?_,?_,?_,?_,?_,?_,?_,trivial⟩
    ·refine qac [] (fun _=>rfl) rfl ?_;intro w1 vals hC1 hi0 hf E hE;clear hi0;clear hf;simp only [sP] at hE ⊢;go_wp2;exact .mk (hE _ _ rfl hC1 rfl)
    ·refine qac [] (fun _=>rfl) rfl ?_;intro w1 vals hC1 hi0 hf E hE;clear hi0;clear hf;simp only [sP] at hE ⊢;go_wp2;exact .mk (hE _ _ rfl hC1 rfl)
    ·refine qac [] (fun _=>rfl) rfl ?_;intro w1 vals hC1 hi0 hf E hE;clear hi0;clear hf;simp only [sP] at hE ⊢;go_wp2;exact .mk (hE _ _ rfl hC1 rfl)
    ·refine qac [(1,some 39),(2,some 40)] (fun _=>rfl) rfl ?_;intro w1 vals hC1 hi0 hf E hE;clear hi0;have f1:vals 1=_:=hf 1 rfl;have f2:vals 2=_:=hf 2 rfl
     try dsimp only at f1 f2
     clear hf;simp only [sP,f1,f2] at hE ⊢;clear f1 f2;go_wp2;exact .mk (hE _ _ rfl hC1 rfl)
    ·refine qac [] (fun _=>rfl) rfl ?_;intro w1 vals hC1 hi0 hf E hE;clear hi0;clear hf;simp only [sP] at hE ⊢;go_wp2;exact .mk (hE _ _ rfl hC1 rfl)
    ·refine qac [] (fun _=>rfl) rfl ?_;intro w1 vals hC1 hi0 hf E hE;clear hi0;clear hf;simp only [sP] at hE ⊢;go_wp2;exact .mk (hE _ _ rfl hC1 rfl)
    ·refine qac [(4,some 42),(5,some 43)] (fun _=>rfl) rfl ?_;intro w1 vals hC1 hi0 hf E hE;clear hi0;have f4:vals 4=_:=hf 4 rfl;have f5:vals 5=_:=hf 5 rfl
     try dsimp only at f4 f5
     clear hf;simp only [sP,f4,f5] at hE ⊢;clear f4 f5;go_wp2;exact .mk (hE _ _ rfl hC1 rfl)
    ·refine qac [(3,some 41),(6,some 44)] (fun _=>rfl) rfl ?_;intro w1 vals hC1 hi0 hf E hE;clear hi0;have f3:vals 3=_:=hf 3 rfl;have f6:vals 6=_:=hf 6 rfl
     try dsimp only at f3 f6
     clear hf;have hN:=HN.out;have hrep:=rep_step n hN;have hsrc:=rep_src n hN;have hm:n≤32 - n:=by omega
     simp only [sP,f3,f6] at hE ⊢;clear f3 f6
     rcases hC1.out with hq | hq
     ·refine wpList_copy_splice (P:=Tryz.prog) rfl (.tmp 41) (.tmp 44) _ _ rfl 5 hus qdj _ _ _ _ _ _ rfl rfl o n (bnV (fillL n)) 5 hq (bnV (List.replicate n 255)) (by rw [qde]; exact (Nat.min_eq_left hm).symm) (fun _=>⟨rfl,_,rfl,fun j v hj=>by rw [add0,hq.cell j,List.getElem?_toArray]; exact (hsrc j v hj).1⟩) (by rw [qde,qeo _ (by omega)]; omega) (rep_one n) W0.heap.size W0 hC1.bel (Nat.le_of_eq HO.out) ?_;intro w2 hq2 hb2;rw [hrep.1] at hq2;have HB2:=zY hb2;clear hb2;go_wp2_with fail;exact .mk (hE _ _ ⟨congrArg (fun (k:Nat)=>Value.int .i64 (k:Int)) (qde n),hq2.out⟩ ⟨HB2.out,.inr hq2.out⟩ trivial)
     ·refine wpList_copy_splice (P:=Tryz.prog) rfl (.tmp 41) (.tmp 44) _ _ rfl 5 hus qdj _ _ _ _ _ _ rfl rfl o n (bnV (fillL (n+n))) 5 hq (bnV (List.replicate n 255)) (by rw [qde]; exact (Nat.min_eq_left hm).symm) (fun _=>⟨rfl,_,rfl,fun j v hj=>by rw [add0,hq.cell j,List.getElem?_toArray]; exact (hsrc j v hj).2⟩) (by rw [qde,qeo _ (by omega)]; omega) (rep_one n) W0.heap.size W0 hC1.bel (Nat.le_of_eq HO.out) ?_;intro w2 hq2 hb2;rw [hrep.2] at hq2;have HB2:=zY hb2;clear hb2;go_wp2_with fail;exact .mk (hE _ _ ⟨congrArg (fun (k:Nat)=>Value.int .i64 (k:Int)) (qde n),hq2.out⟩ ⟨HB2.out,.inr hq2.out⟩ trivial)
    ·refine qac [(0,some 38),(7,some 45)] (fun _=>rfl) rfl ?_;intro w1 vals hC1 hi0 hf E hE;clear hi0;have f0:vals 0=_:=hf 0 rfl;have f7:(fun v u=>v=.int .i64 (n:Int)∧Blk u o 5 (bnV (fillL (n+n))).toArray) (vals 7) w1:=hf 7 rfl
     try dsimp only at f0 f7
     clear hf;obtain ⟨hx,hbk⟩:=f7;simp only [sP,f0,hx] at hE ⊢;clear f0;clear hx;go_wp2;exact .mk (hE _ _ rfl hC1 rfl)
    ·refine qac [(8,some 46),(7,some 45),(0,some 38),(1,some 39),(2,some 40),(3,some 41),(4,some 42),(5,some 43),(6,some 44),(7,some 45),(8,some 46)] (fun _=>rfl) rfl ?_;intro w1 vals hC1 hi0 hf E hE;clear hi0;have f0:vals 0=_:=hf 0 rfl;have f1:vals 1=_:=hf 1 rfl;have f2:vals 2=_:=hf 2 rfl;have f3:vals 3=_:=hf 3 rfl;have f4:vals 4=_:=hf 4 rfl;have f5:vals 5=_:=hf 5 rfl;have f6:vals 6=_:=hf 6 rfl;have f7:(fun v u=>v=.int .i64 (n:Int)∧Blk u o 5 (bnV (fillL (n+n))).toArray) (vals 7) w1:=hf 7 rfl;have f8:vals 8=_:=hf 8 rfl
     try dsimp only at f0 f1 f2 f3 f4 f5 f6 f7 f8
     clear hf;simp only [sP,f0,f1,f2,f3,f4,f5,f6,f8] at hE ⊢;clear f0 f1 f2 f3 f4 f5 f6 f8;go_wp2;exact .mk (hE _ _ rfl hC1 rfl)
   intro w1 vals hC1 hf;have f0:vals 0=_:=hf 0 (by decide) rfl;have f1:vals 1=_:=hf 1 (by decide) rfl;have f2:vals 2=_:=hf 2 (by decide) rfl;have f3:vals 3=_:=hf 3 (by decide) rfl;have f4:vals 4=_:=hf 4 (by decide) rfl;have f5:vals 5=_:=hf 5 (by decide) rfl;have f6:vals 6=_:=hf 6 (by decide) rfl;have f7:(fun v u=>v=.int .i64 (n:Int)∧Blk u o 5 (bnV (fillL (n+n))).toArray) (vals 7) w1:=hf 7 (by decide) rfl;have f8:vals 8=_:=hf 8 (by decide) rfl;have f9:vals 9=_:=hf 9 (by decide) rfl
   try dsimp only at f0 f1 f2 f3 f4 f5 f6 f7 f8 f9
   clear hf;simp only [sP,f0,f1,f2,f3,f4,f5,f6,f8,f9];clear f0 f1 f2 f3 f4 f5 f6 f8 f9;generalize vals 7=x7 at *;obtain ⟨_,hbk⟩:=f7;have HBK:=zY hbk;have HBL:=zY hC1.bel;clear hbk hC1 HC0;go_wp2_with fail;refine ⟨⟨n+n,?_,by go_num,HBK.out,HBL.out⟩,by simp [intOf]; omega⟩;have:=HN.out;omega
  ·go_wp2_with fail;go_ret;exact ⟨o,rfl,Nat.le_of_eq HO.out,HQ.out,HB.out⟩
def e0L:List Nat:=253 :: (List.replicate 30 255++[15])
theorem e0L_end:((fillL 32).set 0 253).set 31 15=e0L:=by decide
theorem e0L_dg:Dg e0L:=by unfold Dg; decide
def e0B:List UInt8:=e0L.map UInt8.ofNat
theorem e0B_v:bytesV e0B=bnV e0L:=by rfl
theorem e0B_l:(e0B.take 64).map UInt8.toNat=e0L:=by decide
theorem e0B_len:e0B.length=32:=by decide
def crV3 (v:E5):E5:=mulE (mulE v v) v
def crX (u v:E5):E5:=mulE (mulE u (crV3 v)) (pwL (mulE (mulE (mulE u (crV3 v)) (crV3 v)) v) e0L 32)
def crH (u v:E5):E5:=mulE (mulE v (crX u v)) (crX u v)
def rootB1 (u v:E5):Bool:=eqB (crH u v) u
def rootB2 (u v:E5):Bool:=eqB (crH u v) (subE zE u)
def rootE (u v:E5):E5:=if rootB1 u v then crX u v else if rootB2 u v then mulE (crX u v) turnE else zE
def rootB (u v:E5):Bool:=if rootB1 u v then true else rootB2 u v
theorem crV3_ok {v:E5} (hv:v.Ok):(crV3 v).Ok:=qax (qax hv hv) hv
theorem crX_ok {u v:E5} (hu:u.Ok) (hv:v.Ok):(crX u v).Ok:=qax (qax hu (crV3_ok hv)) (pwL_ok (qax (qax (qax hu (crV3_ok hv)) (crV3_ok hv)) hv) _ _)
theorem rootE_ok {u v:E5} (hu:u.Ok) (hv:v.Ok):(rootE u v).Ok:=by
 unfold rootE
 split
 ·exact crX_ok hu hv
 ·split
  ·exact qax (crX_ok hu hv) turnE_ok
  ·exact zE_ok
def CRootPost (x:E5) (b:Bool) (w:World) (e:Ending) (w':World):Prop:=e=.returned (.tuple #[.agg (eV x),.bool b])∧Below w.heap.size w w'
set_option maxHeartbeats 8000000 in
theorem croot_any (m n:E5) (w:World) (hku:m.Ok) (hkv:n.Ok):Calls Tryz.prog 48 #[.agg (eV m),.agg (eV n)] w (CRootPost (rootE m n) (rootB m n) w):=by
 have hu:=Tryz.underlying46;have hp:=Tryz.underlying48;have KU:=zY hku;have KV:=zY hkv;obtain ⟨w0,hw0⟩:=eX (((w.alloc (.cells (eV m) 46)).alloc (.cells (eV n) 46)).alloc (.cells (eV zE) 46))
 have hst:Cs [.box w.heap.size 46 (eV m),.box (w.heap.size+1) 46 (eV n),.box (w.heap.size+1+1) 46 (eV zE)] w w0:=by
  rw [hw0];exact ⟨⟨((Blk.new _ _ _).alloc _).alloc _,(Blk.newAt (by simp)).alloc _,Blk.newAt (by simp),trivial⟩,((below_new _ _).alloc (by simp) _).alloc (by simp; try omega) _⟩
 have HLR:=zY (show w.heap.size≤w.heap.size+1+1 by omega);obtain ⟨X,hX⟩:=eX turnE;have CT:=zY (show ∀ u,Calls Tryz.prog 80 #[] u (ElemPost X u) from fun u=>by rw [hX]; exact turn_any u);have KX:=zY (show X.Ok by rw [hX]; exact turnE_ok);obtain ⟨RE,hRE⟩:=eX (rootE m n);obtain ⟨RB,hRB⟩:=eX (rootB m n)
 have hres:∀ v3 x h b1 b2,v3=mulE (mulE n n) n→x=mulE (mulE m v3) (pwL (mulE (mulE (mulE m v3) v3) n) e0L 32)→h=mulE (mulE n x) x→b1=eqB h m→b2=eqB h (subE zE m) →
   RE=(if b1 then x else if b2 then mulE x X else zE)∧RB=(if b1 then true else b2):=by
  rintro v3 x h b1 b2 e1 e2 e3 e4 e5;rw [hRE,hRB,hX,e4,e5,e3,e2,e1];exact ⟨rfl,rfl⟩
 rw [← hRE,← hRB];have HRES:=zY hres;clear hku hkv hX hRE hRB hres;have HW:=zY hw0;have HST0:=zY hst;clear hw0 hst;go_enter Tryz.func48,Tryz.ntmps48;go_wp2_with fail;show Calls Tryz.prog _ #[.slice (some ⟨w.heap.size+1+1+1,0,none⟩) 1 1,.int .i64 32] ((((w.alloc (.cells (eV m) _)).alloc (.cells (eV n) _)).alloc (.cells (eV zE) _)).alloc (.cells #[.int .u8 255] _)) _;rw [← HW.out];have hs3:w.heap.size+1+1+1=w0.heap.size:=by rw [HW.out]; simp
 rw [hs3];refine qaa (repeat_any ⟨w0.heap.size,0,none⟩ _ (by simp) ((Blk.new w0 _ #[.int .u8 255]).cell 0)) ?_;rintro e w1 ⟨o,rfl,hlo,hblk,hb1⟩;have hlo':w0.heap.size≤o:=by simp at hlo; omega
 have hb0:Below w0.heap.size w0 w1:=(below_new w0 (.cells #[.int .u8 255] 5)).trans (hb1.mono (by simp));have HQ1:=zY hblk;have HBW:=zY hb0;have HLO:=zY hlo';clear hlo hblk hb1 hlo' hb0 hs3
 go_wp2_with (first
  | (refine qam (x:=.tmp 14) (i:=0) (v:=.int .u8 253) HQ1.out rfl rfl rfl rfl qb8 (by rw [qco,qbe 32 (by omega)]; decide) rfl ?_; intro w2 hb2 hw2; have HQ2:=zY (show Blk w2 o 5 (bnV ((fillL 32).set 0 253)).toArray by rw [show (Value.int IntKind.u8 253)=.int .u8 ((253:Nat):Int) from rfl,qbN] at hb2; exact hb2); have HB2:=zY (hw2.below HBW.out HLO.out HBW.out.size); clear hb2 hw2 HBW)
  | (refine qam (x:=.tmp 15) (i:=31) (v:=.int .u8 15) HQ2.out rfl rfl rfl rfl qb8 (by rw [qco,List.length_set,qbe 32 (by omega)]; decide) rfl ?_; intro w3 hb3 hw3; have HQ3:=zY (show Blk w3 o 5 (bnV e0L).toArray by rw [show (Value.int IntKind.u8 15)=.int .u8 ((15:Nat):Int) from rfl,qbN,e0L_end] at hb3; exact hb3); have HB3:=zY (hw3.below HB2.out HLO.out HB2.out.size); clear hb3 hw3 HB2))
 obtain ⟨OA,hOA⟩:∃ A:Option Addr,A=some ⟨o,0,none⟩:=⟨_,rfl⟩;have hrd:=Rd.of_blk HQ3.out HQ3.out.lt;rw [← e0B_v,← hOA] at hrd;have HST3:=zY (show Cs [.rd OA (bytesV e0B),.box w.heap.size 46 (eV m),.box (w.heap.size+1) 46 (eV n),.box (w.heap.size+1+1) 46 (eV zE)] w w3 from ⟨⟨hrd,(HST0.out.next HB3.out).1⟩,(HST0.out.next HB3.out).2⟩);rw [← hOA];clear hrd hOA HQ1 HQ2 HQ3 HB3 HST0 HLO
 have CPW:=zY (show ∀ x (u:World),E5.Ok x→Rd u u.heap.size OA (bytesV e0B)→Calls Tryz.prog 79 #[.agg (eV x),.slice OA 32 32] u (ElemPost (pwL x e0L 32) u) from fun x u hx hr=>by
  have h:=pow_any x hx e0B OA 32 u hr (by rw [e0B_len]; decide) (by rw [e0B_len]; decide);rw [e0B_l,e0B_len] at h;exact h)
 generalize w.heap.size+1+1=r at *;generalize w.heap.size+1=gv at *;generalize hgu:w.heap.size=gu at HST3 ⊢;clear HW hgu;have HC0:Below w3.heap.size w3 w3.drew:=(Below.refl _ _).drew
 refine qar (fun u=>Below w3.heap.size w3 u) (fun | false=>(fun _=>True) | true=>(fun _=>True)) (fun | false,_=>false | true,_=>false)
  [fun z _=>z 0=.agg (eV (n)),
   fun z _=>z 1=.agg (eV (n)),
   fun z _=>z 2=.agg (eV (mulE (n) (n))),
   fun z _=>z 3=.agg (eV (n)),
   fun z _=>z 4=.agg (eV (mulE (mulE (n) (n)) (n))),
   fun z u=>(NewBox w3.heap.size 46 (eV zE)) (z 5) u,
   fun z u=>NewBox w3.heap.size 46 (eV (mulE (mulE (n) (n)) (n))) (z 5) u]
  [Eq,Eq,fun u u'=>Below u.heap.size u u',Eq,fun u u'=>Below u.heap.size u u',fun u u'=>Below u.heap.size u u',fun _ _=>True]
  (fun i k=>(i == 6 && k == 5)) [(0,some 16),(1,some 17),(2,some 18),(3,some 19),(4,some 20),(5,some 7),(6,none)] (by kernel_rfl) (by kernel_rfl) rfl (fun _=>rfl) ?_ ?_ ?_ ?_ ?_ ?_
 ·exact HC0
 ·intro m; cases m; exact trivial; exact trivial
 ·intro m; cases m
  ·refine ⟨?_,?_,?_,?_,?_,?_,?_,trivial⟩ <;> first | exact .inr fun _ _ h h0=>h▸h0 | exact .inr fun _ _ _ h=>h
  ·refine ⟨?_,?_,?_,?_,?_,?_,?_,trivial⟩ <;> first | exact .inr fun _ _ h h0=>h▸h0 | exact .inr fun _ _ _ h=>h
 ·refine ⟨⟨.inl rfl,?_,?_,?_,?_,?_,?_,trivial⟩,⟨?_,.inl rfl,?_,?_,?_,?_,?_,trivial⟩,⟨?_,?_,.inl rfl,?_,?_,.inr (.inr (.inr (fun _ _ _ _ h h0=>h0.next h))),?_,trivial⟩,⟨?_,?_,?_,.inl rfl,?_,?_,?_,trivial⟩,⟨?_,?_,?_,?_,.inl rfl,.inr (.inr (.inr (fun _ _ _ _ h h0=>h0.next h))),?_,trivial⟩,⟨?_,?_,?_,?_,?_,.inl rfl,?_,trivial⟩,⟨?_,?_,?_,?_,?_,.inr (.inl rfl),.inl rfl,trivial⟩,trivial⟩ <;> first | exact .inr (.inr (.inl rfl)) | exact .inr (.inr (.inr fun _ _ _ _ _ h=>h)) | exact .inr (.inr (.inr fun _ _ _ _ h h0=>by cases h; exact h0))
 ·refine ⟨?_,?_,?_,?_,?_,?_,?_,trivial⟩
  ·refine qac [] (fun _=>rfl) rfl ?_;intro w1 vals hC1 hi0 hf E hE;clear hi0;clear hf;have hs:=HST3.out.next hC1;simp only [sP] at hE ⊢;refine qab (hs.1.2.2.1) rfl rfl rfl hu rfl qag ?_;go_wp2_with fail;exact .mk (hE _ _ rfl hC1 rfl)
  ·refine qac [] (fun _=>rfl) rfl ?_;intro w1 vals hC1 hi0 hf E hE;clear hi0;clear hf;have hs:=HST3.out.next hC1;simp only [sP] at hE ⊢;refine qab (hs.1.2.2.1) rfl rfl rfl hu rfl qag ?_;go_wp2_with fail;exact .mk (hE _ _ rfl hC1 rfl)
  ·refine qac [(0,some 16),(1,some 17)] (fun _=>rfl) rfl ?_;intro w1 vals hC1 hi0 hf E hE;clear hi0;have f0:vals 0=_:=hf 0 rfl;have f1:vals 1=_:=hf 1 rfl
   try dsimp only at f0 f1
   clear hf;simp only [sP,f0,f1] at hE ⊢;clear f0 f1;go_wp2_with fail;refine qaa (mul_c _ _ _ (KV.out) (KV.out)) ?_;rintro e w2 ⟨rfl,hb2⟩;go_wp2_with fail;exact .mk (hE _ _ rfl (hC1.trans (hb2.mono hC1.size)) hb2)
  ·refine qac [] (fun _=>rfl) rfl ?_;intro w1 vals hC1 hi0 hf E hE;clear hi0;clear hf;have hs:=HST3.out.next hC1;simp only [sP] at hE ⊢;refine qab (hs.1.2.2.1) rfl rfl rfl hu rfl qag ?_;go_wp2_with fail;exact .mk (hE _ _ rfl hC1 rfl)
  ·refine qac [(2,some 18),(3,some 19),(2,some 18)] (fun _=>rfl) rfl ?_;intro w1 vals hC1 hi0 hf E hE;clear hi0;have f2:vals 2=_:=hf 2 rfl;have f3:vals 3=_:=hf 3 rfl
   try dsimp only at f2 f3
   clear hf;simp only [sP,f2,f3] at hE ⊢;clear f2 f3;go_wp2_with fail;refine qaa (mul_c _ _ _ (qax (KV.out) (KV.out)) (KV.out)) ?_;rintro e w2 ⟨rfl,hb2⟩;go_wp2_with fail;exact .mk (hE _ _ rfl (hC1.trans (hb2.mono hC1.size)) hb2)
  ·refine qac [] (fun _=>rfl) rfl ?_;intro w1 vals hC1 hi0 hf E hE;clear hi0;clear hf;simp only [sP] at hE ⊢;go_wp2;exact .mk (hE _ _ (NewBox.of hC1.size) (hC1.alloc hC1.size _) (below_new _ _))
  ·refine qac [(5,some 7),(4,some 20),(4,some 20),(0,some 16),(1,some 17),(2,some 18),(3,some 19),(4,some 20),(5,some 7)] (fun _=>rfl) rfl ?_;intro w1 vals hC1 hi0 hf E hE;clear hi0;have f0:vals 0=_:=hf 0 rfl;have f1:vals 1=_:=hf 1 rfl;have f2:vals 2=_:=hf 2 rfl;have f3:vals 3=_:=hf 3 rfl;have f4:vals 4=_:=hf 4 rfl;have f5:(NewBox w3.heap.size 46 (eV zE)) (vals 5) w1:=hf 5 rfl
   try dsimp only at f0 f1 f2 f3 f4 f5
   clear hf;obtain ⟨o,hx,ho,hblk⟩:=f5;have hx':=hx;simp only [sP,f0,f1,f2,f3,f4,hx] at hE ⊢;clear f0 f1 f2 f3 f4;clear hx;refine qaf (cells:=eV (mulE (mulE (n) (n)) (n))) hblk rfl rfl rfl rfl qag rfl (by simp [eV,ptV,wV,limbs,Value.oneCell']) ?_;intro w2 hb2 hw2;go_wp2_with fail;exact .mk (hE undef _ ⟨o,hx',ho,hb2⟩ (hw2.below hC1 ho hC1.size) trivial)
 intro w1 vals hC1 hf;have f0:vals 0=_:=hf 0 (by decide) rfl;have f1:vals 1=_:=hf 1 (by decide) rfl;have f2:vals 2=_:=hf 2 (by decide) rfl;have f3:vals 3=_:=hf 3 (by decide) rfl;have f4:vals 4=_:=hf 4 (by decide) rfl;have f6:(fun z u=>NewBox w3.heap.size 46 (eV (mulE (mulE (n) (n)) (n))) (z 5) u) vals w1:=hf 6 (by decide) rfl
 try dsimp only at f0 f1 f2 f3 f4 f6
 clear hf;simp only [sP,f0,f1,f2,f3,f4];clear f0 f1 f2 f3 f4;generalize vals 5=x5 at *;obtain ⟨o1,rfl,hlo1,hblk1⟩:=f6;obtain ⟨c,hc⟩:=eX (mulE (mulE (n) (n)) (n));rw [← hc] at hblk1;have Kc:=zY (show c.Ok by rw [hc]; exact qax (qax (KV.out) (KV.out)) (KV.out));have Ec:=zY hc;have HST1:=zY (show Cs (.box o1 46 (eV c) :: [.rd OA (bytesV e0B),.box gu 46 (eV m),.box gv 46 (eV n),.box r 46 (eV zE)]) w w1 from ⟨⟨hblk1,(HST3.out.next hC1).1⟩,(HST3.out.next hC1).2⟩);clear hC1 HC0 HST3 hblk1 hlo1 hc;obtain ⟨v1,rfl⟩:=eX w1;go_wp2_with fail;have HC0:Below v1.heap.size v1 v1.drew:=(Below.refl _ _).drew
 refine qar (fun u=>Below v1.heap.size v1 u) (fun | false=>(fun _=>True) | true=>(fun _=>True)) (fun | false,_=>false | true,_=>false)
  [fun z _=>z 0=.agg (eV (m)),
   fun z _=>z 1=.agg (eV (c)),
   fun z _=>z 2=.agg (eV (mulE (m) (c))),
   fun z _=>z 3=.agg (eV (m)),
   fun z _=>z 4=.agg (eV (c)),
   fun z _=>z 5=.agg (eV (mulE (m) (c))),
   fun z _=>z 6=.agg (eV (c)),
   fun z _=>z 7=.agg (eV (mulE (mulE (m) (c)) (c))),
   fun z _=>z 8=.agg (eV (n)),
   fun z _=>z 9=.agg (eV (mulE (mulE (mulE (m) (c)) (c)) (n))),
   fun z _=>z 10=.slice OA 32 32,
   fun z _=>z 11=.agg (eV (pwL (mulE (mulE (mulE (m) (c)) (c)) (n)) e0L 32)),
   fun z _=>z 12=.agg (eV (mulE (mulE (m) (c)) (pwL (mulE (mulE (mulE (m) (c)) (c)) (n)) e0L 32))),
   fun z u=>(NewBox v1.heap.size 46 (eV zE)) (z 13) u,
   fun z u=>NewBox v1.heap.size 46 (eV (mulE (mulE (m) (c)) (pwL (mulE (mulE (mulE (m) (c)) (c)) (n)) e0L 32))) (z 13) u]
  [Eq,Eq,fun u u'=>Below u.heap.size u u',Eq,Eq,fun u u'=>Below u.heap.size u u',Eq,fun u u'=>Below u.heap.size u u',Eq,fun u u'=>Below u.heap.size u u',Eq,fun u u'=>Below u.heap.size u u',fun u u'=>Below u.heap.size u u',fun u u'=>Below u.heap.size u u',fun _ _=>True]
  (fun i k=>(i == 14 && k == 13)) [(0,some 21),(1,some 22),(2,some 23),(3,some 24),(4,some 25),(5,some 26),(6,some 27),(7,some 28),(8,some 29),(9,some 30),(10,some 31),(11,some 32),(12,some 33),(13,some 8),(14,none)] (by kernel_rfl) (by kernel_rfl) rfl (fun _=>rfl) ?_ ?_ ?_ ?_ ?_ ?_
 ·exact HC0
 ·intro m; cases m; exact trivial; exact trivial
 ·intro m; cases m
  ·refine ⟨?_,?_,?_,?_,?_,?_,?_,?_,?_,?_,?_,?_,?_,?_,?_,trivial⟩ <;> first | exact .inr fun _ _ h h0=>h▸h0 | exact .inr fun _ _ _ h=>h
  ·refine ⟨?_,?_,?_,?_,?_,?_,?_,?_,?_,?_,?_,?_,?_,?_,?_,trivial⟩ <;> first | exact .inr fun _ _ h h0=>h▸h0 | exact .inr fun _ _ _ h=>h
 ·refine ⟨⟨.inl rfl,?_,?_,?_,?_,?_,?_,?_,?_,?_,?_,?_,?_,?_,?_,trivial⟩,⟨?_,.inl rfl,?_,?_,?_,?_,?_,?_,?_,?_,?_,?_,?_,?_,?_,trivial⟩,⟨?_,?_,.inl rfl,?_,?_,?_,?_,?_,?_,?_,?_,?_,?_,.inr (.inr (.inr (fun _ _ _ _ h h0=>h0.next h))),?_,trivial⟩,⟨?_,?_,?_,.inl rfl,?_,?_,?_,?_,?_,?_,?_,?_,?_,?_,?_,trivial⟩,⟨?_,?_,?_,?_,.inl rfl,?_,?_,?_,?_,?_,?_,?_,?_,?_,?_,trivial⟩,⟨?_,?_,?_,?_,?_,.inl rfl,?_,?_,?_,?_,?_,?_,?_,.inr (.inr (.inr (fun _ _ _ _ h h0=>h0.next h))),?_,trivial⟩,⟨?_,?_,?_,?_,?_,?_,.inl rfl,?_,?_,?_,?_,?_,?_,?_,?_,trivial⟩,⟨?_,?_,?_,?_,?_,?_,?_,.inl rfl,?_,?_,?_,?_,?_,.inr (.inr (.inr (fun _ _ _ _ h h0=>h0.next h))),?_,trivial⟩,⟨?_,?_,?_,?_,?_,?_,?_,?_,.inl rfl,?_,?_,?_,?_,?_,?_,trivial⟩,⟨?_,?_,?_,?_,?_,?_,?_,?_,?_,.inl rfl,?_,?_,?_,.inr (.inr (.inr (fun _ _ _ _ h h0=>h0.next h))),?_,trivial⟩,⟨?_,?_,?_,?_,?_,?_,?_,?_,?_,?_,.inl rfl,?_,?_,?_,?_,trivial⟩,⟨?_,?_,?_,?_,?_,?_,?_,?_,?_,?_,?_,.inl rfl,?_,.inr (.inr (.inr (fun _ _ _ _ h h0=>h0.next h))),?_,trivial⟩,⟨?_,?_,?_,?_,?_,?_,?_,?_,?_,?_,?_,?_,.inl rfl,.inr (.inr (.inr (fun _ _ _ _ h h0=>h0.next h))),?_,trivial⟩,⟨?_,?_,?_,?_,?_,?_,?_,?_,?_,?_,?_,?_,?_,.inl rfl,?_,trivial⟩,⟨?_,?_,?_,?_,?_,?_,?_,?_,?_,?_,?_,?_,?_,.inr (.inl rfl),.inl rfl,trivial⟩,trivial⟩ <;> first | exact .inr (.inr (.inl rfl)) | exact .inr (.inr (.inr fun _ _ _ _ _ h=>h)) | exact .inr (.inr (.inr fun _ _ _ _ h h0=>by cases h; exact h0))
 ·refine ⟨?_,?_,?_,?_,?_,?_,?_,?_,?_,?_,?_,?_,?_,?_,?_,trivial⟩
  ·refine qac [] (fun _=>rfl) rfl ?_;intro w1 vals hC1 hi0 hf E hE;clear hi0;clear hf;have hs:=HST1.out.next hC1;simp only [sP] at hE ⊢;refine qab (hs.1.2.2.1) rfl rfl rfl hu rfl qag ?_;go_wp2_with fail;exact .mk (hE _ _ rfl hC1 rfl)
  ·refine qac [] (fun _=>rfl) rfl ?_;intro w1 vals hC1 hi0 hf E hE;clear hi0;clear hf;have hs:=HST1.out.next hC1;simp only [sP] at hE ⊢;refine qab (hs.1.1) rfl rfl rfl hu rfl qag ?_;go_wp2_with fail;exact .mk (hE _ _ rfl hC1 rfl)
  ·refine qac [(0,some 21),(1,some 22)] (fun _=>rfl) rfl ?_;intro w1 vals hC1 hi0 hf E hE;clear hi0;have f0:vals 0=_:=hf 0 rfl;have f1:vals 1=_:=hf 1 rfl
   try dsimp only at f0 f1
   clear hf;simp only [sP,f0,f1] at hE ⊢;clear f0 f1;go_wp2_with fail;refine qaa (mul_c _ _ _ (KU.out) (Kc.out)) ?_;rintro e w2 ⟨rfl,hb2⟩;go_wp2_with fail;exact .mk (hE _ _ rfl (hC1.trans (hb2.mono hC1.size)) hb2)
  ·refine qac [] (fun _=>rfl) rfl ?_;intro w1 vals hC1 hi0 hf E hE;clear hi0;clear hf;have hs:=HST1.out.next hC1;simp only [sP] at hE ⊢;refine qab (hs.1.2.2.1) rfl rfl rfl hu rfl qag ?_;go_wp2_with fail;exact .mk (hE _ _ rfl hC1 rfl)
  ·refine qac [] (fun _=>rfl) rfl ?_;intro w1 vals hC1 hi0 hf E hE;clear hi0;clear hf;have hs:=HST1.out.next hC1;simp only [sP] at hE ⊢;refine qab (hs.1.1) rfl rfl rfl hu rfl qag ?_;go_wp2_with fail;exact .mk (hE _ _ rfl hC1 rfl)
  ·refine qac [(3,some 24),(4,some 25),(2,some 23)] (fun _=>rfl) rfl ?_;intro w1 vals hC1 hi0 hf E hE;clear hi0;have f2:vals 2=_:=hf 2 rfl;have f3:vals 3=_:=hf 3 rfl;have f4:vals 4=_:=hf 4 rfl
   try dsimp only at f2 f3 f4
   clear hf;simp only [sP,f2,f3,f4] at hE ⊢;clear f2 f3 f4;go_wp2_with fail;refine qaa (mul_c _ _ _ (KU.out) (Kc.out)) ?_;rintro e w2 ⟨rfl,hb2⟩;go_wp2_with fail;exact .mk (hE _ _ rfl (hC1.trans (hb2.mono hC1.size)) hb2)
  ·refine qac [] (fun _=>rfl) rfl ?_;intro w1 vals hC1 hi0 hf E hE;clear hi0;clear hf;have hs:=HST1.out.next hC1;simp only [sP] at hE ⊢;refine qab (hs.1.1) rfl rfl rfl hu rfl qag ?_;go_wp2_with fail;exact .mk (hE _ _ rfl hC1 rfl)
  ·refine qac [(5,some 26),(6,some 27),(5,some 26)] (fun _=>rfl) rfl ?_;intro w1 vals hC1 hi0 hf E hE;clear hi0;have f5:vals 5=_:=hf 5 rfl;have f6:vals 6=_:=hf 6 rfl
   try dsimp only at f5 f6
   clear hf;simp only [sP,f5,f6] at hE ⊢;clear f5 f6;go_wp2_with fail;refine qaa (mul_c _ _ _ (qax (KU.out) (Kc.out)) (Kc.out)) ?_;rintro e w2 ⟨rfl,hb2⟩;go_wp2_with fail;exact .mk (hE _ _ rfl (hC1.trans (hb2.mono hC1.size)) hb2)
  ·refine qac [] (fun _=>rfl) rfl ?_;intro w1 vals hC1 hi0 hf E hE;clear hi0;clear hf;have hs:=HST1.out.next hC1;simp only [sP] at hE ⊢;refine qab (hs.1.2.2.2.1) rfl rfl rfl hu rfl qag ?_;go_wp2_with fail;exact .mk (hE _ _ rfl hC1 rfl)
  ·refine qac [(7,some 28),(8,some 29),(7,some 28)] (fun _=>rfl) rfl ?_;intro w1 vals hC1 hi0 hf E hE;clear hi0;have f7:vals 7=_:=hf 7 rfl;have f8:vals 8=_:=hf 8 rfl
   try dsimp only at f7 f8
   clear hf;simp only [sP,f7,f8] at hE ⊢;clear f7 f8;go_wp2_with fail;refine qaa (mul_c _ _ _ (qax (qax (KU.out) (Kc.out)) (Kc.out)) (KV.out)) ?_;rintro e w2 ⟨rfl,hb2⟩;go_wp2_with fail;exact .mk (hE _ _ rfl (hC1.trans (hb2.mono hC1.size)) hb2)
  ·refine qac [] (fun _=>rfl) rfl ?_;intro w1 vals hC1 hi0 hf E hE;clear hi0;clear hf;simp only [sP] at hE ⊢;go_wp2;exact .mk (hE _ _ rfl hC1 rfl)
  ·refine qac [(9,some 30),(10,some 31),(9,some 30)] (fun _=>rfl) rfl ?_;intro w1 vals hC1 hi0 hf E hE;clear hi0;have f9:vals 9=_:=hf 9 rfl;have f10:vals 10=_:=hf 10 rfl
   try dsimp only at f9 f10
   clear hf;have hs:=HST1.out.next hC1;simp only [sP,f9,f10] at hE ⊢;clear f9 f10;go_wp2_with fail;refine qaa (CPW.out _ _ (qax (qax (qax (KU.out) (Kc.out)) (Kc.out)) (KV.out)) (hs.1.2.1)) ?_;rintro e w2 ⟨rfl,hb2⟩;go_wp2_with fail;exact .mk (hE _ _ rfl (hC1.trans (hb2.mono hC1.size)) hb2)
  ·refine qac [(2,some 23),(11,some 32),(11,some 32)] (fun _=>rfl) rfl ?_;intro w1 vals hC1 hi0 hf E hE;clear hi0;have f2:vals 2=_:=hf 2 rfl;have f11:vals 11=_:=hf 11 rfl
   try dsimp only at f2 f11
   clear hf;simp only [sP,f2,f11] at hE ⊢;clear f2 f11;go_wp2_with fail;refine qaa (mul_c _ _ _ (qax (KU.out) (Kc.out)) (pwL_ok (qax (qax (qax (KU.out) (Kc.out)) (Kc.out)) (KV.out)) _ _)) ?_;rintro e w2 ⟨rfl,hb2⟩;go_wp2_with fail;exact .mk (hE _ _ rfl (hC1.trans (hb2.mono hC1.size)) hb2)
  ·refine qac [] (fun _=>rfl) rfl ?_;intro w1 vals hC1 hi0 hf E hE;clear hi0;clear hf;simp only [sP] at hE ⊢;go_wp2;exact .mk (hE _ _ (NewBox.of hC1.size) (hC1.alloc hC1.size _) (below_new _ _))
  ·refine qac [(13,some 8),(12,some 33),(12,some 33),(0,some 21),(1,some 22),(2,some 23),(3,some 24),(4,some 25),(5,some 26),(6,some 27),(7,some 28),(8,some 29),(9,some 30),(10,some 31),(11,some 32),(12,some 33),(13,some 8)] (fun _=>rfl) rfl ?_;intro w1 vals hC1 hi0 hf E hE;clear hi0;have f0:vals 0=_:=hf 0 rfl;have f1:vals 1=_:=hf 1 rfl;have f2:vals 2=_:=hf 2 rfl;have f3:vals 3=_:=hf 3 rfl;have f4:vals 4=_:=hf 4 rfl;have f5:vals 5=_:=hf 5 rfl;have f6:vals 6=_:=hf 6 rfl;have f7:vals 7=_:=hf 7 rfl;have f8:vals 8=_:=hf 8 rfl;have f9:vals 9=_:=hf 9 rfl;have f10:vals 10=_:=hf 10 rfl;have f11:vals 11=_:=hf 11 rfl;have f12:vals 12=_:=hf 12 rfl;have f13:(NewBox v1.heap.size 46 (eV zE)) (vals 13) w1:=hf 13 rfl
   try dsimp only at f0 f1 f2 f3 f4 f5 f6 f7 f8 f9 f10 f11 f12 f13
   clear hf;obtain ⟨o,hx,ho,hblk⟩:=f13;have hx':=hx;simp only [sP,f0,f1,f2,f3,f4,f5,f6,f7,f8,f9,f10,f11,f12,hx] at hE ⊢;clear f0 f1 f2 f3 f4 f5 f6 f7 f8 f9 f10 f11 f12;clear hx;refine qaf (cells:=eV (mulE (mulE (m) (c)) (pwL (mulE (mulE (mulE (m) (c)) (c)) (n)) e0L 32))) hblk rfl rfl rfl rfl qag rfl (by simp [eV,ptV,wV,limbs,Value.oneCell']) ?_;intro w2 hb2 hw2;go_wp2_with fail;exact .mk (hE undef _ ⟨o,hx',ho,hb2⟩ (hw2.below hC1 ho hC1.size) trivial)
 intro w1 vals hC1 hf;have f0:vals 0=_:=hf 0 (by decide) rfl;have f1:vals 1=_:=hf 1 (by decide) rfl;have f2:vals 2=_:=hf 2 (by decide) rfl;have f3:vals 3=_:=hf 3 (by decide) rfl;have f4:vals 4=_:=hf 4 (by decide) rfl;have f5:vals 5=_:=hf 5 (by decide) rfl;have f6:vals 6=_:=hf 6 (by decide) rfl;have f7:vals 7=_:=hf 7 (by decide) rfl;have f8:vals 8=_:=hf 8 (by decide) rfl;have f9:vals 9=_:=hf 9 (by decide) rfl;have f10:vals 10=_:=hf 10 (by decide) rfl;have f11:vals 11=_:=hf 11 (by decide) rfl;have f12:vals 12=_:=hf 12 (by decide) rfl;have f14:(fun z u=>NewBox v1.heap.size 46 (eV (mulE (mulE (m) (c)) (pwL (mulE (mulE (mulE (m) (c)) (c)) (n)) e0L 32))) (z 13) u) vals w1:=hf 14 (by decide) rfl
 try dsimp only at f0 f1 f2 f3 f4 f5 f6 f7 f8 f9 f10 f11 f12 f14
 clear hf;simp only [sP,f0,f1,f2,f3,f4,f5,f6,f7,f8,f9,f10,f11,f12];clear f0 f1 f2 f3 f4 f5 f6 f7 f8 f9 f10 f11 f12;generalize vals 13=x13 at *;obtain ⟨o2,rfl,hlo2,hblk2⟩:=f14;obtain ⟨t,ht⟩:=eX (mulE (mulE (m) (c)) (pwL (mulE (mulE (mulE (m) (c)) (c)) (n)) e0L 32));rw [← ht] at hblk2;have Kt:=zY (show t.Ok by rw [ht]; exact qax (qax (KU.out) (Kc.out)) (pwL_ok (qax (qax (qax (KU.out) (Kc.out)) (Kc.out)) (KV.out)) _ _));have Et:=zY ht;have HST2:=zY (show Cs (.box o2 46 (eV t) :: [.box o1 46 (eV c),.rd OA (bytesV e0B),.box gu 46 (eV m),.box gv 46 (eV n),.box r 46 (eV zE)]) w w1 from ⟨⟨hblk2,(HST1.out.next hC1).1⟩,(HST1.out.next hC1).2⟩);clear hC1 HC0 HST1 hblk2 hlo2 ht;obtain ⟨v2,rfl⟩:=eX w1;go_wp2_with fail;have HC0:Below v2.heap.size v2 v2.drew:=(Below.refl _ _).drew
 refine qar (fun u=>Below v2.heap.size v2 u) (fun | false=>(fun _=>True) | true=>(fun _=>True)) (fun | false,_=>false | true,_=>false)
  [fun z _=>z 0=.agg (eV (n)),
   fun z _=>z 1=.agg (eV (t)),
   fun z _=>z 2=.agg (eV (mulE (n) (t))),
   fun z _=>z 3=.agg (eV (t)),
   fun z _=>z 4=.agg (eV (mulE (mulE (n) (t)) (t))),
   fun z u=>(NewBox v2.heap.size 46 (eV zE)) (z 5) u,
   fun z u=>NewBox v2.heap.size 46 (eV (mulE (mulE (n) (t)) (t))) (z 5) u]
  [Eq,Eq,fun u u'=>Below u.heap.size u u',Eq,fun u u'=>Below u.heap.size u u',fun u u'=>Below u.heap.size u u',fun _ _=>True]
  (fun i k=>(i == 6 && k == 5)) [(0,some 34),(1,some 35),(2,some 36),(3,some 37),(4,some 38),(5,some 9),(6,none)] (by kernel_rfl) (by kernel_rfl) rfl (fun _=>rfl) ?_ ?_ ?_ ?_ ?_ ?_
 ·exact HC0
 ·intro m; cases m; exact trivial; exact trivial
 ·intro m; cases m
  ·refine ⟨?_,?_,?_,?_,?_,?_,?_,trivial⟩ <;> first | exact .inr fun _ _ h h0=>h▸h0 | exact .inr fun _ _ _ h=>h
  ·refine ⟨?_,?_,?_,?_,?_,?_,?_,trivial⟩ <;> first | exact .inr fun _ _ h h0=>h▸h0 | exact .inr fun _ _ _ h=>h
 ·refine ⟨⟨.inl rfl,?_,?_,?_,?_,?_,?_,trivial⟩,⟨?_,.inl rfl,?_,?_,?_,?_,?_,trivial⟩,⟨?_,?_,.inl rfl,?_,?_,.inr (.inr (.inr (fun _ _ _ _ h h0=>h0.next h))),?_,trivial⟩,⟨?_,?_,?_,.inl rfl,?_,?_,?_,trivial⟩,⟨?_,?_,?_,?_,.inl rfl,.inr (.inr (.inr (fun _ _ _ _ h h0=>h0.next h))),?_,trivial⟩,⟨?_,?_,?_,?_,?_,.inl rfl,?_,trivial⟩,⟨?_,?_,?_,?_,?_,.inr (.inl rfl),.inl rfl,trivial⟩,trivial⟩ <;> first | exact .inr (.inr (.inl rfl)) | exact .inr (.inr (.inr fun _ _ _ _ _ h=>h)) | exact .inr (.inr (.inr fun _ _ _ _ h h0=>by cases h; exact h0))
 ·refine ⟨?_,?_,?_,?_,?_,?_,?_,trivial⟩
  ·refine qac [] (fun _=>rfl) rfl ?_;intro w1 vals hC1 hi0 hf E hE;clear hi0;clear hf;have hs:=HST2.out.next hC1;simp only [sP] at hE ⊢;refine qab (hs.1.2.2.2.2.1) rfl rfl rfl hu rfl qag ?_;go_wp2_with fail;exact .mk (hE _ _ rfl hC1 rfl)
  ·refine qac [] (fun _=>rfl) rfl ?_;intro w1 vals hC1 hi0 hf E hE;clear hi0;clear hf;have hs:=HST2.out.next hC1;simp only [sP] at hE ⊢;refine qab (hs.1.1) rfl rfl rfl hu rfl qag ?_;go_wp2_with fail;exact .mk (hE _ _ rfl hC1 rfl)
  ·refine qac [(0,some 34),(1,some 35)] (fun _=>rfl) rfl ?_;intro w1 vals hC1 hi0 hf E hE;clear hi0;have f0:vals 0=_:=hf 0 rfl;have f1:vals 1=_:=hf 1 rfl
   try dsimp only at f0 f1
   clear hf;simp only [sP,f0,f1] at hE ⊢;clear f0 f1;go_wp2_with fail;refine qaa (mul_c _ _ _ (KV.out) (Kt.out)) ?_;rintro e w2 ⟨rfl,hb2⟩;go_wp2_with fail;exact .mk (hE _ _ rfl (hC1.trans (hb2.mono hC1.size)) hb2)
  ·refine qac [] (fun _=>rfl) rfl ?_;intro w1 vals hC1 hi0 hf E hE;clear hi0;clear hf;have hs:=HST2.out.next hC1;simp only [sP] at hE ⊢;refine qab (hs.1.1) rfl rfl rfl hu rfl qag ?_;go_wp2_with fail;exact .mk (hE _ _ rfl hC1 rfl)
  ·refine qac [(2,some 36),(3,some 37),(2,some 36)] (fun _=>rfl) rfl ?_;intro w1 vals hC1 hi0 hf E hE;clear hi0;have f2:vals 2=_:=hf 2 rfl;have f3:vals 3=_:=hf 3 rfl
   try dsimp only at f2 f3
   clear hf;simp only [sP,f2,f3] at hE ⊢;clear f2 f3;go_wp2_with fail;refine qaa (mul_c _ _ _ (qax (KV.out) (Kt.out)) (Kt.out)) ?_;rintro e w2 ⟨rfl,hb2⟩;go_wp2_with fail;exact .mk (hE _ _ rfl (hC1.trans (hb2.mono hC1.size)) hb2)
  ·refine qac [] (fun _=>rfl) rfl ?_;intro w1 vals hC1 hi0 hf E hE;clear hi0;clear hf;simp only [sP] at hE ⊢;go_wp2;exact .mk (hE _ _ (NewBox.of hC1.size) (hC1.alloc hC1.size _) (below_new _ _))
  ·refine qac [(5,some 9),(4,some 38),(4,some 38),(0,some 34),(1,some 35),(2,some 36),(3,some 37),(4,some 38),(5,some 9)] (fun _=>rfl) rfl ?_;intro w1 vals hC1 hi0 hf E hE;clear hi0;have f0:vals 0=_:=hf 0 rfl;have f1:vals 1=_:=hf 1 rfl;have f2:vals 2=_:=hf 2 rfl;have f3:vals 3=_:=hf 3 rfl;have f4:vals 4=_:=hf 4 rfl;have f5:(NewBox v2.heap.size 46 (eV zE)) (vals 5) w1:=hf 5 rfl
   try dsimp only at f0 f1 f2 f3 f4 f5
   clear hf;obtain ⟨o,hx,ho,hblk⟩:=f5;have hx':=hx;simp only [sP,f0,f1,f2,f3,f4,hx] at hE ⊢;clear f0 f1 f2 f3 f4;clear hx;refine qaf (cells:=eV (mulE (mulE (n) (t)) (t))) hblk rfl rfl rfl rfl qag rfl (by simp [eV,ptV,wV,limbs,Value.oneCell']) ?_;intro w2 hb2 hw2;go_wp2_with fail;exact .mk (hE undef _ ⟨o,hx',ho,hb2⟩ (hw2.below hC1 ho hC1.size) trivial)
 intro w1 vals hC1 hf;have f0:vals 0=_:=hf 0 (by decide) rfl;have f1:vals 1=_:=hf 1 (by decide) rfl;have f2:vals 2=_:=hf 2 (by decide) rfl;have f3:vals 3=_:=hf 3 (by decide) rfl;have f4:vals 4=_:=hf 4 (by decide) rfl;have f6:(fun z u=>NewBox v2.heap.size 46 (eV (mulE (mulE (n) (t)) (t))) (z 5) u) vals w1:=hf 6 (by decide) rfl
 try dsimp only at f0 f1 f2 f3 f4 f6
 clear hf;simp only [sP,f0,f1,f2,f3,f4];clear f0 f1 f2 f3 f4;generalize vals 5=x5 at *;obtain ⟨o3,rfl,hlo3,hblk3⟩:=f6;obtain ⟨h,hh⟩:=eX (mulE (mulE (n) (t)) (t));rw [← hh] at hblk3;have Kh:=zY (show h.Ok by rw [hh]; exact qax (qax (KV.out) (Kt.out)) (Kt.out));have Eh:=zY hh;have HST3:=zY (show Cs (.box o3 46 (eV h) :: [.box o2 46 (eV t),.box o1 46 (eV c),.rd OA (bytesV e0B),.box gu 46 (eV m),.box gv 46 (eV n),.box r 46 (eV zE)]) w w1 from ⟨⟨hblk3,(HST2.out.next hC1).1⟩,(HST2.out.next hC1).2⟩);clear hC1 HC0 HST2 hblk3 hlo3 hh;obtain ⟨v3,rfl⟩:=eX w1;obtain ⟨b1,hb1⟩:=eX (eqB h m);obtain ⟨b2,hb2⟩:=eX (eqB h (subE zE m));have hre:=HRES.out c t h b1 b2 Ec.out Et.out Eh.out hb1 hb2;have CE1:=zY (show ∀ u,Calls Tryz.prog 55 #[.agg (eV h),.agg (eV m)] u (BoolPost b1 u) from fun u=>by rw [hb1]; exact equal_c _ _ _ Kh.out KU.out);have CE2:=zY (show ∀ u,Calls Tryz.prog 55 #[.agg (eV h),.agg (eV (subE zE m))] u (BoolPost b2 u) from fun u=>by rw [hb2]; exact equal_c _ _ _ Kh.out (qbb zE_ok KU.out));have HRE:=zY hre;clear hb1 hb2 hre HRES Ec Et Eh CPW;go_wp2_with (first | (refine qab (x:=.tmp 9) (HST3.out.1.1) rfl rfl rfl hu rfl qag ?_) | (refine qab (x:=.tmp 2) (HST3.out.1.2.2.2.2.1) rfl rfl rfl hu rfl qag ?_));refine qaa (CE1.out _) ?_;rintro e y1 ⟨rfl,hb⟩;have HSTa:=zY (HST3.out.next hb);clear hb HST3
 cases b1
 ·go_wp2_with fail;have HC0:=HSTa.out.drew;clear HSTa;refine qal (fun u=>Cs [.box o3 46 (eV h),.box o2 46 (eV t),.box o1 46 (eV c),.rd OA (bytesV e0B),.box gu 46 (eV m),.box gv 46 (eV n),.box r 46 (eV zE)] w u) (fun u=>Cs [.box o3 46 (eV h),.box o2 46 (eV t),.box o1 46 (eV c),.rd OA (bytesV e0B),.box gu 46 (eV m),.box gv 46 (eV n),.box r 46 (eV zE)] w u) [(0,some 45),(1,some 46),(2,some 47),(3,some 48),(4,some 49),(5,some 44)] (by kernel_rfl) (by kernel_rfl) (by decide) (by kernel_rfl) (fun _=>rfl) HC0 ?_;apply yN_
  ·apply dP [];exact fun _=>rfl;rfl;rintro vals - w1 hC1 E hE;have hs:=hC1;simp only [sP] at hE ⊢;refine qab (hs.1.1) rfl rfl rfl hu rfl qag ?_;go_wp2_with fail;exact .mk (hE _ hC1)
  apply yN_
  ·apply dP [];exact fun _=>rfl;rfl;rintro vals ⟨-,-⟩ w1 hC1 E hE;simp only [sP] at hE ⊢;go_wp2;exact .mk (hE _ hC1)
  apply yN_
  ·apply dP [];exact fun _=>rfl;rfl;intro vals vq w1 hC1 E hE;clear vq;have hs:=hC1;simp only [sP] at hE ⊢;refine qab (hs.1.2.2.2.2.1) rfl rfl rfl hu rfl qag ?_;go_wp2_with fail;exact .mk (hE _ hC1)
  apply yN_
  ·apply dP [(1,some 46),(2,some 47)];exact fun _=>rfl;rfl;intro vals vq w1 hC1 E hE;simp only [sP,vq] at hE ⊢;clear vq;go_wp2_with fail;refine qaa (sub_z _ (KU.out) _) ?_;rintro e w2 ⟨rfl,hb2⟩;go_wp2_with fail;exact .mk (hE _ (hC1.next hb2))
  apply yN_
  ·apply dP [(0,some 45),(3,some 48),(3,some 48)];exact fun _=>rfl;rfl;intro vals vq w1 hC1 E hE;simp only [sP,vq] at hE ⊢;clear vq;go_wp2_with fail;refine qaa (CE2.out _) ?_;rintro e w2 ⟨rfl,hb2⟩;go_wp2_with fail;exact .mk (hE _ (hC1.next hb2))
  apply yL_
  ·apply dP [(4,some 49),(4,some 49)];exact fun _=>rfl;rfl;intro vals vq w1 hC1 E hE;simp only [sP,vq] at hE ⊢;clear vq;go_wp2;exact .mk (hE _ hC1)
  intro vals vq w1 hC1;simp only [sP,vq];clear vq;clear HC0;have HSTb:=zY hC1;clear hC1
  cases b2
  ·go_wp2_with (refine qaf (x:=.tmp 4) (cells:=eV zE) (HSTb.out.1.2.2.2.2.2.2.1) rfl rfl rfl rfl qag rfl (by simp [eV,ptV,wV,limbs,Value.oneCell']) ?_; intro y9 hb9 hw9; have HR9:=zY hb9; have HW9:=zY hw9; clear hb9 hw9);refine bodyPost_ret (qap (P:=Tryz.prog) rfl rfl HR9.out hu rfl qag) rfl ⟨?_,HW9.out.below HSTb.out.2 HLR.out HSTb.out.2.size⟩;rw [HRE.out.1,HRE.out.2];rfl
  ·go_wp2_with fail;have HC0:=HSTb.out.drew;clear HSTb;refine qa5 (fun u=>Cs [.box o3 46 (eV h),.box o2 46 (eV t),.box o1 46 (eV c),.rd OA (bytesV e0B),.box gu 46 (eV m),.box gv 46 (eV n),.box r 46 (eV zE)] w u) (fun _=>false) 3 [(0,some 50),(1,some 51),(2,some 52),(3,none),(4,some 5)] (by kernel_rfl) (by kernel_rfl) (by decide) (by kernel_rfl) (fun _=>rfl) HC0 ?_;apply DetQ.next
   ·apply dQ;apply dP [];exact fun _=>rfl;rfl;rintro vals - w1 hC1 E hE;simp only [sP] at hE ⊢;refine qab (hC1.1.2.1) rfl rfl rfl hu rfl qag ?_;go_wp2_with fail;exact .mk (hE _ hC1)
   apply DetQ.next
   ·apply dQ;apply dP [];exact fun _=>rfl;rfl;rintro vals ⟨-,-⟩ w1 hC1 E hE;simp only [sP] at hE ⊢;go_wp2_with fail;refine qaa (CT.out _) ?_;rintro e w2 ⟨rfl,hb2⟩;go_wp2_with fail;exact .mk (hE _ (hC1.next hb2))
   apply DetQ.next
   ·apply dQ;apply dP [(0,some 50),(1,some 51),(1,some 51)];exact fun _=>rfl;rfl;intro vals vq w1 hC1 E hE;simp only [sP,vq] at hE ⊢;clear vq;go_wp2_with fail;refine qaa (mul_c t X _ Kt.out KX.out) ?_;rintro e w2 ⟨rfl,hb2⟩;go_wp2_with fail;exact .mk (hE _ (hC1.next hb2))
   apply DetQ.done;rintro vals ⟨⟨⟨-,f0⟩,f1⟩,f2⟩ w1 hC1;refine qa7 [(2,some 52),(2,some 52),(0,some 50),(1,some 51),(2,some 52)] (fun _=>rfl) rfl ?_;intro E hE;simp only [sP,f0,f1,f2] at hE ⊢;refine qaf (x:=.tmp 4) (cells:=eV (mulE t X)) (hC1.1.2.2.2.2.2.2.1) rfl rfl rfl rfl qag rfl (by simp [eV,ptV,wV,limbs,Value.oneCell']) ?_;intro y9 hb9 hw9;have HR9:=zY hb9;have HW9:=zY hw9;clear hb9 hw9;go_wp2_with fail;refine .mk (hE undef _ ?_);clear hE E;generalize hval:upd _ 3 _=vals3;replace f0:=uP hval (by decide) f0;replace f1:=uP hval (by decide) f1;replace f2:=uP hval (by decide) f2;have f3:=(congrFun hval 3).symm.trans (qaO _ _ _);clear hval;refine qa7 [(3,none),(0,some 50),(1,some 51),(2,some 52),(3,none)] (fun _=>rfl) rfl ?_;intro E hE;simp only [sP,f0,f1,f2,f3] at hE ⊢;go_wp2;refine .mk (hE _ _ ?_);clear hE E;generalize hval:upd _ 4 _=vals4;replace f0:=uP hval (by decide) f0;replace f1:=uP hval (by decide) f1;replace f2:=uP hval (by decide) f2;replace f3:=uP hval (by decide) f3;have f4:=(congrFun hval 4).symm.trans (qaO _ _ _);clear hval;refine qcs ?_;simp only [sP,f0,f1,f2,f3,f4];clear f0 f1 f2 f3 f4;have HSTc:=zY hC1;clear hC1 HC0;go_wp2_with fail;refine bodyPost_ret (qap (P:=Tryz.prog) rfl rfl HR9.out hu rfl qag) rfl ⟨?_,HW9.out.below HSTc.out.2 HLR.out HSTc.out.2.size⟩;rw [HRE.out.1,HRE.out.2];rfl
 ·go_wp2_with (first | (refine qab (x:=.tmp 8) (HSTa.out.1.2.1) rfl rfl rfl hu rfl qag ?_) | (refine qaf (x:=.tmp 4) (cells:=eV t) (HSTa.out.1.2.2.2.2.2.2.1) rfl rfl rfl rfl qag rfl (by simp [eV,ptV,wV,limbs,Value.oneCell']) ?_; intro y9 hb9 hw9; have HR9:=zY hb9; have HW9:=zY hw9; clear hb9 hw9));refine bodyPost_ret (qap (P:=Tryz.prog) rfl rfl HR9.out hu rfl qag) rfl ⟨?_,HW9.out.below HSTa.out.2 HLR.out HSTa.out.2.size⟩;rw [HRE.out.1,HRE.out.2];rfl
def e1L:List Nat:=254 :: (List.replicate 30 255++[15])
def e2L:List Nat:=251 :: (List.replicate 30 255++[31])
theorem e1L_end:((fillL 32).set 0 254).set 31 15=e1L:=by decide
theorem e2L_end:((fillL 32).set 0 251).set 31 31=e2L:=by decide
theorem e1L_dg:Dg e1L:=by unfold Dg; decide
theorem e2L_dg:Dg e2L:=by unfold Dg; decide
theorem e1L_len:e1L.length=32:=by decide
theorem e2L_len:e2L.length=32:=by decide
def rtV (a x q:Nat):Nat:=if decide (x*x%PN=a) then x else x*q%PN
def rtB (a x q:Nat):Bool:=if decide (x*x%PN=a) then true else decide (x*q%PN*(x*q%PN)%PN=a)
def RootPost (v:Nat) (b:Bool) (w:World) (e:Ending) (w':World):Prop:=∃ A c,e=.returned (.tuple #[.slice A 32 c,.bool b])∧32≤c∧Rd w' w'.heap.size A (DN v)∧Below w.heap.size w w'
theorem nroot_any {a x q:Nat} (ha:a<PN) (hx:x=a^leV e1L%PN) (hq:q=2^leV e2L%PN) {A:Option Addr} {c:Nat} (hc:32≤c) {w:World} (h:Rd w w.heap.size A (DN a)) :
  Calls Tryz.prog 66 #[.slice A 32 c] w (RootPost (rtV a x q) (rtB a x q) w):=by
 have hmk:∀ u:World,(Instr.makeSlice 30 (.int .i64 32) (.int .i64 32)).run Tryz.prog u=.ok (.slice (some ⟨u.heap.size,0,none⟩) 32 32) (u.alloc (.cells (dV (fillL 0)).toArray 3)):=fun _=>by kernel_rfl
 obtain ⟨x2,hx2⟩:=eX (x*x%PN);obtain ⟨y,hy⟩:=eX (x*q%PN);obtain ⟨y2,hy2⟩:=eX (y*y%PN);have lx:x<PN:=by rw [hx]; exact Nat.mod_lt _ qcU
 have lq:q<PN:=by rw [hq]; exact Nat.mod_lt _ qcU
 have lx2:x2<PN:=by rw [hx2]; exact Nat.mod_lt _ qcU
 have ly:y<PN:=by rw [hy]; exact Nat.mod_lt _ qcU
 have ly2:y2<PN:=by rw [hy2]; exact Nat.mod_lt _ qcU
 obtain ⟨s1,hs1⟩:=eX (decide (x2=a));obtain ⟨s2,hs2⟩:=eX (decide (y2=a));have hv:rtV a x q=if s1 then x else y:=by rw [hs1,hx2,hy]; rfl
 have hb:rtB a x q=if s1 then true else s2:=by rw [hs1,hs2,hy2,hx2,hy]; rfl
 generalize rtV a x q=V at *;generalize rtB a x q=b at *;have HV:=zY hv;have HB:=zY hb;have C1:=zY (show ∀ u B d,Rd u u.heap.size A (DN a)→Rd u u.heap.size B (dV e1L)→Calls Tryz.prog 73 #[.slice A 32 c,.slice B 32 d] u (NumPost x u) from fun u B d h k=>by rw [hx]; exact npow ha e1L_dg e1L_len h k);have C2:=zY (show ∀ u B d,Rd u u.heap.size B (DN x)→Calls Tryz.prog 39 #[.slice B 32 d,.slice B 32 d] u (NumPost x2 u) from fun u B d k=>by rw [hx2]; exact nmul lx lx k k);have C3:=zY (show ∀ u B d,Rd u u.heap.size B (DN x2)→Rd u u.heap.size A (DN a)→32≤d→Calls Tryz.prog 67 #[.slice B 32 d,.slice A 32 c] u (BoolPost s1 u) from fun u B d h k hd=>by rw [hs1]; exact nsame lx2 ha h k hd hc);have C4:=zY (show ∀ u,Calls Tryz.prog 14 #[.int .i64 2] u (NumPost 2 u) from fun u=>nint 2 (by decide) u);have C5:=zY (show ∀ u B d D e,Rd u u.heap.size B (DN 2)→Rd u u.heap.size D (dV e2L)→Calls Tryz.prog 73 #[.slice B 32 d,.slice D 32 e] u (NumPost q u) from fun u B d D e h k=>by rw [hq]; exact npow (by decide) e2L_dg e2L_len h k);have C6:=zY (show ∀ u B d D e,Rd u u.heap.size B (DN x)→Rd u u.heap.size D (DN q)→Calls Tryz.prog 39 #[.slice B 32 d,.slice D 32 e] u (NumPost y u) from fun u B d D e h k=>by rw [hy]; exact nmul lx lq h k);have C7:=zY (show ∀ u B d,Rd u u.heap.size B (DN y)→Calls Tryz.prog 39 #[.slice B 32 d,.slice B 32 d] u (NumPost y2 u) from fun u B d k=>by rw [hy2]; exact nmul ly ly k k);have C8:=zY (show ∀ u B d,Rd u u.heap.size B (DN y2)→Rd u u.heap.size A (DN a)→32≤d→Calls Tryz.prog 67 #[.slice B 32 d,.slice A 32 c] u (BoolPost s2 u) from fun u B d h k hd=>by rw [hs2]; exact nsame ly2 ha h k hd hc);have HA:=zY h;have hst0:=qcm (fillL 0) (Below.refl w.heap.size w);have HST0:=zY hst0;clear hst0 h hx hq hx2 hy hy2 lx lq lx2 ly ly2 hs1 hs2 hv hb hc ha;go_enter Tryz.func66,Tryz.ntmps66;go_wp2_with fail;generalize ho:w.heap.size=o at HST0 ⊢;have HMK:=zY hmk;have HO:=zY ho;clear ho hmk
 go_loopw [5] (fun i wr=>∃ k:Nat,k≤32∧i=.int .i64 k∧D1 w o (fillL k) wr) (fun i _=>32 - (intOf i).toNat)
 case atStart=>exact ⟨0,by omega,rfl,HST0.out⟩
 case round =>
  clear HST0;obtain ⟨k,hk,rfl,hst⟩:=hrel
  by_cases hlt:k<32
  ·have hlt':(k:Int)<32:=by omega
   have HST:=zY hst;clear hst;go_wp2_with (refine qam (x:=.tmp 18) (i:=k) (v:=.int .i64 255) HST.out.out rfl rfl rfl rfl qaS (by rw [qbf,qbe k (by omega)]; exact hlt) rfl ?_; intro w5 hb5 hw5; have hst5:=HST.out.put (l':=fillL (k+1)) hw5 (by rw [show (Value.int IntKind.i64 255)=.int .i64 ((255:Nat):Int) from rfl,qaY,qdK k hlt] at hb5; exact hb5); have HST5:=zY hst5; clear hst5 hb5 hw5);exact ⟨⟨k+1,by omega,by go_num,HST5.out⟩,by simp [intOf]; omega⟩
  ·obtain rfl:k=32:=by omega
   have HST:=zY hst;clear hst hk hlt
   go_wp2_with (first
    | (refine qam (x:=.tmp 20) (i:=0) (v:=.int .i64 254) HST.out.out rfl rfl rfl rfl qaS (by rw [qbf,qbe 32 (by omega)]; decide) rfl ?_; intro w5 hb5 hw5; have hst5:=HST.out.put (l':=(fillL 32).set 0 254) hw5 (by rw [show (Value.int IntKind.i64 254)=.int .i64 ((254:Nat):Int) from rfl,qaY] at hb5; exact hb5); have HST5:=zY hst5; clear hst5 hb5 hw5)
    | (refine qam (x:=.tmp 22) (i:=31) (v:=.int .i64 15) HST5.out.out rfl rfl rfl rfl qaS (by rw [qbf,List.length_set,qbe 32 (by omega)]; decide) rfl ?_; intro w6 hb6 hw6; have hst6:=HST5.out.put (l':=e1L) hw6 (by rw [show (Value.int IntKind.i64 15)=.int .i64 ((15:Nat):Int) from rfl,qaY,e1L_end] at hb6; exact hb6); have HST6:=zY hst6; clear hst6 hb6 hw6))
   have HA6:=zY (qae HA.out HST6.out.bel);have HB6:=zY HST6.out.bel;have HE6:=zY (Rd.of_blk HST6.out.out HST6.out.out.lt);clear HST HST5 HST6 HA;refine qaa (C1.out _ _ _ HA6.out HE6.out) ?_;rintro e w7 ⟨A7,c7,rfl,hc7,hr7,hb7⟩;have HA7:=zY (qae HA6.out hb7);have HB7:=zY (HB6.out.trans (hb7.mono HB6.out.size));have HX7:=zY hr7;have HC7:=zY hc7;clear hc7 hr7 hb7 HA6 HB6 HE6;go_wp2_with fail;refine qaa (C2.out _ _ _ HX7.out) ?_;rintro e w8 ⟨A8,c8,rfl,hc8,hr8,hb8⟩;have HA8:=zY (qae HA7.out hb8);have HB8:=zY (HB7.out.trans (hb8.mono HB7.out.size));have HX8:=zY (qae HX7.out hb8);have HS8:=zY (C3.out w8 A8 c8 hr8 HA8.out hc8);clear hc8 hr8 hb8 HA7 HB7 HX7;go_wp2_with fail;refine qaa HS8.out ?_;rintro e w9 ⟨rfl,hb9⟩;have HA9:=zY (qae HA8.out hb9);have HB9:=zY (HB8.out.trans (hb9.mono HB8.out.size));have HX9:=zY (qae HX8.out hb9);clear hb9 HA8 HB8 HX8 HS8
   cases s1
   ·have hst0:=qcm (fillL 0) (Below.refl w9.heap.size w9);have HST0:=zY hst0;have hmk:=HMK.out;clear hst0 HMK;go_wp2_with fail;generalize ho9:w9.heap.size=o9 at HST0 ⊢;have HO9:=zY ho9;clear ho9 hmk
    go_loopw [9] (fun i wr=>∃ k:Nat,k≤32∧i=.int .i64 k∧D1 w9 o9 (fillL k) wr) (fun i _=>32 - (intOf i).toNat)
    case atStart=>exact ⟨0,by omega,rfl,HST0.out⟩
    case round =>
     clear HST0;obtain ⟨k,hk,rfl,hst⟩:=hrel
     by_cases hlt:k<32
     ·have hlt':(k:Int)<32:=by omega
      have HST:=zY hst;clear hst;go_wp2_with (refine qam (x:=.tmp 40) (i:=k) (v:=.int .i64 255) HST.out.out rfl rfl rfl rfl qaS (by rw [qbf,qbe k (by omega)]; exact hlt) rfl ?_; intro w5 hb5 hw5; have hst5:=HST.out.put (l':=fillL (k+1)) hw5 (by rw [show (Value.int IntKind.i64 255)=.int .i64 ((255:Nat):Int) from rfl,qaY,qdK k hlt] at hb5; exact hb5); have HST5:=zY hst5; clear hst5 hb5 hw5);exact ⟨⟨k+1,by omega,by go_num,HST5.out⟩,by simp [intOf]; omega⟩
     ·obtain rfl:k=32:=by omega
      have HST:=zY hst;clear hst hk hlt
      go_wp2_with (first
       | (refine qam (x:=.tmp 42) (i:=0) (v:=.int .i64 251) HST.out.out rfl rfl rfl rfl qaS (by rw [qbf,qbe 32 (by omega)]; decide) rfl ?_; intro w5 hb5 hw5; have hst5:=HST.out.put (l':=(fillL 32).set 0 251) hw5 (by rw [show (Value.int IntKind.i64 251)=.int .i64 ((251:Nat):Int) from rfl,qaY] at hb5; exact hb5); have HST5:=zY hst5; clear hst5 hb5 hw5)
       | (refine qam (x:=.tmp 44) (i:=31) (v:=.int .i64 31) HST5.out.out rfl rfl rfl rfl qaS (by rw [qbf,List.length_set,qbe 32 (by omega)]; decide) rfl ?_; intro w6 hb6 hw6; have hst6:=HST5.out.put (l':=e2L) hw6 (by rw [show (Value.int IntKind.i64 31)=.int .i64 ((31:Nat):Int) from rfl,qaY,e2L_end] at hb6; exact hb6); have HST6:=zY hst6; clear hst6 hb6 hw6))
      have HA6:=zY (qae HA9.out HST6.out.bel);have HX6:=zY (qae HX9.out HST6.out.bel);have HB6:=zY (HB9.out.trans (HST6.out.bel.mono HB9.out.size));have HE6:=zY (Rd.of_blk HST6.out.out HST6.out.out.lt);clear HST HST5 HST6 HA9 HB9 HX9;refine qaa (C4.out _) ?_;rintro e w10 ⟨A10,c10,rfl,hc10,hr10,hb10⟩;have HA10:=zY (qae HA6.out hb10);have HX10:=zY (qae HX6.out hb10);have HB10:=zY (HB6.out.trans (hb10.mono HB6.out.size));have HE10:=zY (qae HE6.out hb10);have HT10:=zY hr10;clear hc10 hr10 hb10 HA6 HX6 HB6 HE6;go_wp2_with fail;refine qaa (C5.out _ _ _ _ _ HT10.out HE10.out) ?_;rintro e w11 ⟨A11,c11,rfl,hc11,hr11,hb11⟩;have HA11:=zY (qae HA10.out hb11);have HX11:=zY (qae HX10.out hb11);have HB11:=zY (HB10.out.trans (hb11.mono HB10.out.size));have HQ11:=zY hr11;clear hc11 hr11 hb11 HA10 HX10 HB10 HE10 HT10;go_wp2_with fail;refine qaa (C6.out _ _ _ _ _ HX11.out HQ11.out) ?_;rintro e w12 ⟨A12,c12,rfl,hc12,hr12,hb12⟩;have HA12:=zY (qae HA11.out hb12);have HB12:=zY (HB11.out.trans (hb12.mono HB11.out.size));have HY12:=zY hr12;have HC12:=zY hc12;clear hc12 hr12 hb12 HA11 HX11 HB11 HQ11;go_wp2_with fail;refine qaa (C7.out _ _ _ HY12.out) ?_;rintro e w13 ⟨A13,c13,rfl,hc13,hr13,hb13⟩;have HA13:=zY (qae HA12.out hb13);have HB13:=zY (HB12.out.trans (hb13.mono HB12.out.size));have HY13:=zY (qae HY12.out hb13);have HS13:=zY (C8.out w13 A13 c13 hr13 HA13.out hc13);clear hc13 hr13 hb13 HA12 HB12 HY12;go_wp2_with fail;refine qaa HS13.out ?_;rintro e w14 ⟨rfl,hb14⟩;have HB14:=zY (HB13.out.trans (hb14.mono HB13.out.size));have HY14:=zY (qae HY13.out hb14);clear hb14 HA13 HB13 HY13 HS13;go_wp2_with fail;refine bodyPost_ret (results_tmp2 rfl _ _ _) rfl ?_;have e1:V=y:=HV.out;have e2:b=s2:=HB.out;rw [e1,e2];exact ⟨A12,c12,rfl,HC12.out,HY14.out,HB14.out⟩
   ·go_wp2_with fail;refine bodyPost_ret (results_tmp2 rfl _ _ _) rfl ?_;have e1:V=x:=HV.out;have e2:b=true:=HB.out;rw [e1,e2];exact ⟨A7,c7,rfl,HC7.out,HX9.out,HB9.out⟩
theorem turn_val:turnE.val=rootN:=qc1 (by decide) (by decide) (by decide)
theorem root_sq:fn rootN*fn rootN=-1:=by decide
theorem fv_turn:fv turnE*fv turnE=-1:=by
 have h:fv turnE=fn rootN:=by rw [fv,turn_val]
 rw [h]; exact root_sq
theorem fv_pwL (x:E5) {l:List Nat} (hd:Dg l) (hl:l.length=32):fv (pwL x l 32)=pw (fv x) (leV l):=by
 have h:=pwL_val x l hd 32 (by rw [hl]; exact Nat.le_refl _);rw [hl,Nat.sub_self,List.drop_zero] at h;rw [fv,fv,← fn_pow];exact fn_eq.2 h
theorem eqB_fv {x y:E5} (hx:x.Ok) (hy:y.Ok):eqB x y=true↔fv x=fv y:=by
 rw [eqB,eqE hx.big hy.big,decide_eq_true_iff,fv,fv,fn_eq]
theorem k0_eq:leV e0L+leV e0L+1=kQ:=by decide
theorem e0L_len:e0L.length=32:=by decide
theorem fv_crV3 (v:E5):fv (crV3 v)=fv v*fv v*fv v:=by rw [crV3,qa3,qa3]
theorem fv_crX (u v:E5):fv (crX u v)=fv u*(fv v*fv v*fv v)*pw (fv u*(fv v*fv v*fv v)*(fv v*fv v*fv v)*fv v) (leV e0L):=by
 rw [crX,qa3,qa3,fv_pwL _ e0L_dg e0L_len,qa3,qa3,qa3,fv_crV3]
theorem fv_crH (u v:E5):fv (crH u v)=fv v*fv (crX u v)*fv (crX u v):=by rw [crH,qa3,qa3]
theorem crH_eq (u v:E5):fv (crH u v)=fv u*pw (fv u*(fv v*fv v*fv v)*(fv v*fv v*fv v)*fv v) kQ:=by
 rw [fv_crH,fv_crX,g_pow,← k0_eq,qdn,qdn,pw_one]
theorem croot_yes {u v:E5} (hu:u.Ok) (hv:v.Ok) (h:rootB u v=true):fv v*(fv (rootE u v)*fv (rootE u v))=fv u:=by
 have okX:=crX_ok hu hv;have okH:(crH u v).Ok:=qax (qax hv okX) okX
 by_cases h1:rootB1 u v=true
 ·have e:rootE u v=crX u v:=by rw [rootE,if_pos h1]
  rw [e];have h2:=(eqB_fv okH hu).1 h1;rw [fv_crH] at h2;exact g_h1 root_sq h2
 ·have h2:rootB2 u v=true:=by rwa [rootB,if_neg h1] at h
  have e:rootE u v=mulE (crX u v) turnE:=by rw [rootE,if_neg h1,if_pos h2]
  have h3:=(eqB_fv okH (qbb zE_ok hu)).1 h2;rw [fv_crH,qcC hu,fv_z] at h3;rw [e,qa3];exact g_h2 fv_turn h3
theorem v8_ne {z v:FP} (hz:z≠0) (hv:v≠0):z*(v*v*v*v)≠0:=Ed.mul_ne FF hz (Ed.mul_ne FF (Ed.mul_ne FF (Ed.mul_ne FF hv hv) hv) hv)
theorem croot_no {u v:E5} (hu:u.Ok) (hv:v.Ok) (h:rootB u v=false) (hv0:fv v≠0) (z:FP):fv v*(z*z)≠fv u:=by
 intro hz;have okX:=crX_ok hu hv;have okH:(crH u v).Ok:=qax (qax hv okX) okX;have b1:¬ rootB1 u v=true:=fun h1=>by rw [rootB,if_pos h1] at h; exact absurd h (by decide)
 have b2:¬ rootB2 u v=true:=fun h2=>by rw [rootB,if_neg b1,h2] at h; exact absurd h (by decide)
 have e1:fv (crH u v)≠fv u:=fun e=>b1 ((eqB_fv okH hu).2 e);have e2:fv (crH u v)≠0 - fv u:=fun e=>b2 ((eqB_fv okH (qbb zE_ok hu)).2 (by rw [qcC hu,fv_z]; exact e));rw [crH_eq,g_sq hz] at e1 e2
 by_cases h0:z=0
 ·apply e1;have hu0:fv u=0:=by rw [← hz,h0,g_mz,g_mz]
  rw [hu0,g_zm]
 ·have hw:=pw_quarter (v8_ne h0 hv0);rw [Nat.mul_comm,pw_pw,show (2:Nat)=1+1 from rfl,qdn,pw_one] at hw
  rcases hw with hw | hw
  ·rw [hw,qdp] at e1; exact e1 rfl
  ·rw [hw,g_mulm] at e2; exact e2 rfl
theorem k1_eq:leV e1L*2=kQ+1:=by decide
theorem k2_eq:leV e2L=kQ:=by decide
theorem two_half:2^(kQ*2)%PN=PN - 1:=by
 have h:kQ*2=leV halfL:=by decide
 rw [h,← pm_eq]
 decide
theorem neg_one:fn (PN - 1)=-1:=by decide
theorem q_sq {q:Nat} (hq:q=2^leV e2L%PN):fn q*fn q=-1:=by
 have h:=two_half;rw [k2_eq] at hq;generalize kQ=k at *;rw [hq,qen,fn_pow,← pw_one (pw (fn 2) k),← qdn,← pw_pw,← fn_pow];rw [show k*(1+1)=k*2 from rfl,← qen,h];exact neg_one
theorem fn_sq {a y:Nat} (ha:a<PN):decide (y*y%PN=a)=true↔fn y*fn y=fn a:=by
 rw [decide_eq_true_iff,← fn_mul,fn_eq,Nat.mod_eq_of_lt ha]
theorem nroot_yes {a x q:Nat} (ha:a<PN) (h:rtB a x q=true):fn (rtV a x q)*fn (rtV a x q)=fn a:=by
 by_cases h1:decide (x*x%PN=a)=true
 ·rw [rtV,if_pos h1];exact (fn_sq ha).1 h1
 ·rw [rtB,if_neg h1] at h;rw [rtV,if_neg h1];exact (fn_sq ha).1 h
theorem x_sq {a x:Nat} (hx:x=a^leV e1L%PN):fn x*fn x=fn a*pw (fn a) kQ:=by
 have e:pw (fn a) (leV e1L*2)=pw (fn a) (kQ+1):=by rw [k1_eq]
 rw [pw_pw,qdn,pw_one,show (2:Nat)=1+1 from rfl,qdn,pw_one,← fn_pow,← qen (a^leV e1L),← hx] at e;rw [e,Fin.mul_comm]
theorem nroot_no {a x q:Nat} (ha:a<PN) (hx:x=a^leV e1L%PN) (hq:q=2^leV e2L%PN) (h:rtB a x q=false) (z:FP):z*z≠fn a:=by
 intro hz;have b1:¬ decide (x*x%PN=a)=true:=fun h1=>by rw [rtB,if_pos h1] at h; exact absurd h (by decide)
 have b2:¬ decide (x*q%PN*(x*q%PN)%PN=a)=true:=fun h2=>by rw [rtB,if_neg b1,h2] at h; exact absurd h (by decide)
 rw [fn_sq ha] at b1 b2;rw [qen,fn_mul] at b2;have e:=x_sq hx
 by_cases h0:z=0
 ·apply b1;have hu0:fn a=0:=by rw [← hz,h0,g_mz]
  rw [e,hu0,g_zm]
 ·have hw:=pw_quarter h0;rw [Nat.mul_comm,pw_pw,show (2:Nat)=1+1 from rfl,qdn,pw_one,hz] at hw
  rcases hw with hw | hw
  ·rw [hw,qdp] at e; exact b1 e
  ·rw [hw] at e; exact b2 (g_neg2 (q_sq hq) e)
theorem clone_any (b:List UInt8) (h32:b.length=32) (A:Option Addr) (c:Nat) (w:World) (hr:Rd w w.heap.size A (bytesV b)) :
  Calls Tryz.prog 45 #[.slice A 32 c] w (OwnPostZ 5 32 (bytesV b) w):=by
 obtain ⟨ad,rfl,hlt,_⟩:=hr.at_ (k:=0) (by rw [qaq,h32]; decide);have HR:=zY hr;have hne:∀ u:World,(binOp .eql 22 (.slice (some ad) 32 c) (.slice none 0 0)).run Tryz.prog u=.ok (.bool false) u:=fun _=>by kernel_rfl
 clear hr;go_enter Tryz.func45,Tryz.ntmps45;have HO:=zY (ownZ_nil w 5);have HB:=zY (below_new w (.cells #[] 5));have HL:=zY (show (bytesV b).length=32*1 by rw [qaq,h32]);go_wp2_with (refine qb1 sl_bytes rfl rfl HO.out rfl rfl HL.out (by decide) (qae HR.out HB.out) (qb7 b) (by unfold maxLen; omega) (by omega) (by simp) ?_; intro A1 c1 w1 hown hg; have HOWN:=zY hown; have HG:=zY hg; clear hown hg);go_ret;exact ⟨A1,c1,rfl,HOWN.out,qaT HB.out HO.out.x HB.out.size HG.out⟩
theorem one_lt:1<PN:=by decide
theorem zero_lt:0<PN:=by decide
theorem dN_lt:dN<PN:=by decide
theorem qav (a:Nat):a%PN<PN:=Nat.mod_lt _ qcU
def pairV (A B:Value):Array Value:=#[A,B]
def nilS:Value:=.slice none 0 0
theorem qat:(Tryz.prog.info? 32).map (·.size)=some 2:=by kernel_rfl
structure OfW (y y2 u t v i a x q:Nat):Prop where
 hy2:y2=y*y%PN
 hu:u=(y2+PN - 1)%PN
 ht:t=dN*y2%PN
 hv:v=(t+1)%PN
 hi:i=v^(PN - 2)%PN
 ha:a=u*i%PN
 hx:x=a^leV e1L%PN
 hq:q=2^leV e2L%PN
def ofR (r:Nat) (ok odd:Bool):Option Nat:=if ok then (if decide (r%2=1)=odd then some r else if r=0 then none else some ((0+PN - r)%PN)) else none
def OfNPost (o:Option Nat) (Y:Value) (w:World) (e:Ending) (w':World):Prop :=
 Below w.heap.size w w'∧match o with
  | none=>e=.returned (.tuple #[.agg (pairV nilS nilS),.bool false])
  | some x=>∃ B d,e=.returned (.tuple #[.agg (pairV (.slice B 32 d) Y),.bool true])∧32≤d∧Rd w' w'.heap.size B (DN x)
theorem digit0 {r:Nat} (h:r<PN) {A:Option Addr} {u:World} (k:Rd u u.heap.size A (DN r)):∃ ad,A=some ad∧u.cell? (ad.add 0)=some (.int .i64 ((r%256:Nat):Int)):=by
 obtain ⟨ad,h1,_,h3⟩:=k.at_ (k:=0) (by rw [DN,qbq,qai]; decide);refine ⟨ad,h1,?_⟩;rw [h3,show (DN r)[0]'(by rw [DN,qbq,qai]; decide)=_ from dV_at (l:=digN 32 r) (j:=0) (by rw [qai]; decide)];rw [show (digN 32 r)[0]'(by rw [qai]; decide)=r%256 by simp [digN]]
theorem Rd.wrote {w w':World} {B g:Nat} {A:Option Addr} {xs:List Value} {t:TypeId} {cs:Array Value} (h:Rd w B A xs) (hg:Blk w g t cs) (hw:Wrote g w w') (hne:∀ v ∈ xs,∀ j:Nat,cs[j]?≠some v):Rd w' B A xs:=fun i u hi=>by
 obtain ⟨ad,ha,hlt,hc⟩:=h i u hi;refine ⟨ad,ha,hlt,?_⟩
 by_cases hb:ad.block=g
 ·exfalso
  unfold World.cell? at hc;rw [qbd,hb,show w.heap[g]?=_ from hg] at hc
  by_cases hs:(ad.add i).spot.isSome=true
  ·simp [hs] at hc
  ·simp only [hs,if_false] at hc;exact hne u (List.mem_of_getElem? hi) _ hc
 ·have hl:ad.block<w.heap.size:=by
   unfold World.cell? at hc;rw [qbd] at hc
   by_cases hl:ad.block<w.heap.size
   ·exact hl
   ·rw [Array.getElem?_eq_none (by omega)] at hc;simp at hc
  have e:w'.heap[ad.block]?=w.heap[ad.block]?:=hw.grown.block ad.block hl (by simpa using hb);unfold World.cell? at hc ⊢;rw [qbd] at hc ⊢;rw [e]; exact hc
theorem dn_int {x:Nat} {v:Value} (h:v ∈ DN x):∃ n:Int,v=.int .i64 n:=by
 obtain ⟨n,_,e⟩:=List.mem_map.1 (show v ∈ (digN 32 x).map (fun n=>Value.int .i64 ((n:Nat):Int)) from h);exact ⟨_,e.symm⟩
theorem qbK {x:Nat} {A C:Option Addr} {a b c d:Nat}:∀ v ∈ DN x,∀ j:Nat,(pairV (.slice A a b) (.slice C c d))[j]?≠some v:=fun v hv j=>by
 obtain ⟨n,rfl⟩:=dn_int hv
 match j with
 | 0=>simp [pairV]
 | 1=>simp [pairV]
 | j+2=>simp [pairV]
theorem Rd.pair {w w':World} {B g x:Nat} {X:Option Addr} {t:TypeId} {A C:Option Addr} {a b c d:Nat} (h:Rd w B X (DN x)) (hg:Blk w g t (pairV (.slice A a b) (.slice C c d))) (hw:Wrote g w w'):Rd w' B X (DN x):=h.wrote hg hw qbK
theorem qaD {A:Option Addr} {xs:List Value} {u u':World} (h:Rd u' u.heap.size A xs) (e:u'.heap.size=u.heap.size):Rd u' u'.heap.size A xs:=by rw [e]; exact h
theorem nof_any {y y2 u t v i a x q:Nat} (W:OfW y y2 u t v i a x q) (ly:y<PN) (odd:Bool) {A:Option Addr} {c:Nat} (hc:32≤c) {w:World} (h:Rd w w.heap.size A (DN y)) :
  Calls Tryz.prog 32 #[.slice A 32 c,.bool odd] w (OfNPost (ofR (rtV a x q) (rtB a x q) odd) (.slice A 32 c) w):=by
 have hpt:=Tryz.underlying32;obtain ⟨hy2,hu,ht,hv,hi,ha,hx,hq⟩:=W;have ly2:y2<PN:=by rw [hy2]; exact qav _
 have lu:u<PN:=by rw [hu]; exact qav _
 have lt:t<PN:=by rw [ht]; exact qav _
 have lv:v<PN:=by rw [hv]; exact qav _
 have li:i<PN:=by rw [hi]; exact qav _
 have la:a<PN:=by rw [ha]; exact qav _
 obtain ⟨r,hr⟩:=eX (rtV a x q);obtain ⟨ok,hok⟩:=eX (rtB a x q)
 have lr:r<PN:=by
  rw [hr,rtV]
  split
  ·rw [hx]; exact qav _
  ·exact qav _
 have CR:=zY (show ∀ u A c,32≤c→Rd u u.heap.size A (DN a)→Calls Tryz.prog 66 #[.slice A 32 c] u (RootPost r ok u) from fun u A c hc h=>by rw [hr,hok]; exact nroot_any la hx hq hc h);rw [← hr,← hok];clear hr hok hx hq;obtain ⟨z,hz⟩:=eX ((0+PN - r)%PN);obtain ⟨s,hs⟩:=eX (decide (r=0));obtain ⟨R,hR⟩:=eX (ofR r ok odd)
 have hR':R=if ok then (if decide (r%2=1)=odd then some r else if s then none else some z) else none:=by
  rw [hR,ofR,hs,hz]
  by_cases h0:r=0
  ·simp [h0]
  ·simp [h0]
 rw [← hR];have HR:=zY hR';clear hR hR';have C1:=zY (show ∀ u,Calls Tryz.prog 14 #[.int .i64 1] u (NumPost 1 u) from fun u=>nint 1 (by decide) u);have C2:=zY (show ∀ ww XA xc XB xd,Rd ww ww.heap.size XA (DN y)→Rd ww ww.heap.size XB (DN y)→Calls Tryz.prog 39 #[.slice XA 32 xc,.slice XB 32 xd] ww (NumPost y2 ww) from fun ww XA xc XB xd xh xk=>by rw [hy2]; exact nmul ly ly xh xk);have C3:=zY (show ∀ ww XA xc XB xd,Rd ww ww.heap.size XA (DN y2)→Rd ww ww.heap.size XB (DN 1)→Calls Tryz.prog 13 #[.slice XA 32 xc,.slice XB 32 xd] ww (NumPost u ww) from fun ww XA xc XB xd xh xk=>by rw [hu]; exact nsub ly2 one_lt xh xk);have C4:=zY (show ∀ u,Calls Tryz.prog 36 #[] u (NumPost dN u) from fun u=>nd_any u);have C5:=zY (show ∀ ww XA xc XB xd,Rd ww ww.heap.size XA (DN dN)→Rd ww ww.heap.size XB (DN y2)→Calls Tryz.prog 39 #[.slice XA 32 xc,.slice XB 32 xd] ww (NumPost t ww) from fun ww XA xc XB xd xh xk=>by rw [ht]; exact nmul dN_lt ly2 xh xk);have C6:=zY (show ∀ ww XA xc XB xd,Rd ww ww.heap.size XA (DN t)→Rd ww ww.heap.size XB (DN 1)→Calls Tryz.prog 43 #[.slice XA 32 xc,.slice XB 32 xd] ww (NumPost v ww) from fun ww XA xc XB xd xh xk=>by rw [hv]; exact nadd lt one_lt xh xk);have C7:=zY (show ∀ ww XA xc,Rd ww ww.heap.size XA (DN v)→Calls Tryz.prog 38 #[.slice XA 32 xc] ww (NumPost i ww) from fun ww XA xc xh=>by rw [hi]; exact ninv lv xh);have C8:=zY (show ∀ ww XA xc XB xd,Rd ww ww.heap.size XA (DN u)→Rd ww ww.heap.size XB (DN i)→Calls Tryz.prog 39 #[.slice XA 32 xc,.slice XB 32 xd] ww (NumPost a ww) from fun ww XA xc XB xd xh xk=>by rw [ha]; exact nmul lu li xh xk);have C9:=zY (show ∀ u,Calls Tryz.prog 14 #[.int .i64 0] u (NumPost 0 u) from fun u=>nint 0 (by decide) u);have C10:=zY (show ∀ ww XA xc XB xd,Rd ww ww.heap.size XA (DN r)→Rd ww ww.heap.size XB (DN 0)→32≤xc→32≤xd→Calls Tryz.prog 67 #[.slice XA 32 xc,.slice XB 32 xd] ww (BoolPost s ww) from fun ww XA xc XB xd xh xk hc hd=>by rw [hs]; exact nsame lr zero_lt xh xk hc hd);have C11:=zY (show ∀ ww XA xc XB xd,Rd ww ww.heap.size XA (DN 0)→Rd ww ww.heap.size XB (DN r)→Calls Tryz.prog 13 #[.slice XA 32 xc,.slice XB 32 xd] ww (NumPost z ww) from fun ww XA xc XB xd xh xk=>by rw [hz]; exact nsub zero_lt lr xh xk);generalize dN=D at *;have hr2:r%256%2=r%2:=Nat.mod_mod_of_dvd r (by decide);have LY:=zY hc;have RY:=zY h;have LR:=zY lr;have HB:=zY (below_new w (.cells (pairV nilS nilS) 32));have HP:=zY (Blk.new w 32 (pairV nilS nilS));have H2:=zY hr2;replace RY:=zY (qae RY.out HB.out);clear hy2 hu ht hv hi ha ly ly2 lu lt lv li la lr hz hs hc h hr2;go_enter Tryz.func32,Tryz.ntmps32;go_wp2_with fail;refine qaa (C1.out _) ?_;rintro e u1 ⟨Aw1,cw1,rfl,hc,hr,hb⟩;replace HB:=zY (HB.out.trans (hb.mono HB.out.size));replace RY:=zY (qae RY.out hb);replace HP:=zY (HP.out.below hb HP.out.lt);have Rw1:=zY hr;have LEw1:=zY hc;clear hr hc hb;generalize hg:w.heap.size=g at HP ⊢;have HG:=zY hg;clear hg;go_wp2_with fail;refine qaa (C2.out _ _ _ _ _ RY.out RY.out) ?_;rintro e u2 ⟨Ay2,cy2,rfl,hc,hr,hb⟩;replace HB:=zY (HB.out.trans (hb.mono HB.out.size));replace RY:=zY (qae RY.out hb);replace Rw1:=zY (qae Rw1.out hb);replace HP:=zY (HP.out.below hb HP.out.lt);have Ry2:=zY hr;have LEy2:=zY hc;clear hr hc hb;go_wp2_with fail;refine qaa (C3.out _ _ _ _ _ Ry2.out Rw1.out) ?_;rintro e u3 ⟨Au,cu,rfl,hc,hr,hb⟩;replace HB:=zY (HB.out.trans (hb.mono HB.out.size));replace RY:=zY (qae RY.out hb);replace Rw1:=zY (qae Rw1.out hb);replace Ry2:=zY (qae Ry2.out hb);replace HP:=zY (HP.out.below hb HP.out.lt);have Ru:=zY hr;have LEu:=zY hc;clear hr hc hb;go_wp2_with fail;refine qaa (C4.out _) ?_;rintro e u4 ⟨AD,cD,rfl,hc,hr,hb⟩;replace HB:=zY (HB.out.trans (hb.mono HB.out.size));replace RY:=zY (qae RY.out hb);replace Rw1:=zY (qae Rw1.out hb);replace Ry2:=zY (qae Ry2.out hb);replace Ru:=zY (qae Ru.out hb);replace HP:=zY (HP.out.below hb HP.out.lt);have RD:=zY hr;have LED:=zY hc;clear hr hc hb;go_wp2_with fail;refine qaa (C5.out _ _ _ _ _ RD.out Ry2.out) ?_;rintro e u5 ⟨At,ct,rfl,hc,hr,hb⟩;clear RD;replace HB:=zY (HB.out.trans (hb.mono HB.out.size));replace RY:=zY (qae RY.out hb);replace Rw1:=zY (qae Rw1.out hb);replace Ry2:=zY (qae Ry2.out hb);replace Ru:=zY (qae Ru.out hb);replace HP:=zY (HP.out.below hb HP.out.lt);have Rt:=zY hr;have LEt:=zY hc;clear hr hc hb;go_wp2_with fail;refine qaa (C6.out _ _ _ _ _ Rt.out Rw1.out) ?_;rintro e u6 ⟨Av,cv,rfl,hc,hr,hb⟩;clear Rt;clear Ry2;replace HB:=zY (HB.out.trans (hb.mono HB.out.size));replace RY:=zY (qae RY.out hb);replace Rw1:=zY (qae Rw1.out hb);replace Ru:=zY (qae Ru.out hb);replace HP:=zY (HP.out.below hb HP.out.lt);have Rv:=zY hr;have LEv:=zY hc;clear hr hc hb;go_wp2_with fail;refine qaa (C7.out _ _ _ Rv.out) ?_;rintro e u7 ⟨Ai,ci,rfl,hc,hr,hb⟩;clear Rv;clear Rw1;replace HB:=zY (HB.out.trans (hb.mono HB.out.size));replace RY:=zY (qae RY.out hb);replace Ru:=zY (qae Ru.out hb);replace HP:=zY (HP.out.below hb HP.out.lt);have Ri:=zY hr;have LEi:=zY hc;clear hr hc hb;go_wp2_with fail;refine qaa (C8.out _ _ _ _ _ Ru.out Ri.out) ?_;rintro e u8 ⟨Aa,ca,rfl,hc,hr,hb⟩;clear Ri;clear Ru;replace HB:=zY (HB.out.trans (hb.mono HB.out.size));replace RY:=zY (qae RY.out hb);replace HP:=zY (HP.out.below hb HP.out.lt);have Ra:=zY hr;have LEa:=zY hc;clear hr hc hb;go_wp2_with fail;refine qaa (CR.out _ _ _ LEa.out Ra.out) ?_;rintro e u20 ⟨Ar,cr,rfl,hc,hr,hb⟩;clear Ra;replace HB:=zY (HB.out.trans (hb.mono HB.out.size));replace RY:=zY (qae RY.out hb);replace HP:=zY (HP.out.below hb HP.out.lt);have Rr:=zY hr;have LEr:=zY hc;clear hr hc hb;obtain ⟨ad,had,d0⟩:=digit0 LR.out Rr.out;subst had;rw [show ad.add 0=ad from rfl] at d0
 cases ok
 ·go_wp2_with (refine qaf (x:=.tmp 4) (cells:=pairV nilS nilS) HP.out rfl rfl rfl rfl qat rfl (by simp [pairV,nilS,Value.oneCell']) ?_; intro u30 hb30 hw30; have HP30:=zY hb30; have HW30:=zY hw30; clear hb30 hw30);refine bodyPost_ret (qap (P:=Tryz.prog) rfl rfl HP30.out hpt rfl qat) rfl ⟨HW30.out.below HB.out (Nat.le_of_eq HG.out) HB.out.size,?_⟩;rw [HR.out];rfl
 ·obtain ⟨m,hm⟩:=eX (r%256);rw [← hm] at d0;have hm2:m%2=r%2:=by rw [hm]; exact H2.out
  have hm256:m<256:=by rw [hm]; exact Nat.mod_lt _ (by decide)
  by_cases ho:decide (r%2=1)=odd
  ·have hodd:decide ((m:Int)%2=1)=odd:=by rw [← ho]; exact decide_eq_decide.mpr (by omega)
   have HR2:R=some r:=by rw [HR.out,if_pos ho]; rfl
   clear ho hm hm2
   cases odd
   ·have hmi:(m:Int)%2=0:=by simp at hodd; omega
    have HR2:=zY HR2;clear hodd;go_wp2_with (refine qaf (x:=.tmp 4) (cells:=pairV (.slice (some ad) 32 cr) (.slice A 32 c)) HP.out rfl rfl rfl rfl qat rfl (by simp [pairV,nilS,Value.oneCell']) ?_; intro u30 hb30 hw30; have HP30:=zY hb30; have HW30:=zY hw30; clear hb30 hw30);refine bodyPost_ret (qap (P:=Tryz.prog) rfl rfl HP30.out hpt rfl qat) rfl ⟨HW30.out.below HB.out (Nat.le_of_eq HG.out) HB.out.size,?_⟩;rw [HR2.out];exact ⟨_,_,rfl,LEr.out,qaD (Rr.out.pair HP.out HW30.out) HW30.out.size⟩
   ·have hmi:(m:Int)%2=1:=by simp at hodd; omega
    have HR2:=zY HR2;clear hodd;go_wp2_with (refine qaf (x:=.tmp 4) (cells:=pairV (.slice (some ad) 32 cr) (.slice A 32 c)) HP.out rfl rfl rfl rfl qat rfl (by simp [pairV,nilS,Value.oneCell']) ?_; intro u30 hb30 hw30; have HP30:=zY hb30; have HW30:=zY hw30; clear hb30 hw30);refine bodyPost_ret (qap (P:=Tryz.prog) rfl rfl HP30.out hpt rfl qat) rfl ⟨HW30.out.below HB.out (Nat.le_of_eq HG.out) HB.out.size,?_⟩;rw [HR2.out];exact ⟨_,_,rfl,LEr.out,qaD (Rr.out.pair HP.out HW30.out) HW30.out.size⟩
  ·have HR2:R=if s then none else some z:=by rw [HR.out,if_neg ho]; rfl
   have HR3:=zY HR2;clear HR2
   have hmi:((m:Int)%2=1∧odd=false)∨((m:Int)%2=0∧odd=true):=by
    cases odd
    ·simp at ho; left; exact ⟨by omega,rfl⟩
    ·simp at ho; right; exact ⟨by omega,rfl⟩
   clear ho hm hm2
   rcases hmi with ⟨hmi,rfl⟩ | ⟨hmi,rfl⟩
   ·go_wp2_with fail;clear d0 hmi;refine qaa (C9.out _) ?_;rintro e u9 ⟨Aw0,cw0,rfl,hc,hr,hb⟩;replace HB:=zY (HB.out.trans (hb.mono HB.out.size));replace RY:=zY (qae RY.out hb);replace Rr:=zY (qae Rr.out hb);replace HP:=zY (HP.out.below hb HP.out.lt);have Rw0:=zY hr;have LEw0:=zY hc;clear hr hc hb;go_wp2_with fail;refine qaa (C10.out _ _ _ _ _ Rr.out Rw0.out LEr.out LEw0.out) ?_;rintro e u10 ⟨rfl,hb⟩;replace HB:=zY (HB.out.trans (hb.mono HB.out.size));replace RY:=zY (qae RY.out hb);replace Rr:=zY (qae Rr.out hb);replace Rw0:=zY (qae Rw0.out hb);replace HP:=zY (HP.out.below hb HP.out.lt);clear hb
    cases s
    ·go_wp2_with fail;clear Rw0 LEw0;refine qaa (C9.out _) ?_;rintro e u11 ⟨Aw0,cw0,rfl,hc,hr,hb⟩;replace HB:=zY (HB.out.trans (hb.mono HB.out.size));replace RY:=zY (qae RY.out hb);replace Rr:=zY (qae Rr.out hb);replace HP:=zY (HP.out.below hb HP.out.lt);have Rw0:=zY hr;have LEw0:=zY hc;clear hr hc hb;go_wp2_with fail;refine qaa (C11.out _ _ _ _ _ Rw0.out Rr.out) ?_;rintro e u12 ⟨Az,cz,rfl,hc,hr,hb⟩;replace HB:=zY (HB.out.trans (hb.mono HB.out.size));replace RY:=zY (qae RY.out hb);replace Rr:=zY (qae Rr.out hb);replace Rw0:=zY (qae Rw0.out hb);replace HP:=zY (HP.out.below hb HP.out.lt);have Rz:=zY hr;have LEz:=zY hc;clear hr hc hb;go_wp2_with (refine qaf (x:=.tmp 4) (cells:=pairV (.slice Az 32 cz) (.slice A 32 c)) HP.out rfl rfl rfl rfl qat rfl (by simp [pairV,nilS,Value.oneCell']) ?_; intro u30 hb30 hw30; have HP30:=zY hb30; have HW30:=zY hw30; clear hb30 hw30);refine bodyPost_ret (qap (P:=Tryz.prog) rfl rfl HP30.out hpt rfl qat) rfl ⟨HW30.out.below HB.out (Nat.le_of_eq HG.out) HB.out.size,?_⟩;rw [HR3.out];exact ⟨_,_,rfl,LEz.out,qaD (Rz.out.pair HP.out HW30.out) HW30.out.size⟩
    ·go_wp2_with (refine qaf (x:=.tmp 4) (cells:=pairV nilS nilS) HP.out rfl rfl rfl rfl qat rfl (by simp [pairV,nilS,Value.oneCell']) ?_; intro u30 hb30 hw30; have HP30:=zY hb30; have HW30:=zY hw30; clear hb30 hw30);refine bodyPost_ret (qap (P:=Tryz.prog) rfl rfl HP30.out hpt rfl qat) rfl ⟨HW30.out.below HB.out (Nat.le_of_eq HG.out) HB.out.size,?_⟩;rw [HR3.out];rfl
   ·go_wp2_with fail;clear d0 hmi;refine qaa (C9.out _) ?_;rintro e u13 ⟨Aw0,cw0,rfl,hc,hr,hb⟩;replace HB:=zY (HB.out.trans (hb.mono HB.out.size));replace RY:=zY (qae RY.out hb);replace Rr:=zY (qae Rr.out hb);replace HP:=zY (HP.out.below hb HP.out.lt);have Rw0:=zY hr;have LEw0:=zY hc;clear hr hc hb;go_wp2_with fail;refine qaa (C10.out _ _ _ _ _ Rr.out Rw0.out LEr.out LEw0.out) ?_;rintro e u14 ⟨rfl,hb⟩;replace HB:=zY (HB.out.trans (hb.mono HB.out.size));replace RY:=zY (qae RY.out hb);replace Rr:=zY (qae Rr.out hb);replace Rw0:=zY (qae Rw0.out hb);replace HP:=zY (HP.out.below hb HP.out.lt);clear hb
    cases s
    ·go_wp2_with fail;clear Rw0 LEw0;refine qaa (C9.out _) ?_;rintro e u15 ⟨Aw0,cw0,rfl,hc,hr,hb⟩;replace HB:=zY (HB.out.trans (hb.mono HB.out.size));replace RY:=zY (qae RY.out hb);replace Rr:=zY (qae Rr.out hb);replace HP:=zY (HP.out.below hb HP.out.lt);have Rw0:=zY hr;have LEw0:=zY hc;clear hr hc hb;go_wp2_with fail;refine qaa (C11.out _ _ _ _ _ Rw0.out Rr.out) ?_;rintro e u16 ⟨Az,cz,rfl,hc,hr,hb⟩;replace HB:=zY (HB.out.trans (hb.mono HB.out.size));replace RY:=zY (qae RY.out hb);replace Rr:=zY (qae Rr.out hb);replace Rw0:=zY (qae Rw0.out hb);replace HP:=zY (HP.out.below hb HP.out.lt);have Rz:=zY hr;have LEz:=zY hc;clear hr hc hb;go_wp2_with (refine qaf (x:=.tmp 4) (cells:=pairV (.slice Az 32 cz) (.slice A 32 c)) HP.out rfl rfl rfl rfl qat rfl (by simp [pairV,nilS,Value.oneCell']) ?_; intro u30 hb30 hw30; have HP30:=zY hb30; have HW30:=zY hw30; clear hb30 hw30);refine bodyPost_ret (qap (P:=Tryz.prog) rfl rfl HP30.out hpt rfl qat) rfl ⟨HW30.out.below HB.out (Nat.le_of_eq HG.out) HB.out.size,?_⟩;rw [HR3.out];exact ⟨_,_,rfl,LEz.out,qaD (Rz.out.pair HP.out HW30.out) HW30.out.size⟩
    ·go_wp2_with (refine qaf (x:=.tmp 4) (cells:=pairV nilS nilS) HP.out rfl rfl rfl rfl qat rfl (by simp [pairV,nilS,Value.oneCell']) ?_; intro u30 hb30 hw30; have HP30:=zY hb30; have HW30:=zY hw30; clear hb30 hw30);refine bodyPost_ret (qap (P:=Tryz.prog) rfl rfl HP30.out hpt rfl qat) rfl ⟨HW30.out.below HB.out (Nat.le_of_eq HG.out) HB.out.size,?_⟩;rw [HR3.out];rfl
structure AddW (x1 y1 x2 y2 a b c e m k s ka ia x t kb ib y:Nat):Prop where
 h1:a=x1*y2%PN
 h2:b=y1*x2%PN
 h3:c=y1*y2%PN
 h4:e=x1*x2%PN
 h5:m=e*c%PN
 h6:k=dN*m%PN
 h7:s=(a+b)%PN
 h8:ka=(1+k)%PN
 h9:ia=ka^(PN - 2)%PN
 h10:x=s*ia%PN
 h11:t=(c+e)%PN
 h12:kb=(1+PN - k)%PN
 h13:ib=kb^(PN - 2)%PN
 h14:y=t*ib%PN
def PairPost (x y:Nat) (w:World) (e:Ending) (w':World):Prop:=∃ A c B d,e=.returned (.agg (pairV (.slice A 32 c) (.slice B 32 d)))∧32≤c∧32≤d∧Rd w' w'.heap.size A (DN x)∧Rd w' w'.heap.size B (DN y)∧Below w.heap.size w w'
def BnPost (L:List Nat) (w:World) (e:Ending) (w':World):Prop:=∃ A c,e=.returned (.slice A 32 c)∧32≤c∧Rd w' w'.heap.size A (bnV L)∧Below w.heap.size w w'
theorem bnVl (l:List Nat):(bnV l).length=l.length:=by simp [bnV]
theorem nbytes_any {x y:Nat} (lx:x<PN) (ly:y<PN) {X Y:Option Addr} {cx cy:Nat} {w:World} (hc:32≤cy) (hx:Rd w w.heap.size X (DN x)) (hy:Rd w w.heap.size Y (DN y)) :
  Calls Tryz.prog 16 #[.agg (pairV (.slice X 32 cx) (.slice Y 32 cy))] w (BnPost (byP x y) w):=by
 have hpt:=Tryz.underlying32;obtain ⟨L,hL⟩:=eX (byN y);obtain ⟨b,hb⟩:=eX (L.getD 31 0);have hLl:L.length=32:=by rw [hL]; exact qa0 _
 have hb128:b<128:=by rw [hb,hL]; exact qdM ly
 have hres:byP x y=if x%2=1 then L.set 31 (b+128) else L:=by rw [hb,hL]; rfl
 obtain ⟨M,hM⟩:=eX (byP x y);rw [← hM];rw [← hM] at hres
 have CB:=zY (show ∀ ww,Rd ww ww.heap.size Y (DN y)→Calls Tryz.prog 44 #[.slice Y 32 cy] ww (OwnPostZ 5 32 (bnV L) ww) from fun ww h=>by
  have q:=rbytesz_any (digN 32 y) (qaE _ _) Y cy ww h (by rw [qai]; exact hc) (by rw [qai]; decide);rw [qai,qdz,← bnV_byB,← hL] at q;exact q)
 have HB:=zY (below_new w (.cells (pairV (.slice X 32 cx) (.slice Y 32 cy)) 32));have HP:=zY (Blk.new w 32 (pairV (.slice X 32 cx) (.slice Y 32 cy)));have RX:=zY (qae hx HB.out);have RY:=zY (qae hy HB.out);have HRES:=zY hres;have HLX:=zY lx;have HLL:=zY hLl;have HBB:=zY hb;have hr2:x%256%2=x%2:=Nat.mod_mod_of_dvd x (by decide);have H2:=zY hr2;clear hL hb hLl hres hM lx ly hc hx hy hr2;have d0:=(HP.out.cell 0).trans (show (pairV (.slice X 32 cx) (.slice Y 32 cy))[0]?=some (.slice X 32 cx) from rfl);have d1:=(HP.out.cell 1).trans (show (pairV (.slice X 32 cx) (.slice Y 32 cy))[1]?=some (.slice Y 32 cy) from rfl);go_enter Tryz.func16,Tryz.ntmps16;go_wp2_with fail;clear d0 d1;refine qaa (CB.out _ RY.out) ?_;rintro e w1 ⟨A1,c1,rfl,hown,hb1⟩;obtain ⟨g1,ys,rfl,hg1,hc1,hblk⟩:=hown.blk (by decide);have HP1:=zY (HP.out.below hb1 HP.out.lt);have RX1:=zY (qae RX.out hb1);have HB1:=zY (HB.out.trans (hb1.mono HB.out.size));have HG1:=zY (Nat.le_trans HB.out.size hg1);have HQ:=zY hblk;have HC1:=zY hc1;clear hown hb1 hg1 hc1 hblk HP RX RY HB;generalize w.heap.size=g at HP1 ⊢;have d0:=(HP1.out.cell 0).trans (show (pairV (.slice X 32 cx) (.slice Y 32 cy))[0]?=some (.slice X 32 cx) from rfl);obtain ⟨ad,had,dd⟩:=digit0 HLX.out RX1.out;subst had;rw [show ad.add 0=ad from rfl] at dd;obtain ⟨m,hm⟩:=eX (x%256);rw [← hm] at dd;have hm2:m%2=x%2:=by rw [hm]; exact H2.out
 by_cases hodd:x%2=1
 ·have hmi:(m:Int)%2=1:=by omega
  have e1:M=L.set 31 (b+128):=by rw [HRES.out,if_pos hodd]
  have HE:=zY e1;have hb2:(b:Int)<128:=by omega
  have dl:=HQ.out.cell 31
  rw [show (bnV L++ys).toArray[31]?=some (.int .u8 (b:Int)) by
   rw [List.getElem?_toArray,List.getElem?_append_left (by rw [bnVl,HLL.out]; decide),← List.getElem?_toArray,qet (by rw [HLL.out]; decide),HBB.out]] at dl
  have hfr:=HQ.out.free 31;clear hodd e1 hm hm2 hb128;go_wp2_with (refine qam (x:=.tmp 18) (i:=31) (v:=.int .u8 ((b:Int)+128)) HQ.out rfl rfl rfl rfl qb8 (by rw [List.size_toArray,List.length_append,bnVl,HLL.out]; omega) rfl ?_; intro w5 hb5 hw5; have HB5:=zY hb5; have HW5:=zY hw5; clear hb5 hw5);go_ret;have hq:=HB5.out;rw [qcg (by rw [bnVl,HLL.out]; decide),show ((b:Int)+128)=((b+128:Nat):Int) from rfl,show (bnV L).set 31 (.int .u8 ((b+128:Nat):Int))=bnV (L.set 31 (b+128)) by simp [bnV,List.map_set],← HE.out] at hq;exact ⟨_,c1,rfl,HC1.out,(Rd.of_blk hq hq.lt).front,HW5.out.below HB1.out HG1.out HB1.out.size⟩
 ·have hmi:(m:Int)%2=0:=by omega
  have e1:M=L:=by rw [HRES.out,if_neg hodd]
  have HE:=zY e1;clear hodd e1 hm hm2 hb128;go_wp2_with fail;go_ret;have hq:=HQ.out;rw [← HE.out] at hq;exact ⟨_,c1,rfl,HC1.out,(Rd.of_blk hq hq.lt).front,HB1.out⟩
theorem base_y:4*(5^(PN - 2)%PN)%PN=byNN:=by
 rw [← qdI,← pm_eq]
 decide
theorem base_w {y2 u t v i a x q:Nat} (W:OfW byNN y2 u t v i a x q):ofR (rtV a x q) (rtB a x q) false=some bxN:=by
 obtain ⟨h1,h2,h3,h4,h5,h6,h7,h8⟩:=W;have e1:y2=37053468555941182535542715202780130513046395093004980492626426882532201484768:=h1.trans (by decide);have e2:u=37053468555941182535542715202780130513046395093004980492626426882532201484767:=by rw [h2,e1]; decide
 have e3:t=35320460721920060721965471946471712506633951349663716574434581141966314745465:=by rw [h3,e1]; decide
 have e4:v=35320460721920060721965471946471712506633951349663716574434581141966314745466:=by rw [h4,e3]; decide
 have e5:i=36615873626505047815401509688526422966742341385236691817538452001808239043262:=by rw [h5,e4,← qdI,← pm_eq]; decide
 have e6:a=26187595835145689230469591415084376402084551887632582719101735842039498021991:=by rw [h6,e2,e5]; decide
 have e7:x=42783823269122696939284341094755422415180979639778424813682678720006717057747:=by rw [h7,e6,← pm_eq]; decide
 clear h1 h2 h3 h4 h5 h6 h7 h8 e1 e2 e3 e4 e5
 have r1:rtV a x q=42783823269122696939284341094755422415180979639778424813682678720006717057747:=by
  rw [rtV,e6,e7,if_pos (by decide)]
 have r2:rtB a x q=true:=by
  rw [rtB,e6,e7,if_pos (by decide)]
 rw [r1,r2]
 decide
theorem nbase_any (w:World):Calls Tryz.prog 12 #[] w (PairPost bxN byNN w):=by
 have hpt:=Tryz.underlying32;obtain ⟨i5,hi5⟩:=eX (5^(PN - 2)%PN);have li5:i5<PN:=by rw [hi5]; exact qav _
 have hy:=base_y;rw [← hi5] at hy;obtain ⟨y2,u,t,v,i,a,x,q,W⟩:∃ y2 u t v i a x q,OfW byNN y2 u t v i a x q:=⟨_,_,_,_,_,_,_,_,⟨rfl,rfl,rfl,rfl,rfl,rfl,rfl,rfl⟩⟩;have hbw:=base_w W;have lby:byNN<PN:=by decide
 have C4:=zY (show ∀ u,Calls Tryz.prog 14 #[.int .i64 4] u (NumPost 4 u) from fun u=>nint 4 (by decide) u);have C5:=zY (show ∀ u,Calls Tryz.prog 14 #[.int .i64 5] u (NumPost 5 u) from fun u=>nint 5 (by decide) u);have CI:=zY (show ∀ ww XA xc,Rd ww ww.heap.size XA (DN 5)→Calls Tryz.prog 38 #[.slice XA 32 xc] ww (NumPost i5 ww) from fun ww XA xc xh=>by rw [hi5]; exact ninv (by decide) xh);have CM:=zY (show ∀ ww XA xc XB xd,Rd ww ww.heap.size XA (DN 4)→Rd ww ww.heap.size XB (DN i5)→Calls Tryz.prog 39 #[.slice XA 32 xc,.slice XB 32 xd] ww (NumPost byNN ww) from fun ww XA xc XB xd xh xk=>by rw [← hy]; exact nmul (by decide) li5 xh xk)
 have CO:=zY (show ∀ ww XA xc,32≤xc→Rd ww ww.heap.size XA (DN byNN)→Calls Tryz.prog 32 #[.slice XA 32 xc,.bool false] ww (OfNPost (some bxN) (.slice XA 32 xc) ww) from fun ww XA xc hc xh=>by
  have h:=nof_any W lby false hc xh;rw [hbw] at h;exact h)
 clear hi5 li5 hy W hbw lby;generalize byNN=Y at *;generalize bxN=X at *;have HB:=zY (below_new w (.cells (pairV nilS nilS) 32));have HP:=zY (Blk.new w 32 (pairV nilS nilS));go_enter Tryz.func12,Tryz.ntmps12;go_wp2_with fail;refine qaa (C4.out _) ?_;rintro e w1 ⟨A4,c4,rfl,hc4,hr4,hb1⟩;have HB1:=zY (HB.out.trans (hb1.mono HB.out.size));have HP1:=zY (HP.out.below hb1 HP.out.lt);have R4:=zY hr4;clear hc4 hr4 hb1 HB HP;generalize hg:w.heap.size=g at HP1 ⊢;have HG:=zY hg;clear hg;go_wp2_with fail;refine qaa (C5.out _) ?_;rintro e w2 ⟨A5,c5,rfl,hc5,hr5,hb⟩;replace HB1:=zY (HB1.out.trans (hb.mono HB1.out.size));replace HP1:=zY (HP1.out.below hb HP1.out.lt);replace R4:=zY (qae R4.out hb);have R5:=zY hr5;clear hc5 hr5 hb;go_wp2_with fail;refine qaa (CI.out _ _ _ R5.out) ?_;rintro e w3 ⟨A6,c6,rfl,hc6,hr6,hb⟩;replace HB1:=zY (HB1.out.trans (hb.mono HB1.out.size));replace HP1:=zY (HP1.out.below hb HP1.out.lt);replace R4:=zY (qae R4.out hb);have R6:=zY hr6;clear hc6 hr6 hb R5;go_wp2_with fail;refine qaa (CM.out _ _ _ _ _ R4.out R6.out) ?_;rintro e w4 ⟨A7,c7,rfl,hc7,hr7,hb⟩;replace HB1:=zY (HB1.out.trans (hb.mono HB1.out.size));replace HP1:=zY (HP1.out.below hb HP1.out.lt);have R7:=zY hr7;have L7:=zY hc7;clear hc7 hr7 hb R4 R6;go_wp2_with fail;refine qaa (CO.out _ _ _ L7.out R7.out) ?_;rintro e w5 ⟨hb,A8,c8,rfl,hc8,hr8⟩;replace HB1:=zY (HB1.out.trans (hb.mono HB1.out.size));replace HP1:=zY (HP1.out.below hb HP1.out.lt);replace R7:=zY (qae R7.out hb);have R8:=zY hr8;have L8:=zY hc8;clear hc8 hr8 hb
 go_wp2_with (first
  | (refine qaf (x:=.tmp 1) (cells:=pairV (.slice A8 32 c8) (.slice A7 32 c7)) (Blk.new _ _ _) rfl rfl rfl rfl qat rfl (by simp [pairV,Value.oneCell']) ?_; intro w6 hb6 hw6; have hk6:=qba hw6; have HQ:=zY hb6; have HP6:=zY (HP1.out.below hk6 HP1.out.lt); have HB6:=zY (HB1.out.trans (hk6.mono HB1.out.size)); have R76:=zY (qae R7.out hk6); have R86:=zY (qae R8.out hk6); clear hb6 hw6 hk6 HP1 HB1 R7 R8)
  | (refine qab (x:=.tmp 1) HQ.out rfl rfl rfl hpt rfl qat ?_)
  | (refine qaf (x:=.tmp 0) (cells:=pairV (.slice A8 32 c8) (.slice A7 32 c7)) HP6.out rfl rfl rfl rfl qat rfl (by simp [pairV,Value.oneCell']) ?_; intro w7 hb7 hw7; have HP7:=zY hb7; have HW7:=zY hw7; clear hb7 hw7))
 refine bodyPost_ret (qau (P:=Tryz.prog) rfl rfl HP7.out hpt rfl qat) rfl ?_;exact ⟨_,_,_,_,rfl,L8.out,L7.out,qaD (R86.out.pair HP6.out HW7.out) HW7.out.size,qaD (R76.out.pair HP6.out HW7.out) HW7.out.size,HW7.out.below HB6.out (Nat.le_of_eq HG.out) HB6.out.size⟩
def rdL (b:List UInt8):List Nat:=(digs b).set 31 ((digs b).getD 31 0%128)
def yOf (b:List UInt8):Nat:=leV (rdL b)
def oddOf (b:List UInt8):Bool:=decide (128≤(digs b).getD 31 0)
def RReadPost (o:Option (Nat × Nat)) (w:World) (e:Ending) (w':World):Prop :=
 Below w.heap.size w w'∧match o with
  | none=>e=.returned (.tuple #[.agg (pairV nilS nilS),.bool false])
  | some p=>∃ A c B d,e=.returned (.tuple #[.agg (pairV (.slice A 32 c) (.slice B 32 d)),.bool true])∧32≤c∧32≤d∧Rd w' w'.heap.size A (DN p.1)∧Rd w' w'.heap.size B (DN p.2)
theorem rdL_dg (b:List UInt8):Dg (rdL b):=by
 intro n hn
 rcases List.mem_or_eq_of_mem_set hn with h | h
 ·exact digs_lt b n h
 ·rw [h]; exact Nat.lt_trans (Nat.mod_lt _ (by decide)) (by decide)
def crdB (b:List UInt8):List UInt8:=(rdL b).map UInt8.ofNat
theorem qer (b:List UInt8):digs (crdB b)=rdL b:=qcv _ (rdL_dg b)
theorem crdB_v (b:List UInt8):bytesV (crdB b)=bnV (rdL b):=by rw [← qdN,qer]
theorem and8_127 (l:Nat) (h:l<256):bits .and .u8 (l:Int) 127=((l%128:Nat):Int):=by
 show IntKind.u8.wrap ((BitVec.ofInt 8 (l:Int) &&& BitVec.ofInt 8 (127:Int)).toNat:Int)=_;have e1:(BitVec.ofInt 8 (127:Int)).toNat=127:=by decide
 rw [BitVec.toNat_and,BitVec.ofInt_natCast,BitVec.toNat_ofNat,e1,Nat.mod_eq_of_lt (show l<2^8 from h),IntKind.wrap_u8];have h2:l &&& 127=l%128:=Nat.and_two_pow_sub_one_eq_mod l 7;rw [h2];omega
def crdU (E:E5):E5:=subE (mulE E E) (intE 1)
def crdV (E D:E5):E5:=addE (mulE (mulE E E) D) (intE 1)
def oddE (X:E5):Bool:=decide (X.val%PN%2=1)
def crdR (E D:E5) (odd:Bool):Pt4 × Nat :=
 if rootB (crdU E) (crdV E D) then
  if oddE (rootE (crdU E) (crdV E D))=odd then (ofP (rootE (crdU E) (crdV E D)) E,0)
  else if eqB (rootE (crdU E) (crdV E D)) zE then (zP,2) else (ofP (subE zE (rootE (crdU E) (crdV E D))) E,0)
 else (zP,2)
def crd (b:List UInt8):Pt4 × Nat :=
 if b.length=32 then (if yOf b<PN then crdR (ofN (yOf b)) dE (oddOf b) else (zP,2)) else (zP,2)
def CReadPost (r:Pt4 × Nat) (w:World) (e:Ending) (w':World):Prop:=e=.returned (.tuple #[.agg (ptV r.1),.int .i64 (r.2:Int)])∧Below w.heap.size w w'
theorem crdB_len {b:List UInt8} (h:b.length=32):(crdB b).length=32:=by rw [crdB,List.length_map,rdL,List.length_set,digs,List.length_map,h]
theorem mayR_crd {b:List UInt8} (h:b.length=32):mayR (crdB b)=decide (yOf b<PN):=by
 rw [mayR,crdB_len h,qer];exact decide_eq_decide.mpr ⟨fun h=>h.2,fun h=>⟨rfl,h⟩⟩
theorem cread_any (b:List UInt8) (A:Option Addr) (c:Nat) (w:World) (hr:Rd w w.heap.size A (bytesV b)) (hc:b.length≤c) (hmax:b.length≤1000) :
  Calls Tryz.prog 17 #[.slice A b.length c] w (CReadPost (crd b) w):=by
 have hu:=Tryz.underlying46;have hp:=Tryz.underlying48;obtain ⟨n,hn⟩:=eX (b.length);have HB:=zY (below_new w (.cells (ptV zP) 48));have HP:=zY (Blk.new w 48 (ptV zP));obtain ⟨R,hR⟩:=eX (crd b);rw [← hR]
 by_cases h32:b.length=32
 ·have hR2:R=if yOf b<PN then crdR (ofN (yOf b)) dE (oddOf b) else (zP,2):=by rw [hR,crd,if_pos h32]
  rw [h32];rw [h32] at hc;obtain ⟨D,hD⟩:=eX dE;obtain ⟨L,hL⟩:=eX (digs b);have hLl:L.length=32:=by rw [hL,digs,List.length_map,h32]
  obtain ⟨d,hd⟩:=eX (L.getD 31 0);have hd256:d<256:=by rw [hd,hL]; exact qaA (digs_lt b) 31
  obtain ⟨M,hM⟩:=eX (rdL b);have hMs:L.set 31 (d%128)=M:=by rw [hM,hd,hL]; rfl
  obtain ⟨q,hq⟩:=eX (crdB b);have hqv:bytesV q=bnV M:=by rw [hq,hM]; exact crdB_v b
  have hql:q.length=32:=by rw [hq]; exact crdB_len h32
  obtain ⟨may,hmay⟩:=eX (decide (yOf b<PN));have hmq:mayR q=may:=by rw [hq,hmay]; exact mayR_crd h32
  have hE:may=true→readE q=ofN (yOf b):=fun h=>by rw [readE,hmq,h,if_pos rfl,hq,qer]; rfl
  have hF:readF q=if may then 0 else 2:=by rw [readF,hmq]
  obtain ⟨F,hFF⟩:=eX (readF q);have hF2:F=if may then 0 else 2:=by rw [hFF,hF]
  obtain ⟨E,hEE⟩:=eX (readE q)
  have okE:E.Ok:=by
   rw [hEE,readE]
   split
   ·exact ofN_ok _
   ·exact zE_ok
  obtain ⟨od,hod⟩:=eX (oddOf b);have hod2:od=decide (128≤d):=by rw [hod,hd,hL]; rfl
  have hR3:R=if may then crdR E D od else (zP,2):=by
   rw [hR2,hod,hD]
   by_cases h:yOf b<PN
   ·have hm:may=true:=by rw [hmay]; exact decide_eq_true h
    rw [if_pos h,hm,if_pos rfl,hEE,hE hm]
   ·rw [if_neg h,hmay,decide_eq_false h]; rfl
  have CRD:=zY (show ∀ u A c,32≤c→Rd u u.heap.size A (bytesV q)→Calls Tryz.prog 46 #[.slice A 32 c] u (fun e w'=>e=.returned (.tuple #[.agg (eV E),.int .i64 F])∧Below u.heap.size u w') from fun u A c hc hr=>by
   have h:=read_any q A c u hr (by rw [hql]; exact hc) (by rw [hql]; decide);rw [hql] at h;rw [hEE,hFF];exact h)
  have CCL:=zY (show ∀ u,Rd u u.heap.size A (bytesV b)→Calls Tryz.prog 45 #[.slice A 32 c] u (OwnPostZ 5 32 (bnV L) u) from fun u h=>by
   have h2:=clone_any b h32 A c u h;rw [← qdN,← hL] at h2;exact h2)
  have KD:=zY (show D.Ok by rw [hD]; exact dE_ok);have CD:=zY (show ∀ u,Calls Tryz.prog 51 #[] u (ElemPost D u) from fun u=>by rw [hD]; exact d_any u);obtain ⟨I,hI⟩:=eX (intE 1);have okI:I.Ok:=by rw [hI]; exact qd8
  obtain ⟨Y2,hY2⟩:=eX (mulE E E);have okY2:Y2.Ok:=by rw [hY2]; exact qax okE okE
  obtain ⟨U,hU⟩:=eX (subE Y2 I);have okU:U.Ok:=by rw [hU]; exact qbb okY2 okI
  obtain ⟨DY,hDY⟩:=eX (mulE Y2 D);have okDY:DY.Ok:=by rw [hDY]; exact qax okY2 KD.out
  obtain ⟨V,hV⟩:=eX (addE DY I);have okV:V.Ok:=by rw [hV]; exact qbk okDY okI
  obtain ⟨X,hX⟩:=eX (rootE U V);have okX:X.Ok:=by rw [hX]; exact rootE_ok okU okV
  obtain ⟨ok,hok⟩:=eX (rootB U V);obtain ⟨ob,hob⟩:=eX (oddE X);obtain ⟨zb,hzb⟩:=eX (eqB X zE);obtain ⟨NX,hNX⟩:=eX (subE zE X);have okNX:NX.Ok:=by rw [hNX]; exact qbb zE_ok okX
  obtain ⟨Q1,hQ1⟩:=eX (ofP X E);obtain ⟨Q2,hQ2⟩:=eX (ofP NX E)
  have hRR:crdR E D od=if ok then (if ob=od then (Q1,0) else if zb then (zP,2) else (Q2,0)) else (zP,2):=by
   rw [crdR,hQ2,hQ1,hNX,hzb,hob,hok,hX,hV,hU,hDY,hY2,hI];rfl
  have CI:=zY (show ∀ u,Calls Tryz.prog 50 #[.int .i64 1] u (ElemPost I u) from fun u=>by rw [hI]; exact int1_c u);have CY2:=zY (show ∀ u,Calls Tryz.prog 47 #[.agg (eV E),.agg (eV E)] u (ElemPost Y2 u) from fun u=>by rw [hY2]; exact mul_c _ _ _ okE okE);have CU:=zY (show ∀ u,Calls Tryz.prog 49 #[.agg (eV Y2),.agg (eV I)] u (ElemPost U u) from fun u=>by rw [hU]; exact sub_c _ _ _ okY2 okI);have CDY:=zY (show ∀ u,Calls Tryz.prog 47 #[.agg (eV Y2),.agg (eV D)] u (ElemPost DY u) from fun u=>by rw [hDY]; exact mul_c _ _ _ okY2 KD.out);have CV:=zY (show ∀ u,Calls Tryz.prog 52 #[.agg (eV DY),.agg (eV I)] u (ElemPost V u) from fun u=>by rw [hV]; exact add_c _ _ _ okDY okI);have CRT:=zY (show ∀ u,Calls Tryz.prog 48 #[.agg (eV U),.agg (eV V)] u (CRootPost X ok u) from fun u=>by rw [hX,hok]; exact croot_any _ _ _ okU okV);have COD:=zY (show ∀ u,Calls Tryz.prog 53 #[.agg (eV X)] u (BoolPost ob u) from fun u=>by rw [hob]; exact odd_c X okX u);have CZB:=zY (show ∀ u,Calls Tryz.prog 55 #[.agg (eV X),.agg (eV zE)] u (BoolPost zb u) from fun u=>by rw [hzb]; exact equal_c _ _ _ okX zE_ok);have CNX:=zY (show ∀ u,Calls Tryz.prog 49 #[.agg #[.int .u64 0,.int .u64 0,.int .u64 0,.int .u64 0,.int .u64 0],.agg (eV X)] u (ElemPost NX u) from fun u=>by rw [hNX]; exact sub_z _ okX _);have CO1:=zY (show ∀ u,Calls Tryz.prog 54 #[.agg (eV X),.agg (eV E)] u (PtPost Q1 u) from fun u=>by rw [hQ1]; exact pof_any _ _ okX okE u);have CO2:=zY (show ∀ u,Calls Tryz.prog 54 #[.agg (eV NX),.agg (eV E)] u (PtPost Q2 u) from fun u=>by rw [hQ2]; exact pof_any _ _ okNX okE u);have HRR:=zY hRR;have HF:=zY hF2;clear hI okI hY2 okY2 hU okU hDY okDY hV okV hX okX hok hob hzb hNX okNX hQ1 hQ2 hRR hF2;have HA:=zY (qae hr HB.out);have HR:=zY hR3;have KE:=zY okE;have HMS:=zY hMs;have HQV:=zY hqv;have HLL:=zY hLl;have HDD:=zY hd;have hand:=and8_127 d hd256
  have hge:(od=true∧(d:Int)/128=1)∨(od=false∧(d:Int)/128=0):=by
   rw [hod2]
   by_cases h:128≤d
   ·left; exact ⟨decide_eq_true h,by omega⟩
   ·right; exact ⟨decide_eq_false h,by omega⟩
  clear hR hR2 hR3 hr hc hmax hn h32 hD hL hLl hd hM hMs hq hqv hql hmay hmq hE hF hFF hEE okE hod hod2;go_enter Tryz.func17,Tryz.ntmps17;go_wp2_with fail;refine qaa (CCL.out _ HA.out) ?_;rintro e w1 ⟨A1,c1,rfl,hown,hb1⟩;obtain ⟨g1,ys,rfl,hg1,hc1,hblk⟩:=hown.blk (by decide);have HP1:=zY (HP.out.below hb1 HP.out.lt);have HB1:=zY (HB.out.trans (hb1.mono HB.out.size));have HG1:=zY (Nat.le_trans HB.out.size hg1);have HNE:=zY (show w.heap.size≠g1 from Nat.ne_of_lt (Nat.lt_of_lt_of_le HP.out.lt hg1));have HQ:=zY hblk;have HC1:=zY hc1;clear hown hb1 hg1 hc1 hblk HP HA HB;have hb2:(d:Int)<256:=by omega
  have dl:=HQ.out.cell 31
  rw [show (bnV L++ys).toArray[31]?=some (.int .u8 (d:Int)) by
   rw [List.getElem?_toArray,List.getElem?_append_left (by rw [bnVl,HLL.out]; decide),← List.getElem?_toArray,qet (by rw [HLL.out]; decide),HDD.out]] at dl
  have hfr:=HQ.out.free 31
  rcases hge with ⟨rfl,hge⟩ | ⟨rfl,hge⟩
  ·go_wp2_with (refine qam (x:=.tmp 26) (i:=31) (v:=.int .u8 ((d%128:Nat):Int)) HQ.out rfl rfl rfl rfl qb8 (by rw [List.size_toArray,List.length_append,bnVl,HLL.out]; omega) rfl ?_; intro w5 hb5 hw5; have HB5:=zY hb5; have HW5:=zY hw5; clear hb5 hw5);have hq:=HB5.out;rw [qcg (by rw [bnVl,HLL.out]; decide),show (bnV L).set 31 (.int .u8 ((d%128:Nat):Int))=bnV (L.set 31 (d%128)) by simp [bnV,List.map_set],HMS.out,← HQV.out] at hq;have HM5:=zY (Rd.of_blk hq hq.lt).front;have HP5:=zY (HW5.out.blk HP1.out HNE.out);have HBB:=zY (HW5.out.below HB1.out HG1.out HB1.out.size);clear hq dl hfr HB5 HW5 HQ HP1 HB1 hand hge hb2 hd256 HMS HQV HLL HDD HNE HG1;refine qaa (CRD.out _ _ _ HC1.out HM5.out) ?_;rintro e w6 ⟨rfl,hb⟩;have HST0:=zY (show Cs [.box w.heap.size 48 (ptV zP)] w w6 from ⟨⟨HP5.out.below hb HP5.out.lt,trivial⟩,HBB.out.trans (hb.mono HBB.out.size)⟩);clear hb HM5 HBB HP5;generalize hg0:w.heap.size=g0 at HST0 ⊢;have HG0:=zY hg0;clear hg0
   cases may
   ·obtain rfl:F=2:=HF.out;go_wp2_with (first | (refine qaf (x:=.tmp 6) (cells:=eV E) (Blk.new _ _ _) rfl rfl rfl rfl qag rfl (by simp [eV,wV,limbs,Value.oneCell']) ?_; intro w7 hb hw; have hk:=qba hw; have HST1:=zY (show Cs [.box w6.heap.size 46 (eV E),.box g0 48 (ptV zP)] w w7 from ⟨⟨hb,(HST0.out.next hk).1⟩,(HST0.out.next hk).2⟩); clear hb hw hk HST0) | (refine qaf (x:=.tmp 2) (cells:=ptV zP) (HST1.out.1.2.1) rfl rfl rfl rfl qao rfl (by simp [ptV,zP,wV,limbs,Value.oneCell']) ?_; intro w9 hb9 hw9; have HR9:=zY hb9; have HW9:=zY hw9; clear hb9 hw9));refine bodyPost_ret (qap (P:=Tryz.prog) rfl rfl HR9.out hp rfl qao) rfl ?_;have eR:R=(zP,2):=by simpa [HRR.out] using HR.out
    rw [eR];exact ⟨rfl,HW9.out.below HST1.out.2 (Nat.le_of_eq HG0.out) HST1.out.2.size⟩
   ·obtain rfl:F=0:=HF.out;go_wp2_with (first | (refine qaf (x:=.tmp 6) (cells:=eV E) (Blk.new _ _ _) rfl rfl rfl rfl qag rfl (by simp [eV,wV,limbs,Value.oneCell']) ?_; intro w7 hb hw; have hk:=qba hw; have HST1:=zY (show Cs [.box w6.heap.size 46 (eV E),.box g0 48 (ptV zP)] w w7 from ⟨⟨hb,(HST0.out.next hk).1⟩,(HST0.out.next hk).2⟩); clear hb hw hk HST0) | (refine qab (x:=.tmp 6) (HST1.out.1.1) rfl rfl rfl hu rfl qag ?_));generalize w6.heap.size=g6 at *;refine qaa (CY2.out _) ?_;rintro e w8 ⟨rfl,hb⟩;have HST2:=zY (HST1.out.next hb);clear hb HST1;go_wp2_with (refine qaf (x:=.tmp 8) (cells:=eV Y2) (Blk.new _ _ _) rfl rfl rfl rfl qag rfl (by simp [eV,wV,limbs,Value.oneCell']) ?_; intro v9 hb hw; have hk:=qba hw; have HST3:=zY (show Cs [.box w8.heap.size 46 (eV Y2),.box g6 46 (eV E),.box g0 48 (ptV zP)] w v9 from ⟨⟨hb,(HST2.out.next hk).1⟩,(HST2.out.next hk).2⟩); clear hb hw hk HST2);generalize w8.heap.size=g8 at *;have HC0:Below v9.heap.size v9 v9.drew:=(Below.refl _ _).drew
    refine qar (fun u=>Below v9.heap.size v9 u) (fun | false=>(fun _=>True) | true=>(fun _=>True)) (fun | false,_=>false | true,_=>false)
     [fun z _=>z 0=.agg (eV Y2),
      fun z _=>z 1=.agg (eV I),
      fun z _=>z 2=.agg (eV U),
      fun z _=>z 3=.agg (eV Y2),
      fun z _=>z 4=.agg (eV D),
      fun z _=>z 5=.agg (eV DY),
      fun z _=>z 6=.agg (eV I),
      fun z _=>z 7=.agg (eV V),
      fun z _=>z 8=.tuple #[.agg (eV X),.bool ok],
      fun z _=>z 9=.tuple #[.agg (eV X),.bool ok],
      fun z _=>z 10=.agg (eV X),
      fun z _=>z 11=.bool ok,
      fun z u=>(NewBox v9.heap.size 46 (eV zE)) (z 12) u,
      fun z u=>NewBox v9.heap.size 46 (eV X) (z 12) u,
      fun z _=>z 14=.bool ok]
     [Eq,fun u u'=>Below u.heap.size u u',fun u u'=>Below u.heap.size u u',Eq,fun u u'=>Below u.heap.size u u',fun u u'=>Below u.heap.size u u',fun u u'=>Below u.heap.size u u',fun u u'=>Below u.heap.size u u',fun u u'=>Below u.heap.size u u',Eq,Eq,Eq,fun u u'=>Below u.heap.size u u',fun _ _=>True,Eq]
     (fun i k=>(i == 13 && k == 12)) [(0,some 40),(1,some 41),(2,some 42),(3,some 43),(4,some 44),(5,some 45),(6,some 46),(7,some 47),(8,some 48),(9,some 39),(10,some 49),(11,some 50),(12,some 9),(13,none),(14,some 10)] (by kernel_rfl) (by kernel_rfl) rfl (fun _=>rfl) ?_ ?_ ?_ ?_ ?_ ?_
    ·exact HC0
    ·intro m; cases m; exact trivial; exact trivial
    ·intro m; cases m
     ·refine ⟨?_,?_,?_,?_,?_,?_,?_,?_,?_,?_,?_,?_,?_,?_,?_,trivial⟩ <;> first | exact .inr fun _ _ h h0=>h▸h0 | exact .inr fun _ _ _ h=>h
     ·refine ⟨?_,?_,?_,?_,?_,?_,?_,?_,?_,?_,?_,?_,?_,?_,?_,trivial⟩ <;> first | exact .inr fun _ _ h h0=>h▸h0 | exact .inr fun _ _ _ h=>h
    ·refine ⟨⟨.inl rfl,?_,?_,?_,?_,?_,?_,?_,?_,?_,?_,?_,?_,?_,?_,trivial⟩,⟨?_,.inl rfl,?_,?_,?_,?_,?_,?_,?_,?_,?_,?_,.inr (.inr (.inr (fun _ _ _ _ h h0=>h0.next h))),?_,?_,trivial⟩,⟨?_,?_,.inl rfl,?_,?_,?_,?_,?_,?_,?_,?_,?_,.inr (.inr (.inr (fun _ _ _ _ h h0=>h0.next h))),?_,?_,trivial⟩,⟨?_,?_,?_,.inl rfl,?_,?_,?_,?_,?_,?_,?_,?_,?_,?_,?_,trivial⟩,⟨?_,?_,?_,?_,.inl rfl,?_,?_,?_,?_,?_,?_,?_,.inr (.inr (.inr (fun _ _ _ _ h h0=>h0.next h))),?_,?_,trivial⟩,⟨?_,?_,?_,?_,?_,.inl rfl,?_,?_,?_,?_,?_,?_,.inr (.inr (.inr (fun _ _ _ _ h h0=>h0.next h))),?_,?_,trivial⟩,⟨?_,?_,?_,?_,?_,?_,.inl rfl,?_,?_,?_,?_,?_,.inr (.inr (.inr (fun _ _ _ _ h h0=>h0.next h))),?_,?_,trivial⟩,⟨?_,?_,?_,?_,?_,?_,?_,.inl rfl,?_,?_,?_,?_,.inr (.inr (.inr (fun _ _ _ _ h h0=>h0.next h))),?_,?_,trivial⟩,⟨?_,?_,?_,?_,?_,?_,?_,?_,.inl rfl,?_,?_,?_,.inr (.inr (.inr (fun _ _ _ _ h h0=>h0.next h))),?_,?_,trivial⟩,⟨?_,?_,?_,?_,?_,?_,?_,?_,?_,.inl rfl,?_,?_,?_,?_,?_,trivial⟩,⟨?_,?_,?_,?_,?_,?_,?_,?_,?_,?_,.inl rfl,?_,?_,?_,?_,trivial⟩,⟨?_,?_,?_,?_,?_,?_,?_,?_,?_,?_,?_,.inl rfl,?_,?_,?_,trivial⟩,⟨?_,?_,?_,?_,?_,?_,?_,?_,?_,?_,?_,?_,.inl rfl,?_,?_,trivial⟩,⟨?_,?_,?_,?_,?_,?_,?_,?_,?_,?_,?_,?_,.inr (.inl rfl),.inl rfl,?_,trivial⟩,⟨?_,?_,?_,?_,?_,?_,?_,?_,?_,?_,?_,?_,?_,?_,.inl rfl,trivial⟩,trivial⟩ <;> first | exact .inr (.inr (.inl rfl)) | exact .inr (.inr (.inr fun _ _ _ _ _ h=>h)) | exact .inr (.inr (.inr fun _ _ _ _ h h0=>by cases h; exact h0))
    ·refine ⟨?_,?_,?_,?_,?_,?_,?_,?_,?_,?_,?_,?_,?_,?_,?_,trivial⟩
     ·refine qac [] (fun _=>rfl) rfl ?_;intro w1 vals hC1 hi0 hf E hE;clear hi0;clear hf;have hs:=HST3.out.next hC1;simp only [sP] at hE ⊢;refine qab (hs.1.1) rfl rfl rfl hu rfl qag ?_;go_wp2_with fail;exact .mk (hE _ _ rfl hC1 rfl)
     ·refine qac [] (fun _=>rfl) rfl ?_;intro w1 vals hC1 hi0 hf E hE;clear hi0;clear hf;simp only [sP] at hE ⊢;go_wp2_with fail;refine qaa (CI.out _) ?_;rintro e w2 ⟨rfl,hb2⟩;go_wp2_with fail;exact .mk (hE _ _ rfl (hC1.trans (hb2.mono hC1.size)) hb2)
     ·refine qac [(0,some 40),(1,some 41),(1,some 41)] (fun _=>rfl) rfl ?_;intro w1 vals hC1 hi0 hf E hE;clear hi0;have f0:vals 0=_:=hf 0 rfl;have f1:vals 1=_:=hf 1 rfl
      try dsimp only at f0 f1
      clear hf;simp only [sP,f0,f1] at hE ⊢;clear f0 f1;go_wp2_with fail;refine qaa (CU.out _) ?_;rintro e w2 ⟨rfl,hb2⟩;go_wp2_with fail;exact .mk (hE _ _ rfl (hC1.trans (hb2.mono hC1.size)) hb2)
     ·refine qac [] (fun _=>rfl) rfl ?_;intro w1 vals hC1 hi0 hf E hE;clear hi0;clear hf;have hs:=HST3.out.next hC1;simp only [sP] at hE ⊢;refine qab (hs.1.1) rfl rfl rfl hu rfl qag ?_;go_wp2_with fail;exact .mk (hE _ _ rfl hC1 rfl)
     ·refine qac [(2,some 42)] (fun _=>rfl) rfl ?_;intro w1 vals hC1 hi0 hf E hE;clear hi0;have f2:vals 2=_:=hf 2 rfl
      try dsimp only at f2
      clear hf;simp only [sP,f2] at hE ⊢;clear f2;go_wp2_with fail;refine qaa (CD.out _) ?_;rintro e w2 ⟨rfl,hb2⟩;go_wp2_with fail;exact .mk (hE _ _ rfl (hC1.trans (hb2.mono hC1.size)) hb2)
     ·refine qac [(3,some 43),(4,some 44),(4,some 44)] (fun _=>rfl) rfl ?_;intro w1 vals hC1 hi0 hf E hE;clear hi0;have f3:vals 3=_:=hf 3 rfl;have f4:vals 4=_:=hf 4 rfl
      try dsimp only at f3 f4
      clear hf;simp only [sP,f3,f4] at hE ⊢;clear f3 f4;go_wp2_with fail;refine qaa (CDY.out _) ?_;rintro e w2 ⟨rfl,hb2⟩;go_wp2_with fail;exact .mk (hE _ _ rfl (hC1.trans (hb2.mono hC1.size)) hb2)
     ·refine qac [(5,some 45)] (fun _=>rfl) rfl ?_;intro w1 vals hC1 hi0 hf E hE;clear hi0;have f5:vals 5=_:=hf 5 rfl
      try dsimp only at f5
      clear hf;simp only [sP,f5] at hE ⊢;clear f5;go_wp2_with fail;refine qaa (CI.out _) ?_;rintro e w2 ⟨rfl,hb2⟩;go_wp2_with fail;exact .mk (hE _ _ rfl (hC1.trans (hb2.mono hC1.size)) hb2)
     ·refine qac [(5,some 45),(6,some 46),(6,some 46)] (fun _=>rfl) rfl ?_;intro w1 vals hC1 hi0 hf E hE;clear hi0;have f5:vals 5=_:=hf 5 rfl;have f6:vals 6=_:=hf 6 rfl
      try dsimp only at f5 f6
      clear hf;simp only [sP,f5,f6] at hE ⊢;clear f5 f6;go_wp2_with fail;refine qaa (CV.out _) ?_;rintro e w2 ⟨rfl,hb2⟩;go_wp2_with fail;exact .mk (hE _ _ rfl (hC1.trans (hb2.mono hC1.size)) hb2)
     ·refine qac [(2,some 42),(7,some 47),(7,some 47)] (fun _=>rfl) rfl ?_;intro w1 vals hC1 hi0 hf E hE;clear hi0;have f2:vals 2=_:=hf 2 rfl;have f7:vals 7=_:=hf 7 rfl
      try dsimp only at f2 f7
      clear hf;simp only [sP,f2,f7] at hE ⊢;clear f2 f7;go_wp2_with fail;refine qaa (CRT.out _) ?_;rintro e w2 ⟨rfl,hb2⟩;go_wp2_with fail;exact .mk (hE _ _ rfl (hC1.trans (hb2.mono hC1.size)) hb2)
     ·refine qac [(8,some 48)] (fun _=>rfl) rfl ?_;intro w1 vals hC1 hi0 hf E hE;clear hi0;have f8:vals 8=_:=hf 8 rfl
      try dsimp only at f8
      clear hf;simp only [sP,f8] at hE ⊢;clear f8;go_wp2;exact .mk (hE _ _ rfl hC1 rfl)
     ·refine qac [(9,some 39)] (fun _=>rfl) rfl ?_;intro w1 vals hC1 hi0 hf E hE;clear hi0;have f9:vals 9=_:=hf 9 rfl
      try dsimp only at f9
      clear hf;simp only [sP,f9] at hE ⊢;clear f9;go_wp2;exact .mk (hE _ _ rfl hC1 rfl)
     ·refine qac [(9,some 39)] (fun _=>rfl) rfl ?_;intro w1 vals hC1 hi0 hf E hE;clear hi0;have f9:vals 9=_:=hf 9 rfl
      try dsimp only at f9
      clear hf;simp only [sP,f9] at hE ⊢;clear f9;go_wp2;exact .mk (hE _ _ rfl hC1 rfl)
     ·refine qac [] (fun _=>rfl) rfl ?_;intro w1 vals hC1 hi0 hf E hE;clear hi0;clear hf;simp only [sP] at hE ⊢;go_wp2;exact .mk (hE _ _ (NewBox.of hC1.size) (hC1.alloc hC1.size _) (below_new _ _))
     ·refine qac [(12,some 9),(10,some 49),(8,some 48),(0,some 40),(1,some 41),(2,some 42),(3,some 43),(4,some 44),(5,some 45),(6,some 46),(7,some 47),(8,some 48),(9,some 39),(10,some 49),(12,some 9)] (fun _=>rfl) rfl ?_;intro w1 vals hC1 hi0 hf E hE;clear hi0;have f0:vals 0=_:=hf 0 rfl;have f1:vals 1=_:=hf 1 rfl;have f2:vals 2=_:=hf 2 rfl;have f3:vals 3=_:=hf 3 rfl;have f4:vals 4=_:=hf 4 rfl;have f5:vals 5=_:=hf 5 rfl;have f6:vals 6=_:=hf 6 rfl;have f7:vals 7=_:=hf 7 rfl;have f8:vals 8=_:=hf 8 rfl;have f9:vals 9=_:=hf 9 rfl;have f10:vals 10=_:=hf 10 rfl;have f12:(NewBox v9.heap.size 46 (eV zE)) (vals 12) w1:=hf 12 rfl
      try dsimp only at f0 f1 f2 f3 f4 f5 f6 f7 f8 f9 f10 f12
      clear hf;obtain ⟨o,hx,ho,hblk⟩:=f12;have hx':=hx;simp only [sP,f0,f1,f2,f3,f4,f5,f6,f7,f8,f9,f10,hx] at hE ⊢;clear f0 f1 f2 f3 f4 f5 f6 f7 f8 f9 f10;clear hx;refine qaf (cells:=eV X) hblk rfl rfl rfl rfl qag rfl (by simp [eV,wV,limbs,Value.oneCell']) ?_;intro w2 hb2 hw2;go_wp2_with fail;exact .mk (hE undef _ ⟨o,hx',ho,hb2⟩ (hw2.below hC1 ho hC1.size) trivial)
     ·refine qac [(11,some 50),(13,none),(0,some 40),(1,some 41),(2,some 42),(3,some 43),(4,some 44),(5,some 45),(6,some 46),(7,some 47),(8,some 48),(9,some 39),(10,some 49),(11,some 50),(12,some 9),(13,none)] (fun _=>rfl) rfl ?_;intro w1 vals hC1 hi0 hf E hE;clear hi0;have f0:vals 0=_:=hf 0 rfl;have f1:vals 1=_:=hf 1 rfl;have f2:vals 2=_:=hf 2 rfl;have f3:vals 3=_:=hf 3 rfl;have f4:vals 4=_:=hf 4 rfl;have f5:vals 5=_:=hf 5 rfl;have f6:vals 6=_:=hf 6 rfl;have f7:vals 7=_:=hf 7 rfl;have f8:vals 8=_:=hf 8 rfl;have f9:vals 9=_:=hf 9 rfl;have f10:vals 10=_:=hf 10 rfl;have f11:vals 11=_:=hf 11 rfl;have f13:(fun z u=>NewBox v9.heap.size 46 (eV X) (z 12) u) vals w1:=hf 13 rfl
      try dsimp only at f0 f1 f2 f3 f4 f5 f6 f7 f8 f9 f10 f11 f13
      clear hf;simp only [sP,f0,f1,f2,f3,f4,f5,f6,f7,f8,f9,f10,f11] at hE ⊢;clear f0 f1 f2 f3 f4 f5 f6 f7 f8 f9 f10 f11;go_wp2;exact .mk (hE _ _ rfl hC1 rfl)
    intro w1 vals hC1 hf;have f0:vals 0=_:=hf 0 (by decide) rfl;have f1:vals 1=_:=hf 1 (by decide) rfl;have f2:vals 2=_:=hf 2 (by decide) rfl;have f3:vals 3=_:=hf 3 (by decide) rfl;have f4:vals 4=_:=hf 4 (by decide) rfl;have f5:vals 5=_:=hf 5 (by decide) rfl;have f6:vals 6=_:=hf 6 (by decide) rfl;have f7:vals 7=_:=hf 7 (by decide) rfl;have f8:vals 8=_:=hf 8 (by decide) rfl;have f9:vals 9=_:=hf 9 (by decide) rfl;have f10:vals 10=_:=hf 10 (by decide) rfl;have f11:vals 11=_:=hf 11 (by decide) rfl;have f13:(fun z u=>NewBox v9.heap.size 46 (eV X) (z 12) u) vals w1:=hf 13 (by decide) rfl;have f14:vals 14=_:=hf 14 (by decide) rfl
    try dsimp only at f0 f1 f2 f3 f4 f5 f6 f7 f8 f9 f10 f11 f13 f14
    clear hf;simp only [sP,f0,f1,f2,f3,f4,f5,f6,f7,f8,f9,f10,f11,f14];clear f0 f1 f2 f3 f4 f5 f6 f7 f8 f9 f10 f11 f14;generalize vals 12=x12 at *;obtain ⟨o9,rfl,hlo,hblk⟩:=f13;have HST4:=zY (show Cs [.box o9 46 (eV X),.box g8 46 (eV Y2),.box g6 46 (eV E),.box g0 48 (ptV zP)] w w1 from ⟨⟨hblk,(HST3.out.next hC1).1⟩,(HST3.out.next hC1).2⟩);clear hC1 HC0 hblk hlo HST3;obtain ⟨y1,rfl⟩:=eX w1
    cases ok
    ·go_wp2_with (refine qaf (x:=.tmp 2) (cells:=ptV zP) (HST4.out.1.2.2.2.1) rfl rfl rfl rfl qao rfl (by simp [ptV,zP,wV,limbs,Value.oneCell']) ?_; intro w9 hb9 hw9; have HR9:=zY hb9; have HW9:=zY hw9; clear hb9 hw9);refine bodyPost_ret (qap (P:=Tryz.prog) rfl rfl HR9.out hp rfl qao) rfl ?_;have eR:R=(zP,2):=by simpa [HRR.out] using HR.out
     rw [eR];exact ⟨rfl,HW9.out.below HST4.out.2 (Nat.le_of_eq HG0.out) HST4.out.2.size⟩
    ·go_wp2_with (refine qab (x:=.tmp 9) (HST4.out.1.1) rfl rfl rfl hu rfl qag ?_);refine qaa (COD.out _) ?_;rintro e w10 ⟨rfl,hb⟩;have HST5:=zY (HST4.out.next hb);clear hb HST4
     cases ob
     ·go_wp2_with (refine qab (x:=.tmp 9) (HST5.out.1.1) rfl rfl rfl hu rfl qag ?_);refine qaa (CZB.out _) ?_;rintro e w11 ⟨rfl,hb⟩;have HST6:=zY (HST5.out.next hb);clear hb HST5
      cases zb
      ·go_wp2_with fail;have HC0:=HST6.out.drew;clear HST6;refine qa5 (fun u=>Cs [.box o9 46 (eV X),.box g8 46 (eV Y2),.box g6 46 (eV E),.box g0 48 (ptV zP)] w u) (fun _=>false) 5 [(0,some 68),(1,some 69),(2,some 70),(3,some 71),(4,some 72),(5,none),(6,some 3)] (by kernel_rfl) (by kernel_rfl) (by decide) (by kernel_rfl) (fun _=>rfl) HC0 ?_;apply DetQ.next
       ·apply dQ;apply dP [];exact fun _=>rfl;rfl;rintro vals - w1 hC1 E hE;simp only [sP] at hE ⊢;go_wp2;exact .mk (hE _ hC1)
       apply DetQ.next
       ·apply dQ;apply dP [];exact fun _=>rfl;rfl;rintro vals ⟨-,-⟩ w1 hC1 E hE;simp only [sP] at hE ⊢;refine qab (hC1.1.1) rfl rfl rfl hu rfl qag ?_;go_wp2_with fail;exact .mk (hE _ hC1)
       apply DetQ.next
       ·apply dQ;apply dP [(0,some 68),(1,some 69)];exact fun _=>rfl;rfl;intro vals vq w1 hC1 E hE;simp only [sP,vq] at hE ⊢;clear vq;go_wp2_with fail;refine qaa (CNX.out _) ?_;rintro e w2 ⟨rfl,hb2⟩;go_wp2_with fail;exact .mk (hE _ (hC1.next hb2))
       apply DetQ.next
       ·apply dQ;apply dP [];exact fun _=>rfl;rfl;intro vals vq w1 hC1 E hE;clear vq;simp only [sP] at hE ⊢;refine qab (hC1.1.2.2.1) rfl rfl rfl hu rfl qag ?_;go_wp2_with fail;exact .mk (hE _ hC1)
       apply DetQ.next
       ·apply dQ;apply dP [(2,some 70),(3,some 71),(2,some 70)];exact fun _=>rfl;rfl;intro vals vq w1 hC1 E hE;simp only [sP,vq] at hE ⊢;clear vq;go_wp2_with fail;refine qaa (CO2.out _) ?_;rintro e w2 ⟨rfl,hb2⟩;go_wp2_with fail;exact .mk (hE _ (hC1.next hb2))
       apply DetQ.done;rintro vals ⟨⟨⟨⟨⟨-,f0⟩,f1⟩,f2⟩,f3⟩,f4⟩ w1 hC1;refine qa7 [(4,some 72),(4,some 72),(0,some 68),(1,some 69),(2,some 70),(3,some 71),(4,some 72)] (fun _=>rfl) rfl ?_;intro E hE;simp only [sP,f0,f1,f2,f3,f4] at hE ⊢;refine qaf (x:=.tmp 2) (cells:=ptV Q2) (hC1.1.2.2.2.1) rfl rfl rfl rfl qao rfl (by simp [ptV,wV,limbs,Value.oneCell']) ?_;intro y9 hb9 hw9;have HR9:=zY hb9;have HW9:=zY hw9;clear hb9 hw9;go_wp2_with fail;refine .mk (hE undef _ ?_);clear hE E;generalize hval:upd _ 5 _=vals5;replace f0:=uP hval (by decide) f0;replace f1:=uP hval (by decide) f1;replace f2:=uP hval (by decide) f2;replace f3:=uP hval (by decide) f3;replace f4:=uP hval (by decide) f4;have f5:=(congrFun hval 5).symm.trans (qaO _ _ _);clear hval;refine qa7 [(5,none),(0,some 68),(1,some 69),(2,some 70),(3,some 71),(4,some 72),(5,none)] (fun _=>rfl) rfl ?_;intro E hE;simp only [sP,f0,f1,f2,f3,f4,f5] at hE ⊢;go_wp2;refine .mk (hE _ _ ?_);clear hE E;generalize hval:upd _ 6 _=vals6;replace f0:=uP hval (by decide) f0;replace f1:=uP hval (by decide) f1;replace f2:=uP hval (by decide) f2;replace f3:=uP hval (by decide) f3;replace f4:=uP hval (by decide) f4;replace f5:=uP hval (by decide) f5;have f6:=(congrFun hval 6).symm.trans (qaO _ _ _);clear hval;refine qcs ?_;simp only [sP,f0,f1,f2,f3,f4,f5,f6];clear f0 f1 f2 f3 f4 f5 f6;have HST7:=zY hC1;clear hC1 HC0;go_wp2_with fail;refine bodyPost_ret (qap (P:=Tryz.prog) rfl rfl HR9.out hp rfl qao) rfl ?_;have eR:R=(Q2,0):=by simpa [HRR.out] using HR.out
       rw [eR];exact ⟨rfl,HW9.out.below HST7.out.2 (Nat.le_of_eq HG0.out) HST7.out.2.size⟩
      ·go_wp2_with (refine qaf (x:=.tmp 2) (cells:=ptV zP) (HST6.out.1.2.2.2.1) rfl rfl rfl rfl qao rfl (by simp [ptV,zP,wV,limbs,Value.oneCell']) ?_; intro w9 hb9 hw9; have HR9:=zY hb9; have HW9:=zY hw9; clear hb9 hw9);refine bodyPost_ret (qap (P:=Tryz.prog) rfl rfl HR9.out hp rfl qao) rfl ?_;have eR:R=(zP,2):=by simpa [HRR.out] using HR.out
       rw [eR];exact ⟨rfl,HW9.out.below HST6.out.2 (Nat.le_of_eq HG0.out) HST6.out.2.size⟩
     ·go_wp2_with (first | (refine qab (x:=.tmp 9) (HST5.out.1.1) rfl rfl rfl hu rfl qag ?_) | (refine qab (x:=.tmp 6) (HST5.out.1.2.2.1) rfl rfl rfl hu rfl qag ?_));refine qaa (CO1.out _) ?_;rintro e w11 ⟨rfl,hb⟩;have HST6:=zY (HST5.out.next hb);clear hb HST5;go_wp2_with (refine qaf (x:=.tmp 2) (cells:=ptV Q1) (HST6.out.1.2.2.2.1) rfl rfl rfl rfl qao rfl (by simp [ptV,wV,limbs,Value.oneCell']) ?_; intro w9 hb9 hw9; have HR9:=zY hb9; have HW9:=zY hw9; clear hb9 hw9);refine bodyPost_ret (qap (P:=Tryz.prog) rfl rfl HR9.out hp rfl qao) rfl ?_;have eR:R=(Q1,0):=by simpa [HRR.out] using HR.out
      rw [eR];exact ⟨rfl,HW9.out.below HST6.out.2 (Nat.le_of_eq HG0.out) HST6.out.2.size⟩
  ·go_wp2_with (refine qam (x:=.tmp 26) (i:=31) (v:=.int .u8 ((d%128:Nat):Int)) HQ.out rfl rfl rfl rfl qb8 (by rw [List.size_toArray,List.length_append,bnVl,HLL.out]; omega) rfl ?_; intro w5 hb5 hw5; have HB5:=zY hb5; have HW5:=zY hw5; clear hb5 hw5);have hq:=HB5.out;rw [qcg (by rw [bnVl,HLL.out]; decide),show (bnV L).set 31 (.int .u8 ((d%128:Nat):Int))=bnV (L.set 31 (d%128)) by simp [bnV,List.map_set],HMS.out,← HQV.out] at hq;have HM5:=zY (Rd.of_blk hq hq.lt).front;have HP5:=zY (HW5.out.blk HP1.out HNE.out);have HBB:=zY (HW5.out.below HB1.out HG1.out HB1.out.size);clear hq dl hfr HB5 HW5 HQ HP1 HB1 hand hge hb2 hd256 HMS HQV HLL HDD HNE HG1;refine qaa (CRD.out _ _ _ HC1.out HM5.out) ?_;rintro e w6 ⟨rfl,hb⟩;have HST0:=zY (show Cs [.box w.heap.size 48 (ptV zP)] w w6 from ⟨⟨HP5.out.below hb HP5.out.lt,trivial⟩,HBB.out.trans (hb.mono HBB.out.size)⟩);clear hb HM5 HBB HP5;generalize hg0:w.heap.size=g0 at HST0 ⊢;have HG0:=zY hg0;clear hg0
   cases may
   ·obtain rfl:F=2:=HF.out;go_wp2_with (first | (refine qaf (x:=.tmp 6) (cells:=eV E) (Blk.new _ _ _) rfl rfl rfl rfl qag rfl (by simp [eV,wV,limbs,Value.oneCell']) ?_; intro w7 hb hw; have hk:=qba hw; have HST1:=zY (show Cs [.box w6.heap.size 46 (eV E),.box g0 48 (ptV zP)] w w7 from ⟨⟨hb,(HST0.out.next hk).1⟩,(HST0.out.next hk).2⟩); clear hb hw hk HST0) | (refine qaf (x:=.tmp 2) (cells:=ptV zP) (HST1.out.1.2.1) rfl rfl rfl rfl qao rfl (by simp [ptV,zP,wV,limbs,Value.oneCell']) ?_; intro w9 hb9 hw9; have HR9:=zY hb9; have HW9:=zY hw9; clear hb9 hw9));refine bodyPost_ret (qap (P:=Tryz.prog) rfl rfl HR9.out hp rfl qao) rfl ?_;have eR:R=(zP,2):=by simpa [HRR.out] using HR.out
    rw [eR];exact ⟨rfl,HW9.out.below HST1.out.2 (Nat.le_of_eq HG0.out) HST1.out.2.size⟩
   ·obtain rfl:F=0:=HF.out;go_wp2_with (first | (refine qaf (x:=.tmp 6) (cells:=eV E) (Blk.new _ _ _) rfl rfl rfl rfl qag rfl (by simp [eV,wV,limbs,Value.oneCell']) ?_; intro w7 hb hw; have hk:=qba hw; have HST1:=zY (show Cs [.box w6.heap.size 46 (eV E),.box g0 48 (ptV zP)] w w7 from ⟨⟨hb,(HST0.out.next hk).1⟩,(HST0.out.next hk).2⟩); clear hb hw hk HST0) | (refine qab (x:=.tmp 6) (HST1.out.1.1) rfl rfl rfl hu rfl qag ?_));generalize w6.heap.size=g6 at *;refine qaa (CY2.out _) ?_;rintro e w8 ⟨rfl,hb⟩;have HST2:=zY (HST1.out.next hb);clear hb HST1;go_wp2_with (refine qaf (x:=.tmp 8) (cells:=eV Y2) (Blk.new _ _ _) rfl rfl rfl rfl qag rfl (by simp [eV,wV,limbs,Value.oneCell']) ?_; intro v9 hb hw; have hk:=qba hw; have HST3:=zY (show Cs [.box w8.heap.size 46 (eV Y2),.box g6 46 (eV E),.box g0 48 (ptV zP)] w v9 from ⟨⟨hb,(HST2.out.next hk).1⟩,(HST2.out.next hk).2⟩); clear hb hw hk HST2);generalize w8.heap.size=g8 at *;have HC0:Below v9.heap.size v9 v9.drew:=(Below.refl _ _).drew
    refine qar (fun u=>Below v9.heap.size v9 u) (fun | false=>(fun _=>True) | true=>(fun _=>True)) (fun | false,_=>false | true,_=>false)
     [fun z _=>z 0=.agg (eV Y2),
      fun z _=>z 1=.agg (eV I),
      fun z _=>z 2=.agg (eV U),
      fun z _=>z 3=.agg (eV Y2),
      fun z _=>z 4=.agg (eV D),
      fun z _=>z 5=.agg (eV DY),
      fun z _=>z 6=.agg (eV I),
      fun z _=>z 7=.agg (eV V),
      fun z _=>z 8=.tuple #[.agg (eV X),.bool ok],
      fun z _=>z 9=.tuple #[.agg (eV X),.bool ok],
      fun z _=>z 10=.agg (eV X),
      fun z _=>z 11=.bool ok,
      fun z u=>(NewBox v9.heap.size 46 (eV zE)) (z 12) u,
      fun z u=>NewBox v9.heap.size 46 (eV X) (z 12) u,
      fun z _=>z 14=.bool ok]
     [Eq,fun u u'=>Below u.heap.size u u',fun u u'=>Below u.heap.size u u',Eq,fun u u'=>Below u.heap.size u u',fun u u'=>Below u.heap.size u u',fun u u'=>Below u.heap.size u u',fun u u'=>Below u.heap.size u u',fun u u'=>Below u.heap.size u u',Eq,Eq,Eq,fun u u'=>Below u.heap.size u u',fun _ _=>True,Eq]
     (fun i k=>(i == 13 && k == 12)) [(0,some 40),(1,some 41),(2,some 42),(3,some 43),(4,some 44),(5,some 45),(6,some 46),(7,some 47),(8,some 48),(9,some 39),(10,some 49),(11,some 50),(12,some 9),(13,none),(14,some 10)] (by kernel_rfl) (by kernel_rfl) rfl (fun _=>rfl) ?_ ?_ ?_ ?_ ?_ ?_
    ·exact HC0
    ·intro m; cases m; exact trivial; exact trivial
    ·intro m; cases m
     ·refine ⟨?_,?_,?_,?_,?_,?_,?_,?_,?_,?_,?_,?_,?_,?_,?_,trivial⟩ <;> first | exact .inr fun _ _ h h0=>h▸h0 | exact .inr fun _ _ _ h=>h
     ·refine ⟨?_,?_,?_,?_,?_,?_,?_,?_,?_,?_,?_,?_,?_,?_,?_,trivial⟩ <;> first | exact .inr fun _ _ h h0=>h▸h0 | exact .inr fun _ _ _ h=>h
    ·refine ⟨⟨.inl rfl,?_,?_,?_,?_,?_,?_,?_,?_,?_,?_,?_,?_,?_,?_,trivial⟩,⟨?_,.inl rfl,?_,?_,?_,?_,?_,?_,?_,?_,?_,?_,.inr (.inr (.inr (fun _ _ _ _ h h0=>h0.next h))),?_,?_,trivial⟩,⟨?_,?_,.inl rfl,?_,?_,?_,?_,?_,?_,?_,?_,?_,.inr (.inr (.inr (fun _ _ _ _ h h0=>h0.next h))),?_,?_,trivial⟩,⟨?_,?_,?_,.inl rfl,?_,?_,?_,?_,?_,?_,?_,?_,?_,?_,?_,trivial⟩,⟨?_,?_,?_,?_,.inl rfl,?_,?_,?_,?_,?_,?_,?_,.inr (.inr (.inr (fun _ _ _ _ h h0=>h0.next h))),?_,?_,trivial⟩,⟨?_,?_,?_,?_,?_,.inl rfl,?_,?_,?_,?_,?_,?_,.inr (.inr (.inr (fun _ _ _ _ h h0=>h0.next h))),?_,?_,trivial⟩,⟨?_,?_,?_,?_,?_,?_,.inl rfl,?_,?_,?_,?_,?_,.inr (.inr (.inr (fun _ _ _ _ h h0=>h0.next h))),?_,?_,trivial⟩,⟨?_,?_,?_,?_,?_,?_,?_,.inl rfl,?_,?_,?_,?_,.inr (.inr (.inr (fun _ _ _ _ h h0=>h0.next h))),?_,?_,trivial⟩,⟨?_,?_,?_,?_,?_,?_,?_,?_,.inl rfl,?_,?_,?_,.inr (.inr (.inr (fun _ _ _ _ h h0=>h0.next h))),?_,?_,trivial⟩,⟨?_,?_,?_,?_,?_,?_,?_,?_,?_,.inl rfl,?_,?_,?_,?_,?_,trivial⟩,⟨?_,?_,?_,?_,?_,?_,?_,?_,?_,?_,.inl rfl,?_,?_,?_,?_,trivial⟩,⟨?_,?_,?_,?_,?_,?_,?_,?_,?_,?_,?_,.inl rfl,?_,?_,?_,trivial⟩,⟨?_,?_,?_,?_,?_,?_,?_,?_,?_,?_,?_,?_,.inl rfl,?_,?_,trivial⟩,⟨?_,?_,?_,?_,?_,?_,?_,?_,?_,?_,?_,?_,.inr (.inl rfl),.inl rfl,?_,trivial⟩,⟨?_,?_,?_,?_,?_,?_,?_,?_,?_,?_,?_,?_,?_,?_,.inl rfl,trivial⟩,trivial⟩ <;> first | exact .inr (.inr (.inl rfl)) | exact .inr (.inr (.inr fun _ _ _ _ _ h=>h)) | exact .inr (.inr (.inr fun _ _ _ _ h h0=>by cases h; exact h0))
    ·refine ⟨?_,?_,?_,?_,?_,?_,?_,?_,?_,?_,?_,?_,?_,?_,?_,trivial⟩
     ·refine qac [] (fun _=>rfl) rfl ?_;intro w1 vals hC1 hi0 hf E hE;clear hi0;clear hf;have hs:=HST3.out.next hC1;simp only [sP] at hE ⊢;refine qab (hs.1.1) rfl rfl rfl hu rfl qag ?_;go_wp2_with fail;exact .mk (hE _ _ rfl hC1 rfl)
     ·refine qac [] (fun _=>rfl) rfl ?_;intro w1 vals hC1 hi0 hf E hE;clear hi0;clear hf;simp only [sP] at hE ⊢;go_wp2_with fail;refine qaa (CI.out _) ?_;rintro e w2 ⟨rfl,hb2⟩;go_wp2_with fail;exact .mk (hE _ _ rfl (hC1.trans (hb2.mono hC1.size)) hb2)
     ·refine qac [(0,some 40),(1,some 41),(1,some 41)] (fun _=>rfl) rfl ?_;intro w1 vals hC1 hi0 hf E hE;clear hi0;have f0:vals 0=_:=hf 0 rfl;have f1:vals 1=_:=hf 1 rfl
      try dsimp only at f0 f1
      clear hf;simp only [sP,f0,f1] at hE ⊢;clear f0 f1;go_wp2_with fail;refine qaa (CU.out _) ?_;rintro e w2 ⟨rfl,hb2⟩;go_wp2_with fail;exact .mk (hE _ _ rfl (hC1.trans (hb2.mono hC1.size)) hb2)
     ·refine qac [] (fun _=>rfl) rfl ?_;intro w1 vals hC1 hi0 hf E hE;clear hi0;clear hf;have hs:=HST3.out.next hC1;simp only [sP] at hE ⊢;refine qab (hs.1.1) rfl rfl rfl hu rfl qag ?_;go_wp2_with fail;exact .mk (hE _ _ rfl hC1 rfl)
     ·refine qac [(2,some 42)] (fun _=>rfl) rfl ?_;intro w1 vals hC1 hi0 hf E hE;clear hi0;have f2:vals 2=_:=hf 2 rfl
      try dsimp only at f2
      clear hf;simp only [sP,f2] at hE ⊢;clear f2;go_wp2_with fail;refine qaa (CD.out _) ?_;rintro e w2 ⟨rfl,hb2⟩;go_wp2_with fail;exact .mk (hE _ _ rfl (hC1.trans (hb2.mono hC1.size)) hb2)
     ·refine qac [(3,some 43),(4,some 44),(4,some 44)] (fun _=>rfl) rfl ?_;intro w1 vals hC1 hi0 hf E hE;clear hi0;have f3:vals 3=_:=hf 3 rfl;have f4:vals 4=_:=hf 4 rfl
      try dsimp only at f3 f4
      clear hf;simp only [sP,f3,f4] at hE ⊢;clear f3 f4;go_wp2_with fail;refine qaa (CDY.out _) ?_;rintro e w2 ⟨rfl,hb2⟩;go_wp2_with fail;exact .mk (hE _ _ rfl (hC1.trans (hb2.mono hC1.size)) hb2)
     ·refine qac [(5,some 45)] (fun _=>rfl) rfl ?_;intro w1 vals hC1 hi0 hf E hE;clear hi0;have f5:vals 5=_:=hf 5 rfl
      try dsimp only at f5
      clear hf;simp only [sP,f5] at hE ⊢;clear f5;go_wp2_with fail;refine qaa (CI.out _) ?_;rintro e w2 ⟨rfl,hb2⟩;go_wp2_with fail;exact .mk (hE _ _ rfl (hC1.trans (hb2.mono hC1.size)) hb2)
     ·refine qac [(5,some 45),(6,some 46),(6,some 46)] (fun _=>rfl) rfl ?_;intro w1 vals hC1 hi0 hf E hE;clear hi0;have f5:vals 5=_:=hf 5 rfl;have f6:vals 6=_:=hf 6 rfl
      try dsimp only at f5 f6
      clear hf;simp only [sP,f5,f6] at hE ⊢;clear f5 f6;go_wp2_with fail;refine qaa (CV.out _) ?_;rintro e w2 ⟨rfl,hb2⟩;go_wp2_with fail;exact .mk (hE _ _ rfl (hC1.trans (hb2.mono hC1.size)) hb2)
     ·refine qac [(2,some 42),(7,some 47),(7,some 47)] (fun _=>rfl) rfl ?_;intro w1 vals hC1 hi0 hf E hE;clear hi0;have f2:vals 2=_:=hf 2 rfl;have f7:vals 7=_:=hf 7 rfl
      try dsimp only at f2 f7
      clear hf;simp only [sP,f2,f7] at hE ⊢;clear f2 f7;go_wp2_with fail;refine qaa (CRT.out _) ?_;rintro e w2 ⟨rfl,hb2⟩;go_wp2_with fail;exact .mk (hE _ _ rfl (hC1.trans (hb2.mono hC1.size)) hb2)
     ·refine qac [(8,some 48)] (fun _=>rfl) rfl ?_;intro w1 vals hC1 hi0 hf E hE;clear hi0;have f8:vals 8=_:=hf 8 rfl
      try dsimp only at f8
      clear hf;simp only [sP,f8] at hE ⊢;clear f8;go_wp2;exact .mk (hE _ _ rfl hC1 rfl)
     ·refine qac [(9,some 39)] (fun _=>rfl) rfl ?_;intro w1 vals hC1 hi0 hf E hE;clear hi0;have f9:vals 9=_:=hf 9 rfl
      try dsimp only at f9
      clear hf;simp only [sP,f9] at hE ⊢;clear f9;go_wp2;exact .mk (hE _ _ rfl hC1 rfl)
     ·refine qac [(9,some 39)] (fun _=>rfl) rfl ?_;intro w1 vals hC1 hi0 hf E hE;clear hi0;have f9:vals 9=_:=hf 9 rfl
      try dsimp only at f9
      clear hf;simp only [sP,f9] at hE ⊢;clear f9;go_wp2;exact .mk (hE _ _ rfl hC1 rfl)
     ·refine qac [] (fun _=>rfl) rfl ?_;intro w1 vals hC1 hi0 hf E hE;clear hi0;clear hf;simp only [sP] at hE ⊢;go_wp2;exact .mk (hE _ _ (NewBox.of hC1.size) (hC1.alloc hC1.size _) (below_new _ _))
     ·refine qac [(12,some 9),(10,some 49),(8,some 48),(0,some 40),(1,some 41),(2,some 42),(3,some 43),(4,some 44),(5,some 45),(6,some 46),(7,some 47),(8,some 48),(9,some 39),(10,some 49),(12,some 9)] (fun _=>rfl) rfl ?_;intro w1 vals hC1 hi0 hf E hE;clear hi0;have f0:vals 0=_:=hf 0 rfl;have f1:vals 1=_:=hf 1 rfl;have f2:vals 2=_:=hf 2 rfl;have f3:vals 3=_:=hf 3 rfl;have f4:vals 4=_:=hf 4 rfl;have f5:vals 5=_:=hf 5 rfl;have f6:vals 6=_:=hf 6 rfl;have f7:vals 7=_:=hf 7 rfl;have f8:vals 8=_:=hf 8 rfl;have f9:vals 9=_:=hf 9 rfl;have f10:vals 10=_:=hf 10 rfl;have f12:(NewBox v9.heap.size 46 (eV zE)) (vals 12) w1:=hf 12 rfl
      try dsimp only at f0 f1 f2 f3 f4 f5 f6 f7 f8 f9 f10 f12
      clear hf;obtain ⟨o,hx,ho,hblk⟩:=f12;have hx':=hx;simp only [sP,f0,f1,f2,f3,f4,f5,f6,f7,f8,f9,f10,hx] at hE ⊢;clear f0 f1 f2 f3 f4 f5 f6 f7 f8 f9 f10;clear hx;refine qaf (cells:=eV X) hblk rfl rfl rfl rfl qag rfl (by simp [eV,wV,limbs,Value.oneCell']) ?_;intro w2 hb2 hw2;go_wp2_with fail;exact .mk (hE undef _ ⟨o,hx',ho,hb2⟩ (hw2.below hC1 ho hC1.size) trivial)
     ·refine qac [(11,some 50),(13,none),(0,some 40),(1,some 41),(2,some 42),(3,some 43),(4,some 44),(5,some 45),(6,some 46),(7,some 47),(8,some 48),(9,some 39),(10,some 49),(11,some 50),(12,some 9),(13,none)] (fun _=>rfl) rfl ?_;intro w1 vals hC1 hi0 hf E hE;clear hi0;have f0:vals 0=_:=hf 0 rfl;have f1:vals 1=_:=hf 1 rfl;have f2:vals 2=_:=hf 2 rfl;have f3:vals 3=_:=hf 3 rfl;have f4:vals 4=_:=hf 4 rfl;have f5:vals 5=_:=hf 5 rfl;have f6:vals 6=_:=hf 6 rfl;have f7:vals 7=_:=hf 7 rfl;have f8:vals 8=_:=hf 8 rfl;have f9:vals 9=_:=hf 9 rfl;have f10:vals 10=_:=hf 10 rfl;have f11:vals 11=_:=hf 11 rfl;have f13:(fun z u=>NewBox v9.heap.size 46 (eV X) (z 12) u) vals w1:=hf 13 rfl
      try dsimp only at f0 f1 f2 f3 f4 f5 f6 f7 f8 f9 f10 f11 f13
      clear hf;simp only [sP,f0,f1,f2,f3,f4,f5,f6,f7,f8,f9,f10,f11] at hE ⊢;clear f0 f1 f2 f3 f4 f5 f6 f7 f8 f9 f10 f11;go_wp2;exact .mk (hE _ _ rfl hC1 rfl)
    intro w1 vals hC1 hf;have f0:vals 0=_:=hf 0 (by decide) rfl;have f1:vals 1=_:=hf 1 (by decide) rfl;have f2:vals 2=_:=hf 2 (by decide) rfl;have f3:vals 3=_:=hf 3 (by decide) rfl;have f4:vals 4=_:=hf 4 (by decide) rfl;have f5:vals 5=_:=hf 5 (by decide) rfl;have f6:vals 6=_:=hf 6 (by decide) rfl;have f7:vals 7=_:=hf 7 (by decide) rfl;have f8:vals 8=_:=hf 8 (by decide) rfl;have f9:vals 9=_:=hf 9 (by decide) rfl;have f10:vals 10=_:=hf 10 (by decide) rfl;have f11:vals 11=_:=hf 11 (by decide) rfl;have f13:(fun z u=>NewBox v9.heap.size 46 (eV X) (z 12) u) vals w1:=hf 13 (by decide) rfl;have f14:vals 14=_:=hf 14 (by decide) rfl
    try dsimp only at f0 f1 f2 f3 f4 f5 f6 f7 f8 f9 f10 f11 f13 f14
    clear hf;simp only [sP,f0,f1,f2,f3,f4,f5,f6,f7,f8,f9,f10,f11,f14];clear f0 f1 f2 f3 f4 f5 f6 f7 f8 f9 f10 f11 f14;generalize vals 12=x12 at *;obtain ⟨o9,rfl,hlo,hblk⟩:=f13;have HST4:=zY (show Cs [.box o9 46 (eV X),.box g8 46 (eV Y2),.box g6 46 (eV E),.box g0 48 (ptV zP)] w w1 from ⟨⟨hblk,(HST3.out.next hC1).1⟩,(HST3.out.next hC1).2⟩);clear hC1 HC0 hblk hlo HST3;obtain ⟨y1,rfl⟩:=eX w1
    cases ok
    ·go_wp2_with (refine qaf (x:=.tmp 2) (cells:=ptV zP) (HST4.out.1.2.2.2.1) rfl rfl rfl rfl qao rfl (by simp [ptV,zP,wV,limbs,Value.oneCell']) ?_; intro w9 hb9 hw9; have HR9:=zY hb9; have HW9:=zY hw9; clear hb9 hw9);refine bodyPost_ret (qap (P:=Tryz.prog) rfl rfl HR9.out hp rfl qao) rfl ?_;have eR:R=(zP,2):=by simpa [HRR.out] using HR.out
     rw [eR];exact ⟨rfl,HW9.out.below HST4.out.2 (Nat.le_of_eq HG0.out) HST4.out.2.size⟩
    ·go_wp2_with (refine qab (x:=.tmp 9) (HST4.out.1.1) rfl rfl rfl hu rfl qag ?_);refine qaa (COD.out _) ?_;rintro e w10 ⟨rfl,hb⟩;have HST5:=zY (HST4.out.next hb);clear hb HST4
     cases ob
     ·go_wp2_with (first | (refine qab (x:=.tmp 9) (HST5.out.1.1) rfl rfl rfl hu rfl qag ?_) | (refine qab (x:=.tmp 6) (HST5.out.1.2.2.1) rfl rfl rfl hu rfl qag ?_));refine qaa (CO1.out _) ?_;rintro e w11 ⟨rfl,hb⟩;have HST6:=zY (HST5.out.next hb);clear hb HST5;go_wp2_with (refine qaf (x:=.tmp 2) (cells:=ptV Q1) (HST6.out.1.2.2.2.1) rfl rfl rfl rfl qao rfl (by simp [ptV,wV,limbs,Value.oneCell']) ?_; intro w9 hb9 hw9; have HR9:=zY hb9; have HW9:=zY hw9; clear hb9 hw9);refine bodyPost_ret (qap (P:=Tryz.prog) rfl rfl HR9.out hp rfl qao) rfl ?_;have eR:R=(Q1,0):=by simpa [HRR.out] using HR.out
      rw [eR];exact ⟨rfl,HW9.out.below HST6.out.2 (Nat.le_of_eq HG0.out) HST6.out.2.size⟩
     ·go_wp2_with (refine qab (x:=.tmp 9) (HST5.out.1.1) rfl rfl rfl hu rfl qag ?_);refine qaa (CZB.out _) ?_;rintro e w11 ⟨rfl,hb⟩;have HST6:=zY (HST5.out.next hb);clear hb HST5
      cases zb
      ·go_wp2_with fail;have HC0:=HST6.out.drew;clear HST6;refine qa5 (fun u=>Cs [.box o9 46 (eV X),.box g8 46 (eV Y2),.box g6 46 (eV E),.box g0 48 (ptV zP)] w u) (fun _=>false) 5 [(0,some 68),(1,some 69),(2,some 70),(3,some 71),(4,some 72),(5,none),(6,some 3)] (by kernel_rfl) (by kernel_rfl) (by decide) (by kernel_rfl) (fun _=>rfl) HC0 ?_;apply DetQ.next
       ·apply dQ;apply dP [];exact fun _=>rfl;rfl;rintro vals - w1 hC1 E hE;simp only [sP] at hE ⊢;go_wp2;exact .mk (hE _ hC1)
       apply DetQ.next
       ·apply dQ;apply dP [];exact fun _=>rfl;rfl;rintro vals ⟨-,-⟩ w1 hC1 E hE;simp only [sP] at hE ⊢;refine qab (hC1.1.1) rfl rfl rfl hu rfl qag ?_;go_wp2_with fail;exact .mk (hE _ hC1)
       apply DetQ.next
       ·apply dQ;apply dP [(0,some 68),(1,some 69)];exact fun _=>rfl;rfl;intro vals vq w1 hC1 E hE;simp only [sP,vq] at hE ⊢;clear vq;go_wp2_with fail;refine qaa (CNX.out _) ?_;rintro e w2 ⟨rfl,hb2⟩;go_wp2_with fail;exact .mk (hE _ (hC1.next hb2))
       apply DetQ.next
       ·apply dQ;apply dP [];exact fun _=>rfl;rfl;intro vals vq w1 hC1 E hE;clear vq;simp only [sP] at hE ⊢;refine qab (hC1.1.2.2.1) rfl rfl rfl hu rfl qag ?_;go_wp2_with fail;exact .mk (hE _ hC1)
       apply DetQ.next
       ·apply dQ;apply dP [(2,some 70),(3,some 71),(2,some 70)];exact fun _=>rfl;rfl;intro vals vq w1 hC1 E hE;simp only [sP,vq] at hE ⊢;clear vq;go_wp2_with fail;refine qaa (CO2.out _) ?_;rintro e w2 ⟨rfl,hb2⟩;go_wp2_with fail;exact .mk (hE _ (hC1.next hb2))
       apply DetQ.done;rintro vals ⟨⟨⟨⟨⟨-,f0⟩,f1⟩,f2⟩,f3⟩,f4⟩ w1 hC1;refine qa7 [(4,some 72),(4,some 72),(0,some 68),(1,some 69),(2,some 70),(3,some 71),(4,some 72)] (fun _=>rfl) rfl ?_;intro E hE;simp only [sP,f0,f1,f2,f3,f4] at hE ⊢;refine qaf (x:=.tmp 2) (cells:=ptV Q2) (hC1.1.2.2.2.1) rfl rfl rfl rfl qao rfl (by simp [ptV,wV,limbs,Value.oneCell']) ?_;intro y9 hb9 hw9;have HR9:=zY hb9;have HW9:=zY hw9;clear hb9 hw9;go_wp2_with fail;refine .mk (hE undef _ ?_);clear hE E;generalize hval:upd _ 5 _=vals5;replace f0:=uP hval (by decide) f0;replace f1:=uP hval (by decide) f1;replace f2:=uP hval (by decide) f2;replace f3:=uP hval (by decide) f3;replace f4:=uP hval (by decide) f4;have f5:=(congrFun hval 5).symm.trans (qaO _ _ _);clear hval;refine qa7 [(5,none),(0,some 68),(1,some 69),(2,some 70),(3,some 71),(4,some 72),(5,none)] (fun _=>rfl) rfl ?_;intro E hE;simp only [sP,f0,f1,f2,f3,f4,f5] at hE ⊢;go_wp2;refine .mk (hE _ _ ?_);clear hE E;generalize hval:upd _ 6 _=vals6;replace f0:=uP hval (by decide) f0;replace f1:=uP hval (by decide) f1;replace f2:=uP hval (by decide) f2;replace f3:=uP hval (by decide) f3;replace f4:=uP hval (by decide) f4;replace f5:=uP hval (by decide) f5;have f6:=(congrFun hval 6).symm.trans (qaO _ _ _);clear hval;refine qcs ?_;simp only [sP,f0,f1,f2,f3,f4,f5,f6];clear f0 f1 f2 f3 f4 f5 f6;have HST7:=zY hC1;clear hC1 HC0;go_wp2_with fail;refine bodyPost_ret (qap (P:=Tryz.prog) rfl rfl HR9.out hp rfl qao) rfl ?_;have eR:R=(Q2,0):=by simpa [HRR.out] using HR.out
       rw [eR];exact ⟨rfl,HW9.out.below HST7.out.2 (Nat.le_of_eq HG0.out) HST7.out.2.size⟩
      ·go_wp2_with (refine qaf (x:=.tmp 2) (cells:=ptV zP) (HST6.out.1.2.2.2.1) rfl rfl rfl rfl qao rfl (by simp [ptV,zP,wV,limbs,Value.oneCell']) ?_; intro w9 hb9 hw9; have HR9:=zY hb9; have HW9:=zY hw9; clear hb9 hw9);refine bodyPost_ret (qap (P:=Tryz.prog) rfl rfl HR9.out hp rfl qao) rfl ?_;have eR:R=(zP,2):=by simpa [HRR.out] using HR.out
       rw [eR];exact ⟨rfl,HW9.out.below HST6.out.2 (Nat.le_of_eq HG0.out) HST6.out.2.size⟩
 ·have hR2:R=(zP,2):=by rw [hR,crd,if_neg h32]
  have h32':¬ (n:Int)=32:=by omega
  rw [← hn];subst hR2;clear hn hmax hr hc h32 hR;go_enter Tryz.func17,Tryz.ntmps17;go_wp2_with (refine qaf (x:=.tmp 2) (cells:=ptV zP) HP.out rfl rfl rfl rfl qao rfl (by simp [ptV,zP,wV,limbs,Value.oneCell']) ?_; intro w7 hb7 hw7; have HP7:=zY hb7; have HW7:=zY hw7; clear hb7 hw7);refine bodyPost_ret (qap (P:=Tryz.prog) rfl rfl HP7.out hp rfl qao) rfl ?_;exact ⟨rfl,HW7.out.below HB.out (Nat.le_refl _) HB.out.size⟩
theorem gen_neg {n:Nat} [NeZero n] (ho:n%2=1) {x:Fin n} (h:x≠0):decide ((-x).val%2=1)=!decide (x.val%2=1):=by
 have h0:x.val≠0:=fun e=>h (Fin.ext (by rw [e]; rfl));have hl:=x.isLt
 have e:(-x).val=n - x.val:=by
  rw [Fin.neg_def];exact Nat.mod_eq_of_lt (by omega)
 rw [e,← decide_not];exact decide_eq_decide.mpr (by omega)
theorem par_neg {x:FP} (h:x≠0):decide ((-x).val%2=1)=!decide (x.val%2=1):=gen_neg (by decide) h
theorem neg_z:(-(0:FP))=0:=by decide
def Good (y:FP) (odd:Bool) (x:FP):Prop:=Ed.On dF x y∧decide (x.val%2=1)=odd
theorem good_pm {y x z:FP} (hx:Ed.On dF x y) (hz:Ed.On dF z y):z=x∨z=-x :=
 g_two FF (g_den FF y) ((g_on x y).1 hx) ((g_on z y).1 hz)
theorem good_one {y x z:FP} {odd:Bool} (hx:Good y odd x) (hz:Good y odd z):z=x:=by
 rcases good_pm hx.1 hz.1 with h | h
 ·exact h
 ·by_cases h0:x=0
  ·rw [h,h0,neg_z]
  ·have h1:=par_neg h0;rw [← h,hz.2,hx.2] at h1
   cases odd <;> exact absurd h1 (by decide)
theorem fv_ofN {Y:Nat} (h:Y<PN):fv (ofN Y)=fn Y:=by
 rw [fv,ofN_val,Nat.mod_eq_of_lt (Nat.lt_trans h (by decide))]
theorem fv_one:fv (intE 1)=1:=fv_int 1
theorem crdU_ok {E:E5} (h:E.Ok):(crdU E).Ok:=qbb (qax h h) qd8
theorem crdV_ok {E D:E5} (h:E.Ok) (k:D.Ok):(crdV E D).Ok:=qbk (qax (qax h h) k) qd8
theorem fv_crdU {Y:Nat} (h:Y<PN):fv (crdU (ofN Y))=fn Y*fn Y - 1:=by rw [crdU,qcC qd8,qa3,fv_ofN h,fv_one]
theorem fv_crdV {Y:Nat} (h:Y<PN):fv (crdV (ofN Y) dE)=fn Y*fn Y*dF+1:=by rw [crdV,qem,qa3,qa3,fv_ofN h,fv_d,fv_one]
theorem bool_not {a b:Bool} (h:¬ a=b):(!a)=b:=by cases a <;> cases b <;> simp_all
theorem crd_good {Y:Nat} (hY:Y<PN) (odd:Bool) {r:Pt4 × Nat} (hr:crdR (ofN Y) dE odd=r) :
  (r.2=0∧r.1.Ok∧∃ x,∃ h:Good (fn Y) odd x,Is r.1 ⟨x,fn Y,h.1⟩)∨(r.2=2∧∀ x,¬ Good (fn Y) odd x):=by
 have okE:=ofN_ok Y;have okU:=crdU_ok okE;have okV:=crdV_ok okE dE_ok;have okX:=rootE_ok okU okV;have yes:=croot_yes okU okV;have no:=croot_no okU okV;rw [crdR] at hr;rw [fv_crdU hY,fv_crdV hY] at yes no;generalize crdU (ofN Y)=U at *;generalize crdV (ofN Y) dE=V at *;generalize rootE U V=X at *
 by_cases h1:rootB U V=true
 ·have hon:=(g_on _ _).2 (yes h1);rw [if_pos h1] at hr
  by_cases h2:oddE X=odd
  ·rw [if_pos h2] at hr;subst hr;exact .inl ⟨rfl,ofP_ok okX okE,fv X,⟨hon,h2⟩,is_of rfl (fv_ofN hY)⟩
  ·rw [if_neg h2] at hr
   by_cases h3:eqB X zE=true
   ·rw [if_pos h3] at hr;subst hr;have hX:=(eqB_fv okX zE_ok).1 h3;rw [fv_z] at hX;refine .inr ⟨rfl,fun z hz=>?_⟩
    have e:z=fv X:=by
     rcases good_pm hon hz.1 with e | e
     ·exact e
     ·rw [e,hX,neg_z]
    have:=hz.2;rw [e] at this;exact h2 this
   ·rw [if_neg h3] at hr;subst hr;have hX:fv X≠0:=fun e=>h3 ((eqB_fv okX zE_ok).2 (by rw [e,fv_z]));have e:fv (subE zE X)=-fv X:=by rw [qcC okX,fv_z,g_z0]
    refine .inl ⟨rfl,ofP_ok (qbb zE_ok okX) okE,-fv X,⟨Ed.neg_on hon,?_⟩,is_of e (fv_ofN hY)⟩;rw [par_neg hX];exact bool_not h2
 ·rw [if_neg h1] at hr;subst hr;refine .inr ⟨rfl,fun z hz=>?_⟩;exact no (Bool.not_eq_true _▸h1) (g_den FF _) z ((g_on _ _).1 hz.1)
theorem rtV_lt {a x q:Nat} (hx:x<PN):rtV a x q<PN:=by
 rw [rtV]
 split
 ·exact hx
 ·exact qav _
theorem fn_z {a:Nat} (h:a<PN):fn a=0↔a=0:=by
 constructor
 ·intro e;have:=congrArg Fin.val e;rw [qbj h] at this;exact this
 ·rintro rfl; rfl
def OfGood (Y:Nat) (odd:Bool):Option Nat→Prop
 | some r=>r<PN∧Good (fn Y) odd (fn r)
 | none=>∀ z,¬ Good (fn Y) odd z
theorem ofR_good {Y y2 u t v i a x q:Nat} (W:OfW Y y2 u t v i a x q) (odd:Bool) {o:Option Nat} (ho:ofR (rtV a x q) (rtB a x q) odd=o) :
  OfGood Y odd o:=by
 obtain ⟨h1,h2,h3,h4,h5,h6,h7,h8⟩:=W;have la:a<PN:=by rw [h6]; exact qav _
 have lv:v<PN:=by rw [h4]; exact qav _
 have lr:rtV a x q<PN:=rtV_lt (by rw [h7]; exact qav _);have fu:fn u=fn Y*fn Y - 1:=by rw [h2,fn_sub (by decide),h1,qaL,fn_one]
 have fvv:fn v=fn Y*fn Y*dF+1:=by rw [h4,qcM,h3,qaL,h1,qaL,fn_one,← dF,Fin.mul_comm]
 have fi:fn v*fn i=1:=by
  rw [h5,fn_inv lv];exact iv_one _ (by rw [fvv]; exact g_den FF _)
 have fa:fn a=fn u*fn i:=by rw [h6,qaL]
 have yes:=nroot_yes (x:=x) (q:=q) la;have no:=nroot_no la h7 h8;rw [fu] at fa;rw [fvv] at fi;have key:∀ z:FP,Ed.On dF z (fn Y)↔z*z=fn a:=fun z=>(g_on _ _).trans (g_div fi fa);generalize rtV a x q=r at *;rw [ofR] at ho
 by_cases hb:rtB a x q=true
 ·rw [if_pos hb] at ho;have hon:=(key _).2 (yes hb);have hpar:decide ((fn r).val%2=1)=decide (r%2=1):=by rw [qbj lr]
  by_cases h2:decide (r%2=1)=odd
  ·rw [if_pos h2] at ho;subst ho;exact ⟨lr,hon,hpar.trans h2⟩
  ·rw [if_neg h2] at ho
   by_cases h3:r=0
   ·rw [if_pos h3] at ho;subst ho;intro z hz
    have e:z=fn r:=by
     rcases good_pm hon hz.1 with e | e
     ·exact e
     ·rw [e,(fn_z lr).2 h3,neg_z]
    have:=hz.2;rw [e,hpar] at this;exact h2 this
   ·rw [if_neg h3] at ho;subst ho;have hX:fn r≠0:=fun e=>h3 ((fn_z lr).1 e);have e:fn ((0+PN - r)%PN)=-fn r:=by rw [fn_sub (Nat.le_of_lt lr),fn_zero,g_z0]
    refine ⟨qav _,?_⟩;rw [e];refine ⟨Ed.neg_on hon,?_⟩;rw [par_neg hX,hpar];exact bool_not h2
 ·rw [if_neg hb] at ho;subst ho;intro z hz;exact no (Bool.not_eq_true _▸hb) z ((key z).1 hz.1)
theorem rdL_len {b:List UInt8} (h:b.length=32):(rdL b).length=32:=by rw [rdL,List.length_set,digs,List.length_map,h]
theorem rdL_dn {b:List UInt8} (h:b.length=32):dV (rdL b)=DN (yOf b):=by
 rw [DN,show digN 32 (yOf b)=rdL b from (qcb (rdL_dg b) (rdL_len h) rfl).symm]
theorem dV_len (l:List Nat):(dV l).length=l.length:=by simp [dV]
theorem dV_set' (l:List Nat) (j n:Nat):(dV l).set j (.int .i64 (n:Int))=dV (l.set j n):=by simp [dV,numV,List.map_set]
theorem qdl {L:List Nat} {k a:Nat} (h:k<L.length):(L.set k a).set k (L.getD k 0)=L:=by rw [List.set_set,set_self h]
theorem getD_set {L:List Nat} {k a:Nat} (h:k<L.length):(L.set k a).getD k 0=a:=by
 rw [List.getD_eq_getElem?_getD,List.getElem?_set_self h]; rfl
theorem rd_byP {x y:Nat} (hy:y<PN) {b:List UInt8} (h:digs b=byP x y):b.length=32∧yOf b=y∧oddOf b=decide (x%2=1)∧rdL b=byN y:=by
 have hl:b.length=32:=by rw [← byP_len x y,← h,digs,List.length_map]
 have hN:=qdM hy;have hNl:31<(byN y).length:=by rw [qa0]; decide
 have e:rdL b=byN y∧oddOf b=decide (x%2=1):=by
  rw [rdL,oddOf,h,byP]
  by_cases ho:x%2=1
  ·rw [if_pos ho,getD_set hNl];refine ⟨?_,decide_eq_decide.mpr ⟨fun _=>ho,fun _=>by omega⟩⟩;rw [show ((byN y).getD 31 0+128)%128=(byN y).getD 31 0 by omega];exact qdl hNl
  ·rw [if_neg ho];refine ⟨?_,decide_eq_decide.mpr ⟨fun h=>by omega,fun h=>absurd h ho⟩⟩;rw [Nat.mod_eq_of_lt hN];exact set_self hNl
 refine ⟨hl,?_,e.2,e.1⟩;rw [yOf,e.1,qeh y (Nat.lt_trans hy pn_big)]
theorem byP_rd {b:List UInt8} (hl:b.length=32) {x:Nat} (hx:decide (x%2=1)=oddOf b):byP x (yOf b)=digs b:=by
 have hdl:31<(digs b).length:=by rw [digs,List.length_map,hl]; decide
 have e:byN (yOf b)=rdL b:=byN_leV (rdL b) (rdL_dg b) (rdL_len hl);have hd256:(digs b).getD 31 0<256:=qaA (digs_lt b) 31;rw [byP,e];have g:(rdL b).getD 31 0=(digs b).getD 31 0%128:=getD_set hdl;rw [g]
 by_cases ho:x%2=1
 ·rw [if_pos ho];rw [decide_eq_true ho,oddOf] at hx;have h128:=of_decide_eq_true hx.symm;rw [show (digs b).getD 31 0%128+128=(digs b).getD 31 0 by omega];exact qdl hdl
 ·rw [if_neg ho];rw [decide_eq_false ho,oddOf] at hx;have h128:=of_decide_eq_false hx.symm;rw [rdL,Nat.mod_eq_of_lt (by omega)];exact set_self hdl
def rrd (b:List UInt8) (o:Option Nat):Option (Nat × Nat):=if b.length=32 then (if yOf b<PN then o.map fun z=>(z,yOf b) else none) else none
theorem rrd_is {P:PtF} {b:List UInt8} (hb:digs b=byF P) {y2 u t v i a x q:Nat} (W:OfW (yOf b) y2 u t v i a x q):rrd b (ofR (rtV a x q) (rtB a x q) (oddOf b))=some (P.x.val,P.y.val):=by
 obtain ⟨hl,hy,ho,_⟩:=rd_byP P.y.isLt (x:=P.x.val) hb;have hlt:yOf b<PN:=by rw [hy]; exact P.y.isLt
 have hg:Good (fn (yOf b)) (oddOf b) P.x:=by rw [hy,qbo,ho]; exact ⟨P.on,rfl⟩
 have h:=ofR_good W (oddOf b) rfl;rw [rrd,if_pos hl,if_pos hlt];generalize ofR (rtV a x q) (rtB a x q) (oddOf b)=o at *
 cases o with
 | none=>exact absurd hg (h _)
 | some r =>
  have e:=good_one hg h.2;show some (r,yOf b)=_;rw [hy,← e,qbj h.1]
theorem both_read {b:List UInt8} {y2 u t v i a x q:Nat} (W:OfW (yOf b) y2 u t v i a x q) :
  (rrd b (ofR (rtV a x q) (rtB a x q) (oddOf b))=none∧(crd b).2=2) ∨
  ∃ P:PtF,rrd b (ofR (rtV a x q) (rtB a x q) (oddOf b))=some (P.x.val,P.y.val)∧(crd b).2=0∧(crd b).1.Ok∧Is (crd b).1 P∧byF P=digs b:=by
 by_cases hl:b.length=32
 ·by_cases hlt:yOf b<PN
  ·rcases crd_good hlt (oddOf b) rfl with ⟨h1,h2,z,h3,h4⟩ | ⟨h1,h2⟩
   ·right
    have hb:byF ⟨z,fn (yOf b),h3.1⟩=digs b:=by
     show byP z.val (fn (yOf b)).val=digs b;rw [qbj hlt];exact byP_rd hl h3.2
    refine ⟨⟨z,fn (yOf b),h3.1⟩,rrd_is hb.symm W,?_,?_,?_,hb⟩
    ·rw [crd,if_pos hl,if_pos hlt]; exact h1
    ·rw [crd,if_pos hl,if_pos hlt]; exact h2
    ·rw [crd,if_pos hl,if_pos hlt]; exact h4
   ·left
    have h:=ofR_good W (oddOf b) rfl;generalize ofR (rtV a x q) (rtB a x q) (oddOf b)=o at *;refine ⟨?_,by rw [crd,if_pos hl,if_pos hlt]; exact h1⟩
    cases o with
    | none=>rw [rrd,if_pos hl,if_pos hlt]; rfl
    | some r=>exact absurd h.2 (h2 _)
  ·left
   exact ⟨by rw [rrd,if_pos hl,if_neg hlt],by rw [crd,if_pos hl,if_neg hlt]⟩
 ·left
  exact ⟨by rw [rrd,if_neg hl],by rw [crd,if_neg hl]⟩
def verR (p m s:List UInt8):Pt4:=addP (bmP (s.drop 32)) (mulP (negP (crd p).1) (byB (hshN (s.take 32++p++m))))
def verS (p m s:List UInt8):Nat :=
 if (crd p).2=0 then (if s.length=64 then (if isB (s.drop 32)=true then (if bsN (bytP (verR p m s))=s.take 32 then 0 else 10) else 10) else 10) else 11
theorem crd_at {b:List UInt8} (h:(crd b).2=0):b.length=32∧(crd b).1.Ok∧∃ P:PtF,Is (crd b).1 P∧byF P=digs b:=by
 by_cases hl:b.length=32
 ·by_cases hlt:yOf b<PN
  ·have e:crd b=crdR (ofN (yOf b)) dE (oddOf b):=by rw [crd,if_pos hl,if_pos hlt]
   rw [e] at h ⊢
   rcases crd_good hlt (oddOf b) rfl with ⟨h1,h2,z,h3,h4⟩ | ⟨h1,h2⟩
   ·refine ⟨hl,h2,_,h4,?_⟩;show byP z.val (fn (yOf b)).val=digs b;rw [qbj hlt];exact byP_rd hl h3.2
   ·rw [h1] at h; exact absurd h (by decide)
  ·rw [crd,if_pos hl,if_neg hlt] at h; exact absurd h (by show ¬ (2:Nat)=0; decide)
 ·rw [crd,if_neg hl] at h; exact absurd h (by show ¬ (2:Nat)=0; decide)
theorem verR_is {p m s:List UInt8} {P:PtF} (h0:(crd p).1.Ok) (hP:Is (crd p).1 P) (hs:s.length=64) :
  (verR p m s).Ok∧Is (verR p m s) (plus (times baseF (leV (digs (s.drop 32)))) (times (Ed.neg P) (hshN (s.take 32++p++m)))):=by
 have h1:(s.drop 32).length=32:=by rw [List.length_drop,hs]
 have ho:=mulP_ok (negP_ok h0) (byB (hshN (s.take 32++p++m)));refine ⟨addP_ok (bmP_ok _) ho,Is.add (bmP_ok _) ho (bmP_is h1) ?_⟩;have e:=Is.mul (negP_ok h0) (Is.neg h0 hP) (byB (hshN (s.take 32++p++m)));rw [List.take_of_length_le (l:=byB (hshN (s.take 32++p++m))) (by rw [qbn]; exact Nat.le_refl _),qbI (hshN_lt _)] at e;exact e
theorem rd_from32 {w:World} {B:Nat} {S:Option Addr} {xs:List Value} (h:Rd w B S xs):Rd w B (S.map fun x=>{ block:=x.block,off:=x.off+32 }) (xs.drop 32):=by
 cases S with
 | none =>
  intro i u hu;rw [List.getElem?_drop] at hu;obtain ⟨ad,e,_⟩:=h _ _ hu
  cases e
 | some ad =>
  have e:=qdf h 32
  rwa [Addr.add_succ' ad 31] at e
theorem rd_from32B {w:World} {B:Nat} {S:Option Addr} {l:List UInt8} (h:Rd w B S (bytesV l)):Rd w B (S.map fun x=>{ block:=x.block,off:=x.off+32 }) (bytesV (l.drop 32)):=by
 rw [show bytesV (l.drop 32)=(bytesV l).drop 32 by rw [bytesV,bytesV,List.map_drop]];exact rd_from32 h
theorem bytP_isdg {p:Pt4} {P:PtF} (hp:p.Ok) (h:Is p P):Dg (bytP p):=by
 rw [bytP_is hp h];exact byP_dg P.y.isLt
theorem sverify_any (p m s:List UInt8) (lp:p.length≤200) (lm:m.length≤20000) (ls:s.length≤200) (A M S:Option Addr) (ca cm cs:Nat) (w:World) (rp:Rd w w.heap.size A (bytesV p)) (rm:Rd w w.heap.size M (bytesV m)) (rs:Rd w w.heap.size S (bytesV s)) (hca:p.length≤ca) (hcs:s.length≤cs) (hG:Sh.TabG w) :
  Calls Tryz.prog 6 #[.slice A p.length ca,.slice M m.length cm,.slice S s.length cs] w (fun e w'=>e=.returned (.int .i64 (verS p m s:Int))∧Below w.heap.size w w'):=by
 have hp:=Tryz.underlying48;have hcr:=cread_any p A ca w rp hca (by omega);obtain ⟨Q,hQ⟩:=eX ((crd p).1);obtain ⟨k,hk⟩:=eX ((crd p).2)
 have hk2:k=0∨k=2:=by
  rw [hk,crd]
  split
  ·split
   ·rw [crdR]
    split
    ·split
     ·exact .inl rfl
     ·split
      ·exact .inr rfl
      ·exact .inl rfl
    ·exact .inr rfl
   ·exact .inr rfl
  ·exact .inr rfl
 unfold CReadPost at hcr;rw [← hQ,← hk] at hcr;obtain ⟨np,hnp⟩:=eX (p.length);obtain ⟨nm,hnm⟩:=eX (m.length);obtain ⟨ns,hns⟩:=eX (s.length);have hnp':(np:Int)≤200:=by omega
 have hnm':(nm:Int)≤20000:=by omega
 have hns':(ns:Int)≤200:=by omega
 have hcs':ns≤cs:=by omega
 rw [← hnp,← hnm,← hns];rw [← hnp] at hcr;have HCR:=zY hcr;have HQ:=zY hQ;have HK:=zY hk;have HNP:=zY hnp;have HNM:=zY hnm;have HNS:=zY hns;have HG:=zY hG;have HST:=zY (show Cs [.rd A (bytesV p),.rd M (bytesV m),.rd S (bytesV s)] w w from ⟨⟨rp,rm,rs,trivial⟩,Below.refl _ _⟩);obtain ⟨V,hV⟩:=eX (verS p m s);rw [← hV];have HV:=zY hV;clear hcr hQ hk hnp hnm hns hG rp rm rs hV lp lm ls hca hcs
 rcases hk2 with hk0 | hk0
 ·subst hk0
  by_cases h64:ns=64
  ·subst h64;obtain ⟨h32,okQ,F,isQ,hF⟩:=crd_at HK.out.symm;obtain ⟨B1,hB1⟩:=eX (s.take 32);obtain ⟨B2,hB2⟩:=eX (s.drop 32);have l1:B1.length=32:=by rw [hB1,List.length_take,← HNS.out]; rfl
   have l2:B2.length=32:=by rw [hB2,List.length_drop,← HNS.out]
   have np32:np=32:=by rw [HNP.out,h32]
   subst np32;have HST0:Hid (Cs [.rd A (bytesV p),.rd M (bytesV m),.rd S (bytesV B1),.rd (S.map fun x=>{ block:=x.block,off:=x.off+32 }) (bytesV B2)] w w):=zY ⟨⟨HST.out.1.1,HST.out.1.2.1,by rw [hB1]; exact qcT HST.out.1.2.2.1,by rw [hB2]; exact rd_from32B HST.out.1.2.2.1,trivial⟩,HST.out.2⟩;obtain ⟨S2,hS2⟩:∃ S2:Option Addr,S2=S.map fun x=>{ block:=x.block,off:=x.off+32 }:=⟨_,rfl⟩;rw [← hS2] at HST0;replace HST:=HST0;clear HST0
   have CI:=zY (show ∀ u c,Rd u u.heap.size S2 (bytesV B2)→Calls Tryz.prog 18 #[.slice S2 32 c] u (BoolPost (isB B2) u) from fun u c h=>by
    have e:=scl_is B2 S2 c u h (by rw [l2]; decide);rw [l2] at e;exact e)
   obtain ⟨D,hD⟩:=eX (B1++p++m);have CD:=zY (show ∀ u A B E ca cb cd,Rd u u.heap.size A (bytesV B1)→Rd u u.heap.size B (bytesV p)→Rd u u.heap.size E (bytesV m)→Sh.TabG u→Calls Tryz.prog 20 #[.slice (some ⟨u.heap.size,0,none⟩) 3 3] (u.alloc (.cells #[.slice A 32 ca,.slice B 32 cb,.slice E nm cd] 22)) (DgPost D u) from fun u A B E ca cb cd h1 h2 h3 g=>by rw [hD]; exact dig3 B1 p m nm l1 h32 HNM.out.symm (by omega) A B E ca cb cd u h1 h2 h3 g);obtain ⟨H,hH⟩:=eX (byB (hshN D));have lH:H.length=32:=by rw [hH,qbn]
   have CR:=zY (show ∀ u A c,Rd u u.heap.size A (bytesV (Sh.digS Sh.F64 D))→Calls Tryz.prog 19 #[.slice A 64 c] u (NbPost H u) from fun u A c h=>by rw [hH]; exact qcG D A c u h);obtain ⟨B,hB⟩:=eX baseP;obtain ⟨P,hP⟩:=eX (bmP B2);have okP:P.Ok:=by rw [hP]; exact bmP_ok B2
   have CB:=zY (show ∀ u,Calls Tryz.prog 21 #[] u (PtPost B u) from fun u=>by rw [hB]; exact base_any u);have CM:=zY (show ∀ A c u,Rd u u.heap.size A (bytesV B2)→32≤c→Calls Tryz.prog 22 #[.agg (ptV B),.slice A 32 c] u (PtPost P u) from fun A c u h1 h2=>by rw [hB,hP]; exact bm_any B2 l2 A c u h1 h2);have okQ':Q.Ok:=by rw [HQ.out]; exact okQ
   obtain ⟨N,hN⟩:=eX (negP Q);have okN:N.Ok:=by rw [hN]; exact negP_ok okQ'
   have CN:=zY (show ∀ u,Calls Tryz.prog 24 #[.agg (ptV Q)] u (PtPost N u) from fun u=>by rw [hN]; exact pneg_any Q u okQ');obtain ⟨T,hT⟩:=eX (mulP N H);have okT:T.Ok:=by rw [hT]; exact mulP_ok okN H
   have CT:=zY (show ∀ A c u,Rd u u.heap.size A (bytesV H)→32≤c→Calls Tryz.prog 22 #[.agg (ptV N),.slice A 32 c] u (PtPost T u) from fun A c u h1 h2=>by
    have e:=pmul_any N okN H A c u h1 (by omega);rw [lH,← hT] at e;exact e)
   obtain ⟨R,hR⟩:=eX (addP P T);have CA:=zY (show ∀ u,Calls Tryz.prog 23 #[.agg (ptV P),.agg (ptV T)] u (PtPost R u) from fun u=>by rw [hR]; exact padd_any P T u okP okT);have hRv:R=verR p m s:=by rw [verR,hR,hP,hT,hN,hH,hD,HQ.out,hB1,hB2]
   obtain ⟨okR,isR⟩:=verR_is (m:=m) okQ isQ HNS.out.symm;rw [← hRv] at okR isR;obtain ⟨L,hL⟩:=eX (bsN (bytP R));have lL:L.length=32:=by rw [hL,bsN,List.length_map,qes]
   have CY:=zY (show ∀ u,Calls Tryz.prog 26 #[.agg (ptV R)] u (fun e w'=>∃ o,e=.returned (.slice (some ⟨o,0,none⟩) 32 32)∧u.heap.size≤o∧Blk w' o 5 (bytesV L).toArray∧Below u.heap.size u w') from fun u=>by
    have e:=pbytes_any R okR u;unfold PbyPost at e;rw [qcp (bytP_isdg okR isR),← hL] at e;exact e)
   obtain ⟨q,hq⟩:=eX (decide (L=B1))
   have CE:=zY (show ∀ u A1 A2 c1 c2,Rd u u.heap.size A1 (bytesV L)→Rd u u.heap.size A2 (bytesV B1)→32≤c1→32≤c2→Calls Tryz.prog 25 #[.slice A1 32 c1,.slice A2 32 c2] u (BoolPost q u) from fun u A1 A2 c1 c2 h1 h2 h3 h4=>by
    have e:=bequal_any L B1 A1 A2 c1 c2 u h1 h2 (by omega) (by omega) (by omega);rw [lL,l1,← hq] at e;exact e)
   have hVV:V=if isB B2=true then (if q=true then 0 else 10) else 10:=by
    rw [HV.out,verS,if_pos HK.out.symm,if_pos HNS.out.symm,← hB2,← hRv,← hL,← hB1,hq];simp only [decide_eq_true_eq]
   have HVV:=zY hVV;obtain ⟨ib,hib⟩:=eX (isB B2);rw [← hib] at CI HVV;have hcs2:32≤cs - 32:=by omega
   clear h32 okQ isQ hF hB1 hB2 l1 l2 hD hH lH hB hP okP okQ' hN okN hT okT hR hRv okR isR hL lL hq hVV hib HV HQ HK HNP HNS HNM;go_enter Tryz.func6,Tryz.ntmps6;go_wp2_with fail;refine qaa HCR.out ?_;rintro e w1 ⟨rfl,hb⟩;replace HST:=zY (HST.out.next hb);replace HG:=zY (HG.out.below hb HG.out.size);clear hb HCR;go_wp2_with (refine qaf (x:=.tmp 7) (cells:=ptV Q) (Blk.new w1 48 (ptV zP)) rfl rfl rfl rfl qao rfl (by simp [ptV,wV,limbs,Value.oneCell']) ?_; intro w2 hb2 hw2; have HQB:=zY hb2; have HW2:=zY (qba hw2); clear hb2 hw2);replace HST:=zY (show Cs [.box w1.heap.size 48 (ptV Q),.rd A (bytesV p),.rd M (bytesV m),.rd S (bytesV B1),.rd S2 (bytesV B2)] w w2 from ⟨⟨HQB.out,(HST.out.next HW2.out).1⟩,(HST.out.next HW2.out).2⟩);replace HG:=zY (HG.out.below HW2.out HG.out.size);clear HQB HW2;rw [← hS2];refine qaa (CI.out _ _ HST.out.1.2.2.2.2.1) ?_;rintro e w3 ⟨rfl,hb⟩;replace HST:=zY (HST.out.next hb);replace HG:=zY (HG.out.below hb HG.out.size);clear hb CI
   cases ib with
   | false =>
    go_wp2_with fail;go_ret;exact ⟨by rw [HVV.out]; rfl,HST.out.2⟩
   | true =>
    have HV2:=zY (show V=if q=true then 0 else 10 by rw [HVV.out,if_pos rfl]);clear HVV;go_wp2_with fail;refine qaa (CD.out _ _ _ _ _ _ _ HST.out.1.2.2.2.1 HST.out.1.2.1 HST.out.1.2.2.1 HG.out) ?_;rintro e w4 ⟨A4,c4,rfl,r,hb⟩;replace HST:=zY (HST.out.next hb);have RD:=zY r;clear r hb CD HG;go_wp2_with fail;refine qaa (CR.out _ _ _ RD.out) ?_;rintro e w5 ⟨o5,rfl,r,hb⟩;replace HST:=zY (show Cs [.rd (some ⟨o5,0,none⟩) (bytesV H),.box w1.heap.size 48 (ptV Q),.rd S (bytesV B1),.rd S2 (bytesV B2)] w w5 from ⟨⟨r,(HST.out.next hb).1.1,(HST.out.next hb).1.2.2.2.1,(HST.out.next hb).1.2.2.2.2.1,trivial⟩,(HST.out.next hb).2⟩);clear r hb CR RD;go_wp2_with fail;generalize w1.heap.size=gq at *;have HC0:Below w5.heap.size w5 w5.drew:=(Below.refl _ _).drew
    refine qar (fun u=>Below w5.heap.size w5 u) (fun | false=>(fun _=>True) | true=>(fun _=>True)) (fun | false,_=>false | true,_=>false)
     [fun z _=>z 0=.agg (ptV B),
      fun z _=>z 1=.slice S 64 cs,
      fun z _=>z 2=.slice (S.map fun x=>{ block:=x.block,off:=x.off+32 }) 32 (cs - 32),
      fun z _=>z 3=.agg (ptV P),
      fun z _=>z 4=.agg (ptV Q),
      fun z _=>z 5=.agg (ptV N),
      fun z _=>z 6=.slice (some ⟨o5,0,none⟩) 32 32,
      fun z _=>z 7=.agg (ptV T),
      fun z _=>z 8=.agg (ptV R),
      fun z u=>(NewBox w5.heap.size 48 (ptV zP)) (z 9) u,
      fun z u=>NewBox w5.heap.size 48 (ptV R) (z 9) u]
     [fun u u'=>Below u.heap.size u u',Eq,Eq,fun u u'=>Below u.heap.size u u',Eq,fun u u'=>Below u.heap.size u u',Eq,fun u u'=>Below u.heap.size u u',fun u u'=>Below u.heap.size u u',fun u u'=>Below u.heap.size u u',fun _ _=>True]
     (fun i k=>(i == 10 && k == 9)) [(0,some 36),(1,some 37),(2,some 38),(3,some 39),(4,some 40),(5,some 41),(6,some 42),(7,some 43),(8,some 44),(9,some 10),(10,none)] (by kernel_rfl) (by kernel_rfl) rfl (fun _=>rfl) ?_ ?_ ?_ ?_ ?_ ?_
    ·exact HC0
    ·intro m; cases m; exact trivial; exact trivial
    ·intro m; cases m
     ·refine ⟨?_,?_,?_,?_,?_,?_,?_,?_,?_,?_,?_,trivial⟩ <;> first | exact .inr fun _ _ h h0=>h▸h0 | exact .inr fun _ _ _ h=>h
     ·refine ⟨?_,?_,?_,?_,?_,?_,?_,?_,?_,?_,?_,trivial⟩ <;> first | exact .inr fun _ _ h h0=>h▸h0 | exact .inr fun _ _ _ h=>h
    ·refine ⟨⟨.inl rfl,?_,?_,?_,?_,?_,?_,?_,?_,.inr (.inr (.inr (fun _ _ _ _ h h0=>h0.next h))),?_,trivial⟩,⟨?_,.inl rfl,?_,?_,?_,?_,?_,?_,?_,?_,?_,trivial⟩,⟨?_,?_,.inl rfl,?_,?_,?_,?_,?_,?_,?_,?_,trivial⟩,⟨?_,?_,?_,.inl rfl,?_,?_,?_,?_,?_,.inr (.inr (.inr (fun _ _ _ _ h h0=>h0.next h))),?_,trivial⟩,⟨?_,?_,?_,?_,.inl rfl,?_,?_,?_,?_,?_,?_,trivial⟩,⟨?_,?_,?_,?_,?_,.inl rfl,?_,?_,?_,.inr (.inr (.inr (fun _ _ _ _ h h0=>h0.next h))),?_,trivial⟩,⟨?_,?_,?_,?_,?_,?_,.inl rfl,?_,?_,?_,?_,trivial⟩,⟨?_,?_,?_,?_,?_,?_,?_,.inl rfl,?_,.inr (.inr (.inr (fun _ _ _ _ h h0=>h0.next h))),?_,trivial⟩,⟨?_,?_,?_,?_,?_,?_,?_,?_,.inl rfl,.inr (.inr (.inr (fun _ _ _ _ h h0=>h0.next h))),?_,trivial⟩,⟨?_,?_,?_,?_,?_,?_,?_,?_,?_,.inl rfl,?_,trivial⟩,⟨?_,?_,?_,?_,?_,?_,?_,?_,?_,.inr (.inl rfl),.inl rfl,trivial⟩,trivial⟩ <;> first | exact .inr (.inr (.inl rfl)) | exact .inr (.inr (.inr fun _ _ _ _ _ h=>h)) | exact .inr (.inr (.inr fun _ _ _ _ h h0=>by cases h; exact h0))
    ·refine ⟨?_,?_,?_,?_,?_,?_,?_,?_,?_,?_,?_,trivial⟩
     ·refine qac [] (fun _=>rfl) rfl ?_;intro w1 vals hC1 hi0 hf E hE;clear hi0;clear hf;simp only [sP] at hE ⊢;go_wp2_with fail;refine qaa (CB.out _) ?_;rintro e w2 ⟨rfl,hb2⟩;go_wp2_with fail;exact .mk (hE _ _ rfl (hC1.trans (hb2.mono hC1.size)) hb2)
     ·refine qac [] (fun _=>rfl) rfl ?_;intro w1 vals hC1 hi0 hf E hE;clear hi0;clear hf;simp only [sP] at hE ⊢;go_wp2;exact .mk (hE _ _ rfl hC1 rfl)
     ·refine qac [(1,some 37)] (fun _=>rfl) rfl ?_;intro w1 vals hC1 hi0 hf E hE;clear hi0;have f1:vals 1=_:=hf 1 rfl
      try dsimp only at f1
      clear hf;simp only [sP,f1] at hE ⊢;clear f1;go_wp2;exact .mk (hE _ _ rfl hC1 rfl)
     ·refine qac [(0,some 36),(2,some 38),(0,some 36)] (fun _=>rfl) rfl ?_;intro w1 vals hC1 hi0 hf E hE;clear hi0;have f0:vals 0=_:=hf 0 rfl;have f2:vals 2=_:=hf 2 rfl
      try dsimp only at f0 f2
      clear hf;have hs:=HST.out.next hC1;have h4:=hs.1.2.2.2.1;rw [hS2] at h4;simp only [sP,f0,f2] at hE ⊢;clear f0 f2;go_wp2_with fail;refine qaa (CM.out _ _ _ h4 hcs2) ?_;rintro e w2 ⟨rfl,hb2⟩;go_wp2_with fail;exact .mk (hE _ _ rfl (hC1.trans (hb2.mono hC1.size)) hb2)
     ·refine qac [] (fun _=>rfl) rfl ?_;intro w1 vals hC1 hi0 hf E hE;clear hi0;clear hf;have hs:=HST.out.next hC1;simp only [sP] at hE ⊢;refine qab (hs.1.2.1) rfl rfl rfl hp rfl qao ?_;go_wp2_with fail;exact .mk (hE _ _ rfl hC1 rfl)
     ·refine qac [(4,some 40),(3,some 39)] (fun _=>rfl) rfl ?_;intro w1 vals hC1 hi0 hf E hE;clear hi0;have f3:vals 3=_:=hf 3 rfl;have f4:vals 4=_:=hf 4 rfl
      try dsimp only at f3 f4
      clear hf;simp only [sP,f3,f4] at hE ⊢;clear f3 f4;go_wp2_with fail;refine qaa (CN.out _) ?_;rintro e w2 ⟨rfl,hb2⟩;go_wp2_with fail;exact .mk (hE _ _ rfl (hC1.trans (hb2.mono hC1.size)) hb2)
     ·refine qac [] (fun _=>rfl) rfl ?_;intro w1 vals hC1 hi0 hf E hE;clear hi0;clear hf;simp only [sP] at hE ⊢;go_wp2;exact .mk (hE _ _ rfl hC1 rfl)
     ·refine qac [(5,some 41),(6,some 42),(5,some 41)] (fun _=>rfl) rfl ?_;intro w1 vals hC1 hi0 hf E hE;clear hi0;have f5:vals 5=_:=hf 5 rfl;have f6:vals 6=_:=hf 6 rfl
      try dsimp only at f5 f6
      clear hf;have hs:=HST.out.next hC1;simp only [sP,f5,f6] at hE ⊢;clear f5 f6;go_wp2_with fail;refine qaa (CT.out _ _ _ hs.1.1 (Nat.le_refl _)) ?_;rintro e w2 ⟨rfl,hb2⟩;go_wp2_with fail;exact .mk (hE _ _ rfl (hC1.trans (hb2.mono hC1.size)) hb2)
     ·refine qac [(3,some 39),(7,some 43),(7,some 43)] (fun _=>rfl) rfl ?_;intro w1 vals hC1 hi0 hf E hE;clear hi0;have f3:vals 3=_:=hf 3 rfl;have f7:vals 7=_:=hf 7 rfl
      try dsimp only at f3 f7
      clear hf;simp only [sP,f3,f7] at hE ⊢;clear f3 f7;go_wp2_with fail;refine qaa (CA.out _) ?_;rintro e w2 ⟨rfl,hb2⟩;go_wp2_with fail;exact .mk (hE _ _ rfl (hC1.trans (hb2.mono hC1.size)) hb2)
     ·refine qac [] (fun _=>rfl) rfl ?_;intro w1 vals hC1 hi0 hf E hE;clear hi0;clear hf;simp only [sP] at hE ⊢;go_wp2;exact .mk (hE _ _ (NewBox.of hC1.size) (hC1.alloc hC1.size _) (below_new _ _))
     ·refine qac [(9,some 10),(8,some 44),(8,some 44),(0,some 36),(1,some 37),(2,some 38),(3,some 39),(4,some 40),(5,some 41),(6,some 42),(7,some 43),(8,some 44),(9,some 10)] (fun _=>rfl) rfl ?_;intro w1 vals hC1 hi0 hf E hE;clear hi0;have f0:vals 0=_:=hf 0 rfl;have f1:vals 1=_:=hf 1 rfl;have f2:vals 2=_:=hf 2 rfl;have f3:vals 3=_:=hf 3 rfl;have f4:vals 4=_:=hf 4 rfl;have f5:vals 5=_:=hf 5 rfl;have f6:vals 6=_:=hf 6 rfl;have f7:vals 7=_:=hf 7 rfl;have f8:vals 8=_:=hf 8 rfl;have f9:(NewBox w5.heap.size 48 (ptV zP)) (vals 9) w1:=hf 9 rfl
      try dsimp only at f0 f1 f2 f3 f4 f5 f6 f7 f8 f9
      clear hf;obtain ⟨o,hx,ho,hblk⟩:=f9;have hx':=hx;simp only [sP,f0,f1,f2,f3,f4,f5,f6,f7,f8,hx] at hE ⊢;clear f0 f1 f2 f3 f4 f5 f6 f7 f8;clear hx;refine qaf (cells:=ptV R) hblk rfl rfl rfl rfl qao rfl (by simp [eV,ptV,wV,limbs,Value.oneCell']) ?_;intro w2 hb2 hw2;go_wp2_with fail;exact .mk (hE undef _ ⟨o,hx',ho,hb2⟩ (hw2.below hC1 ho hC1.size) trivial)
    intro w1 vals hC1 hf;have f0:vals 0=_:=hf 0 (by decide) rfl;have f1:vals 1=_:=hf 1 (by decide) rfl;have f2:vals 2=_:=hf 2 (by decide) rfl;have f3:vals 3=_:=hf 3 (by decide) rfl;have f4:vals 4=_:=hf 4 (by decide) rfl;have f5:vals 5=_:=hf 5 (by decide) rfl;have f6:vals 6=_:=hf 6 (by decide) rfl;have f7:vals 7=_:=hf 7 (by decide) rfl;have f8:vals 8=_:=hf 8 (by decide) rfl;have f10:(fun z u=>NewBox w5.heap.size 48 (ptV R) (z 9) u) vals w1:=hf 10 (by decide) rfl
    try dsimp only at f0 f1 f2 f3 f4 f5 f6 f7 f8 f10
    clear hf;simp only [sP,f0,f1,f2,f3,f4,f5,f6,f7,f8];clear f0 f1 f2 f3 f4 f5 f6 f7 f8;generalize vals 9=x9 at *;obtain ⟨o6,rfl,ho6,hblk6⟩:=f10;obtain ⟨w6,rfl⟩:=eX w1;replace HST:=zY (show Cs [.box o6 48 (ptV R),.rd S (bytesV B1)] w w6 from ⟨⟨hblk6,(HST.out.next hC1).1.2.2.1,trivial⟩,(HST.out.next hC1).2⟩);clear hC1 HC0 hblk6 ho6 CB CM CN CT CA;go_wp2_with fail;have HC0:Below w6.heap.size w6 w6.drew:=(Below.refl _ _).drew
    refine qar (fun u=>Below w6.heap.size w6 u) (fun | false=>(fun _=>True) | true=>(fun _=>True)) (fun | false,_=>false | true,_=>false)
     [fun z _=>z 0=.agg (ptV R),
      fun z u=>(fun v u=>∃ o,v=.slice (some ⟨o,0,none⟩) 32 32∧Rd u u.heap.size (some ⟨o,0,none⟩) (bytesV L)) (z 1) u,
      fun z _=>z 2=.slice S 64 cs,
      fun z _=>z 3=.slice S 32 cs,
      fun z _=>z 4=.bool q,
      fun z _=>z 5=.bool (!q)]
     [Eq,fun u u'=>Below u.heap.size u u',Eq,Eq,fun u u'=>Below u.heap.size u u',Eq]
     (fun _ _=>false) [(0,some 45),(1,some 46),(2,some 47),(3,some 48),(4,some 49),(5,some 50)] (by kernel_rfl) (by kernel_rfl) rfl (fun _=>rfl) ?_ ?_ ?_ ?_ ?_ ?_
    ·exact HC0
    ·intro m; cases m; exact trivial; exact trivial
    ·intro m; cases m
     ·refine ⟨?_,?_,?_,?_,?_,?_,trivial⟩ <;> first | exact .inr fun _ _ h h0=>h▸h0 | exact .inr fun _ _ _ h=>h
     ·refine ⟨?_,?_,?_,?_,?_,?_,trivial⟩ <;> first | exact .inr fun _ _ h h0=>h▸h0 | exact .inr fun _ _ _ h=>h
    ·refine ⟨⟨.inl rfl,?_,?_,?_,?_,?_,trivial⟩,⟨?_,.inl rfl,?_,?_,?_,?_,trivial⟩,⟨?_,?_,.inl rfl,?_,?_,?_,trivial⟩,⟨?_,?_,?_,.inl rfl,?_,?_,trivial⟩,⟨?_,.inr (.inr (.inr (fun _ _ _ _ h h0=>h0.elim fun o k=>⟨o,k.1,qae k.2 h⟩))),?_,?_,.inl rfl,?_,trivial⟩,⟨?_,?_,?_,?_,?_,.inl rfl,trivial⟩,trivial⟩ <;> first | exact .inr (.inr (.inl rfl)) | exact .inr (.inr (.inr fun _ _ _ _ _ h=>h)) | exact .inr (.inr (.inr fun _ _ _ _ h h0=>by cases h; exact h0))
    ·refine ⟨?_,?_,?_,?_,?_,?_,trivial⟩
     ·refine qac [] (fun _=>rfl) rfl ?_;intro w1 vals hC1 hi0 hf E hE;clear hi0;clear hf;have hs:=HST.out.next hC1;simp only [sP] at hE ⊢;refine qab (hs.1.1) rfl rfl rfl hp rfl qao ?_;go_wp2_with fail;exact .mk (hE _ _ rfl hC1 rfl)
     ·refine qac [(0,some 45)] (fun _=>rfl) rfl ?_;intro w1 vals hC1 hi0 hf E hE;clear hi0;have f0:vals 0=_:=hf 0 rfl
      try dsimp only at f0
      clear hf;simp only [sP,f0] at hE ⊢;clear f0;go_wp2_with fail;refine qaa (CY.out _) ?_;rintro e w2 ⟨o,rfl,ho,hk,hb2⟩;have hr:=Rd.of_blk hk hk.lt;go_wp2_with fail;exact .mk (hE _ _ ⟨o,rfl,hr⟩ (hC1.trans (hb2.mono hC1.size)) hb2)
     ·refine qac [] (fun _=>rfl) rfl ?_;intro w1 vals hC1 hi0 hf E hE;clear hi0;clear hf;simp only [sP] at hE ⊢;go_wp2;exact .mk (hE _ _ rfl hC1 rfl)
     ·refine qac [(2,some 47)] (fun _=>rfl) rfl ?_;intro w1 vals hC1 hi0 hf E hE;clear hi0;have f2:vals 2=_:=hf 2 rfl
      try dsimp only at f2
      clear hf;simp only [sP,f2] at hE ⊢;clear f2;go_wp2;exact .mk (hE _ _ rfl hC1 rfl)
     ·refine qac [(1,some 46),(3,some 48),(1,some 46)] (fun _=>rfl) rfl ?_;intro w1 vals hC1 hi0 hf E hE;clear hi0;have f1:(fun v u=>∃ o,v=.slice (some ⟨o,0,none⟩) 32 32∧Rd u u.heap.size (some ⟨o,0,none⟩) (bytesV L)) (vals 1) w1:=hf 1 rfl;have f3:vals 3=_:=hf 3 rfl
      try dsimp only at f1 f3
      clear hf;have hs:=HST.out.next hC1;obtain ⟨o,hx,hr⟩:=f1;simp only [sP,f3,hx] at hE ⊢;clear f3;clear hx;go_wp2_with fail;refine qaa (CE.out _ _ _ _ _ hr hs.1.2.1 (Nat.le_refl _) (by omega)) ?_;rintro e w2 ⟨rfl,hb2⟩;go_wp2_with fail;exact .mk (hE _ _ rfl (hC1.trans (hb2.mono hC1.size)) hb2)
     ·refine qac [(4,some 49)] (fun _=>rfl) rfl ?_;intro w1 vals hC1 hi0 hf E hE;clear hi0;have f4:vals 4=_:=hf 4 rfl
      try dsimp only at f4
      clear hf;simp only [sP,f4] at hE ⊢;clear f4;go_wp2;exact .mk (hE _ _ rfl hC1 rfl)
    intro w1 vals hC1 hf;have f0:vals 0=_:=hf 0 (by decide) rfl;have f1:(fun v u=>∃ o,v=.slice (some ⟨o,0,none⟩) 32 32∧Rd u u.heap.size (some ⟨o,0,none⟩) (bytesV L)) (vals 1) w1:=hf 1 (by decide) rfl;have f2:vals 2=_:=hf 2 (by decide) rfl;have f3:vals 3=_:=hf 3 (by decide) rfl;have f4:vals 4=_:=hf 4 (by decide) rfl;have f5:vals 5=_:=hf 5 (by decide) rfl
    try dsimp only at f0 f1 f2 f3 f4 f5
    clear hf;simp only [sP,f0,f2,f3,f4,f5];clear f0 f2 f3 f4 f5;generalize vals 1=x1 at *;obtain ⟨w7,rfl⟩:=eX w1;obtain ⟨o7,rfl,hr7⟩:=f1;have HF:=zY (HST.out.next hC1).2;clear hC1 HC0 HST hr7 CY CE
    cases q with
    | false =>
     go_wp2_with fail;go_ret;exact ⟨by rw [HV2.out]; rfl,HF.out⟩
    | true =>
     go_wp2_with fail;go_ret;exact ⟨by rw [HV2.out]; rfl,HF.out⟩
  ·have h64':¬ (ns:Int)=64:=by omega
   have hVV:V=10:=by rw [HV.out,verS,if_pos HK.out.symm,if_neg (by rw [← HNS.out]; exact h64)]
   have HVV:=zY hVV;clear hVV HV HQ HK HNP HNS HNM h64;go_enter Tryz.func6,Tryz.ntmps6;go_wp2_with fail;refine qaa HCR.out ?_;rintro e w1 ⟨rfl,hb⟩;replace HST:=zY (HST.out.next hb);replace HG:=zY (HG.out.below hb HG.out.size);clear hb HCR;go_wp2_with (refine qaf (x:=.tmp 7) (cells:=ptV Q) (Blk.new w1 48 (ptV zP)) rfl rfl rfl rfl qao rfl (by simp [ptV,wV,limbs,Value.oneCell']) ?_; intro w2 hb2 hw2; have HQB:=zY hb2; have HW2:=zY (qba hw2); clear hb2 hw2);replace HST:=zY (show Cs [.box w1.heap.size 48 (ptV Q),.rd A (bytesV p),.rd M (bytesV m),.rd S (bytesV s)] w w2 from ⟨⟨HQB.out,(HST.out.next HW2.out).1⟩,(HST.out.next HW2.out).2⟩);replace HG:=zY (HG.out.below HW2.out HG.out.size);clear HQB HW2;go_ret;exact ⟨by rw [HVV.out]; rfl,HST.out.2⟩
 ·subst hk0;have hVV:V=11:=by rw [HV.out,verS,if_neg (by rw [← HK.out]; decide)]
  have HVV:=zY hVV;clear hVV HV HQ HK HNP HNS HNM;go_enter Tryz.func6,Tryz.ntmps6;go_wp2_with fail;refine qaa HCR.out ?_;rintro e w1 ⟨rfl,hb⟩;replace HST:=zY (HST.out.next hb);replace HG:=zY (HG.out.below hb HG.out.size);clear hb HCR;go_wp2_with (refine qaf (x:=.tmp 7) (cells:=ptV Q) (Blk.new w1 48 (ptV zP)) rfl rfl rfl rfl qao rfl (by simp [ptV,wV,limbs,Value.oneCell']) ?_; intro w2 hb2 hw2; have HQB:=zY hb2; have HW2:=zY (qba hw2); clear hb2 hw2);replace HST:=zY (show Cs [.box w1.heap.size 48 (ptV Q),.rd A (bytesV p),.rd M (bytesV m),.rd S (bytesV s)] w w2 from ⟨⟨HQB.out,(HST.out.next HW2.out).1⟩,(HST.out.next HW2.out).2⟩);replace HG:=zY (HG.out.below HW2.out HG.out.size);clear HQB HW2;go_ret;exact ⟨by rw [HVV.out]; rfl,HST.out.2⟩
theorem ris_any (b:List UInt8) (h32:b.length=32) (A:Option Addr) (c:Nat) (w:World) (hr:Rd w w.heap.size A (bytesV b)) (hc:32≤c) :
  Calls Tryz.prog 9 #[.slice A 32 c] w (BoolPost (isB b) w):=by
 have hD:=digits_any b A c w hr (by omega) (by omega);rw [h32] at hD;obtain ⟨D,hd⟩:=eX (digs b);have dD:Dg D:=by rw [hd]; exact digs_lt b
 have lD:D.length=32:=by rw [hd,digs,List.length_map,h32]
 have hib:isB b=decide (leV D<LN):=by rw [isB,h32,hd]; simp
 rw [← hd] at hD;rw [hib];obtain ⟨l,hl⟩:=eX LN;obtain ⟨E,hE⟩:=eX (digN 32 LN);have dE':Dg E:=by rw [hE]; exact qaE _ _
 have lE:E.length=32:=by rw [hE,qai]
 have vE:leV E=l:=by rw [hE,hl]; exact qaQ _ _ (by decide)
 have CL:=zY (show ∀ u,Calls Tryz.prog 33 #[] u (DigPost E u) from fun u=>by rw [hE]; exact rl_any u)
 have CC:=zY (show ∀ u A B c d,Rd u u.heap.size A (dV D)→Rd u u.heap.size B (dV E)→Calls Tryz.prog 30 #[.slice A 32 c,.slice B 32 d] u (fun e w'=>e=.returned (.bool (decide (leV D<l)))∧w'=u) from fun u A B c d h1 h2=>by
  have h:=less_any D E dD dE' A B c d u h1 h2 (by omega) (by omega);rw [lD,lE,vE] at h;exact h)
 have HD:=zY hD;rw [← hl];obtain ⟨q,hq⟩:=eX (decide (leV D<l));rw [← hq] at CC ⊢;have LE:=zY lE;clear hD hd dD lD hib hl hE dE' vE hr hc h32 hq lE;go_enter Tryz.func9,Tryz.ntmps9;go_wp2_with fail;refine qaa HD.out ?_;rintro e w1 ⟨A1,c1,rfl,ho,hb⟩;have R1:=zY (Rd.of_own ho (Nat.le_refl _));have HB:=zY hb;clear ho hb HD;go_wp2_with fail;refine qaa (CL.out _) ?_;rintro e w2 ⟨A2,c2,he,hc2,r,hb⟩;rw [LE.out] at he;subst he;have R2:=zY r;replace R1:=zY (qae R1.out hb);replace HB:=zY (HB.out.trans (hb.mono HB.out.size));clear r hb hc2 CL;go_wp2_with fail;refine qaa (CC.out _ _ _ _ _ R1.out R2.out) ?_;rintro e w3 ⟨rfl,rfl⟩;go_wp2_with fail;go_ret;exact ⟨rfl,HB.out⟩
end Go.Proofs.YtdgheahbafnboaaGreatDoor
namespace Go.Proofs.YtdgheahbafnboaaGreatDoor.Sh
set_option linter.unusedSimpArgs false
set_option linter.unusedVariables false
set_option maxRecDepth 100000
set_option maxHeartbeats 4000000
open Go.RowKit
def turnR (b x:Nat):Nat→Nat
 | 0=>x
 | n+1=>turnR b x n/2+turnR b x n%2*2^(b - 1)
theorem rotN_add {b x n:Nat} (hx:x<2^b) (hn:n≤b):rotN b x n=x/2^n+x%2^n*2^(b - n):=by
 obtain ⟨m,rfl⟩:∃ m,b=n+m:=⟨b - n,by omega⟩;have hm:n+m - n=m:=by omega
 rw [rotN,hm]
 have h1:x*2^m%2^(n+m)=x%2^n*2^m:=by
  rw [Nat.pow_add,Nat.mul_mod_mul_right]
 have h2:x/2^n<2^m:=by
  rw [Nat.div_lt_iff_lt_mul (Nat.two_pow_pos _),← Nat.pow_add,Nat.add_comm m n]; exact hx
 rw [h1,Nat.mul_comm (x%2^n),Nat.or_comm,← Nat.two_pow_add_eq_or_of_lt h2];omega
theorem turnR_eq {b x:Nat} (hx:x<2^b):∀ n,n≤b→turnR b x n=x/2^n+x%2^n*2^(b - n)
 | 0,_=>by simp [turnR,Nat.mod_one]
 | n+1,hn=>by
  rw [turnR,turnR_eq hx n (by omega)];obtain ⟨m,rfl⟩:∃ m,b=n+1+m:=⟨b - (n+1),by omega⟩;rw [show n+1+m - n=m+1 by omega,show n+1+m - (n+1)=m by omega,show n+1+m - 1=n+m by omega];obtain ⟨q,hq⟩:=eX (x/2^n);obtain ⟨r,hr⟩:=eX (x%2^n);have hq2:x/2^(n+1)=q/2:=by rw [hq,Nat.pow_succ,Nat.div_div_eq_div_mul]
  have hr2:x%2^(n+1)=r+q%2*2^n:=by
   rw [hr,hq,Nat.pow_succ,Nat.mod_mul];rw [Nat.mul_comm (2^n)]
  rw [hq2,hr2,← hq,← hr];rw [Nat.pow_succ,← Nat.mul_assoc];generalize hz:r*2^m=z;rw [Nat.add_mul,hz,Nat.mul_assoc,← Nat.pow_add,Nat.add_mul_mod_self_right,Nat.add_mul_div_right _ _ (by decide)];omega
theorem turnR_rot {b x n:Nat} (hx:x<2^b) (hn:n≤b):turnR b x n=rotN b x n:=by rw [turnR_eq hx n hn,rotN_add hx hn]
theorem turnR_lt {b x:Nat} (hb:0<b) (hx:x<2^b):∀ n,turnR b x n<2^b
 | 0=>hx
 | n+1=>by
  have ih:=turnR_lt hb hx n;obtain ⟨c,rfl⟩:∃ c,b=c+1:=⟨b - 1,by omega⟩;rw [turnR,show c+1 - 1=c by omega];rw [Nat.pow_succ] at *;generalize 2^c=p at *;generalize turnR (c+1) x n=y at *;have:y%2=0∨y%2=1:=by omega
  rcases this with h | h <;> rw [h] <;> omega
theorem turnR_turned {b x n:Nat} (hb:b=32∨b=64) (hx:x<2^b) (hn:n≤b):turnR b x n=turnedN b x n:=by
 rw [turnR_rot hx hn]
 rcases hb with rfl | rfl
 ·rw [turnedN,if_pos rfl,Nat.mod_eq_of_lt hx]
 ·rw [turnedN,if_neg (by decide)]
def hC (bits steps:Nat) (a b c d k f:Value):Array Value:=#[.int .i64 bits,.int .i64 steps,a,b,c,d,k,f]
section
variable (bits steps:Nat) (a b c d k f:Value) (w:World)
theorem qcK (hb:bits=32∨bits=64) (x:Nat) (hx:x<18446744073709551616) :
  Calls Tryz.prog 100 #[.agg (hC bits steps a b c d k f),.int .u64 x] w fun e w'=>e=.returned (.int .u64 (x%2^bits:Nat))∧Below w.heap.size w w':=by
 have c0:=(Blk.new w 94 (hC bits steps a b c d k f)).cell 0;simp only [hC,List.getElem?_toArray,List.getElem?_cons_zero] at c0;have hx1:(x:Int)<18446744073709551616:=by omega
 rw [hC]
 rcases hb with rfl | rfl
 ·clear hx;go_enter Tryz.func100,Tryz.ntmps100;go_wp2;go_ret;exact ⟨qbr (by omega),below_new _ _⟩
 ·have HX:=zY hx;clear hx;go_enter Tryz.func100,Tryz.ntmps100;go_wp2;go_ret;exact ⟨qbr (by have:=HX.out; omega),below_new _ _⟩
theorem top_any (hb:bits=32∨bits=64) (x:Nat) (hx:x<18446744073709551616) :
  Calls Tryz.prog 87 #[.agg (hC bits steps a b c d k f),.int .u64 x] w fun e w'=>e=.returned (.int .u64 (x/2^(64 - bits)%2^bits:Nat))∧Below w.heap.size w w':=by
 have c0:=(Blk.new w 94 (hC bits steps a b c d k f)).cell 0;simp only [hC,List.getElem?_toArray,List.getElem?_cons_zero] at c0;have hx1:(x:Int)<18446744073709551616:=by omega
 rw [hC]
 rcases hb with rfl | rfl
 ·have HX:=zY hx;clear hx;go_enter Tryz.func87,Tryz.ntmps87;go_wp2;go_ret;exact ⟨qbr (by have:=HX.out; omega),below_new _ _⟩
 ·have HX:=zY hx;clear hx;go_enter Tryz.func87,Tryz.ntmps87;go_wp2;go_ret;exact ⟨qbr (by have:=HX.out; omega),below_new _ _⟩
theorem turn_any (hb:bits=32∨bits=64) (x n:Nat) (hx:x<2^bits) (hn:n≤bits) :
  Calls Tryz.prog 104 #[.agg (hC bits steps a b c d k f),.int .u64 x,.int .i64 n] w fun e w'=>e=.returned (.int .u64 (turnedN bits x n:Nat))∧Below w.heap.size w w':=by
 have c0:=(Blk.new w 94 (hC bits steps a b c d k f)).cell 0;simp only [hC,List.getElem?_toArray,List.getElem?_cons_zero] at c0;have hbel:=below_new w (.cells (hC bits steps a b c d k f) 94);rw [hC] at hbel ⊢;have HTU:=zY (turnR_turned hb hx hn);have HTL:=zY (turnR_lt (by omega) hx);have HBEL:=zY hbel;have hn64:n≤64:=by omega
 clear hbel hn hx
 rcases hb with rfl | rfl
 all_goals
  go_enter Tryz.func104,Tryz.ntmps104;go_wp2
  go_loop [1,7] (fun v i=>∃ j y:Nat,j≤n∧i=.int .i64 j∧y=turnR _ x j∧v=.int .u64 y) (fun _ i=>n - (intOf i).toNat)
  case atStart=>exact ⟨0,x,by omega,rfl,rfl,rfl⟩
  case round =>
   obtain ⟨j,y,hj,rfl,hy,rfl⟩:=hrel;have hyl:=HTL.out j;rw [← hy] at hyl;have HY:=zY hy;have hyl2:(y:Int)<18446744073709551616:=by omega
   have hyl3:(y:Int)/2+2147483648<18446744073709551616:=by omega
   have hyl4:(y:Int)/2+9223372036854775808<18446744073709551616:=by omega
   clear hy hyl
   by_cases hlt:j<n
   ·rcases Nat.mod_two_eq_zero_or_one y with h | h
    ·have ho:(((y:Int)%2) == 1)=false:=by rw [beq_eq_false_iff_ne]; omega
     have HH:=zY h;clear h;go_wp2;exact ⟨⟨j+1,y/2,by omega,by go_num,by rw [turnR,← HY.out,HH.out]; omega,by go_num⟩,by simp [intOf]; omega⟩
    ·have ho:(((y:Int)%2) == 1)=true:=by rw [beq_iff_eq]; omega
     have HH:=zY h;clear h;go_wp2
     first
      | exact ⟨⟨j+1,y/2+2147483648,by omega,by go_num,by rw [turnR,← HY.out,HH.out],by go_num⟩,by simp [intOf]; omega⟩
      | exact ⟨⟨j+1,y/2+9223372036854775808,by omega,by go_num,by rw [turnR,← HY.out,HH.out],by go_num⟩,by simp [intOf]; omega⟩
   ·obtain rfl:j=n:=by omega
    go_wp2;go_ret;exact ⟨qbr (by rw [HY.out,HTU.out]),HBEL.out⟩
end
theorem qbh:(Tryz.prog.info? 94).map (·.size)=some 8:=by kernel_rfl
def triV (p q c:Nat):List Value:=[.int .i64 p,.int .i64 q,.int .i64 c]
structure MxSt (w0:World) (g:Nat) (cs:Array Value) (A:Option Addr) (xs:List Value) (u:World):Prop where
 bel:Below g w0 u
 h:Blk u g 94 cs
 rd:Rd u g A xs
theorem MxSt.next {w0 u u':World} {g:Nat} {cs:Array Value} {A:Option Addr} {xs:List Value} (h:MxSt w0 g cs A xs u) (hb:Below u.heap.size u u'):MxSt w0 g cs A xs u' :=
 ⟨h.bel.trans (hb.mono (by have:=h.h.lt; omega)),h.h.below hb h.h.lt,h.rd.below (hb.mono (by have:=h.h.lt; omega))⟩
theorem MxSt.drew {w0 u:World} {g:Nat} {cs:Array Value} {A:Option Addr} {xs:List Value} (h:MxSt w0 g cs A xs u):MxSt w0 g cs A xs u.drew :=
 ⟨h.bel.drew,h.h,h.rd.below (Below.refl _ _).drew⟩
def halves (x:Nat):Nat→Nat
 | 0=>x
 | n+1=>halves x n/2
theorem qel (x:Nat):∀ n,halves x n=x/2^n
 | 0=>by simp [halves]
 | n+1=>by rw [halves,qel x n,Nat.div_div_eq_div_mul,Nat.pow_succ]
theorem halves_le (x:Nat) (n:Nat):halves x n≤x:=by rw [qel]; exact Nat.div_le_self _ _
theorem qcX (bits steps:Nat) (a b c d k f:Value) (w:World) (hb:bits=32∨bits=64) (x p q r:Nat) (shift:Bool) (hx:x<2^bits) (hp:p≤bits) (hq:q≤bits) (hr:r≤bits)
  (A:Option Addr) (cp B:Nat) (hrd:Rd w B A (triV p q r)) (hB:B≤w.heap.size) (hcp:3≤cp) :
  Calls Tryz.prog 99 #[.agg (hC bits steps a b c d k f),.int .u64 x,.slice A 3 cp,.bool shift] w fun e w'=>e=.returned (.int .u64 (allN bits x p q r shift:Nat))∧Below w.heap.size w w':=by
 obtain ⟨ad,rfl,_,_⟩:=hrd.at_ (k:=0) (by simp [triV]);obtain ⟨W0,hW0⟩:=eX (w.alloc (.cells (hC bits steps a b c d k f) 94));obtain ⟨cs,hcs⟩:=eX (hC bits steps a b c d k f)
 have hst:MxSt w w.heap.size cs (some ad) (triV p q r) W0:=by
  rw [hW0,hcs]; exact ⟨below_new _ _,Blk.new _ _ _,(hrd.mono hB).below (below_new _ _)⟩
 have hb64:bits≤64:=by omega
 have hx64:x<2^64:=Nat.lt_of_lt_of_le hx (Nat.pow_le_pow_right (by omega) hb64);have hst0:=hst;rw [hW0,← hcs] at hst0;have hr64:r≤64:=by omega
 have HST:=zY hst0;have HX:=zY hx;have HXL:=zY hx64;have HB:=zY hb;have HP:=zY hp;have HQ:=zY hq;have HR:=zY hr;have HCS:=zY hcs;have hu:=Tryz.underlying94;have hcs8:cs.size=8:=by rw [hcs]; rfl
 have HCS8:=zY hcs8;rw [← hcs];have hx1:(x:Int)<18446744073709551616:=by omega
 have hAN:allN bits x p q r shift=(turnedN bits x p ^^^ turnedN bits x q) ^^^ lastN bits x r shift:=rfl;have HAN:=zY hAN;obtain ⟨tp,htp⟩:=eX (turnedN bits x p);obtain ⟨tq,htq⟩:=eX (turnedN bits x q);obtain ⟨tr,htr⟩:=eX (turnedN bits x r);obtain ⟨la,hla⟩:=eX (lastN bits x r shift);obtain ⟨pq,hpq⟩:=eX (tp ^^^ tq);obtain ⟨re,hre⟩:=eX (pq ^^^ la);have HTP:=zY htp;have HTQ:=zY htq;have HTR:=zY htr;have HLA:=zY hla;have HPQ:=zY hpq;have HRE:=zY hre;have LTP:Hid (tp<2^64):=zY (by rw [htp]; exact qaW hx64);have LTQ:Hid (tq<2^64):=zY (by rw [htq]; exact qaW hx64);have LLA:Hid (la<2^64):=zY (by rw [hla]; exact qdH hx64);have LPQ:Hid (pq<2^64):=zY (by rw [hpq]; exact Nat.xor_lt_two_pow LTP.out LTQ.out);clear hrd hst hx hx64 hb hp hq hr hcs hcs8 hW0 hst0 hAN htp htq htr hla hpq hre W0
 cases shift
 all_goals
  go_enter Tryz.func99,Tryz.ntmps99;go_wp2_with fail;have HC0:=HST.out.drew;refine qal (fun u=>MxSt w w.heap.size cs (some ad) (triV p q r) u) (fun u=>MxSt w w.heap.size cs (some ad) (triV p q r) u) [(0,some 11),(1,some 12),(2,some 13),(3,some 14),(4,some 15),(5,some 16),(6,some 9)] (by kernel_rfl) (by kernel_rfl) (by decide) (by kernel_rfl) (fun _=>rfl) HC0 ?_;apply yN_
  ·apply dP [];exact fun _=>rfl;rfl;rintro vals - w1 hC1 E hE;simp only [sP] at hE ⊢;refine qab hC1.h rfl rfl rfl hu rfl (by rw [HCS8.out]; exact qbh) ?_;go_wp2_with fail;exact .mk (hE _ hC1)
  apply yN_
  ·apply dP [];exact fun _=>rfl;rfl;rintro vals ⟨-,-⟩ w1 hC1 E hE;simp only [sP] at hE ⊢;go_wp2;exact .mk (hE _ hC1)
  apply yN_
  ·apply dP [];exact fun _=>rfl;rfl;intro vals vq w1 hC1 E hE;clear vq;simp only [sP] at hE ⊢;go_wp2;exact .mk (hE _ hC1)
  apply yN_
  ·apply dP [(2,some 13)];exact fun _=>rfl;rfl;intro vals vq w1 hC1 E hE;simp only [sP,vq] at hE ⊢;clear vq;go_wp2;exact .mk (hE _ hC1)
  apply yN_
  ·apply dP [(3,some 14)];exact fun _=>rfl;rfl;intro vals vq w1 hC1 E hE;have d0:=hC1.rd.lit (k:=2) rfl (by decide);simp only [sP,vq] at hE ⊢;clear vq;go_wp2;exact .mk (hE _ hC1)
  apply yN_
  ·apply dP [(0,some 11),(1,some 12),(4,some 15)];exact fun _=>rfl;rfl;intro vals vq w1 hC1 E hE;simp only [sP,vq] at hE ⊢;clear vq;go_wp2_with fail;have hct:=turn_any bits steps a b c d k f w1 HB.out x r HX.out HR.out;rw [← HCS.out] at hct;refine qaa hct ?_;rintro e w2 ⟨rfl,hb2⟩;rw [← HTR.out];go_wp2_with fail;exact .mk (hE _ (hC1.next hb2))
  apply yL_
  ·apply dP [(5,some 16),(5,some 16),(0,some 11),(1,some 12),(2,some 13),(3,some 14),(4,some 15),(5,some 16)];exact fun _=>rfl;rfl;intro vals vq w1 hC1 E hE;simp only [sP,vq] at hE ⊢;clear vq;go_wp2;exact .mk (hE _ hC1)
  intro vals vq w1 hC1;simp only [sP,vq];clear vq;clear HC0;have HC1:=zY hC1;have d2:=hC1.rd.lit (k:=2) rfl (by decide);clear hC1;go_wp2_with fail
 ·obtain rfl:tr=la:=by rw [HLA.out,HTR.out]; rfl
  have HC0:=HC1.out.drew;refine qal (fun u=>MxSt w w.heap.size cs (some ad) (triV p q r) u) (fun u=>MxSt w w.heap.size cs (some ad) (triV p q r) u) [(0,some 28),(1,some 29),(2,some 30),(3,some 31),(4,some 32),(5,some 33),(6,some 34),(7,some 35),(8,some 36),(9,some 37),(10,some 38),(11,some 39),(12,some 40),(13,some 41),(14,some 42),(15,some 8)] (by kernel_rfl) (by kernel_rfl) (by decide) (by kernel_rfl) (fun _=>rfl) HC0 ?_;apply yN_
  ·apply dP [];exact fun _=>rfl;rfl;rintro vals - w1 hC1 E hE;simp only [sP] at hE ⊢;refine qab hC1.h rfl rfl rfl hu rfl (by rw [HCS8.out]; exact qbh) ?_;go_wp2_with fail;exact .mk (hE _ hC1)
  apply yN_
  ·apply dP [];exact fun _=>rfl;rfl;rintro vals ⟨-,-⟩ w1 hC1 E hE;simp only [sP] at hE ⊢;go_wp2;exact .mk (hE _ hC1)
  apply yN_
  ·apply dP [];exact fun _=>rfl;rfl;intro vals vq w1 hC1 E hE;clear vq;simp only [sP] at hE ⊢;go_wp2;exact .mk (hE _ hC1)
  apply yN_
  ·apply dP [(2,some 30)];exact fun _=>rfl;rfl;intro vals vq w1 hC1 E hE;simp only [sP,vq] at hE ⊢;clear vq;go_wp2;exact .mk (hE _ hC1)
  apply yN_
  ·apply dP [(3,some 31)];exact fun _=>rfl;rfl;intro vals vq w1 hC1 E hE;have d0:=hC1.rd.val0 rfl;simp only [sP,vq] at hE ⊢;clear vq;go_wp2;exact .mk (hE _ hC1)
  apply yN_
  ·apply dP [(0,some 28),(1,some 29),(4,some 32)];exact fun _=>rfl;rfl;intro vals vq w1 hC1 E hE;simp only [sP,vq] at hE ⊢;clear vq;go_wp2_with fail;have hct:=turn_any bits steps a b c d k f w1 HB.out x p HX.out HP.out;rw [← HCS.out] at hct;refine qaa hct ?_;rintro e w2 ⟨rfl,hb2⟩;rw [← HTP.out];go_wp2_with fail;exact .mk (hE _ (hC1.next hb2))
  apply yN_
  ·apply dP [];exact fun _=>rfl;rfl;intro vals vq w1 hC1 E hE;clear vq;simp only [sP] at hE ⊢;refine qab hC1.h rfl rfl rfl hu rfl (by rw [HCS8.out]; exact qbh) ?_;go_wp2_with fail;exact .mk (hE _ hC1)
  apply yN_
  ·apply dP [];exact fun _=>rfl;rfl;intro vals vq w1 hC1 E hE;clear vq;simp only [sP] at hE ⊢;go_wp2;exact .mk (hE _ hC1)
  apply yN_
  ·apply dP [];exact fun _=>rfl;rfl;intro vals vq w1 hC1 E hE;clear vq;simp only [sP] at hE ⊢;go_wp2;exact .mk (hE _ hC1)
  apply yN_
  ·apply dP [(8,some 36)];exact fun _=>rfl;rfl;intro vals vq w1 hC1 E hE;simp only [sP,vq] at hE ⊢;clear vq;go_wp2;exact .mk (hE _ hC1)
  apply yN_
  ·apply dP [(9,some 37)];exact fun _=>rfl;rfl;intro vals vq w1 hC1 E hE;have d0:=hC1.rd.lit (k:=1) rfl (by decide);simp only [sP,vq] at hE ⊢;clear vq;go_wp2;exact .mk (hE _ hC1)
  apply yN_
  ·apply dP [(6,some 34),(7,some 35),(10,some 38),(5,some 33)];exact fun _=>rfl;rfl;intro vals vq w1 hC1 E hE;simp only [sP,vq] at hE ⊢;clear vq;go_wp2_with fail;have hct:=turn_any bits steps a b c d k f w1 HB.out x q HX.out HQ.out;rw [← HCS.out] at hct;refine qaa hct ?_;rintro e w2 ⟨rfl,hb2⟩;rw [← HTQ.out];go_wp2_with fail;exact .mk (hE _ (hC1.next hb2))
  apply yN_
  ·apply dP [(5,some 33),(11,some 39)];exact fun _=>rfl;rfl;intro vals vq w1 hC1 E hE;simp only [sP,vq] at hE ⊢;clear vq;go_wp2;rw [xor64 tp tq LTP.out LTQ.out,← HPQ.out];exact .mk (hE _ hC1)
  apply yN_
  ·apply dP [];exact fun _=>rfl;rfl;intro vals vq w1 hC1 E hE;clear vq;simp only [sP] at hE ⊢;go_wp2;exact .mk (hE _ hC1)
  apply yN_
  ·apply dP [(12,some 40),(13,some 41)];exact fun _=>rfl;rfl;intro vals vq w1 hC1 E hE;simp only [sP,vq] at hE ⊢;clear vq;go_wp2;rw [xor64 pq tr LPQ.out LLA.out,← HRE.out];exact .mk (hE _ hC1)
  apply yL_
  ·apply dP [(14,some 42),(11,some 39),(0,some 28),(1,some 29),(2,some 30),(3,some 31),(4,some 32),(5,some 33),(6,some 34),(7,some 35),(8,some 36),(9,some 37),(10,some 38),(11,some 39),(12,some 40),(13,some 41),(14,some 42)];exact fun _=>rfl;rfl;intro vals vq w1 hC1 E hE;simp only [sP,vq] at hE ⊢;clear vq;go_wp2;exact .mk (hE _ hC1)
  intro vals vq w1 hC1;simp only [sP,vq];clear vq;clear HC0;go_wp2_with fail;go_ret;exact ⟨qbr (by rw [HAN.out,HRE.out,HPQ.out,HTP.out,HTQ.out,HLA.out]),hC1.bel⟩
 ·go_loop [9,10] (fun v i=>∃ j:Nat,j≤r∧i=.int .i64 j∧v=.int .u64 (halves x j)) (fun _ i=>r - (intOf i).toNat)
  case atStart=>exact ⟨0,by omega,rfl,rfl⟩
  case round =>
   obtain ⟨j,hj,rfl,rfl⟩:=hrel;have hh:=halves_le x j;have hhs:halves x (j+1)=halves x j/2:=rfl;obtain ⟨y,hy⟩:=eX (halves x j);rw [← hy] at hh hhs ⊢;have HY:=zY hy;have HHS:=zY hhs;have hy1:(y:Int)<18446744073709551616:=by omega
   clear hy hhs
   by_cases hlt:j<r
   ·have hlt':(j:Int)<(r:Int):=by omega
    go_wp2;exact ⟨⟨j+1,by omega,by go_num,by rw [HHS.out]; go_num⟩,by simp [intOf]; omega⟩
   ·obtain rfl:j=r:=by omega
    obtain rfl:y=la:=by rw [HLA.out,HY.out,qel]; rfl
    go_wp2_with fail;have HC0:=HC1.out.drew;refine qal (fun u=>MxSt w w.heap.size cs (some ad) (triV p q j) u) (fun u=>MxSt w w.heap.size cs (some ad) (triV p q j) u) [(0,some 28),(1,some 29),(2,some 30),(3,some 31),(4,some 32),(5,some 33),(6,some 34),(7,some 35),(8,some 36),(9,some 37),(10,some 38),(11,some 39),(12,some 40),(13,some 41),(14,some 42),(15,some 8)] (by kernel_rfl) (by kernel_rfl) (by decide) (by kernel_rfl) (fun _=>rfl) HC0 ?_;apply yN_
    ·apply dP [];exact fun _=>rfl;rfl;rintro vals - w1 hC1 E hE;simp only [sP] at hE ⊢;refine qab hC1.h rfl rfl rfl hu rfl (by rw [HCS8.out]; exact qbh) ?_;go_wp2_with fail;exact .mk (hE _ hC1)
    apply yN_
    ·apply dP [];exact fun _=>rfl;rfl;rintro vals ⟨-,-⟩ w1 hC1 E hE;simp only [sP] at hE ⊢;go_wp2;exact .mk (hE _ hC1)
    apply yN_
    ·apply dP [];exact fun _=>rfl;rfl;intro vals vq w1 hC1 E hE;clear vq;simp only [sP] at hE ⊢;go_wp2;exact .mk (hE _ hC1)
    apply yN_
    ·apply dP [(2,some 30)];exact fun _=>rfl;rfl;intro vals vq w1 hC1 E hE;simp only [sP,vq] at hE ⊢;clear vq;go_wp2;exact .mk (hE _ hC1)
    apply yN_
    ·apply dP [(3,some 31)];exact fun _=>rfl;rfl;intro vals vq w1 hC1 E hE;have d0:=hC1.rd.val0 rfl;simp only [sP,vq] at hE ⊢;clear vq;go_wp2;exact .mk (hE _ hC1)
    apply yN_
    ·apply dP [(0,some 28),(1,some 29),(4,some 32)];exact fun _=>rfl;rfl;intro vals vq w1 hC1 E hE;simp only [sP,vq] at hE ⊢;clear vq;go_wp2_with fail;have hct:=turn_any bits steps a b c d k f w1 HB.out x p HX.out HP.out;rw [← HCS.out] at hct;refine qaa hct ?_;rintro e w2 ⟨rfl,hb2⟩;rw [← HTP.out];go_wp2_with fail;exact .mk (hE _ (hC1.next hb2))
    apply yN_
    ·apply dP [];exact fun _=>rfl;rfl;intro vals vq w1 hC1 E hE;clear vq;simp only [sP] at hE ⊢;refine qab hC1.h rfl rfl rfl hu rfl (by rw [HCS8.out]; exact qbh) ?_;go_wp2_with fail;exact .mk (hE _ hC1)
    apply yN_
    ·apply dP [];exact fun _=>rfl;rfl;intro vals vq w1 hC1 E hE;clear vq;simp only [sP] at hE ⊢;go_wp2;exact .mk (hE _ hC1)
    apply yN_
    ·apply dP [];exact fun _=>rfl;rfl;intro vals vq w1 hC1 E hE;clear vq;simp only [sP] at hE ⊢;go_wp2;exact .mk (hE _ hC1)
    apply yN_
    ·apply dP [(8,some 36)];exact fun _=>rfl;rfl;intro vals vq w1 hC1 E hE;simp only [sP,vq] at hE ⊢;clear vq;go_wp2;exact .mk (hE _ hC1)
    apply yN_
    ·apply dP [(9,some 37)];exact fun _=>rfl;rfl;intro vals vq w1 hC1 E hE;have d0:=hC1.rd.lit (k:=1) rfl (by decide);simp only [sP,vq] at hE ⊢;clear vq;go_wp2;exact .mk (hE _ hC1)
    apply yN_
    ·apply dP [(6,some 34),(7,some 35),(10,some 38),(5,some 33)];exact fun _=>rfl;rfl;intro vals vq w1 hC1 E hE;simp only [sP,vq] at hE ⊢;clear vq;go_wp2_with fail;have hct:=turn_any bits steps a b c d k f w1 HB.out x q HX.out HQ.out;rw [← HCS.out] at hct;refine qaa hct ?_;rintro e w2 ⟨rfl,hb2⟩;rw [← HTQ.out];go_wp2_with fail;exact .mk (hE _ (hC1.next hb2))
    apply yN_
    ·apply dP [(5,some 33),(11,some 39)];exact fun _=>rfl;rfl;intro vals vq w1 hC1 E hE;simp only [sP,vq] at hE ⊢;clear vq;go_wp2;rw [xor64 tp tq LTP.out LTQ.out,← HPQ.out];exact .mk (hE _ hC1)
    apply yN_
    ·apply dP [];exact fun _=>rfl;rfl;intro vals vq w1 hC1 E hE;clear vq;simp only [sP] at hE ⊢;go_wp2;exact .mk (hE _ hC1)
    apply yN_
    ·apply dP [(12,some 40),(13,some 41)];exact fun _=>rfl;rfl;intro vals vq w1 hC1 E hE;simp only [sP,vq] at hE ⊢;clear vq;go_wp2;rw [xor64 pq y LPQ.out LLA.out,← HRE.out];exact .mk (hE _ hC1)
    apply yL_
    ·apply dP [(14,some 42),(11,some 39),(0,some 28),(1,some 29),(2,some 30),(3,some 31),(4,some 32),(5,some 33),(6,some 34),(7,some 35),(8,some 36),(9,some 37),(10,some 38),(11,some 39),(12,some 40),(13,some 41),(14,some 42)];exact fun _=>rfl;rfl;intro vals vq w1 hC1 E hE;simp only [sP,vq] at hE ⊢;clear vq;go_wp2;exact .mk (hE _ hC1)
    intro vals vq w1 hC1;simp only [sP,vq];clear vq;clear HC0;go_wp2_with fail;go_ret;exact ⟨qbr (by rw [HAN.out,HRE.out,HPQ.out,HTP.out,HTQ.out,HLA.out]),hC1.bel⟩
theorem qbC (K:IntKind) (l:List Nat) (x:Nat):wordsV K (l++[x])=wordsV K l++[.int K (x:Int)]:=by simp [wordsV]
theorem qcq (K:IntKind) (l:List Nat) (i:Nat) (h:i<l.length):(wordsV K l)[i]?=some (.int K ((l.getD i 0:Nat):Int)):=by
 simp [wordsV,h]
structure HP where
 a:Addr
 b:Addr
 c:Addr
 d:Addr
 k:Addr
 f:Addr
 ca:Nat
 cb:Nat
 cc:Nat
 cd:Nat
 ck:Nat
 cf:Nat
def tri (t:Nat × Nat × Nat):List Value:=triV t.1 t.2.1 t.2.2
def kL (F:ShaF):List Nat:=(List.range F.many).map (kN F)
theorem kL_get (F:ShaF) (t:Nat) (h:t<F.many):(kL F)[t]?=some (kN F t):=by simp [kL,h]
theorem qb4 (F:ShaF):(kL F).length=F.many:=by simp [kL]
def hv (F:ShaF) (p:HP):Array Value:=hC F.bits F.many (.slice (some p.a) 3 p.ca) (.slice (some p.b) 3 p.cb) (.slice (some p.c) 3 p.cc) (.slice (some p.d) 3 p.cd) (.slice (some p.k) F.many p.ck) (.slice (some p.f) 8 p.cf)
structure HOk (F:ShaF) (p:HP) (w:World) (B:Nat):Prop where
 a:Rd w B (some p.a) (tri F.s0)
 b:Rd w B (some p.b) (tri F.s1)
 c:Rd w B (some p.c) (tri F.t0)
 d:Rd w B (some p.d) (tri F.t1)
 k:Rd w B (some p.k) (wordsV .u64 (kL F))
 f:Rd w B (some p.f) (wordsV .u64 (s8L (startS F)))
 ca:3≤p.ca
 cb:3≤p.cb
 cc:3≤p.cc
 cd:3≤p.cd
 ck:F.many≤p.ck
 cf:8≤p.cf
theorem HOk.below {F:ShaF} {p:HP} {w w':World} {B:Nat} (h:HOk F p w B) (hb:Below B w w'):HOk F p w' B :=
 ⟨h.a.below hb,h.b.below hb,h.c.below hb,h.d.below hb,h.k.below hb,h.f.below hb,h.ca,h.cb,h.cc,h.cd,h.ck,h.cf⟩
theorem HOk.mono {F:ShaF} {p:HP} {w:World} {B B':Nat} (h:HOk F p w B) (hb:B≤B'):HOk F p w B' :=
 ⟨h.a.mono hb,h.b.mono hb,h.c.mono hb,h.d.mono hb,h.k.mono hb,h.f.mono hb,h.ca,h.cb,h.cc,h.cd,h.ck,h.cf⟩
structure BkSt (w0:World) (gf:Nat) (F:ShaF) (p:HP) (bA:Option Addr) (blk:List UInt8) (sA:Option Addr) (S:S8) (u:World):Prop where
 bel:Below gf w0 u
 h:Blk u gf 94 (hv F p)
 ok:HOk F p u gf
 rb:Rd u gf bA (bytesV blk)
 rs:Rd u gf sA (wordsV .u64 (s8L S))
section
variable {w0 u u':World} {gf:Nat} {F:ShaF} {p:HP} {bA sA:Option Addr} {blk:List UInt8} {S:S8}
theorem BkSt.keep (h:BkSt w0 gf F p bA blk sA S u) (hb:Below (gf+1) u u'):BkSt w0 gf F p bA blk sA S u' :=
 ⟨h.bel.trans (hb.mono (by omega)),h.h.below hb (by omega),h.ok.below (hb.mono (by omega)),h.rb.below (hb.mono (by omega)),h.rs.below (hb.mono (by omega))⟩
theorem BkSt.next (h:BkSt w0 gf F p bA blk sA S u) (hb:Below u.heap.size u u'):BkSt w0 gf F p bA blk sA S u' :=
 h.keep (hb.mono (by have:=h.h.lt; omega))
theorem BkSt.drew (h:BkSt w0 gf F p bA blk sA S u):BkSt w0 gf F p bA blk sA S u.drew:=h.keep (Below.refl _ _).drew
theorem BkSt.grow {e:TypeId} {s n:Nat} {v:Value} {xs:List Value} (h:BkSt w0 gf F p bA blk sA S u) (ho:OwnX u (gf+1) e s v n xs) (hg:u.grownBy u' v.ownBlock):BkSt w0 gf F p bA blk sA S u' :=
 h.keep (qbl hg (by have:=h.h.lt; omega) (fun k hk=>(ho.lt k hk).1))
end
structure BkW (w0:World) (gf:Nat) (F:ShaF) (p:HP) (bA:Option Addr) (blk:List UInt8) (sA:Option Addr) (S:S8) (v:Value) (l:List Nat) (u:World):Prop where
 st:BkSt w0 gf F p bA blk sA S u
 own:OwnX u (gf+1) 43 1 v l.length (wordsV .u64 l)
section
variable {w0 u u':World} {gf:Nat} {F:ShaF} {p:HP} {bA sA:Option Addr} {blk:List UInt8} {S:S8} {v:Value} {l:List Nat}
theorem BkW.next (h:BkW w0 gf F p bA blk sA S v l u) (hb:Below u.heap.size u u'):BkW w0 gf F p bA blk sA S v l u' :=
 ⟨h.st.next hb,h.own.below hb (Nat.le_refl _)⟩
theorem BkW.drew (h:BkW w0 gf F p bA blk sA S v l u):BkW w0 gf F p bA blk sA S v l u.drew:=h.next (Below.refl _ _).drew
theorem BkW.app {v':Value} {x:Nat} (h:BkW w0 gf F p bA blk sA S v l u) (ho:OwnX u' (gf+1) 43 1 v' (l.length+1) (wordsV .u64 l++[.int .u64 (x:Int)])) (hg:u.grownBy u' v.ownBlock):BkW w0 gf F p bA blk sA S v' (l++[x]) u' :=
 ⟨h.st.grow h.own hg,by rw [List.length_append,qbC]; exact ho⟩
theorem BkW.at_ {g n c i:Nat} (h:BkW w0 gf F p bA blk sA S (.slice (some ⟨g,0,none⟩) n c) l u) (hn:l.length=n) (hi:i<n):u.cell? ⟨g,i,none⟩=some (.int .u64 ((l.getD i 0:Nat):Int)):=by
 subst hn;exact h.own.atN (qcq .u64 l i hi)
end
structure BkR (w0:World) (gf:Nat) (F:ShaF) (p:HP) (bA:Option Addr) (blk:List UInt8) (sA:Option Addr) (S:S8) (v:Value) (l:List Nat) (g2 c2:Nat) (V:S8) (u:World):Prop where
 w:BkW w0 gf F p bA blk sA S v l u
 r:OwnX u (gf+1) 43 1 (.slice (some ⟨g2,0,none⟩) 8 c2) 8 (wordsV .u64 (s8L V))
section
variable {w0 u u':World} {gf:Nat} {F:ShaF} {p:HP} {bA sA:Option Addr} {blk:List UInt8} {S V:S8} {v:Value} {l:List Nat} {g2 c2:Nat}
theorem BkR.next (h:BkR w0 gf F p bA blk sA S v l g2 c2 V u) (hb:Below u.heap.size u u'):BkR w0 gf F p bA blk sA S v l g2 c2 V u' :=
 ⟨h.w.next hb,h.r.below hb (Nat.le_refl _)⟩
theorem BkR.drew (h:BkR w0 gf F p bA blk sA S v l g2 c2 V u):BkR w0 gf F p bA blk sA S v l g2 c2 V u.drew:=h.next (Below.refl _ _).drew
theorem BkR.turn {V':S8} {fz:Nat × Nat} (h:BkR w0 gf F p bA blk sA S v l g2 c2 V u):BkR w0 gf F p bA blk sA S v l u.heap.size 8 V' (u.alloc (.cells (wordsV .u64 (s8L V')).toArray 43 fz)) :=
 ⟨h.w.next ((Below.refl _ _).alloc (Nat.le_refl _) _),own_const (C:=(wordsV .u64 (s8L V')).toArray) rfl rfl (by unfold maxLen; omega) (by have:=h.w.st.h.lt; omega)⟩
theorem BkR.le (h:BkR w0 gf F p bA blk sA S v l g2 c2 V u):8≤c2:=h.r.le_cap
end
structure BkO (w0:World) (gf:Nat) (F:ShaF) (p:HP) (bA:Option Addr) (blk:List UInt8) (sA:Option Addr) (S:S8) (v:Value) (l:List Nat) (g2 c2:Nat) (V:S8) (ov:Value) (x:List Nat) (u:World):Prop where
 r:BkR w0 gf F p bA blk sA S v l g2 c2 V u
 o:OwnX u (gf+1) 43 1 ov x.length (wordsV .u64 x)
 ne:ov.ownBlock=none∨(ov.ownBlock≠v.ownBlock∧ov.ownBlock≠some g2)
section
variable {w0 u u':World} {gf:Nat} {F:ShaF} {p:HP} {bA sA:Option Addr} {blk:List UInt8} {S V:S8} {v o o':Value} {l x:List Nat} {g2 c2:Nat}
theorem BkO.next (h:BkO w0 gf F p bA blk sA S v l g2 c2 V o x u) (hb:Below u.heap.size u u'):BkO w0 gf F p bA blk sA S v l g2 c2 V o x u' :=
 ⟨h.r.next hb,h.o.below hb (Nat.le_refl _),h.ne⟩
theorem BkO.drew (h:BkO w0 gf F p bA blk sA S v l g2 c2 V o x u):BkO w0 gf F p bA blk sA S v l g2 c2 V o x u.drew:=h.next (Below.refl _ _).drew
theorem BkO.app {y:Nat} (h:BkO w0 gf F p bA blk sA S v l g2 c2 V o x u) (ho:OwnX u' (gf+1) 43 1 o' (x.length+1) (wordsV .u64 x++[.int .u64 (y:Int)])) (hg:u.grownBy u' o.ownBlock) (hn:Next u o o'):BkO w0 gf F p bA blk sA S v l g2 c2 V o' (x++[y]) u':=by
 have hk:∀ (v2:Value),(o.ownBlock=none∨o.ownBlock≠v2.ownBlock)→v2.ownBlock=none∨v2.ownBlock≠o.ownBlock:=fun v2 h2=>by
  rcases h2 with h2 | h2
  ·rw [h2]
   cases v2.ownBlock with
   | none=>exact .inl rfl
   | some k=>exact .inr (by simp)
  ·exact .inr (Ne.symm h2)
 refine ⟨⟨⟨h.r.w.st.grow h.o hg,h.r.w.own.kept hg (hk v (h.ne.imp id And.left))⟩,h.r.r.kept hg (hk (.slice (some ⟨g2,0,none⟩) 8 c2) (h.ne.imp id And.right))⟩,by rw [List.length_append,qbC]; exact ho,?_⟩
 rcases hn with hn | hn
 ·rw [hn]; exact h.ne
 ·cases ho2:o'.ownBlock with
  | none=>exact .inl rfl
  | some k =>
   have hk2:=hn k ho2;refine .inr ⟨fun e=>?_,fun e=>?_⟩
   ·have:=(h.r.w.own.lt k e.symm).2; omega
   ·have:=(h.r.r.lt k (by rw [e]; rfl)).2; omega
end
theorem ones_xor (n e:Nat) (he:e<2^n):(2^n - 1) ^^^ e=2^n - 1 - e:=by
 have h:((2^n - 1) ^^^ e)=(~~~ (BitVec.ofNat n e)).toNat:=by
  rw [← BitVec.allOnes_xor,BitVec.toNat_xor,BitVec.toNat_allOnes,BitVec.toNat_ofNat,Nat.mod_eq_of_lt he]
 rw [h,BitVec.toNat_not,BitVec.toNat_ofNat,Nat.mod_eq_of_lt he]
theorem mixX_r64 (h al ch k w:Nat):(h+al+ch+k+w)%2^64=((((h+al)%2^64+ch)%2^64+k)%2^64+w)%2^64%2^64:=by omega
theorem mod_r64 (a b:Nat):(a+b)%2^64=(a+b)%2^64%2^64:=by omega
theorem addS_get (F:ShaF) (s v:S8) (i:Nat) (h:i<8):(s8L (addS F s v)).getD i 0=((s8L v).getD i 0+(s8L s).getD i 0)%2^F.bits:=by
 match i,h with
 | 0,_=>rfl
 | 1,_=>rfl
 | 2,_=>rfl
 | 3,_=>rfl
 | 4,_=>rfl
 | 5,_=>rfl
 | 6,_=>rfl
 | 7,_=>rfl
theorem s8_take (s:S8) (i:Nat) (h:i<8):(s8L s).take (i+1)=(s8L s).take i++[(s8L s).getD i 0]:=by
 match i,h with
 | 0,_=>rfl
 | 1,_=>rfl
 | 2,_=>rfl
 | 3,_=>rfl
 | 4,_=>rfl
 | 5,_=>rfl
 | 6,_=>rfl
 | 7,_=>rfl
theorem qdZ (s:S8) (i:Nat) (h:i≤8):((s8L s).take i).length=i:=by
 rw [List.length_take]; show min i 8=i; omega
theorem next_64 (a b c d:Nat):(a+c+(b+d))%2^64=(((a+b)%2^64+c)%2^64+d)%2^64%2^64:=by omega
def BlockPost (F:ShaF) (S:S8) (blk:List UInt8) (w:World) (e:Ending) (w':World):Prop :=
 ∃ A c,e=.returned (.slice A 8 c)∧OwnX w' w.heap.size 43 1 (.slice A 8 c) 8 (wordsV .u64 (s8L (mixS F S blk)))∧Below w.heap.size w w'
theorem qdW:SlT Tryz.prog 92 43 1 8:=SlT.mk1 (z:=.int .u64 0) Tryz.underlying92 (by kernel_rfl) rfl (by decide)
def backC (e:Nat) (ws:List UInt8) (j:Nat):Array Value:=(List.replicate (e - j) (Value.int .u8 0)++(bytesV ws).drop (e - j)).toArray
theorem qcz (e:Nat) (ws:List UInt8) (j:Nat) (hw:ws.length=e) (hj:j≤e):(backC e ws j).size=e:=by
 have h:((bytesV ws).drop (e - j)).length=j:=by rw [List.length_drop,qaq,hw]; omega
 rw [backC,List.size_toArray,List.length_append,List.length_replicate,h]; omega
theorem qew (e:Nat) (ws:List UInt8):backC e ws e=(bytesV ws).toArray:=by simp [backC]
theorem qev (e:Nat) (ws:List UInt8) (j i:Nat) (v:Value) (hw:ws.length=e) (hi:i+j+1=e) (hv:(bytesV ws)[i]?=some v):(backC e ws j).setIfInBounds i v=backC e ws (j+1):=by
 apply Array.ext';have h1:e - j=i+1:=by omega
 have h2:e - (j+1)=i:=by omega
 have hlt:i<(bytesV ws).length:=by simp [bytesV]; omega
 have hv2:(bytesV ws)[i]=v:=by rw [List.getElem?_eq_getElem hlt] at hv; exact Option.some.inj hv
 rw [Array.toList_setIfInBounds,backC,backC,h1,h2,List.drop_eq_getElem_cons hlt,hv2];simp only [List.replicate_succ',List.append_assoc];rw [List.set_append_right (s:=List.replicate i (Value.int .u8 0)) _ _ (by simp)];simp
theorem qdk (e:Nat) (ws:List UInt8) (hw:ws.length=e):backC e ws 0=(List.replicate e (Value.int .u8 0)).toArray:=by
 rw [backC,Nat.sub_zero,List.drop_of_length_le (by rw [qaq,hw]; exact Nat.le_refl _),List.append_nil]
theorem qdQ (b x:Nat):∀ (k i:Nat),i<k→(wordB b x k)[i]?=some (UInt8.ofNat (x/2^(b - 8 - 8*i)))
 | k+1,i,h=>by
  rw [wordB,List.getElem?_append,qaC]
  split
  ·rename_i h2; exact qdQ b x k i h2
  ·obtain rfl:i=k:=by omega
   simp
structure ByStR (w0:World) (gf:Nat) (cs:Array Value) (gw:Nat) (r:Array Value) (u:World):Prop where
 bel:Below gf w0 u
 h:Blk u gf 94 cs
 row:Blk u gw 5 r
 lw:gf<gw
theorem ByStR.put {w u u':World} {gf gw:Nat} {cs r r':Array Value} (h:ByStR w gf cs gw r u) (hw:Wrote gw u u') (hb:Blk u' gw 5 r'):ByStR w gf cs gw r' u' :=
 ⟨hw.below h.bel (by have:=h.lw; omega) (by have:=h.h.lt; omega),hw.blk h.h (by have:=h.lw; omega),hb,h.lw⟩
def BytesPost (bits x:Nat) (w:World) (e:Ending) (w':World):Prop :=
 ∃ g,e=.returned (.slice (some ⟨g,0,none⟩) (bits/8) (bits/8))∧w.heap.size≤g∧Blk w' g 5 (bytesV (wordB bits x (bits/8))).toArray∧Below w.heap.size w w'
theorem bytes_any (bits steps:Nat) (a b c d k f:Value) (w:World) (hb:bits=32∨bits=64) (x:Nat) (hx:x<2^bits) :
  Calls Tryz.prog 90 #[.agg (hC bits steps a b c d k f),.int .u64 x] w (BytesPost bits x w):=by
 have hbel:=below_new w (.cells (hC bits steps a b c d k f) 94);have hblk:=Blk.new w 94 (hC bits steps a b c d k f);have c0:=hblk.cell 0;simp only [hC,List.getElem?_toArray,List.getElem?_cons_zero] at c0
 have hx64:(x:Int)<18446744073709551616:=by
  have:x<2^64:=Nat.lt_of_lt_of_le hx (Nat.pow_le_pow_right (by omega) (by omega));omega
 have HBEL:=zY hbel;have HBLK:=zY hblk;obtain ⟨ie,hie,hez,hes,heb⟩:=info_parts (show (Tryz.prog.info? 5).map (fun i=>(i.zero,i.size,i.bytes))=some (some (.int .u8 0),1,1) by kernel_rfl);have hmk4:∀ u:World,(Instr.makeSlice 22 (.int .i64 4) (.int .i64 4)).run Tryz.prog u=.ok (.slice (some ⟨u.heap.size,0,none⟩) 4 4) (u.alloc (.cells (List.replicate 4 (Value.int .u8 0)).toArray 5)):=fun _=>by kernel_rfl
 have hmk8:∀ u:World,(Instr.makeSlice 22 (.int .i64 8) (.int .i64 8)).run Tryz.prog u=.ok (.slice (some ⟨u.heap.size,0,none⟩) 8 8) (u.alloc (.cells (List.replicate 8 (Value.int .u8 0)).toArray 5)):=fun _=>by kernel_rfl
 rw [hC] at *;clear hbel hblk hx
 rcases hb with rfl | rfl
 ·obtain ⟨ws,hws⟩:=eX (wordB 32 x 4);have hwl:ws.length=4:=by rw [hws]; exact qaC _ _ _
  have HWS:=zY hws;have HWL:=zY hwl;clear hws hwl;go_enter Tryz.func90,Tryz.ntmps90;go_wp2_with fail;obtain ⟨hs,hhs⟩:∃ hs:Array Value,hs=#[.int .i64 32,.int .i64 steps,a,b,c,d,k,f]:=⟨_,rfl⟩
  have hst0:ByStR w w.heap.size hs (w.heap.size+1) (backC 4 ws 0) ((w.alloc (.cells hs 94)).alloc (.cells (List.replicate 4 (Value.int .u8 0)).toArray 5)):=by
   rw [qdk _ _ HWL.out];exact ⟨(below_new _ _).alloc (by simp) _,(Blk.new _ _ _).alloc _,by have:=Blk.new (w.alloc (.cells hs 94)) 5 (List.replicate 4 (Value.int .u8 0)).toArray; simpa using this,by omega⟩
  rw [hhs] at hst0;generalize hgw:w.heap.size+1=gw at *;generalize hgf:w.heap.size=gf at *;have HGF:=zY hgf;have HGW:=zY hgw;clear hgf hgw c0 hmk4 hmk8 HBEL HBLK hhs hs
  go_loopw [1,6] (fun v i wr=>∃ (j:Nat) (y:Nat),j≤4∧y=x/2^(8*j)∧v=.int .u64 y∧i=.int .i64 ((4:Int) - 1 - (j:Int))∧ByStR w gf #[.int .i64 32,.int .i64 steps,a,b,c,d,k,f] gw (backC 4 ws j) wr) (fun _ i _=>(intOf i+1).toNat)
  case atStart=>exact ⟨0,x,by omega,by simp,rfl,rfl,hst0⟩
  case round =>
   obtain ⟨j,y,hj,hy,rfl,rfl,hst⟩:=hrel;clear hst0;have hyx:y≤x:=by rw [hy]; exact Nat.div_le_self _ _
   have hy64:(y:Int)<18446744073709551616:=by omega
   by_cases hlt:j<4
   ·obtain ⟨ix,hix⟩:∃ ix:Nat,(4:Int) - 1 - (j:Int)=(ix:Int):=⟨4 - 1 - j,by omega⟩;have hix2:ix+j+1=4:=by omega
    have hval:(bytesV ws)[ix]?=some (.int .u8 ((y%256:Nat):Int)):=by
     rw [bytesV,List.getElem?_map,HWS.out,qdQ _ _ _ _ (by omega)];simp only [Option.map_some,byteV];rw [show 32 - 8 - 8*ix=8*j by omega,← hy];simp
    have hset:=qev 4 ws j ix _ HWL.out hix2 hval;have hsz:=qcz 4 ws j HWL.out hj;have hnx:x/2^(8*(j+1))=y/256:=by rw [hy,show 8*(j+1)=8*j+8 by omega,Nat.pow_add,← Nat.div_div_eq_div_mul]
    rw [hix];have dcell:=hst.row.cell ix;obtain ⟨ov,hov⟩:∃ ov,(backC 4 ws j)[ix]?=some ov:=⟨_,Array.getElem?_eq_getElem (by omega)⟩;rw [hov] at dcell;have dfree:=hst.row.free ix;have hixl:(ix:Int)<4:=by omega
    have HSET:=zY hset;have HNX:=zY hnx;have HST:=zY hst;have HIX:=zY hix;have HIX2:=zY hix2;clear hset hnx hst hix hix2 hval hy hsz hov;go_wp2_with fail;refine ⟨⟨j+1,y/256,by omega,by rw [HNX.out],by go_num,by have:=HIX.out; exact congrArg (Value.int .i64) (by omega),?_⟩,by simp [intOf]⟩;refine HST.out.put (qah _ _ _ _) ?_;have h:=qaj (i:=ix) HST.out.row (.int .u8 ((y%256:Nat):Int));rw [HSET.out] at h;exact h
   ·obtain rfl:j=4:=by omega
    rw [qew] at hst;have HST:=zY hst;clear hst hy;go_wp2_with fail;go_ret;refine ⟨gw,rfl,by rw [HGF.out,← HGW.out]; omega,?_,by rw [HGF.out]; exact HST.out.bel⟩;have h:=HST.out.row;rw [HWS.out] at h;exact h
 ·obtain ⟨ws,hws⟩:=eX (wordB 64 x 8);have hwl:ws.length=8:=by rw [hws]; exact qaC _ _ _
  have HWS:=zY hws;have HWL:=zY hwl;clear hws hwl;go_enter Tryz.func90,Tryz.ntmps90;go_wp2_with fail;obtain ⟨hs,hhs⟩:∃ hs:Array Value,hs=#[.int .i64 64,.int .i64 steps,a,b,c,d,k,f]:=⟨_,rfl⟩
  have hst0:ByStR w w.heap.size hs (w.heap.size+1) (backC 8 ws 0) ((w.alloc (.cells hs 94)).alloc (.cells (List.replicate 8 (Value.int .u8 0)).toArray 5)):=by
   rw [qdk _ _ HWL.out];exact ⟨(below_new _ _).alloc (by simp) _,(Blk.new _ _ _).alloc _,by have:=Blk.new (w.alloc (.cells hs 94)) 5 (List.replicate 8 (Value.int .u8 0)).toArray; simpa using this,by omega⟩
  rw [hhs] at hst0;generalize hgw:w.heap.size+1=gw at *;generalize hgf:w.heap.size=gf at *;have HGF:=zY hgf;have HGW:=zY hgw;clear hgf hgw c0 hmk4 hmk8 HBEL HBLK hhs hs
  go_loopw [1,6] (fun v i wr=>∃ (j:Nat) (y:Nat),j≤8∧y=x/2^(8*j)∧v=.int .u64 y∧i=.int .i64 ((8:Int) - 1 - (j:Int))∧ByStR w gf #[.int .i64 64,.int .i64 steps,a,b,c,d,k,f] gw (backC 8 ws j) wr) (fun _ i _=>(intOf i+1).toNat)
  case atStart=>exact ⟨0,x,by omega,by simp,rfl,rfl,hst0⟩
  case round =>
   obtain ⟨j,y,hj,hy,rfl,rfl,hst⟩:=hrel;clear hst0;have hyx:y≤x:=by rw [hy]; exact Nat.div_le_self _ _
   have hy64:(y:Int)<18446744073709551616:=by omega
   by_cases hlt:j<8
   ·obtain ⟨ix,hix⟩:∃ ix:Nat,(8:Int) - 1 - (j:Int)=(ix:Int):=⟨8 - 1 - j,by omega⟩;have hix2:ix+j+1=8:=by omega
    have hval:(bytesV ws)[ix]?=some (.int .u8 ((y%256:Nat):Int)):=by
     rw [bytesV,List.getElem?_map,HWS.out,qdQ _ _ _ _ (by omega)];simp only [Option.map_some,byteV];rw [show 64 - 8 - 8*ix=8*j by omega,← hy];simp
    have hset:=qev 8 ws j ix _ HWL.out hix2 hval;have hsz:=qcz 8 ws j HWL.out hj;have hnx:x/2^(8*(j+1))=y/256:=by rw [hy,show 8*(j+1)=8*j+8 by omega,Nat.pow_add,← Nat.div_div_eq_div_mul]
    rw [hix];have dcell:=hst.row.cell ix;obtain ⟨ov,hov⟩:∃ ov,(backC 8 ws j)[ix]?=some ov:=⟨_,Array.getElem?_eq_getElem (by omega)⟩;rw [hov] at dcell;have dfree:=hst.row.free ix;have hixl:(ix:Int)<8:=by omega
    have HSET:=zY hset;have HNX:=zY hnx;have HST:=zY hst;have HIX:=zY hix;have HIX2:=zY hix2;clear hset hnx hst hix hix2 hval hy hsz hov;go_wp2_with fail;refine ⟨⟨j+1,y/256,by omega,by rw [HNX.out],by go_num,by have:=HIX.out; exact congrArg (Value.int .i64) (by omega),?_⟩,by simp [intOf]⟩;refine HST.out.put (qah _ _ _ _) ?_;have h:=qaj (i:=ix) HST.out.row (.int .u8 ((y%256:Nat):Int));rw [HSET.out] at h;exact h
   ·obtain rfl:j=8:=by omega
    rw [qew] at hst;have HST:=zY hst;clear hst hy;go_wp2_with fail;go_ret;refine ⟨gw,rfl,by rw [HGF.out,← HGW.out]; omega,?_,by rw [HGF.out]; exact HST.out.bel⟩;have h:=HST.out.row;rw [HWS.out] at h;exact h
def dval:List Nat→Nat
 | []=>0
 | d :: r=>d+65536*dval r
def digs:Nat→Nat→List Nat
 | 0,_=>[]
 | n+1,N=>N%65536 :: digs n (N/65536)
theorem qaw:∀ n N,(digs n N).length=n
 | 0,_=>rfl
 | n+1,N=>by simp [digs,qaw n]
theorem digs_lt:∀ n N,∀ d ∈ digs n N,d<65536
 | 0,_,d,h=>by simp [digs] at h
 | n+1,N,d,h=>by
  simp only [digs,List.mem_cons] at h
  rcases h with rfl | h
  ·exact Nat.mod_lt _ (by decide)
  ·exact digs_lt n _ d h
theorem qaU:∀ n N,N<65536^n→dval (digs n N)=N
 | 0,N,h=>by simp at h; simp [digs,dval,h]
 | n+1,N,h=>by
  rw [digs,dval,qaU n (N/65536) (by rw [Nat.div_lt_iff_lt_mul (by decide)]; rwa [Nat.pow_succ] at h)];omega
theorem qc6:∀ l:List Nat,(∀ d ∈ l,d<65536)→digs l.length (dval l)=l
 | [],_=>rfl
 | d :: r,h=>by
  have hd:=h d (List.mem_cons_self ..);rw [List.length_cons,dval,digs,show (d+65536*dval r)%65536=d by omega,show (d+65536*dval r)/65536=dval r by omega,qc6 r fun x hx=>h x (List.mem_cons_of_mem _ hx)]
theorem qcN:∀ l:List Nat,(∀ d ∈ l,d<65536)→dval l<65536^l.length
 | [],_=>by simp [dval]
 | d :: r,h=>by
  have hd:=h d (List.mem_cons_self ..);have ih:=qcN r fun x hx=>h x (List.mem_cons_of_mem _ hx);rw [List.length_cons,dval,Nat.pow_succ];omega
theorem qbp:∀ (l:List Nat) (j:Nat),j<l.length→dval (l.take (j+1))=dval (l.take j)+l.getD j 0*65536^j
 | d :: r,0,_=>by simp [dval]
 | d :: r,j+1,h=>by
  have ih:=qbp r j (by simpa using h);rw [List.take_succ_cons,dval,ih,List.take_succ_cons,dval,List.getD_cons_succ,Nat.pow_succ];rw [Nat.mul_add,← Nat.mul_assoc,Nat.mul_comm 65536 (r.getD j 0),Nat.mul_assoc (r.getD j 0),Nat.mul_comm 65536 (65536^j)];omega
theorem qbY:∀ (l:List Nat) (i d:Nat),i<l.length→dval (l.set i d)+l.getD i 0*65536^i=dval l+d*65536^i
 | x :: r,0,d,_=>by simp [dval]; omega
 | x :: r,i+1,d,h=>by
  have ih:=qbY r i d (by simpa using h);rw [List.set_cons_succ,dval,dval,List.getD_cons_succ,Nat.pow_succ,← Nat.mul_assoc,← Nat.mul_assoc];omega
theorem qbs:∀ (l:List Nat) (i:Nat),(∀ d ∈ l,d<65536)→l.getD i 0=dval l/65536^i%65536
 | [],i,_=>by simp [dval]
 | d :: r,0,h=>by
  have hd:=h d (List.mem_cons_self ..);simp [dval]; omega
 | d :: r,i+1,h=>by
  have hd:=h d (List.mem_cons_self ..);rw [List.getD_cons_succ,qbs r i fun x hx=>h x (List.mem_cons_of_mem _ hx),dval,Nat.pow_succ,Nat.mul_comm (65536^i),← Nat.div_div_eq_div_mul,show (d+65536*dval r)/65536=dval r by omega]
theorem dig_lt {l:List Nat} (h:∀ d ∈ l,d<65536) (i:Nat):l.getD i 0<65536:=qcl h (by decide) i
theorem qdY {l:List Nat} {i d:Nat} (h:∀ x ∈ l,x<65536) (hd:d<65536):∀ x ∈ l.set i d,x<65536:=fun x hx=>by
 rcases List.mem_or_eq_of_mem_set hx with h1 | h1
 ·exact h x h1
 ·rw [h1]; exact hd
theorem getD_set_same (l:List Nat) (i d:Nat) (h:i<l.length):(l.set i d).getD i 0=d:=by simp [h]
theorem getD_set_ne (l:List Nat) (i j d:Nat) (h:i≠j):(l.set i d).getD j 0=l.getD j 0:=by simp [List.getElem?_set,h]
theorem qbv (K:IntKind) (l:List Nat) (i d:Nat):(wordsV K l).toArray.setIfInBounds i (.int K (d:Int))=(wordsV K (l.set i d)).toArray:=by
 apply Array.ext';simp [wordsV,Array.toList_setIfInBounds,List.map_set]
theorem mul_step {n k c P a b d i j t:Nat} (hv:t+c*65536^(i+j)=P+a*d*65536^i) (h:n+(k*65536^(i+j))=t+((k+a*b+c)%65536)*65536^(i+j)) :
  n+(k+a*b+c)/65536*65536^(i+(j+1))=P+a*(d+b*65536^j)*65536^i:=by
 have e1:65536^(i+(j+1))=65536*65536^(i+j):=by rw [← Nat.add_assoc,Nat.pow_succ,Nat.mul_comm]
 have e2:a*(d+b*65536^j)*65536^i=a*d*65536^i+a*b*65536^(i+j):=by
  rw [Nat.mul_add,Nat.add_mul,Nat.pow_add,← Nat.mul_assoc a b]
  congr 1
  rw [Nat.mul_assoc,Nat.mul_comm (65536^j)]
 rw [e1,e2];generalize 65536^(i+j)=q at *;obtain ⟨v,hv2⟩:=eX (k+a*b+c)
 have e3:v/65536*(65536*q)+v%65536*q=v*q:=by
  rw [← Nat.mul_assoc,← Nat.add_mul,Nat.div_add_mod']
 have e4:v*q=k*q+a*b*q+c*q:=by rw [hv2,Nat.add_mul,Nat.add_mul]
 rw [← hv2] at h ⊢;omega
def rootX (p k:Nat):Nat→Nat
 | 0=>0
 | n+1=>if p*65536^(4*k)<(rootX p k n+2^(68 - n))^k then rootX p k n else rootX p k n+2^(68 - n)
def rootN (p k:Nat):Nat:=rootX p k 69%2^64
theorem qd1 (p k:Nat):∀ n,n≤69→2^(69 - n) ∣ rootX p k n
 | 0,_=>Nat.dvd_zero _
 | n+1,h=>by
  have ih:=qd1 p k n (by omega);have h1:2^(69 - (n+1)) ∣ rootX p k n:=Nat.dvd_trans (Nat.pow_dvd_pow 2 (by omega)) ih;rw [rootX]
  split
  ·exact h1
  ·rw [show 68 - n=69 - (n+1) by omega];exact Nat.dvd_add h1 (Nat.dvd_refl _)
theorem qcS (p k:Nat):∀ n,n≤69→rootX p k n+2^(69 - n)≤2^69
 | 0,_=>by simp [rootX]
 | n+1,h=>by
  have ih:=qcS p k n (by omega);have e:2^(69 - n)=2*2^(69 - (n+1)):=by rw [show 69 - n=69 - (n+1)+1 by omega,Nat.pow_succ,Nat.mul_comm]
  rw [rootX]
  split
  ·omega
  ·rw [show 68 - n=69 - (n+1) by omega];omega
theorem dig_room {X r at_:Nat} (hr:r<16) (h:2^(16*at_+r+1) ∣ X):X/65536^at_%65536+2^r<65536:=by
 obtain ⟨q,rfl⟩:=h;have e1:(65536:Nat)^at_=2^(16*at_):=by rw [Nat.pow_mul]
 have e2:2^(16*at_+r+1)*q/2^(16*at_)=2^(r+1)*q:=by
  rw [Nat.add_assoc,Nat.pow_add,Nat.mul_assoc,Nat.mul_div_cancel_left _ (Nat.two_pow_pos _)]
 rw [e1,e2];obtain ⟨s,hs⟩:∃ s,r+1+s=16:=⟨15 - r,by omega⟩;have e3:(65536:Nat)=2^(r+1)*2^s:=by rw [← Nat.pow_add,hs]
 have h4:2^(r+1)*q%65536=2^(r+1)*(q%2^s):=by rw [e3,Nat.mul_mod_mul_left]
 have h5:q%2^s<2^s:=Nat.mod_lt _ (Nat.two_pow_pos _)
 have h6:2^(r+1)*(q%2^s)+2^(r+1)≤2^(r+1)*2^s:=by
  rw [← Nat.mul_succ]; exact Nat.mul_le_mul_left _ h5
 have h7:2^(r+1)=2*2^r:=by rw [Nat.pow_succ,Nat.mul_comm]
 have h8:=Nat.two_pow_pos r;omega
theorem dig_add {X n bit:Nat} (hX:X<65536^n) (hb:bit/16<n) (h:2^(bit+1) ∣ X) :
  (digs n X).set (bit/16) ((digs n X).getD (bit/16) 0+2^(bit%16))=digs n (X+2^bit)∧(digs n X).getD (bit/16) 0+2^(bit%16)<65536:=by
 have hlt:=digs_lt n X;have hv:=qaU n X hX;have hg:=qbs (digs n X) (bit/16) hlt;rw [hv] at hg
 have hroom:(digs n X).getD (bit/16) 0+2^(bit%16)<65536:=by
  rw [hg];exact dig_room (Nat.mod_lt _ (by decide)) (by rw [show 16*(bit/16)+bit%16+1=bit+1 by omega]; exact h)
 refine ⟨?_,hroom⟩;have h1:=qc6 _ (qdY (i:=bit/16) hlt hroom);rw [← h1,List.length_set,qaw]
 congr 1
 have h2:=qbY (digs n X) (bit/16) ((digs n X).getD (bit/16) 0+2^(bit%16)) (by rw [qaw]; exact hb);rw [hv,Nat.add_mul] at h2
 have h3:2^(bit%16)*65536^(bit/16)=2^bit:=by
  rw [show (65536:Nat)=2^16 from rfl,← Nat.pow_mul,← Nat.pow_add]
  congr 1
  omega
 rw [h3] at h2;omega
theorem mul_w64 (a b:Nat) (h:a*b≤9223372036854775807):wrap64 ((a:Int)*(b:Int))=((a*b:Nat):Int):=by
 rw [← Int.natCast_mul]; unfold wrap64; omega
theorem add_w64 (a b:Nat) (h:a+b≤9223372036854775807):wrap64 ((a:Int)+(b:Int))=((a+b:Nat):Int):=by
 unfold wrap64; omega
def LessPost (a b:List Nat) (w:World) (e:Ending) (w':World):Prop:=e=.returned (.bool (decide (dval a<dval b)))∧w=w'
theorem qaG {K:IntKind} {l:List Nat} {i:Nat} (h:i<l.length):(wordsV K l)[i]?=some (.int K ((l.getD i 0:Nat):Int)):=by simp [wordsV,h]
theorem hi_step {A B D:Nat} (i:Nat) (h:A/D^(i+1)=B/D^(i+1)) (hd:A/D^i%D=B/D^i%D):A/D^i=B/D^i:=by
 rw [Nat.pow_succ,← Nat.div_div_eq_div_mul,← Nat.div_div_eq_div_mul] at h;rw [← Nat.div_add_mod (A/D^i) D,← Nat.div_add_mod (B/D^i) D,h,hd]
theorem hi_lt {A B D:Nat} (hD:0<D) (i:Nat) (h:A/D^(i+1)=B/D^(i+1)) (hd:A/D^i%D<B/D^i%D):A<B:=by
 rw [Nat.pow_succ,← Nat.div_div_eq_div_mul,← Nat.div_div_eq_div_mul] at h
 have h1:A/D^i<B/D^i:=by
  rw [← Nat.div_add_mod (A/D^i) D,← Nat.div_add_mod (B/D^i) D,h]; omega
 rcases Nat.lt_or_ge A B with h2 | h2
 ·exact h2
 ·have:=Nat.div_le_div_right (c:=D^i) h2; omega
theorem qdE {A B x y:Nat} (q:Nat) (h:A/65536^(q+1)=B/65536^(q+1)) (hx:x=A/65536^q%65536) (hy:y=B/65536^q%65536) (hne:x≠y):decide (x<y)=decide (A<B):=by
 rcases Nat.lt_or_gt_of_ne hne with h1 | h1
 ·have:=hi_lt (by decide) q h (by rw [← hx,← hy]; exact h1);rw [decide_eq_true this,decide_eq_true (by omega)]
 ·have:=hi_lt (by decide) q h.symm (by rw [← hx,← hy]; exact h1);rw [decide_eq_false (by omega),decide_eq_false (by omega)]
theorem less_any (a b:List Nat) (ha:∀ d ∈ a,d<65536) (hb:∀ d ∈ b,d<65536) (A1 A2:Option Addr) (c1 c2 B1 B2 la lb:Nat) (w:World) (h1:Rd w B1 A1 (wordsV .i64 a)) (h2:Rd w B2 A2 (wordsV .i64 b)) (hla:a.length=la) (hlb:b.length=lb) (la1:la≤1000) (lb1:lb≤1000) (hc1:la≤c1) (hc2:lb≤c2) :
  Calls Tryz.prog 98 #[.slice A1 la c1,.slice A2 lb c2] w (LessPost a b w):=by
 obtain ⟨m,hm⟩:=eX (max la lb);have hml:la≤m:=by omega
 have hmr:lb≤m:=by omega
 have hm1:m≤1000:=by omega
 have HM:Hid (if la<lb then m=lb else m=la):=zY (by split <;> omega)
 have hda:∀ i,(if i<la then a.getD i 0 else 0)=dval a/65536^i%65536:=fun i=>by
  split
  ·exact qbs a i ha
  ·rw [← qbs a i ha,List.getD_eq_getElem?_getD,List.getElem?_eq_none (by omega)]; rfl
 have hdb:∀ i,(if i<lb then b.getD i 0 else 0)=dval b/65536^i%65536:=fun i=>by
  split
  ·exact qbs b i hb
  ·rw [← qbs b i hb,List.getD_eq_getElem?_getD,List.getElem?_eq_none (by omega)]; rfl
 have hA:dval a/65536^m=0:=Nat.div_eq_of_lt (Nat.lt_of_lt_of_le (qcN a ha) (Nat.pow_le_pow_right (by decide) (by omega)));have hB:dval b/65536^m=0:=Nat.div_eq_of_lt (Nat.lt_of_lt_of_le (qcN b hb) (Nat.pow_le_pow_right (by decide) (by omega)));obtain ⟨NA,hNA⟩:=eX (dval a);obtain ⟨NB,hNB⟩:=eX (dval b);rw [← hNA] at hda hA;rw [← hNB] at hdb hB;have HNA:=zY hNA;have HNB:=zY hNB;have HDA:=zY hda;have HDB:=zY hdb;have HAB:Hid (NA/65536^m=NB/65536^m):=zY (hA.trans hB.symm);have H1:=zY h1;have H2:=zY h2;have HLA:=zY hla;have HLB:=zY hlb;clear hNA hNB hda hdb hA hB h1 h2 hla hlb ha hb hm
 by_cases hlt:la<lb
 all_goals
  first
   | (have hge:(la:Int)<(lb:Int):=by omega)
   | (have hge:¬ (la:Int)<(lb:Int):=by omega)
  have hmm:=HM.out
  first
   | (rw [if_pos hlt] at hmm)
   | (rw [if_neg hlt] at hmm)
  have HMM:=zY hmm;clear HM hmm;go_enter Tryz.func98,Tryz.ntmps98;go_wp2;have hab:=HAB.out
  go_loop [6] (fun v=>∃ i:Nat,i≤m∧v=.int .i64 ((i:Int) - 1)∧NA/65536^i=NB/65536^i) (fun v=>(intOf v+1).toNat)
  case atStart=>exact ⟨m,Nat.le_refl _,by rw [HMM.out],hab⟩
  case round =>
   clear hab;obtain ⟨i,hi,rfl,hh⟩:=hrel
   cases i with
   | zero =>
    have HH:=zY hh;clear hh;go_wp2;go_ret;refine ⟨?_,rfl⟩;have:=HH.out;simp at this;rw [decide_eq_false (by rw [← HNA.out,← HNB.out]; omega)];rfl
   | succ q =>
    rw [show (((q+1:Nat):Int) - 1)=(q:Int) by omega];have hq0:(0:Int)≤(q:Int):=by omega
    obtain ⟨x,hx⟩:=eX (NA/65536^q%65536);obtain ⟨y,hy⟩:=eX (NB/65536^q%65536);have hxa:=HDA.out q;have hyb:=HDB.out q;rw [← hx] at hxa;rw [← hy] at hyb;have HX:=zY hx;have HY:=zY hy;have HH:=zY hh;clear hx hy hh
    by_cases hxy:x=y
    all_goals
     by_cases hqa:q<la <;> by_cases hqb:q<lb
    all_goals
     first | (rw [if_pos hqa] at hxa) | (rw [if_neg hqa] at hxa)
     first | (rw [if_pos hqb] at hyb) | (rw [if_neg hqb] at hyb)
    ·obtain ⟨ad1,rfl,hz1,hz2⟩:=H1.out.at_ (k:=q) (by rw [qaH,HLA.out]; exact hqa);have d1:=H1.out.val (qaG (K:=.i64) (by rw [HLA.out]; exact hqa:q<a.length));rw [hxa] at d1;clear hz1 hz2;obtain ⟨ad2,rfl,hz3,hz4⟩:=H2.out.at_ (k:=q) (by rw [qaH,HLB.out]; exact hqb);have d2:=H2.out.val (qaG (K:=.i64) (by rw [HLB.out]; exact hqb:q<b.length));rw [hyb] at d2;clear hz3 hz4;have hfin:=hi_step q HH.out (by rw [← HX.out,← HY.out]; exact hxy);have HFIN:=zY hfin;clear hfin;subst hxy;clear hxa hyb;go_wp2;exact ⟨⟨q,by omega,rfl,HFIN.out⟩,by simp [intOf] <;> omega⟩
    ·obtain ⟨ad1,rfl,hz1,hz2⟩:=H1.out.at_ (k:=q) (by rw [qaH,HLA.out]; exact hqa);have d1:=H1.out.val (qaG (K:=.i64) (by rw [HLA.out]; exact hqa:q<a.length));rw [hxa] at d1;clear hz1 hz2;have hfin:=hi_step q HH.out (by rw [← HX.out,← HY.out]; exact hxy);have HFIN:=zY hfin;clear hfin;obtain rfl:x=0:=by omega
     clear hxa hyb;clear hxy;go_wp2;exact ⟨⟨q,by omega,rfl,HFIN.out⟩,by simp [intOf] <;> omega⟩
    ·obtain ⟨ad2,rfl,hz3,hz4⟩:=H2.out.at_ (k:=q) (by rw [qaH,HLB.out]; exact hqb);have d2:=H2.out.val (qaG (K:=.i64) (by rw [HLB.out]; exact hqb:q<b.length));rw [hyb] at d2;clear hz3 hz4;have hfin:=hi_step q HH.out (by rw [← HX.out,← HY.out]; exact hxy);have HFIN:=zY hfin;clear hfin;obtain rfl:y=0:=by omega
     clear hxa hyb;clear hxy;go_wp2;exact ⟨⟨q,by omega,rfl,HFIN.out⟩,by simp [intOf] <;> omega⟩
    ·have hfin:=hi_step q HH.out (by rw [← HX.out,← HY.out]; exact hxy);have HFIN:=zY hfin;clear hfin;clear hxa hyb;clear hxy;go_wp2;exact ⟨⟨q,by omega,rfl,HFIN.out⟩,by simp [intOf] <;> omega⟩
    ·obtain ⟨ad1,rfl,hz1,hz2⟩:=H1.out.at_ (k:=q) (by rw [qaH,HLA.out]; exact hqa);have d1:=H1.out.val (qaG (K:=.i64) (by rw [HLA.out]; exact hqa:q<a.length));rw [hxa] at d1;clear hz1 hz2;obtain ⟨ad2,rfl,hz3,hz4⟩:=H2.out.at_ (k:=q) (by rw [qaH,HLB.out]; exact hqb);have d2:=H2.out.val (qaG (K:=.i64) (by rw [HLB.out]; exact hqb:q<b.length));rw [hyb] at d2;clear hz3 hz4;have hd:=qdE q HH.out HX.out HY.out hxy;rw [HNA.out,HNB.out] at hd;have HD:=zY hd;have hb1:((x:Int) != (y:Int))=true:=by rw [bne_iff_ne]; omega
     have hb2:¬ x=y:=hxy;clear hxa hyb hd hxy;go_wp2;go_ret;exact ⟨qdy (by rw [← HD.out]; first | done | rfl | exact decide_eq_decide.2 (by omega)),rfl⟩
    ·obtain ⟨ad1,rfl,hz1,hz2⟩:=H1.out.at_ (k:=q) (by rw [qaH,HLA.out]; exact hqa);have d1:=H1.out.val (qaG (K:=.i64) (by rw [HLA.out]; exact hqa:q<a.length));rw [hxa] at d1;clear hz1 hz2;have hd:=qdE q HH.out HX.out HY.out hxy;rw [HNA.out,HNB.out] at hd;rw [show y=0 by omega] at hd;have HD:=zY hd;have hb1:((x:Int) != 0)=true:=by rw [bne_iff_ne]; omega
     have hb2:¬ x=y:=hxy;clear hxa hyb hd hxy;go_wp2;go_ret;exact ⟨qdy (by rw [← HD.out]; first | done | rfl | exact decide_eq_decide.2 (by omega)),rfl⟩
    ·obtain ⟨ad2,rfl,hz3,hz4⟩:=H2.out.at_ (k:=q) (by rw [qaH,HLB.out]; exact hqb);have d2:=H2.out.val (qaG (K:=.i64) (by rw [HLB.out]; exact hqb:q<b.length));rw [hyb] at d2;clear hz3 hz4;have hd:=qdE q HH.out HX.out HY.out hxy;rw [HNA.out,HNB.out] at hd;rw [show x=0 by omega] at hd;have HD:=zY hd;have hb1:((0:Int) != (y:Int))=true:=by rw [bne_iff_ne]; omega
     have hb2:¬ x=y:=hxy;clear hxa hyb hd hxy;go_wp2;go_ret;exact ⟨qdy (by rw [← HD.out]; first | done | rfl | exact decide_eq_decide.2 (by omega)),rfl⟩
    ·have hd:=qdE q HH.out HX.out HY.out hxy;rw [HNA.out,HNB.out] at hd;rw [show x=0 by omega] at hd;rw [show y=0 by omega] at hd;have HD:=zY hd;omega
def rootA (p k:Nat):Nat→Nat→Nat
 | 0,X=>X
 | n+1,X=>if p*65536^(4*k)<(X+2^n)^k then rootA p k n X else rootA p k n (X+2^n)
theorem rootA_eq (p k:Nat):∀ n,n≤69→rootA p k (69 - n) (rootX p k n)=rootA p k 69 0
 | 0,_=>rfl
 | n+1,h=>by
  rw [← rootA_eq p k n (by omega)];obtain ⟨m,hm⟩:=eX (68 - n);rw [show 69 - n=m+1 by omega,show 69 - (n+1)=m by omega,rootA,rootX,← hm]
  split <;> rfl
theorem rootN_eq (p k:Nat):rootN p k=rootA p k 69 0%2^64:=by
 have:=rootA_eq p k 69 (Nat.le_refl _);rw [rootN,← this];rfl
def primes80:List Nat:=[2,3,5,7,11,13,17,19,23,29,31,37,41,43,47,53,59,61,67,71,73,79,83,89,97,101,103,107,109,113,127,131,137,139,149,151,157,163,167,173,179,181,191,193,197,199,211,223,227,229,233,239,241,251,257,263,269,271,277,281,283,293,307,311,313,317,331,337,347,349,353,359,367,373,379,383,389,397,401,409]
theorem roots3:(primes80.map fun p=>rootA p 3 69 0%2^64)=stepsN:=by decide +kernel
theorem roots2:((primes80.take 8).map fun p=>rootA p 2 69 0%2^64)=firstN:=by decide +kernel
def primesTo (k:Nat):List Nat:=primes80.filter fun q=>decide (q<k)
theorem primes_step:((List.range 410).all fun k=>decide (primesTo (k+1)=if 2≤k∧(primesTo k).all (fun q=>k%q != 0)=true then primesTo k++[k] else primesTo k))=true:=by decide +kernel
theorem primes_len:((List.range 410).all fun k=>decide ((primesTo k).length<80))=true:=by decide +kernel
theorem primes_end:primesTo 410=primes80:=by decide +kernel
theorem primes_lt:(primes80.all fun p=>decide (2≤p∧p<65536))=true:=by decide +kernel
theorem map_getD (l:List Nat) (f:Nat→Nat) (i:Nat) (h:i<l.length):(l.map f).getD i 0=f (l.getD i 0):=by
 simp [List.getD_eq_getElem?_getD,h]
theorem rootN3 (i:Nat) (h:i<80):rootN (primes80.getD i 0) 3=stepsN.getD i 0:=by
 rw [← roots3,map_getD primes80 _ i h,rootN_eq]
theorem rootN2 (i:Nat) (h:i<8):rootN (primes80.getD i 0) 2=firstN.getD i 0:=by
 have e:primes80.getD i 0=(primes80.take 8).getD i 0:=by
  rw [List.getD_eq_getElem?_getD,List.getD_eq_getElem?_getD,List.getElem?_take,if_pos h]
 rw [← roots2,map_getD (primes80.take 8) _ i h,rootN_eq,e]
theorem sl_int:SlT Tryz.prog 30 3 1 8:=SlT.mk1 (z:=.int .i64 0) Tryz.underlying30 (by kernel_rfl) rfl (by decide)
def prB (k:Nat) (l:List Nat):Bool:=l.all fun q=>k%q != 0
theorem primesTo_step (k:Nat) (h:k<410) (h2:2≤k):primesTo (k+1)=if prB k (primesTo k)=true then primesTo k++[k] else primesTo k:=by
 have:=(List.all_eq_true.1 primes_step) k (List.mem_range.2 h);rw [decide_eq_true_eq] at this;rw [this];simp only [h2,true_and];rfl
theorem primesTo_len (k:Nat) (h:k<410):(primesTo k).length<80:=by
 have:=(List.all_eq_true.1 primes_len) k (List.mem_range.2 h)
 rwa [decide_eq_true_eq] at this
theorem primesTo_mem (k:Nat):∀ q ∈ primesTo k,2≤q∧q<65536:=fun q hq=>by
 have h1:=(List.mem_filter.1 hq).1;have:=(List.all_eq_true.1 primes_lt) q h1
 rwa [decide_eq_true_eq] at this
theorem prB_snoc (k:Nat) (l:List Nat) (q:Nat):prB k (l++[q])=(prB k l && (k%q != 0)):=by simp [prB]
def PrimesPost (w:World) (e:Ending) (w':World):Prop :=
 ∃ A c,e=.returned (.slice A 80 c)∧OwnX w' w.heap.size 3 1 (.slice A 80 c) 80 (wordsV .i64 primes80)∧Below w.heap.size w w'
structure PrSt (w0:World) (gf:Nat) (v:Value) (n:Nat) (l:List Nat) (u:World):Prop where
 bel:Below gf w0 u
 own:OwnX u gf 3 1 v n (wordsV .i64 l)
 le:gf≤u.heap.size
theorem primes_any (w:World):Calls Tryz.prog 86 #[.int .i64 80] w (PrimesPost w):=by
 obtain ⟨gf,hgf⟩:=eX (w.heap.size);have hst0:PrSt w gf (.slice none 0 0) 0 (primesTo 2) w:=⟨Below.refl _ _,OwnX.nil _ _ _ _,by omega⟩;have HST0:=zY hst0;have HGF:=zY hgf;clear hst0 hgf;go_enter Tryz.func86,Tryz.ntmps86;go_wp2;have hst0:=HST0.out;clear HST0
 go_loopw [3,4] (fun v i wr=>∃ (k n:Nat) (A:Option Addr) (c:Nat),2≤k∧k≤410∧i=.int .i64 k∧n=(primesTo k).length∧v=.slice A n c∧PrSt w gf (.slice A n c) n (primesTo k) wr) (fun _ i _=>410 - (intOf i).toNat)
 case atStart=>exact ⟨2,0,none,0,by omega,by omega,rfl,by decide +kernel,rfl,hst0⟩
 case round =>
  obtain ⟨k,n,A,c,hk2,hk,rfl,hn,rfl,hst⟩:=hrel;clear hst0
  by_cases hlt:k<410
  ·have hn80:n<80:=by rw [hn]; exact primesTo_len k hlt
   have hn80':(n:Int)<80:=by omega
   obtain ⟨L,hL⟩:=eX (primesTo k);have hstep:=primesTo_step k hlt hk2;have hmem:∀ q ∈ L,2≤q∧q<65536:=by rw [hL]; exact primesTo_mem k
   rw [← hL] at hn hst hstep;have HL:=zY hL;have HN:=zY hn;have HST:=zY hst;have HSTEP:=zY hstep;have HMEM:=zY hmem;have hk0:(0:Int)≤(k:Int):=by omega
   clear hL hn hst hstep hmem;go_wp2_with fail;obtain ⟨wo,rfl⟩:∃ wo:World,wo=wr:=⟨_,rfl⟩
   go_loop [5,6] (fun b i=>∃ (j:Nat) (bb:Bool),j≤n∧i=.int .i64 j∧bb=prB k (L.take j)∧b=.bool bb) (fun _ i=>n - (intOf i).toNat)
   case atStart=>exact ⟨0,true,by omega,rfl,rfl,rfl⟩
   case round =>
    obtain ⟨j,bb,hj,rfl,hbb,rfl⟩:=hrel
    by_cases hjn:j<n
    ·have hjL:j<L.length:=by rw [← HN.out]; exact hjn
     obtain ⟨q,hq⟩:=eX (L[j]);obtain ⟨hq2,hq3⟩:=HMEM.out q (by rw [hq]; exact List.getElem_mem hjL);obtain ⟨g,rfl,hgb,hgl⟩:=HST.out.own.ptr (by omega);have dq:=HST.out.own.atN (i:=j) (v:=.int .i64 (q:Int)) (by rw [wordsV,List.getElem?_map,List.getElem?_eq_getElem hjL,hq]; rfl);have hnc:=HST.out.own.le_cap;have hsn:prB k (L.take (j+1))=(bb && (k%q != 0)):=by rw [List.take_succ_eq_append_getElem hjL,prB_snoc,← hbb,hq]
     have HSN:=zY hsn;have hq0:(0:Int)<(q:Int):=by omega
     clear hbb hsn hq
     by_cases hd:k%q=0
     ·have hb1:(((k:Int)%(q:Int)) == 0)=true:=by rw [beq_iff_eq]; omega
      have hfin:false=prB k (L.take (j+1)):=by rw [HSN.out,hd]; simp
      have HFIN:=zY hfin;clear hfin hd;go_wp2_with fail;exact ⟨⟨j+1,false,by omega,by go_num,HFIN.out,rfl⟩,by simp [intOf]; omega⟩
     ·have hb1:(((k:Int)%(q:Int)) == 0)=false:=by rw [beq_eq_false_iff_ne]; omega
      have hfin:bb=prB k (L.take (j+1)):=by rw [HSN.out]; simp [hd]
      have HFIN:=zY hfin;clear hfin hd;go_wp2_with fail;exact ⟨⟨j+1,bb,by omega,by go_num,HFIN.out,rfl⟩,by simp [intOf]; omega⟩
    ·obtain rfl:j=n:=by omega
     have hst2:=HSTEP.out;rw [List.take_of_length_le (by rw [HN.out]; exact Nat.le_refl _)] at hbb;rw [← hbb] at hst2
     cases bb
     ·rw [if_neg (by decide)] at hst2;have HS2:=zY hst2;clear hst2 hbb;go_wp2_with fail;exact ⟨⟨k+1,j,A,c,by omega,by omega,by go_num,by rw [HS2.out]; exact HN.out,rfl,by rw [HS2.out]; exact HST.out⟩,by simp [intOf]; omega⟩
     ·rw [if_pos rfl] at hst2;have HS2:=zY hst2;clear hst2 hbb;go_wp2_with (refine qas sl_int rfl rfl HST.out.own rfl rfl rfl rfl (by unfold maxLen; omega) (by omega) HST.out.le ?_; intro A3 c3 w3 hown3 hg3 hn3; have HOWN3:=zY hown3; have HG3:=zY hg3; clear hown3 hg3 hn3);refine ⟨⟨k+1,j+1,A3,c3,by omega,by omega,by go_num,by rw [HS2.out,List.length_append,← HN.out]; rfl,rfl,?_⟩,by simp [intOf]; omega⟩;rw [HS2.out];refine ⟨HST.out.bel.grown HG3.out HST.out.le (fun k hk=>(HST.out.own.lt k hk).1),?_,by have:=HG3.out.size; have:=HST.out.le; omega⟩;rw [qbC]; exact HOWN3.out
  ·obtain rfl:k=410:=by omega
   rw [primes_end] at hn hst;obtain rfl:n=80:=hn;have HST:=zY hst;clear hst;go_wp2_with fail;go_ret;exact ⟨A,c,rfl,by rw [← HGF.out]; exact HST.out.own,by rw [← HGF.out]; exact HST.out.bel⟩
end Go.Proofs.YtdgheahbafnboaaGreatDoor.Sh
