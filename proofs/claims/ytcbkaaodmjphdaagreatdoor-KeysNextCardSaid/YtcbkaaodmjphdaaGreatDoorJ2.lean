/-
  Joined texts: Fs Fl Fm Mw Ml Fi Fq Byt Fb Pwr Fp Fv Rdp Conv Fr Rb Dig Rl Dgn Bsn Nam TurnR RefT Rdx RefX ShaH RefB8 Dgs Less Roots Primes MulA MulB Root2 Root3 OfS.
-/
import Derived.Shelf.Bits.Mul64
import Derived.Shelf.Spec.BitsCarry
import Derived.Stop.BytesEq
import Derived.Laws.BytesArg
import Derived.Laws.IdiomStrings
import Derived.Laws.MakeOwn
import Derived.Laws.OwnMore
import Derived.Test.YtcbkaaodmjphdaaGreatDoorProg
import Derived.Test.YtcbkaaodmjphdaaGreatDoorJ1
namespace Go.Proofs.YtcbkaaodmjphdaaGreatDoor
set_option linter.unusedSimpArgs false
set_option linter.unusedVariables false
set_option maxRecDepth 100000
set_option maxHeartbeats 4000000
open Go.RowKit
theorem sub_any (x y:E5) (w:World) (hx:x.Lt 9223372036854775808) (hy:y.Lt 18446744073709551616):Calls Tryz.prog 68 #[.agg (eV x),.agg (eV y)] w (ElemPost (subE x y) w):=by
 have hu:=Tryz.underlying79;have hst0:G3 w w.heap.size (w.heap.size+1) (w.heap.size+1+1) (eV x) (eV y) (eV zE) _:=g3_new w (eV x) (eV y) (eV zE);have hz:(carryE y).Lt 2251799813947392:=qcP hy;have HX:=zY hx;have HY:=zY hy;have HZ:=zY hz;have HST0:=zY hst0;clear hx hy hz hst0;go_enter Tryz.func68,Tryz.ntmps68;go_wp2_with (refine qac (x:=.tmp 3) HST0.out.y rfl rfl rfl hu rfl qah ?_);generalize hr:w.heap.size+1+1=r at *;generalize hh:w.heap.size+1=h at *;generalize hg:w.heap.size=g at *;have HR:=zY hr;have HH:=zY hh;have HG:=zY hg;clear hr hh hg;refine qab (qbQ y _ HY.out) ?_;rintro e w2 ⟨rfl,hb2⟩;have hs2:=HST0.out.next hb2;have HS2:=zY hs2;clear HST0 hs2 hb2;go_wp2_with (refine qad (x:=.tmp 3) (cells:=eV (carryE y)) HS2.out.y rfl rfl rfl rfl qah rfl (by simp [eV,wV,limbs,Value.oneCell']) ?_; intro w3 hb3 hw3);have hs3:G3 w g h r (mixV (rawSub x (carryE y)) x 0) (eV (carryE y)) (eV zE) w3:=HS2.out.putY hw3 hb3;have HS3:=zY hs3;clear HS2 hs3 hb3 hw3
 go_loopw [9] (fun i wr=>∃ k:Nat,k≤5∧i=.int .i64 k∧G3 w g h r (mixV (rawSub x (carryE y)) x k) (eV (carryE y)) (eV zE) wr) (fun i _=>5 - (intOf i).toNat)
 case atStart=>exact ⟨0,by omega,rfl,HS3.out⟩
 case round =>
  clear HS3;obtain ⟨k,hk,rfl,hst⟩:=hrel
  by_cases hlt:k<5
  ·have hlt':(k:Int)<5:=by omega
   obtain ⟨l,hl⟩:=eX ((limbs x).getD k 0);obtain ⟨m,hm⟩:=eX ((limbs (carryE y)).getD k 0);have hll:l<9223372036854775808:=by rw [hl]; exact qbg HX.out (by decide) k
   have hml:m<2251799813947392:=by rw [hm]; exact qbg HZ.out (by decide) k
   have hset:=qcL (rawSub x (carryE y)) x k hlt;rw [rawSub_at _ _ _ hlt,← hl,← hm] at hset;have ex:(mixV (rawSub x (carryE y)) x k)[k]?=some (.int .u64 (l:Int)):=by rw [hl]; exact qcX _ _ _ hlt
   have ey:(eV (carryE y))[k]?=some (.int .u64 (m:Int)):=by rw [hm]; exact eV_at _ _ hlt
   have HEX:=zY ex;have HEY:=zY ey;have HLL:=zY hll;have HML:=zY hml
   by_cases h0:k=0
   ·subst h0;rw [if_pos rfl] at hset;have HSET:=zY hset;have HC0:=hst.drew;clear hset ex ey hst hl hm hll hml hlt' hlt;rw [show ((0:Nat):Int)=0 from rfl];go_wp2_with fail;refine qal (fun u=>G3 w g h r (mixV (rawSub x (carryE y)) x 0) (eV (carryE y)) (eV zE) u) (fun u=>G3 w g h r (mixV (rawSub x (carryE y)) x (0+1)) (eV (carryE y)) (eV zE) u) [(0,some 16),(1,some 17),(2,some 18),(3,some 19),(4,some 20),(5,some 21),(6,some 22),(7,some 23),(8,some 24),(9,some 25),(10,some 26),(11,some 27),(12,some 28),(13,none)] (by kernel_rfl) (by kernel_rfl) (by decide) (by kernel_rfl) (fun _=>rfl) HC0 ?_;apply yN_
    ·apply dP [];exact fun _=>rfl;rfl;rintro vals - w1 hC1 E hE;simp only [sP] at hE ⊢;go_wp2;exact .mk (hE _ hC1)
    apply yN_
    ·apply dP [];exact fun _=>rfl;rfl;rintro vals ⟨-,-⟩ w1 hC1 E hE;simp only [sP] at hE ⊢;go_wp2;exact .mk (hE _ hC1)
    apply yN_
    ·apply dP [(1,some 17),(0,some 16)];exact fun _=>rfl;rfl;intro vals vq w1 hC1 E hE;simp only [sP,vq] at hE ⊢;clear vq;go_wp2;exact .mk (hE _ hC1)
    apply yN_
    ·apply dP [(2,some 18)];exact fun _=>rfl;rfl;intro vals vq w1 hC1 E hE;have d0:=hC1.x.cell 0;rw [HEX.out] at d0;simp only [sP,vq] at hE ⊢;clear vq;go_wp2;exact .mk (hE _ hC1)
    apply yN_
    ·apply dP [];exact fun _=>rfl;rfl;intro vals vq w1 hC1 E hE;clear vq;simp only [sP] at hE ⊢;go_wp2;exact .mk (hE _ hC1)
    apply yN_
    ·apply dP [];exact fun _=>rfl;rfl;intro vals vq w1 hC1 E hE;clear vq;simp only [sP] at hE ⊢;go_wp2;exact .mk (hE _ hC1)
    apply yN_
    ·apply dP [];exact fun _=>rfl;rfl;intro vals vq w1 hC1 E hE;clear vq;simp only [sP] at hE ⊢;go_wp2;exact .mk (hE _ hC1)
    apply yN_
    ·apply dP [(6,some 22),(5,some 21)];exact fun _=>rfl;rfl;intro vals vq w1 hC1 E hE;simp only [sP,vq] at hE ⊢;clear vq;go_wp2;exact .mk (hE _ hC1)
    apply yN_
    ·apply dP [(7,some 23)];exact fun _=>rfl;rfl;intro vals vq w1 hC1 E hE;have d0:=hC1.y.cell 0;rw [HEY.out] at d0;simp only [sP,vq] at hE ⊢;clear vq;go_wp2;exact .mk (hE _ hC1)
    apply yN_
    ·apply dP [(4,some 20),(8,some 24)];exact fun _=>rfl;rfl;intro vals vq w1 hC1 E hE;simp only [sP,vq] at hE ⊢;clear vq;go_wp2;rw [show IntKind.u64.wrap (4503599627370458 - (m:Int))=((4503599627370458 - m:Nat):Int) by have:=HML.out; rw [IntKind.wrap_u64]; omega];exact .mk (hE _ hC1)
    apply yN_
    ·apply dP [(3,some 19),(9,some 25)];exact fun _=>rfl;rfl;intro vals vq w1 hC1 E hE;simp only [sP,vq] at hE ⊢;clear vq;go_wp2;rw [add_w64' l (4503599627370458 - m) (by have:=HLL.out; have:=HML.out; omega)];exact .mk (hE _ hC1)
    apply yN_
    ·apply dP [];exact fun _=>rfl;rfl;intro vals vq w1 hC1 E hE;clear vq;simp only [sP] at hE ⊢;go_wp2;exact .mk (hE _ hC1)
    apply yN_
    ·apply dP [(11,some 27),(0,some 16),(0,some 16),(1,some 17),(2,some 18),(3,some 19),(4,some 20),(5,some 21),(6,some 22),(7,some 23),(8,some 24),(9,some 25),(10,some 26)];exact fun _=>rfl;rfl;intro vals vq w1 hC1 E hE;simp only [sP,vq] at hE ⊢;clear vq;go_wp2;exact .mk (hE _ hC1)
    apply yL_ (v:=undef)
    ·apply dP [(12,some 28),(10,some 26),(0,some 16),(1,some 17),(2,some 18),(3,some 19),(4,some 20),(5,some 21),(6,some 22),(7,some 23),(8,some 24),(9,some 25),(10,some 26)];exact fun _=>rfl;rfl;intro vals vq w1 hC1 E hE;have d0:=hC1.x.cell 0;rw [HEX.out] at d0;have q0:=hC1.x.free 0;simp only [sP,vq] at hE ⊢;clear vq;go_wp2;refine .mk (hE _ (hC1.putX (qai _ _ _ _) ?_));have h:=qak (i:=0) hC1.x (.int .u64 ((l+(4503599627370458 - m):Nat):Int));rw [HSET.out] at h;exact h
    intro vals vq w1 hC1;simp only [sP,vq];clear vq;clear HC0;have HC1:=zY hC1;clear hC1;go_wp2_with fail;exact ⟨⟨1,by omega,by go_num,HC1.out⟩,by simp [intOf]⟩
   ·rw [if_neg h0] at hset;have HSET:=zY hset;have HC0:=hst.drew;have hb:((k:Int) == 0)=false:=by rw [beq_eq_false_iff_ne]; omega
    clear hset ex ey hst hl hm hll hml;go_wp2_with fail;refine qal (fun u=>G3 w g h r (mixV (rawSub x (carryE y)) x k) (eV (carryE y)) (eV zE) u) (fun u=>G3 w g h r (mixV (rawSub x (carryE y)) x (k+1)) (eV (carryE y)) (eV zE) u) [(0,some 16),(1,some 17),(2,some 18),(3,some 19),(4,some 20),(5,some 21),(6,some 22),(7,some 23),(8,some 24),(9,some 25),(10,some 26),(11,some 27),(12,some 28),(13,none)] (by kernel_rfl) (by kernel_rfl) (by decide) (by kernel_rfl) (fun _=>rfl) HC0 ?_;apply yN_
    ·apply dP [];exact fun _=>rfl;rfl;rintro vals - w1 hC1 E hE;simp only [sP] at hE ⊢;go_wp2;exact .mk (hE _ hC1)
    apply yN_
    ·apply dP [];exact fun _=>rfl;rfl;rintro vals ⟨-,-⟩ w1 hC1 E hE;simp only [sP] at hE ⊢;go_wp2;exact .mk (hE _ hC1)
    apply yN_
    ·apply dP [(1,some 17),(0,some 16)];exact fun _=>rfl;rfl;intro vals vq w1 hC1 E hE;simp only [sP,vq] at hE ⊢;clear vq;go_wp2;exact .mk (hE _ hC1)
    apply yN_
    ·apply dP [(2,some 18)];exact fun _=>rfl;rfl;intro vals vq w1 hC1 E hE;have d0:=hC1.x.cell k;rw [HEX.out] at d0;simp only [sP,vq] at hE ⊢;clear vq;go_wp2;exact .mk (hE _ hC1)
    apply yN_
    ·apply dP [];exact fun _=>rfl;rfl;intro vals vq w1 hC1 E hE;clear vq;simp only [sP] at hE ⊢;go_wp2;exact .mk (hE _ hC1)
    apply yN_
    ·apply dP [];exact fun _=>rfl;rfl;intro vals vq w1 hC1 E hE;clear vq;simp only [sP] at hE ⊢;go_wp2;exact .mk (hE _ hC1)
    apply yN_
    ·apply dP [];exact fun _=>rfl;rfl;intro vals vq w1 hC1 E hE;clear vq;simp only [sP] at hE ⊢;go_wp2;exact .mk (hE _ hC1)
    apply yN_
    ·apply dP [(6,some 22),(5,some 21)];exact fun _=>rfl;rfl;intro vals vq w1 hC1 E hE;simp only [sP,vq] at hE ⊢;clear vq;go_wp2;exact .mk (hE _ hC1)
    apply yN_
    ·apply dP [(7,some 23)];exact fun _=>rfl;rfl;intro vals vq w1 hC1 E hE;have d0:=hC1.y.cell k;rw [HEY.out] at d0;simp only [sP,vq] at hE ⊢;clear vq;go_wp2;exact .mk (hE _ hC1)
    apply yN_
    ·apply dP [(4,some 20),(8,some 24)];exact fun _=>rfl;rfl;intro vals vq w1 hC1 E hE;simp only [sP,vq] at hE ⊢;clear vq;go_wp2;rw [show IntKind.u64.wrap (4503599627370494 - (m:Int))=((4503599627370494 - m:Nat):Int) by have:=HML.out; rw [IntKind.wrap_u64]; omega];exact .mk (hE _ hC1)
    apply yN_
    ·apply dP [(3,some 19),(9,some 25)];exact fun _=>rfl;rfl;intro vals vq w1 hC1 E hE;simp only [sP,vq] at hE ⊢;clear vq;go_wp2;rw [add_w64' l (4503599627370494 - m) (by have:=HLL.out; have:=HML.out; omega)];exact .mk (hE _ hC1)
    apply yN_
    ·apply dP [];exact fun _=>rfl;rfl;intro vals vq w1 hC1 E hE;clear vq;simp only [sP] at hE ⊢;go_wp2;exact .mk (hE _ hC1)
    apply yN_
    ·apply dP [(11,some 27),(0,some 16),(0,some 16),(1,some 17),(2,some 18),(3,some 19),(4,some 20),(5,some 21),(6,some 22),(7,some 23),(8,some 24),(9,some 25),(10,some 26)];exact fun _=>rfl;rfl;intro vals vq w1 hC1 E hE;simp only [sP,vq] at hE ⊢;clear vq;go_wp2;exact .mk (hE _ hC1)
    apply yL_ (v:=undef)
    ·apply dP [(12,some 28),(10,some 26),(0,some 16),(1,some 17),(2,some 18),(3,some 19),(4,some 20),(5,some 21),(6,some 22),(7,some 23),(8,some 24),(9,some 25),(10,some 26)];exact fun _=>rfl;rfl;intro vals vq w1 hC1 E hE;have d0:=hC1.x.cell k;rw [HEX.out] at d0;have q0:=hC1.x.free k;simp only [sP,vq] at hE ⊢;clear vq;go_wp2;refine .mk (hE _ (hC1.putX (qai _ _ _ _) ?_));have h:=qak (i:=k) hC1.x (.int .u64 ((l+(4503599627370494 - m):Nat):Int));rw [HSET.out] at h;exact h
    intro vals vq w1 hC1;simp only [sP,vq];clear vq;clear HC0;have HC1:=zY hC1;clear hC1;go_wp2_with fail;exact ⟨⟨k+1,by omega,by go_num,HC1.out⟩,by simp [intOf]; omega⟩
  ·obtain rfl:k=5:=by omega
   rw [qcM] at hst;have HST:=zY hst;clear hst;go_wp2_with (refine qac (x:=.tmp 2) HST.out.x rfl rfl rfl hu rfl qah ?_);refine qab (qbQ (rawSub x (carryE y)) _ ?_) ?_
   ·obtain ⟨a1,a2,a3,a4,a5⟩:=HX.out
    constructor <;> simp only [rawSub] <;> omega
   rintro e w2 ⟨rfl,hb2⟩;have hs2:=HST.out.next hb2;have HS2:=zY hs2;clear HST hs2 hb2;go_wp2_with (refine qad (x:=.tmp 4) (cells:=eV (subE x y)) HS2.out.z rfl rfl rfl rfl qah rfl (by simp [eV,wV,limbs,Value.oneCell']) ?_; intro w5 hb5 hw5);refine bodyPost_ret (qau (P:=Tryz.prog) rfl rfl hb5 hu rfl qah) rfl ⟨rfl,?_⟩;exact hw5.below HS2.out.bel HS2.out.lr HS2.out.bel.size
def ovr (x:E5):Nat→Nat
 | 0=>((limbs x).getD 0 0+19)/2251799813685248
 | k+1=>((limbs x).getD (k+1) 0+ovr x k)/2251799813685248
theorem ovr_le {x:E5} (h:x.Lt 4503599627370496):∀ k,ovr x k≤2
 | 0=>by have:=qbg h (by decide) 0; simp only [ovr]; omega
 | k+1=>by have:=qbg h (by decide) (k+1); have:=ovr_le h k; simp only [ovr]; omega
def cyE (x:E5) (q:Nat):Nat→Nat
 | 0=>(limbs x).getD 0 0+19*q
 | k+1=>(limbs x).getD (k+1) 0+cyE x q k/2251799813685248
theorem cyE_le {x:E5} (h:x.Lt 4503599627370496) {q:Nat} (hq:q≤2):∀ k,cyE x q k<4503599627370600
 | 0=>by have:=qbg h (by decide) 0; simp only [cyE]; omega
 | k+1=>by have:=qbg h (by decide) (k+1); have:=cyE_le h hq k; simp only [cyE]; omega
def lstV (x:E5) (q k:Nat):Array Value:=wV ((List.range k).map (fun j=>cyE x q j%2251799813685248)++cyE x q k :: (limbs x).drop (k+1))
def midV (x:E5) (q k:Nat):Array Value:=wV ((List.range k).map (fun j=>cyE x q j%2251799813685248)++cyE x q k :: cyE x q (k+1) :: (limbs x).drop (k+2))
theorem lstV_zero (x:E5) (q:Nat):(eV x).setIfInBounds 0 (.int .u64 (((limbs x).getD 0 0+19*q:Nat):Int))=lstV x q 0:=rfl
theorem lstV_at (x:E5) (q k:Nat) (h:k<5):(lstV x q k)[k]?=some (.int .u64 ((cyE x q k:Nat):Int)):=by
 match k,h with
 | 0,_=>rfl
 | 1,_=>rfl
 | 2,_=>rfl
 | 3,_=>rfl
 | 4,_=>rfl
theorem lstV_at1 (x:E5) (q k:Nat) (h:k<4):(lstV x q k)[k+1]?=some (.int .u64 (((limbs x).getD (k+1) 0:Nat):Int)):=by
 match k,h with
 | 0,_=>rfl
 | 1,_=>rfl
 | 2,_=>rfl
 | 3,_=>rfl
theorem lstV_set (x:E5) (q k:Nat) (h:k<4):(lstV x q k).setIfInBounds (k+1) (.int .u64 ((cyE x q (k+1):Nat):Int))=midV x q k:=by
 match k,h with
 | 0,_=>rfl
 | 1,_=>rfl
 | 2,_=>rfl
 | 3,_=>rfl
theorem midV_at (x:E5) (q k:Nat) (h:k<4):(midV x q k)[k]?=some (.int .u64 ((cyE x q k:Nat):Int)):=by
 match k,h with
 | 0,_=>rfl
 | 1,_=>rfl
 | 2,_=>rfl
 | 3,_=>rfl
theorem midV_set (x:E5) (q k:Nat) (h:k<4):(midV x q k).setIfInBounds k (.int .u64 ((cyE x q k%2251799813685248:Nat):Int))=lstV x q (k+1):=by
 match k,h with
 | 0,_=>rfl
 | 1,_=>rfl
 | 2,_=>rfl
 | 3,_=>rfl
theorem lstV_end (x:E5) (q:Nat):(lstV x q 4).setIfInBounds 4 (.int .u64 ((cyE x q 4%2251799813685248:Nat):Int))=eV (leastQ x q):=rfl
structure G2 (w0:World) (g r:Nat) (x z:Array Value) (u:World):Prop where
 bel:Below w0.heap.size w0 u
 x:Blk u g 79 x
 z:Blk u r 79 z
 lg:w0.heap.size≤g
 lr:w0.heap.size≤r
 gr:g≠r
theorem G2.putX {w0 u u':World} {g r:Nat} {x z x':Array Value} (k:G2 w0 g r x z u) (hw:Wrote g u u') (hb:Blk u' g 79 x'):G2 w0 g r x' z u' :=
 ⟨hw.below k.bel k.lg k.bel.size,hb,hw.blk k.z (Ne.symm k.gr),k.lg,k.lr,k.gr⟩
theorem G2.drew {w0 u:World} {g r:Nat} {x z:Array Value} (k:G2 w0 g r x z u):G2 w0 g r x z u.drew :=
 ⟨k.bel.drew,k.x,k.z,k.lg,k.lr,k.gr⟩
theorem G2.next {w0 u u':World} {g r:Nat} {x z:Array Value} (k:G2 w0 g r x z u) (hb:Below u.heap.size u u'):G2 w0 g r x z u' :=
 ⟨k.bel.trans (hb.mono k.bel.size),k.x.below hb k.x.lt,k.z.below hb k.z.lt,k.lg,k.lr,k.gr⟩
theorem g2_new (w:World) (x z:Array Value):G2 w w.heap.size (w.heap.size+1) x z ((w.alloc (.cells x 79)).alloc (.cells z 79)) :=
 ⟨(below_new _ _).alloc (by simp) _,(Blk.new _ _ _).alloc _,Blk.newAt (by simp),Nat.le_refl _,by omega,by omega⟩
theorem least_any (x:E5) (w:World) (hx:x.Lt 18446744073709551616):Calls Tryz.prog 72 #[.agg (eV x)] w (ElemPost (leastE x) w):=by
 have hu:=Tryz.underlying79;have hst0:G2 w w.heap.size (w.heap.size+1) (eV x) (eV zE) _:=g2_new w (eV x) (eV zE);have hx1:(carryE x).Lt 18446744073709551616:=(qcP hx).mono (by decide);obtain ⟨y,hy⟩:=eX (carryE (carryE x));have hyl:y.Lt 4503599627370496:=by rw [hy]; exact (qcP hx1).mono (by decide)
 have hfin:leastE x=leastQ y (ovr y 4):=by rw [hy]; rfl
 have HX:=zY hx;have HX1:=zY hx1;have HYL:=zY hyl;have HST0:=zY hst0;have HFIN:=zY hfin;have HY:=zY hy;clear hx hx1 hyl hst0 hfin hy;go_enter Tryz.func72,Tryz.ntmps72;go_wp2_with (refine qac (x:=.tmp 1) HST0.out.x rfl rfl rfl hu rfl qah ?_);generalize hr:w.heap.size+1=r at *;generalize hg:w.heap.size=g at *;have HR:=zY hr;have HG:=zY hg;clear hr hg;refine qab (qbQ x _ HX.out) ?_;rintro e w2 ⟨rfl,hb2⟩;have hs2:=HST0.out.next hb2;have HS2:=zY hs2;clear HST0 hs2 hb2;go_wp2_with fail;refine qab (qbQ (carryE x) _ HX1.out) ?_;rintro e w3 ⟨rfl,hb3⟩;rw [← HY.out];have hs3:=HS2.out.next hb3;have HS3:=zY hs3;clear HS2 hs3 hb3;have hl0:=qbg HYL.out (by decide) 0;obtain ⟨l0,hl⟩:=eX ((limbs y).getD 0 0);rw [← hl] at hl0;have hq0:ovr y 0=(l0+19)/2251799813685248:=by rw [hl]; rfl
 have hll0:(l0:Int)<4503599627370496:=by omega
 have ex0:(eV y)[0]?=some (.int .u64 (l0:Int)):=by rw [hl]; exact eV_at _ _ (by decide)
 have HL:=zY hl;have HQ0:=zY hq0;have EX0:=zY ex0;clear hl0 hl hq0 ex0;go_wp2_with (refine qad (x:=.tmp 1) (cells:=eV y) HS3.out.x rfl rfl rfl rfl qah rfl (by simp [eV,wV,limbs,Value.oneCell']) ?_; intro w4 hb4 hw4; have d0:=hb4.cell 0; rw [EX0.out] at d0; have HB4:=zY hb4; have HW4:=zY hw4; clear hb4 hw4);have hs4:G2 w g r (eV y) (eV zE) w4:=HS3.out.putX HW4.out HB4.out;have HS4:=zY hs4;clear HS3 hs4 HB4 HW4 EX0
 go_loopw [18,3] (fun i q wr=>∃ k:Nat,k≤4∧i=.int .i64 k∧q=.int .u64 (ovr y k:Nat)∧G2 w g r (eV y) (eV zE) wr) (fun i _ _=>4 - (intOf i).toNat)
 case atStart=>exact ⟨0,by omega,rfl,by rw [HQ0.out]; go_num,HS4.out⟩
 case round =>
  clear HS4;obtain ⟨k,hk,rfl,rfl,hst⟩:=hrel
  by_cases hlt:k<4
  ·have hlt':(k:Int)<4:=by omega
   obtain ⟨l,hl⟩:=eX ((limbs y).getD (k+1) 0);have hll:l<4503599627370496:=by rw [hl]; exact qbg HYL.out (by decide) (k+1)
   obtain ⟨q,hq⟩:=eX (ovr y k);have hql:q≤2:=by rw [hq]; exact ovr_le HYL.out k
   have hqn:ovr y (k+1)=(l+q)/2251799813685248:=by rw [hq,hl]; rfl
   have d0:=hst.x.cell (1+k);rw [Nat.add_comm 1 k,eV_at _ _ (by omega),← hl,Nat.add_comm k 1] at d0;rw [← hq];have hli:(l:Int)<4503599627370496:=by omega
   have hqi:(q:Int)≤2:=by omega
   have HQN:=zY hqn;have HST:=zY hst;clear hqn hq hl hst;go_wp2_with fail;exact ⟨⟨k+1,by omega,by go_num,by rw [HQN.out]; go_num,HST.out⟩,by simp [intOf]; omega⟩
  ·obtain rfl:k=4:=by omega
   obtain ⟨q,hq⟩:=eX (ovr y 4);have hql:q≤2:=by rw [hq]; exact ovr_le HYL.out 4
   rw [← hq];have hfin:=HFIN.out;rw [← hq] at hfin;have d0:=hst.x.cell 0;rw [eV_at _ _ (by decide),← HL.out] at d0;have f0:=hst.x.free 0;have hqi:(q:Int)≤2:=by omega
   have hset:=lstV_zero y q;rw [← HL.out] at hset;have hz:(l0:Int)+19*(q:Int)=((l0+19*q:Nat):Int):=by omega
   have HZ:=zY hz;have HSET:=zY hset;have HST:=zY hst;have HF:=zY hfin;clear hset hst hq hfin HFIN hz;go_wp2_with fail;obtain ⟨wo,hwo⟩:∃ x,x=wr.setCell ⟨g,0,none⟩ (.int .u64 ((l0:Int)+19*(q:Int))):=⟨_,rfl⟩;rw [← hwo]
   have hs5:G2 w g r (lstV y q 0) (eV zE) wo:=by
    rw [hwo];refine HST.out.putX (qai _ _ _ _) ?_;rw [HZ.out];have h:=qak (i:=0) HST.out.x (.int .u64 ((l0+19*q:Nat):Int));rw [HSET.out] at h;exact h
   have HS5:=zY hs5;have HQL:=zY hql;clear HST HSET HZ hwo hs5 hql d0 f0 hqi hll0 HQ0 HL
   go_loopw [35] (fun i wr=>∃ k:Nat,k≤4∧i=.int .i64 k∧G2 w g r (lstV y q k) (eV zE) wr) (fun i _=>4 - (intOf i).toNat)
   case atStart=>exact ⟨0,by omega,rfl,HS5.out⟩
   case round =>
    clear HS5;obtain ⟨k,hk,rfl,hst⟩:=hrel
    by_cases hlt2:k<4
    ·have hlt3:(k:Int)<4:=by omega
     obtain ⟨c0,hc0⟩:=eX (cyE y q k);obtain ⟨c1,hc1⟩:=eX (cyE y q (k+1));obtain ⟨l,hl⟩:=eX ((limbs y).getD (k+1) 0);have hcl:c0<4503599627370600:=by rw [hc0]; exact cyE_le HYL.out HQL.out k
     have hc10:c1=l+c0/2251799813685248:=by rw [hc1,hl,hc0]; rfl
     have hll:l<4503599627370496:=by rw [hl]; exact qbg HYL.out (by decide) (k+1)
     have ea:=lstV_at y q k (by omega);have eb:=lstV_at1 y q k hlt2;have ec:=lstV_set y q k hlt2;have ed:=midV_at y q k hlt2;have ee:=midV_set y q k hlt2;rw [← hc0] at ea;rw [← hl] at eb;rw [← hc1] at ec;rw [← hc0] at ed ee;have EA:=zY ea;have EB:=zY eb;have EC:=zY ec;have ED:=zY ed;have EE:=zY ee;have HCL:=zY hcl;have HLL:=zY hll;have HC10:=zY hc10;have HC0:=hst.drew;have hk5:(k:Int)+1<5:=by omega
     have hk6:(k:Int)<5:=by omega
     clear ea eb ec ed ee hcl hll hc10 hc0 hc1 hl hst;go_wp2_with fail;refine qal (fun u=>G2 w g r (lstV y q k) (eV zE) u) (fun u=>G2 w g r (midV y q k) (eV zE) u) [(0,some 38),(1,some 39),(2,some 40),(3,some 41),(4,some 42),(5,some 43),(6,some 44),(7,some 45),(8,some 46),(9,some 47),(10,some 48),(11,some 49),(12,some 50),(13,none)] (by kernel_rfl) (by kernel_rfl) (by decide) (by kernel_rfl) (fun _=>rfl) HC0 ?_;apply yN_
     ·apply dP [];exact fun _=>rfl;rfl;rintro vals - w1 hC1 E hE;simp only [sP] at hE ⊢;go_wp2;exact .mk (hE _ hC1)
     apply yN_
     ·apply dP [(0,some 38)];exact fun _=>rfl;rfl;intro vals vq w1 hC1 E hE;simp only [sP,vq] at hE ⊢;clear vq;go_wp2;exact .mk (hE _ hC1)
     apply yN_
     ·apply dP [];exact fun _=>rfl;rfl;intro vals vq w1 hC1 E hE;clear vq;simp only [sP] at hE ⊢;go_wp2;exact .mk (hE _ hC1)
     apply yN_
     ·apply dP [(2,some 40),(1,some 39)];exact fun _=>rfl;rfl;intro vals vq w1 hC1 E hE;simp only [sP,vq] at hE ⊢;clear vq;go_wp2;exact .mk (hE _ hC1)
     apply yN_
     ·apply dP [(3,some 41)];exact fun _=>rfl;rfl;intro vals vq w1 hC1 E hE;have d0:=hC1.x.cell (k+1);rw [EB.out] at d0;simp only [sP,vq] at hE ⊢;clear vq;go_wp2;exact .mk (hE _ hC1)
     apply yN_
     ·apply dP [];exact fun _=>rfl;rfl;intro vals vq w1 hC1 E hE;clear vq;simp only [sP] at hE ⊢;go_wp2;exact .mk (hE _ hC1)
     apply yN_
     ·apply dP [];exact fun _=>rfl;rfl;intro vals vq w1 hC1 E hE;clear vq;simp only [sP] at hE ⊢;go_wp2;exact .mk (hE _ hC1)
     apply yN_
     ·apply dP [(6,some 44),(5,some 43)];exact fun _=>rfl;rfl;intro vals vq w1 hC1 E hE;simp only [sP,vq] at hE ⊢;clear vq;go_wp2;exact .mk (hE _ hC1)
     apply yN_
     ·apply dP [(7,some 45)];exact fun _=>rfl;rfl;intro vals vq w1 hC1 E hE;have d0:=hC1.x.cell k;rw [EA.out] at d0;simp only [sP,vq] at hE ⊢;clear vq;go_wp2;exact .mk (hE _ hC1)
     apply yN_
     ·apply dP [(8,some 46)];exact fun _=>rfl;rfl;intro vals vq w1 hC1 E hE;simp only [sP,vq] at hE ⊢;clear vq;go_wp2;exact .mk (hE _ hC1)
     apply yN_
     ·apply dP [(4,some 42),(9,some 47)];exact fun _=>rfl;rfl;intro vals vq w1 hC1 E hE;simp only [sP,vq] at hE ⊢;clear vq;go_wp2;rw [show IntKind.u64.wrap ((l:Int)+(c0:Int)/2251799813685248)=(c1:Int) by have:=HCL.out; have:=HLL.out; have:=HC10.out; rw [IntKind.wrap_u64]; omega];exact .mk (hE _ hC1)
     apply yN_
     ·apply dP [];exact fun _=>rfl;rfl;intro vals vq w1 hC1 E hE;clear vq;simp only [sP] at hE ⊢;go_wp2;exact .mk (hE _ hC1)
     apply yN_
     ·apply dP [(11,some 49),(1,some 39),(0,some 38),(1,some 39),(2,some 40),(3,some 41),(4,some 42),(5,some 43),(6,some 44),(7,some 45),(8,some 46),(9,some 47),(10,some 48)];exact fun _=>rfl;rfl;intro vals vq w1 hC1 E hE;simp only [sP,vq] at hE ⊢;clear vq;go_wp2;exact .mk (hE _ hC1)
     apply yL_ (v:=undef)
     ·apply dP [(12,some 50),(10,some 48),(0,some 38),(1,some 39),(2,some 40),(3,some 41),(4,some 42),(5,some 43),(6,some 44),(7,some 45),(8,some 46),(9,some 47),(10,some 48)];exact fun _=>rfl;rfl;intro vals vq w1 hC1 E hE;have d0:=hC1.x.cell (k+1);rw [EB.out] at d0;have q0:=hC1.x.free (k+1);simp only [sP,vq] at hE ⊢;clear vq;go_wp2;refine .mk (hE _ (hC1.putX (qai _ _ _ _) ?_));have h:=qak (i:=k+1) hC1.x (.int .u64 (c1:Int));rw [EC.out] at h;exact h
     intro vals vq w1 hC1;simp only [sP,vq];clear vq;clear HC0;have d0:=hC1.x.cell k;rw [ED.out] at d0;have q0:=hC1.x.free k;have HC1:=zY hC1;clear hC1;go_wp2_with fail;refine ⟨⟨k+1,by omega,by go_num,HC1.out.putX (qai _ _ _ _) ?_⟩,by simp [intOf]; omega⟩;rw [qel c0 (by have:=HCL.out; omega)];have h:=qak (i:=k) HC1.out.x (.int .u64 ((c0%2251799813685248:Nat):Int));rw [EE.out] at h;exact h
    ·obtain rfl:k=4:=by omega
     obtain ⟨c0,hc0⟩:=eX (cyE y q 4);have hcl:c0<4503599627370600:=by rw [hc0]; exact cyE_le HYL.out HQL.out 4
     have ea:=lstV_at y q 4 (by omega);have ee:=lstV_end y q;rw [← hc0] at ea ee;rw [← HF.out] at ee;have d0:=hst.x.cell 4;rw [ea] at d0;have q0:=hst.x.free 4;have hm:=qel c0 (by omega);have hpt:∀ u:World,G2 w g r (eV (leastE x)) (eV zE) u→True:=fun _ _=>trivial
     have hs6:G2 w g r (eV (leastE x)) (eV zE) (wr.setCell ⟨g,4,none⟩ (.int .u64 (bits .and .u64 (c0:Int) 2251799813685247))):=by
      refine hst.putX (qai _ _ _ _) ?_;rw [hm];have h:=qak (i:=4) hst.x (.int .u64 ((c0%2251799813685248:Nat):Int));rw [ee] at h;exact h
     have HS6:=zY hs6;clear hs6 hst hc0 hcl ea ee hm hpt
     go_wp2_with (first
      | (refine qac (x:=.tmp 1) HS6.out.x rfl rfl rfl hu rfl qah ?_)
      | (refine qad (x:=.tmp 2) (cells:=eV (leastE x)) HS6.out.z rfl rfl rfl rfl qah rfl (by simp [eV,wV,limbs,Value.oneCell']) ?_; intro w5 hb5 hw5))
     refine bodyPost_ret (qau (P:=Tryz.prog) rfl rfl hb5 hu rfl qah) rfl ⟨rfl,?_⟩;exact hw5.below HS6.out.bel HS6.out.lr HS6.out.bel.size
theorem mul64_any (x y:Nat) (hx:x<18446744073709551616) (hy:y<18446744073709551616) (w:World) :
  Calls Tryz.prog 92 #[.int .u64 x,.int .u64 y] w fun e w'=>e=.returned (.tuple #[.int .u64 ((x*y/18446744073709551616:Nat):Int),.int .u64 ((x*y%18446744073709551616:Nat):Int)])∧w'=w:=by
 obtain ⟨bd,bt,bw,hhi⟩:=Lib.mul64_hi x y hx hy;have ba:=Lib.half_mul_le (a:=x/4294967296) (b:=y/4294967296) (by omega) (by omega);have bb:=Lib.half_mul_le (a:=x/4294967296) (b:=y%4294967296) (by omega) (by omega);have bc:=Lib.half_mul_le (a:=x%4294967296) (b:=y/4294967296) (by omega) (by omega);have ba':x/4294967296*(y/4294967296)<18446744073709551616:=by omega
 have bb':x/4294967296*(y%4294967296)<18446744073709551616:=by omega
 have bc':x%4294967296*(y/4294967296)<18446744073709551616:=by omega
 have bh1:x/4294967296*(y/4294967296)+(x/4294967296*(y%4294967296)+x%4294967296*(y%4294967296)/4294967296)/4294967296<18446744073709551616:=by omega
 have bh:x/4294967296*(y/4294967296)+(x/4294967296*(y%4294967296)+x%4294967296*(y%4294967296)/4294967296)/4294967296+((x/4294967296*(y%4294967296)+x%4294967296*(y%4294967296)/4294967296)%4294967296+x%4294967296*(y/4294967296))/4294967296<18446744073709551616:=by omega
 go_enter Tryz.func92,Tryz.ntmps92;go_wp2;simp only [Mul64.maskN x hx,Mul64.maskN y hy,Mul64.divN,Mul64.mulN,Mul64.addN,Mul64.wrapN _ bd,Mul64.wrapN _ bb',Mul64.wrapN _ bt,Mul64.maskN _ bt,Mul64.wrapN _ bc',Mul64.wrapN _ bw,Mul64.wrapN _ ba',Mul64.wrapN _ bh1,Mul64.wrapN _ bh,Mul64.wrapM (x*y)];rw [hhi];go_ret2;exact ⟨rfl,rfl⟩
theorem add64_run (x y c:Nat) (hx:x<18446744073709551616) (hy:y<18446744073709551616) (hc:c≤1) (w:World) :
  (callFunc 93 #[.int .u64 x,.int .u64 y,.int .u64 c]).run Tryz.prog w =
   .ok (.value (.tuple #[.int .u64 (((x+y+c)%18446744073709551616:Nat):Int),.int .u64 (((x+y+c)/18446744073709551616:Nat):Int)])) w:=by
 rw [run_callFunc_extern Tryz.func93 (by kernel_rfl) (by kernel_rfl) (by kernel_rfl) (e:=add64Entry) (by kernel_rfl),run_add64 x y c (by omega) (by omega) (by omega) (by omega)];simp only [Result.andThen]
 congr 5 <;> omega
def wdV (n:Nat):Array Value:=#[.int .u64 ((n/18446744073709551616:Nat):Int),.int .u64 ((n%18446744073709551616:Nat):Int)]
theorem qb2:(Tryz.prog.info? 127).map (·.size)=some 2:=by kernel_rfl
def WidePost (n:Nat) (w:World) (e:Ending) (w':World):Prop:=e=.returned (.agg (wdV n))∧Below w.heap.size w w'
theorem over_any (n:Nat) (hn:n<41538374868278621028243970633760768) (w:World):Calls Tryz.prog 71 #[.agg (wdV n)] w (fun e w'=>e=.returned (.int .u64 ((n/2251799813685248:Nat):Int))∧Below w.heap.size w w'):=by
 have hh:n/18446744073709551616<2251799813685248:=by omega
 have hl:n%18446744073709551616<18446744073709551616:=by omega
 have hs:n/2251799813685248=n/18446744073709551616*8192+n%18446744073709551616/2251799813685248:=by omega
 rw [hs];obtain ⟨hi,hhi⟩:=eX (n/18446744073709551616);obtain ⟨lo,hlo⟩:=eX (n%18446744073709551616);rw [wdV,← hhi,← hlo];rw [← hhi] at hh;rw [← hlo] at hl;clear hs hhi hlo hn
 have hor:bits .or .u64 ((hi:Int)*8192) ((lo:Int)/2251799813685248)=((hi*8192+lo/2251799813685248:Nat):Int):=by
  have h1:=or64 (a:=hi*8192) (b:=lo/2251799813685248) (by omega) (by omega)
  have h2:hi*8192 ||| lo/2251799813685248=hi*8192+lo/2251799813685248:=by
   have:=Nat.shiftLeft_add_eq_or_of_lt (i:=13) (b:=lo/2251799813685248) (by omega) hi;rw [Nat.shiftLeft_eq] at this;exact this.symm
  rw [h2] at h1;rw [← h1]
  congr 1 <;> omega
 have hw:IntKind.u64.wrap ((hi:Int)*8192)=(hi:Int)*8192:=by rw [IntKind.wrap_u64]; omega
 have HOR:=zY hor;have HW:=zY hw;clear hor hh hl hw;go_enter Tryz.func71,Tryz.ntmps71;go_wp2_with fail;go_ret;refine ⟨?_,below_new _ _⟩;rw [HW.out,HOR.out];rfl
theorem plus_any (n a b:Nat) (ha:a<18446744073709551616) (hb:b<18446744073709551616) (hn:n+a*b<340282366920938463463374607431768211456) (w:World):Calls Tryz.prog 70 #[.agg (wdV n),.int .u64 a,.int .u64 b] w (WidePost (n+a*b) w):=by
 obtain ⟨p,hp⟩:=eX (a*b);rw [← hp] at hn ⊢;obtain ⟨hi,hhi⟩:=eX (n/18446744073709551616);obtain ⟨lo,hlo⟩:=eX (n%18446744073709551616);obtain ⟨ph,hph⟩:=eX (p/18446744073709551616);obtain ⟨pl,hpl⟩:=eX (p%18446744073709551616);obtain ⟨c,hc⟩:=eX ((lo+pl+0)/18446744073709551616);have e1:(lo+pl+0)%18446744073709551616=(n+p)%18446744073709551616:=by omega
 have e2:(hi+ph+c)%18446744073709551616=(n+p)/18446744073709551616:=by omega
 have hr1:=add64_run lo pl 0 (by omega) (by omega) (by omega);have hr2:=add64_run hi ph c (by omega) (by omega) (by omega);rw [e1,← hc] at hr1;rw [e2] at hr2;rw [show ((0:Nat):Int)=0 from rfl] at hr1;have hm:=mul64_any a b ha hb;rw [← hp,← hph,← hpl] at hm;have HM:=zY hm;rw [wdV,← hhi,← hlo];obtain ⟨cc,hcc⟩:=eX ((hi+ph+c)/18446744073709551616);rw [← hcc] at hr2;have hz:=qb2;have hu:=Tryz.underlying127;clear hm ha hb hn hp hhi hlo hph hpl hc e1 e2 hcc;obtain ⟨s1,hs1⟩:=eX ((n+p)/18446744073709551616);obtain ⟨s2,hs2⟩:=eX ((n+p)%18446744073709551616);rw [← hs2] at hr1;rw [← hs1] at hr2;have hv:wdV (n+p)=#[.int .u64 (s1:Int),.int .u64 (s2:Int)]:=by rw [hs1,hs2]; rfl
 have HV:=zY hv;clear hv hs1 hs2;go_enter Tryz.func70,Tryz.ntmps70;go_wp2_with fail;refine qab (HM.out _) ?_;rintro e w2 ⟨rfl,rfl⟩;go_wp2_with fail;have hb5:Blk ((w.alloc (.cells #[.int .u64 (hi:Int),.int .u64 (lo:Int)] 127)).alloc (.cells #[.int .u64 (s1:Int),.int .u64 (s2:Int)] 127)) (w.heap.size+1) 127 #[.int .u64 (s1:Int),.int .u64 (s2:Int)]:=Blk.newAt (by simp);refine bodyPost_ret (qau (P:=Tryz.prog) rfl rfl hb5 hu rfl hz) rfl ⟨by rw [HV.out],?_⟩;exact (below_new _ _).alloc (by simp) _
section
variable {P:Program}
theorem run_store_part {w:World} {ty:TypeId} {g k n:Nat} {r cs new:Array Value} {t:TypeId} (hg:Blk w g t cs) (hi:(P.info? ty).map (·.size)=some n) (hn:r.size=n) (hfit:k+n≤cs.size) (h1:∀ v ∈ r.toList,v.oneCell'=true)
  (hnew:(cs.toList.take k++r.toList++cs.toList.drop (k+n)).toArray=new) :
  (storeVar ty ⟨g,k,none⟩ (.agg r)).run P w=.ok () (w.setRow g new):=by
 have hst:=run_storeCells_at P g k t r.toList 0 cs w hg (by simp; omega) h1;rw [Nat.add_zero,Array.length_toList,hn,hnew] at hst;have hc:(Value.agg r).cells=r:=rfl
 cases hq:P.info? ty with
 | none=>simp [hq] at hi
 | some j =>
  have hj:j.size=n:=by simpa [hq] using hi
  simp [storeVar,hc,sizeOf,typeInfo,hq,hj,hn,hst]
theorem qcq {w:World} {ops:Array Oper} {rest:List Oper} {o:Oper} {a:Act} {Q:Exit→Act→World→Prop} {ty:TypeId} {x y:Operand} {g k n:Nat} {r cs new:Array Value} {t:TypeId}
  (hg:Blk w g t cs) (hfit:k+n≤cs.size) (hnew:(cs.toList.take k++r.toList++cs.toList.drop (k+n)).toArray=new) (hn:r.size=n) (h1:∀ v ∈ r.toList,v.oneCell'=true)
  (hgd:o.guard=none) (ho:o.op=.store ty x y) (hx:a.eval x=.pointer (some ⟨g,k,none⟩)) (hy:a.eval y=.agg r) (hi:(P.info? ty).map (·.size)=some n)
  (h:∀ w',Blk w' g t new→Wrote g w w'→wpList P ops Q rest (a.put o.dst undef) w'):wpList P ops Q (o :: rest) a w:=by
 refine wpList_plain hgd fun K hK=>?_;have hr:=run_store_part (P:=P) (ty:=ty) hg hi hn hfit h1 hnew;unfold Oper.wp execOp;simp only [ho,hx,hy,Instr.storeAt,Instr.sureAddr,Sem.run_bind,Sem.run_pure,Result.andThen_ok,hr];exact hK _ _ (h _ (setRow_heap w g cs _ t (0,0) hg) (qbA w g _))
end
def updN (f:Nat→Nat) (p v:Nat):Nat→Nat:=fun j=>if j=p then v else f j
def rV (f:Nat→Nat):Array Value:=(wdV (f 0))++(wdV (f 1))++(wdV (f 2))++(wdV (f 3))++(wdV (f 4))
theorem rV_part (f:Nat→Nat) (p:Nat) (h:p<5):(((rV f).toList.drop (p*2)).take 2).toArray=wdV (f p):=by
 match p,h with
 | 0,_=>rfl
 | 1,_=>rfl
 | 2,_=>rfl
 | 3,_=>rfl
 | 4,_=>rfl
theorem rV_put (f:Nat→Nat) (p v:Nat) (h:p<5):((rV f).toList.take (p*2)++(wdV v).toList++(rV f).toList.drop (p*2+2)).toArray=rV (updN f p v):=by
 match p,h with
 | 0,_=>rfl
 | 1,_=>rfl
 | 2,_=>rfl
 | 3,_=>rfl
 | 4,_=>rfl
theorem rV_lo (f:Nat→Nat) (p:Nat) (h:p<5):(rV f)[p*2+1]?=some (.int .u64 ((f p%18446744073709551616:Nat):Int)):=by
 match p,h with
 | 0,_=>rfl
 | 1,_=>rfl
 | 2,_=>rfl
 | 3,_=>rfl
 | 4,_=>rfl
theorem qd7 (f:Nat→Nat):(rV f).size=10:=rfl
def termN (x y:E5) (i k:Nat):Nat:=(if 5≤i+k then (limbs x).getD i 0*19 else (limbs x).getD i 0)*(limbs y).getD k 0
def posN (i k:Nat):Nat:=if 5≤i+k then i+k - 5 else i+k
def rowN (x y:E5) (i:Nat) (f:Nat→Nat):Nat→Nat→Nat
 | 0=>f
 | k+1=>updN (rowN x y i f k) (posN i k) (rowN x y i f k (posN i k)+termN x y i k)
def accN (x y:E5):Nat→Nat→Nat
 | 0=>fun _=>0
 | i+1=>rowN x y i (accN x y i) 5
theorem acc_end (x y:E5) (j:Nat) (h:j<5):accN x y 5 j=(limbs (mulR x y)).getD j 0:=by
 match j,h with
 | 0,_=>simp [accN,rowN,updN,posN,termN,limbs,mulR]
 | 1,_=>simp [accN,rowN,updN,posN,termN,limbs,mulR]
 | 2,_=>simp [accN,rowN,updN,posN,termN,limbs,mulR]
 | 3,_=>simp [accN,rowN,updN,posN,termN,limbs,mulR]
 | 4,_=>simp [accN,rowN,updN,posN,termN,limbs,mulR]
theorem term_le {x y:E5} (hx:x.Ok) (hy:y.Ok) (i k:Nat):termN x y i k≤385365782469381566918211934355475:=by
 have h1:=qbg hx (by decide) i;have h2:=qbg hy (by decide) k;unfold termN
 split
 ·have:=qei (a:=(limbs x).getD i 0*19) (b:=(limbs y).getD k 0) (m:=85568392920039406) (n:=4503599627370496) (by omega) h2;exact Nat.le_trans this (by decide)
 ·have:=qei (a:=(limbs x).getD i 0) (b:=(limbs y).getD k 0) (m:=4503599627370496) (n:=4503599627370496) h1 h2;exact Nat.le_trans this (by decide)
theorem row_le {x y:E5} (hx:x.Ok) (hy:y.Ok) (i:Nat) {f:Nat→Nat} {B:Nat} (hf:∀ j,f j≤B):∀ k j,rowN x y i f k j≤B+k*385365782469381566918211934355475
 | 0,j=>by simpa [rowN] using hf j
 | k+1,j=>by
  have h1:=row_le hx hy i hf k;have h2:=term_le hx hy i k;simp only [rowN,updN]
  split
  ·have:=h1 (posN i k); omega
  ·exact Nat.le_trans (h1 j) (Nat.add_le_add_left (Nat.mul_le_mul_right _ (Nat.le_succ k)) _)
theorem acc_le {x y:E5} (hx:x.Ok) (hy:y.Ok):∀ i j,accN x y i j≤i*1926828912346907834591059671777375
 | 0,j=>by simp [accN]
 | i+1,j=>by
  have h1:=row_le hx hy i (acc_le hx hy i) 5 j;simp only [accN];omega
def zerosV:Array Value:=#[.int .u64 0,.int .u64 0,.int .u64 0,.int .u64 0,.int .u64 0,.int .u64 0,.int .u64 0,.int .u64 0,.int .u64 0,.int .u64 0]
theorem mul_w64' (a b:Nat) (h:a*b<18446744073709551616):IntKind.u64.wrap ((a:Int)*(b:Int))=((a*b:Nat):Int):=by
 rw [show (a:Int)*(b:Int)=((a*b:Nat):Int) by simp,IntKind.wrap_u64]; omega
structure M4 (w0:World) (g h r s:Nat) (x y z m:Array Value) (u:World):Prop where
 bel:Below w0.heap.size w0 u
 x:Blk u g 79 x
 y:Blk u h 79 y
 z:Blk u r 79 z
 m:Blk u s 128 m
 lg:w0.heap.size≤g
 lh:w0.heap.size≤h
 lr:w0.heap.size≤r
 ls:w0.heap.size≤s
 gs:g≠s
 hs:h≠s
 rs:r≠s
theorem M4.putM {w0 u u':World} {g h r s:Nat} {x y z m m':Array Value} (k:M4 w0 g h r s x y z m u) (hw:Wrote s u u') (hb:Blk u' s 128 m'):M4 w0 g h r s x y z m' u' :=
 ⟨hw.below k.bel k.ls k.bel.size,hw.blk k.x k.gs,hw.blk k.y k.hs,hw.blk k.z k.rs,hb,k.lg,k.lh,k.lr,k.ls,k.gs,k.hs,k.rs⟩
theorem M4.next {w0 u u':World} {g h r s:Nat} {x y z m:Array Value} (k:M4 w0 g h r s x y z m u) (hb:Below u.heap.size u u'):M4 w0 g h r s x y z m u' :=
 ⟨k.bel.trans (hb.mono k.bel.size),k.x.below hb k.x.lt,k.y.below hb k.y.lt,k.z.below hb k.z.lt,k.m.below hb k.m.lt,k.lg,k.lh,k.lr,k.ls,k.gs,k.hs,k.rs⟩
theorem M4.cast {w0 u:World} {g h r s:Nat} {x y z m m':Array Value} (k:M4 w0 g h r s x y z m u) (e:m=m'):M4 w0 g h r s x y z m' u:=e▸k
structure O3 (w0:World) (r s q:Nat) (z m v:Array Value) (u:World):Prop where
 bel:Below w0.heap.size w0 u
 z:Blk u r 79 z
 m:Blk u s 128 m
 o:Blk u q 79 v
 lr:w0.heap.size≤r
 lo:w0.heap.size≤q
 ro:r≠q
 so:s≠q
theorem O3.put {w0 u u':World} {r s o:Nat} {z m v v':Array Value} (k:O3 w0 r s o z m v u) (hw:Wrote o u u') (hb:Blk u' o 79 v'):O3 w0 r s o z m v' u' :=
 ⟨hw.below k.bel k.lo k.bel.size,hw.blk k.z k.ro,hw.blk k.m k.so,hb,k.lr,k.lo,k.ro,k.so⟩
theorem O3.next {w0 u u':World} {r s o:Nat} {z m v:Array Value} (k:O3 w0 r s o z m v u) (hb:Below u.heap.size u u'):O3 w0 r s o z m v u' :=
 ⟨k.bel.trans (hb.mono k.bel.size),k.z.below hb k.z.lt,k.m.below hb k.m.lt,k.o.below hb k.o.lt,k.lr,k.lo,k.ro,k.so⟩
theorem M4.out {w0 u:World} {g h r s:Nat} {x y z m:Array Value} (k:M4 w0 g h r s x y z m u) (v:Array Value):O3 w0 r s u.heap.size z m v (u.alloc (.cells v 79)) :=
 ⟨k.bel.alloc k.bel.size _,k.z.alloc _,k.m.alloc _,Blk.new _ _ _,k.lr,k.bel.size,Nat.ne_of_lt k.z.lt,Nat.ne_of_lt k.m.lt⟩
theorem m4_new (w:World) (x y z m:Array Value):M4 w w.heap.size (w.heap.size+1) (w.heap.size+1+1) (w.heap.size+1+1+1) x y z m ((((w.alloc (.cells x 79)).alloc (.cells y 79)).alloc (.cells z 79)).alloc (.cells m 128)) :=
 ⟨(((below_new _ _).alloc (by simp) _).alloc (by simp; try omega) _).alloc (by simp; try omega) _,(((Blk.new _ _ _).alloc _).alloc _).alloc _,((Blk.newAt (by simp)).alloc _).alloc _,(Blk.newAt (by simp)).alloc _,Blk.newAt (by simp),Nat.le_refl _,by omega,by omega,by omega,by omega,by omega,by omega⟩
theorem mul_any (x y:E5) (w:World) (hx:x.Ok) (hy:y.Ok):Calls Tryz.prog 48 #[.agg (eV x),.agg (eV y)] w (ElemPost (mulE x y) w):=by
 have hu:=Tryz.underlying79;have hu5:=Tryz.underlying77;have huw:=Tryz.underlying127;have hst0:M4 w w.heap.size (w.heap.size+1) (w.heap.size+1+1) (w.heap.size+1+1+1) (eV x) (eV y) (eV zE) zerosV _:=m4_new w (eV x) (eV y) (eV zE) zerosV;have hz0:zerosV=rV (accN x y 0):=by simp [zerosV,rV,wdV,accN]
 have HZ0:=zY hz0;clear hz0;have HX:=zY hx;have HY:=zY hy;have HST0:=zY hst0;clear hx hy hst0;go_enter Tryz.func48,Tryz.ntmps48;go_wp2_with (refine qan (x:=.tmp 14) (n:=5) (r:=eV x) HST0.out.x (by rw [eV_size]; decide) rfl rfl rfl rfl hu5 rfl qdd ?_);generalize hs:w.heap.size+1+1+1=s at *;generalize hr:w.heap.size+1+1=r at *;generalize hh:w.heap.size+1=h at *;generalize hg:w.heap.size=g at *;have HS:=zY hs;have HR:=zY hr;have HH:=zY hh;have HG:=zY hg;clear hr hh hg hs
 go_loopw [16] (fun i wr=>∃ k:Nat,k≤5∧i=.int .i64 k∧M4 w g h r s (eV x) (eV y) (eV zE) (rV (accN x y k)) wr) (fun i _=>5 - (intOf i).toNat)
 case atStart=>exact ⟨0,by omega,rfl,HST0.out.cast HZ0.out⟩
 case round =>
  clear HST0;obtain ⟨i,hi,rfl,hst⟩:=hrel
  by_cases hlt:i<5
  ·have hlt':(i:Int)<5:=by omega
   obtain ⟨xi,hxi⟩:=eX ((limbs x).getD i 0);have hxl:xi<4503599627370496:=by rw [hxi]; exact qbg HX.out (by decide) i
   have hix:∀ u:World,(Instr.index 77 (.agg (eV x)) (.int .i64 (i:Int))).run Tryz.prog u=.ok (.int .u64 (xi:Int)) u:=fun u =>
    qaR (n:=5) (e:=76) hu5 hlt (by rw [hxi]; exact eV_at x i hlt) (by kernel_rfl) (by kernel_rfl) ⟨_,Tryz.underlying76⟩
   have HST:=zY hst;have HXI:=zY hxi;have HXL:=zY hxl;clear hst hxi hxl;go_wp2_with (refine qan (x:=.tmp 20) (n:=5) (r:=eV y) HST.out.y (by rw [eV_size]; decide) rfl rfl rfl rfl hu5 rfl qdd ?_);obtain ⟨wo,rfl⟩:=eX wr
   go_loopw [22] (fun c wr=>∃ k:Nat,k≤5∧c=.int .i64 k∧M4 w g h r s (eV x) (eV y) (eV zE) (rV (rowN x y i (accN x y i) k)) wr) (fun c _=>5 - (intOf c).toNat)
   case atStart=>exact ⟨0,by omega,rfl,HST.out⟩
   case round =>
    clear HST hix;obtain ⟨k,hk,rfl,hst⟩:=hrel
    by_cases hltk:k<5
    ·have hltk':(k:Int)<5:=by omega
     obtain ⟨yk,hyk⟩:=eX ((limbs y).getD k 0);have hyl:yk<4503599627370496:=by rw [hyk]; exact qbg HY.out (by decide) k
     have hiy:∀ u:World,(Instr.index 77 (.agg (eV y)) (.int .i64 (k:Int))).run Tryz.prog u=.ok (.int .u64 (yk:Int)) u:=fun u =>
      qaR (n:=5) (e:=76) hu5 hltk (by rw [hyk]; exact eV_at y k hltk) (by kernel_rfl) (by kernel_rfl) ⟨_,Tryz.underlying76⟩
     obtain ⟨F,hF⟩:=eX (rowN x y i (accN x y i) k)
     have hFl:∀ p,F p<100000000000000000000000000000000000:=fun p=>by
      have h1:=row_le HX.out HY.out i (acc_le HX.out HY.out i) k p;rw [hF]; omega
     by_cases hge:5≤i+k
     ·obtain ⟨p,hp⟩:∃ p,i+k=p+5:=⟨i+k - 5,by omega⟩;have hp5:p<5:=by omega
      have hpi:(i:Int)+(k:Int) - 5=(p:Int):=by omega
      have hgei:(5:Int)≤(i:Int)+(k:Int):=by omega
      have hrow:rowN x y i (accN x y i) (k+1)=updN F p (F p+xi*19*yk):=by
       have e1:posN i k=p:=by unfold posN; rw [if_pos hge]; omega
       have e2:termN x y i k=xi*19*yk:=by unfold termN; rw [if_pos hge,← HXI.out,← hyk]
       simp only [rowN,e1,e2,← hF]
      rw [← hF] at hst
      have hplus:=plus_any (F p) (xi*19) yk (by have:=HXL.out; omega) (by omega) (by
       have h1:=hFl p;have h2:=qei (a:=xi*19) (b:=yk) (m:=85568392920039406) (n:=4503599627370496) (by have:=HXL.out; omega) hyl;have h3:(85568392920039406 - 1)*(4503599627370496 - 1)=385365782469381566918211934355475:=by decide
       rw [h3] at h2; omega)
      have hx19:=mul_w64' xi 19 (by have:=HXL.out; omega);rw [show ((19:Nat):Int)=19 from rfl] at hx19;obtain ⟨x19,hx19e⟩:=eX (xi*19);rw [← hx19e] at hx19 hplus hrow;have hpart:=rV_part F p hp5;have hput:=rV_put F p (F p+x19*yk) hp5;rw [← hrow] at hput;have HPL:=zY hplus;have HPART:=zY hpart;have HPUT:=zY hput;have HST:=zY hst;have HP5:=zY hp5;clear hplus hpart hput hst hx19e hrow hFl hF hyk hyl hp;go_wp2_with (refine qan (x:=.tmp 40) (k:=p*2) (n:=2) (r:=wdV (F p)) HST.out.m (by rw [qd7]; have:=HP5.out; omega) HPART.out rfl rfl rfl huw rfl qb2 ?_);refine qab (HPL.out _) ?_;rintro e w2 ⟨rfl,hb2⟩;have hs2:=HST.out.next hb2;have HS2:=zY hs2;clear HST hs2 hb2;go_wp2_with (refine qcq (x:=.tmp 45) (k:=p*2) (n:=2) (r:=wdV (F p+x19*yk)) HS2.out.m (by rw [qd7]; have:=HP5.out; omega) HPUT.out rfl (by simp [wdV,Value.oneCell']) rfl rfl rfl rfl qb2 ?_; intro w5 hb5 hw5);exact ⟨⟨k+1,by omega,by go_num,HS2.out.putM hw5 hb5⟩,by simp [intOf]; omega⟩
     ·obtain ⟨p,hp⟩:=eX (i+k);have hp5:p<5:=by omega
      have hpi:(i:Int)+(k:Int)=(p:Int):=by omega
      have hgei:¬ (5:Int)≤(p:Int):=by omega
      have hrow:rowN x y i (accN x y i) (k+1)=updN F p (F p+xi*yk):=by
       have e1:posN i k=p:=by unfold posN; rw [if_neg hge]; exact hp.symm
       have e2:termN x y i k=xi*yk:=by unfold termN; rw [if_neg hge,← HXI.out,← hyk]
       simp only [rowN,e1,e2,← hF]
      rw [← hF] at hst
      have hplus:=plus_any (F p) xi yk (by have:=HXL.out; omega) (by omega) (by
       have h1:=hFl p;have h2:=qei (a:=xi) (b:=yk) (m:=85568392920039406) (n:=4503599627370496) (by have:=HXL.out; omega) hyl;have h3:(85568392920039406 - 1)*(4503599627370496 - 1)=385365782469381566918211934355475:=by decide
       rw [h3] at h2; omega)
      have hpart:=rV_part F p hp5;have hput:=rV_put F p (F p+xi*yk) hp5;rw [← hrow] at hput;have HPL:=zY hplus;have HPART:=zY hpart;have HPUT:=zY hput;have HST:=zY hst;have HP5:=zY hp5;clear hplus hpart hput hst hrow hFl hF hyk hyl hp hge;go_wp2_with (refine qan (x:=.tmp 52) (k:=p*2) (n:=2) (r:=wdV (F p)) HST.out.m (by rw [qd7]; have:=HP5.out; omega) HPART.out rfl rfl rfl huw rfl qb2 ?_);refine qab (HPL.out _) ?_;rintro e w2 ⟨rfl,hb2⟩;have hs2:=HST.out.next hb2;have HS2:=zY hs2;clear HST hs2 hb2;go_wp2_with (refine qcq (x:=.tmp 57) (k:=p*2) (n:=2) (r:=wdV (F p+xi*yk)) HS2.out.m (by rw [qd7]; have:=HP5.out; omega) HPUT.out rfl (by simp [wdV,Value.oneCell']) rfl rfl rfl rfl qb2 ?_; intro w5 hb5 hw5);exact ⟨⟨k+1,by omega,by go_num,HS2.out.putM hw5 hb5⟩,by simp [intOf]; omega⟩
    ·obtain rfl:k=5:=by omega
     have hs6:M4 w g h r s (eV x) (eV y) (eV zE) (rV (accN x y (i+1))) wr:=hst;have HS6:=zY hs6;clear hst hs6;go_wp2_with fail;exact ⟨⟨i+1,by omega,by go_num,HS6.out⟩,by simp [intOf]; omega⟩
  ·obtain rfl:i=5:=by omega
   obtain ⟨R,hR⟩:=eX (mulR x y);have hRl:∀ j,(limbs R).getD j 0<2596148429267413814265248164610048:=fun j=>by rw [hR]; exact qbg (mulR_lt HX.out HY.out).1 (by decide) j
   have hRe:(limbs R).getD 4 0<162259276829213363391578010288128:=by rw [hR]; exact (mulR_lt HX.out HY.out).2
   have hacc:∀ j,j<5→accN x y 5 j=(limbs R).getD j 0:=fun j hj=>by rw [hR]; exact acc_end x y j hj
   have hbig:(carryE R).Lt 18446744073709551616:=by rw [hR]; exact mul_big HX.out HY.out
   have hmul:mulE x y=carryE (carryE R):=by rw [hR]; rfl
   have ho:=hst.out (eV zE);obtain ⟨A,hA⟩:=eX (rV (accN x y 5));have hpart:∀ j,j<5→((A.toList.drop (j*2)).take 2).toArray=wdV ((limbs R).getD j 0):=fun j hj=>by rw [hA,rV_part _ _ hj,hacc j hj]
   have hlo:∀ j,j<5→A[j*2+1]?=some (.int .u64 (((limbs R).getD j 0%18446744073709551616:Nat):Int)):=fun j hj=>by rw [hA,rV_lo _ _ hj,hacc j hj]
   have hAs:A.size=10:=by rw [hA,qd7]
   rw [← hA] at ho;have HO:=zY ho;have HRL:=zY hRl;have HRE:=zY hRe;have HBIG:=zY hbig;have HMUL:=zY hmul;have HPART:=zY hpart;have HLO:=zY hlo;have HAS:=zY hAs;clear ho hRl hRe hbig hmul hpart hlo hAs hst hacc hR hA;go_wp2_with fail;obtain ⟨wo,hwo⟩:=eX (wr.alloc (.cells #[.int .u64 0,.int .u64 0,.int .u64 0,.int .u64 0,.int .u64 0] 79));obtain ⟨o,hoo⟩:=eX (wr.heap.size);rw [← hwo,← hoo];have ho:O3 w r s o (eV zE) A (mixV (carryE R) zE 0) wo:=by rw [hwo,hoo]; exact HO.out
   have HOO:=zY ho;clear ho hwo hoo HO
   go_loopw [60] (fun i wr=>∃ k:Nat,k≤5∧i=.int .i64 k∧O3 w r s o (eV zE) A (mixV (carryE R) zE k) wr) (fun i _=>5 - (intOf i).toNat)
   case atStart=>exact ⟨0,by omega,rfl,HOO.out⟩
   case round =>
    clear HOO;obtain ⟨k,hk,rfl,hst⟩:=hrel
    by_cases hlt2:k<5
    ·have hlt3:(k:Int)<5:=by omega
     obtain ⟨j,hj⟩:=eX (if k=0 then 4 else k - 1);have hj5:j<5:=by rw [hj]; split <;> omega
     have hjk:((k:Int)+5 - 1)%5=(j:Int):=by rw [hj]; split <;> omega
     have hjk2:((k:Int)+4)%5=(j:Int):=by rw [hj]; split <;> omega
     obtain ⟨m,hm⟩:=eX ((limbs R).getD j 0);obtain ⟨l,hl⟩:=eX ((limbs R).getD k 0);have hml:m<2596148429267413814265248164610048:=by rw [hm]; exact HRL.out j
     have hm4:k=0→m<162259276829213363391578010288128:=fun h0=>by
      rw [hm,hj,if_pos h0]; exact HRE.out
     have hset:=qcL (carryE R) zE k hlt2
     have hval:(limbs (carryE R)).getD k 0=l%2251799813685248+(if k=0 then m/2251799813685248*19 else m/2251799813685248):=by
      rw [carryE_at _ _ hlt2,← hl,hm,hj]
      by_cases h0:k=0
      ·simp only [h0,if_pos]; rw [qdT _ _ (by decide)]
      ·simp only [h0,if_false]; rw [qdT _ _ (by omega)]
     rw [hval] at hset;have hpj:=HPART.out j hj5;rw [← hm] at hpj;have hlk:=HLO.out k hlt2;rw [← hl] at hlk;obtain ⟨lo,hlo⟩:=eX (l%18446744073709551616);rw [← hlo] at hlk;have hlol:lo<18446744073709551616:=by rw [hlo]; exact Nat.mod_lt _ (by decide)
     have hlm:lo%2251799813685248=l%2251799813685248:=by rw [hlo]; omega
     rw [← hlm] at hset;have hov:=over_any m (by omega);obtain ⟨v,hv⟩:=eX (m/2251799813685248);have hvl:v<1152921504606846976:=by rw [hv]; omega
     have hv0:k=0→v<72057594037927936:=fun h0=>by have:=hm4 h0; rw [hv]; omega
     rw [← hv] at hov hset;have d0:=hst.m.cell (k*2+1);rw [hlk] at d0;have q0:=hst.o.free k;have q1:=hst.o.cell k;have HSET:=zY hset;have HST:=zY hst;have HJ:=zY hj;have HPJ:=zY hpj;have HOV:=zY hov;have HJ5:=zY hj5;have HV0:=zY hv0;have HVL:=zY hvl;have HLK:=zY hlk;clear hset hst hl hm hval hj hpj hlk hlo hlm hov hv hv0 hml hm4 hvl
     by_cases h0:k=0
     ·subst h0;obtain rfl:j=4:=by have:=HJ.out; simpa using this
      have hv1:v<72057594037927936:=HV0.out rfl;have hw19:IntKind.u64.wrap ((v:Int)*19)=(v:Int)*19:=by rw [IntKind.wrap_u64]; omega
      have hset1:=HSET.out;rw [if_pos rfl] at hset1;have HSET1:=zY hset1;clear hset1 HSET;have HV1:=zY hv1;have HW19:=zY hw19;rw [show ((0:Nat):Int)=0 from rfl];clear hjk hjk2 hlt3 HV0 hv1 hw19;go_wp2_with (refine qan (x:=.tmp 67) (k:=4*2) (n:=2) (r:=wdV m) HST.out.m (by rw [HAS.out]; decide) HPJ.out rfl rfl rfl huw rfl qb2 ?_);refine qab (HOV.out _) ?_;rintro e w2 ⟨rfl,hb2⟩;have hs2:=HST.out.next hb2;have d0:=hs2.m.cell (0*2+1);rw [HLK.out] at d0;have q0:=hs2.o.free 0;have q1:=hs2.o.cell 0;rw [qcX _ _ _ hlt2] at q1;have HS2:=zY hs2;clear HST hs2 hb2;go_wp2_with fail;refine ⟨?_,by simp [intOf]⟩
      repeat (apply Exists.intro)
      refine ⟨?_,rfl⟩;refine ⟨1,by omega,rfl,HS2.out.put (qai _ _ _ _) ?_⟩;rw [HW19.out,mask_sum19 lo v hlol (by have:=HV1.out; omega)];have h:=qak (i:=0) HS2.out.o (.int .u64 ((lo%2251799813685248+v*19:Nat):Int));rw [HSET1.out] at h;exact h
     ·have hb:((k:Int) == 0)=false:=by rw [beq_eq_false_iff_ne]; omega
      go_wp2_with (refine qan (x:=.tmp 67) (k:=j*2) (n:=2) (r:=wdV m) HST.out.m (by rw [HAS.out]; have:=HJ5.out; omega) HPJ.out rfl rfl rfl huw rfl qb2 ?_);refine qab (HOV.out _) ?_;rintro e w2 ⟨rfl,hb2⟩;have hs2:=HST.out.next hb2;have d0:=hs2.m.cell (k*2+1);rw [HLK.out] at d0;have q0:=hs2.o.free k;have q1:=hs2.o.cell k;rw [qcX _ _ _ hlt2] at q1;have HS2:=zY hs2;clear HST hs2 hb2;go_wp2_with fail;refine ⟨?_,by simp [intOf]; omega⟩
      repeat (apply Exists.intro)
      refine ⟨?_,rfl⟩;refine ⟨k+1,by omega,by go_num,HS2.out.put (qai _ _ _ _) ?_⟩;rw [mask_sum lo v hlol (by have:=HVL.out; omega)];have h:=qak (i:=k) HS2.out.o (.int .u64 ((lo%2251799813685248+v:Nat):Int));have h2:=HSET.out;rw [if_neg h0] at h2;rw [h2] at h;exact h
    ·obtain rfl:k=5:=by omega
     rw [qcM] at hst;have HST:=zY hst;clear hst;go_wp2_with (refine qac (x:=.tmp 11) HST.out.o rfl rfl rfl hu rfl qah ?_);refine qab (qbQ (carryE R) _ HBIG.out) ?_;rintro e w2 ⟨rfl,hb2⟩;have hs2:=HST.out.next hb2;have HS2:=zY hs2;clear HST hs2 hb2;rw [← HMUL.out];go_wp2_with (refine qad (x:=.tmp 4) (cells:=eV (mulE x y)) HS2.out.z rfl rfl rfl rfl qah rfl (by simp [eV,wV,limbs,Value.oneCell']) ?_; intro w5 hb5 hw5);refine bodyPost_ret (qau (P:=Tryz.prog) rfl rfl hb5 hu rfl qah) rfl ⟨rfl,?_⟩;exact hw5.below HS2.out.bel HS2.out.lr HS2.out.bel.size
def natE (m:Nat):E5:=⟨m%2251799813685248,m/2251799813685248,0,0,0⟩
def intE (n:Int):E5:=if n<0 then subE zE (natE n.natAbs) else natE n.natAbs
theorem natE_val (m:Nat):(natE m).val=m:=by simp only [natE,E5.val]; omega
theorem natE_ok {m:Nat} (h:m≤9223372036854775808):(natE m).Ok:=by constructor <;> simp only [natE] <;> omega
theorem zE_ok:zE.Ok:=by constructor <;> decide
theorem intE_ok {n:Int} (h1:-9223372036854775808≤n) (h2:n<9223372036854775808):(intE n).Ok:=by
 unfold intE
 split
 ·exact qbR zE_ok (natE_ok (by omega))
 ·exact natE_ok (by omega)
theorem int_any (n:Int) (h1:-9223372036854775808≤n) (h2:n<9223372036854775808) (w:World):Calls Tryz.prog 66 #[.int .i64 n] w (ElemPost (intE n) w):=by
 have hu:=Tryz.underlying79
 have hst0:G2 w (w.heap.size+1) w.heap.size (eV (natE n.natAbs)) (eV zE) ((w.alloc (.cells (eV zE) 79)).alloc (.cells (eV (natE n.natAbs)) 79)) :=
  ⟨(below_new _ _).alloc (by simp) _,Blk.newAt (by simp),(Blk.new _ _ _).alloc _,by omega,Nat.le_refl _,by omega⟩
 have HST0:=zY hst0;obtain ⟨m,hm⟩:=eX (n.natAbs);have hml:m≤9223372036854775808:=by omega
 have hok:=natE_ok hml;rw [← hm] at HST0
 by_cases hneg:n<0
 ·have hi:intE n=subE zE (natE m):=by unfold intE; rw [if_pos hneg,hm]
  obtain rfl:n=-(m:Int):=by omega
  obtain ⟨u,hum⟩:=eX (18446744073709551616 - m);have hw1:IntKind.u64.wrap (-(m:Int))=(u:Int):=by rw [IntKind.wrap_u64]; omega
  have hw2:IntKind.u64.wrap (-(u:Int))=(m:Int):=by rw [IntKind.wrap_u64]; omega
  have hd:0<m:=by omega
  have hmk:=qel m (by omega);rw [hi];have hE:eV (natE m)=#[.int .u64 ((m:Int)%2251799813685248),.int .u64 ((m:Int)/2251799813685248),.int .u64 0,.int .u64 0,.int .u64 0]:=by simp [eV,wV,limbs,natE]
  have hZ:eV zE=#[.int .u64 0,.int .u64 0,.int .u64 0,.int .u64 0,.int .u64 0]:=by simp [eV,wV,limbs,zE]
  have hc:=fun u=>sub_any zE (natE m) u (zE_ok.mono (by decide)) hok.big;rw [hE,hZ] at hc HST0;have HC:=zY hc;clear hst0 hi hok h1 h2 hml hneg hum hm hc hE hZ;go_enter Tryz.func66,Tryz.ntmps66;go_wp2_with fail;refine qab (HC.out _) ?_;rintro e w2 ⟨rfl,hb2⟩;have hs2:=HST0.out.next hb2;have HS2:=zY hs2;clear HST0 hs2 hb2;go_wp2_with (refine qad (x:=.tmp 2) (cells:=eV (subE zE (natE m))) HS2.out.z rfl rfl rfl rfl qah rfl (by simp [eV,wV,limbs,Value.oneCell']) ?_; intro w5 hb5 hw5);refine bodyPost_ret (qau (P:=Tryz.prog) rfl rfl hb5 hu rfl qah) rfl ⟨rfl,?_⟩;exact hw5.below HS2.out.bel HS2.out.lr HS2.out.bel.size
 ·have hi:intE n=natE m:=by unfold intE; rw [if_neg hneg,hm]
  obtain rfl:n=(m:Int):=by omega
  have hw1:IntKind.u64.wrap (m:Int)=(m:Int):=by rw [IntKind.wrap_u64]; omega
  have hmk:=qel m (by omega);rw [hi];have hE:eV (natE m)=#[.int .u64 ((m:Int)%2251799813685248),.int .u64 ((m:Int)/2251799813685248),.int .u64 0,.int .u64 0,.int .u64 0]:=by simp [eV,wV,limbs,natE]
  have hZ:eV zE=#[.int .u64 0,.int .u64 0,.int .u64 0,.int .u64 0,.int .u64 0]:=by simp [eV,wV,limbs,zE]
  rw [hE,hZ] at HST0;have HE:=zY hE;clear hst0 hi hok h1 h2 hml hneg hm hE hZ;go_enter Tryz.func66,Tryz.ntmps66;go_wp2_with fail;refine bodyPost_ret (qau (P:=Tryz.prog) rfl rfl ((Blk.new w _ _).alloc _) hu rfl qah) rfl ⟨by rw [HE.out],?_⟩;exact (below_new _ _).alloc (by simp) _
theorem and_one (l:Nat) (h:l<18446744073709551616):bits .and .u64 (l:Int) 1=((l%2:Nat):Int):=by
 have h1:=and64 l 1 h (by decide);rw [show ((1:Nat):Int)=1 from rfl] at h1;rw [h1]
 congr 1
 exact Nat.and_two_pow_sub_one_eq_mod l 1
theorem odd_any (x:E5) (w:World) (hx:x.Lt 18446744073709551616):Calls Tryz.prog 50 #[.agg (eV x)] w (fun e w'=>e=.returned (.bool (decide ((leastE x).a%2=1)))∧Below w.heap.size w w'):=by
 have hu:=Tryz.underlying79;have hu5:=Tryz.underlying77;have HX:=zY hx;clear hx;obtain ⟨z,hz⟩:=eX (leastE x);have hzl:z.a<2251799813685248:=by rw [hz]; exact (least_lt x).a
 rw [← hz];have HZ:=zY hz;have HZL:=zY hzl
 have hix:∀ u:World,(Instr.index 77 (.agg (eV z)) (.int .i64 0)).run Tryz.prog u=.ok (.int .u64 (z.a:Int)) u:=fun u =>
  qaR (k:=0) (n:=5) (e:=76) hu5 (by decide) rfl (by kernel_rfl) (by kernel_rfl) ⟨_,Tryz.underlying76⟩
 have hfd:∀ u:World,(Instr.field 79 (.agg (eV z)) 0).run Tryz.prog u=.ok (.agg (eV z)) u:=fun u=>by kernel_rfl
 have hb0:=Blk.new w 79 (eV x);have HB0:=zY hb0;clear hz hzl hb0;go_enter Tryz.func50,Tryz.ntmps50;go_wp2_with (refine qac (x:=.tmp 1) HB0.out rfl rfl rfl hu rfl qah ?_);refine qab (least_any x _ HX.out) ?_;rintro e w2 ⟨rfl,hb2⟩;rw [← HZ.out];go_wp2_with fail;go_ret;refine ⟨?_,(below_new _ _).trans (hb2.mono (by simp))⟩;rw [and_one z.a (by have:=HZL.out; omega)]
 have e:(((z.a%2:Nat):Int) == 1)=decide (z.a%2=1):=by
  rw [Bool.eq_iff_iff,beq_iff_eq,decide_eq_true_iff];omega
 exact congrArg (fun b=>Ending.returned (.bool b)) e
def byN (N:Nat):List Nat:=(List.range 32).map fun j=>N/256^j%256
theorem qbs (N:Nat):(byN N).length=32:=by simp [byN]
theorem byN_at (N j:Nat) (h:j<32):(byN N)[j]?=some (N/256^j%256):=by simp [byN,h]
theorem pow256 (j:Nat):256^j=2^(8*j):=by rw [Nat.pow_mul]
theorem byN_zero:byN 0=List.replicate 32 0:=by decide
theorem mod_bit (V n:Nat):V%2^(n+1)=V%2^n+V/2^n%2*2^n:=by
 rw [Nat.pow_succ,Nat.mod_mul,Nat.mul_comm]
theorem byte_other (N b n j:Nat) (hN:N<2^n) (hb:b<2) (hj:j≠n/8):(N+b*2^n)/256^j%256=N/256^j%256:=by
 rw [pow256]
 by_cases h:j<n/8
 ·obtain ⟨d,hd⟩:∃ d,n=8*j+(8+d):=⟨n - 8*j - 8,by omega⟩
  have e:b*2^n=2^(8*j)*(256*(b*2^d)):=by
   rw [hd,Nat.pow_add,Nat.pow_add,show (2:Nat)^8=256 from rfl];rw [Nat.mul_left_comm,Nat.mul_left_comm b 256]
  rw [e,Nat.add_mul_div_left _ _ (Nat.two_pow_pos _),Nat.add_mul_mod_self_left]
 ·have hle:n+1≤8*j:=by omega
  have h2:2^(n+1)≤2^(8*j):=Nat.pow_le_pow_right (by decide) hle;rw [Nat.pow_succ] at h2;have h3:b*2^n≤1*2^n:=Nat.mul_le_mul_right _ (by omega);rw [Nat.div_eq_of_lt (by omega),Nat.div_eq_of_lt (by omega)]
theorem byte_this (N b n:Nat) (hN:N<2^n) (hb:b<2):(N+b*2^n)/256^(n/8)%256=N/256^(n/8)%256 ||| b*2^(n%8):=by
 obtain ⟨q,r,hr,rfl⟩:∃ q r,r<8∧n=8*q+r:=⟨n/8,n%8,by omega,by omega⟩;rw [show (8*q+r)/8=q by omega,show (8*q+r)%8=r by omega,pow256];have hp:=Nat.two_pow_pos (8*q);have e:b*2^(8*q+r)=2^(8*q)*(b*2^r):=by rw [Nat.pow_add,Nat.mul_left_comm]
 rw [e,Nat.add_mul_div_left _ _ hp]
 have hlt:N/2^(8*q)<2^r:=by
  rw [Nat.div_lt_iff_lt_mul hp,← Nat.pow_add,Nat.add_comm]; exact hN
 have hr8:2^(r+1)≤2^8:=Nat.pow_le_pow_right (by decide) (by omega);rw [Nat.pow_succ,show (2:Nat)^8=256 from rfl] at hr8;have hb2:b*2^r≤1*2^r:=Nat.mul_le_mul_right _ (by omega);rw [Nat.mod_eq_of_lt (by omega),Nat.mod_eq_of_lt (a:=N/2^(8*q)) (by omega)];have h:=Nat.shiftLeft_add_eq_or_of_lt hlt b;rw [Nat.shiftLeft_eq] at h;rw [Nat.add_comm,h,Nat.or_comm]
theorem byN_step (V n:Nat) (hn:n<256):(byN (V%2^n)).set (n/8) (V%2^n/256^(n/8)%256 ||| V/2^n%2*2^(n%8))=byN (V%2^(n+1)):=by
 have hN:V%2^n<2^n:=Nat.mod_lt _ (Nat.two_pow_pos _);have hb:V/2^n%2<2:=Nat.mod_lt _ (by decide);rw [mod_bit];apply List.ext_getElem?;intro j
 by_cases hj:j<32
 ·rw [byN_at _ _ hj,List.getElem?_set]
  by_cases h:n/8=j
  ·rw [if_pos h,if_pos (by rw [qbs]; exact h▸hj),← h,byte_this _ _ _ hN hb]
  ·rw [if_neg h,byN_at _ _ hj,byte_other _ _ _ _ hN hb (Ne.symm h)]
 ·rw [List.getElem?_eq_none (by rw [List.length_set,qbs]; omega),List.getElem?_eq_none (by rw [qbs]; omega)]
theorem high_bit (l r k:Nat) (hk:k<51):(l+2251799813685248*r)/2^k%2=l/2^k%2:=by
 obtain ⟨d,hd⟩:∃ d,51=k+(1+d):=⟨50 - k,by omega⟩
 have e:2251799813685248*r=2^k*(2*(2^d*r)):=by
  rw [show (2251799813685248:Nat)=2^51 from rfl,hd,Nat.pow_add,Nat.pow_add,Nat.pow_one,Nat.mul_assoc,Nat.mul_assoc]
 rw [e,Nat.add_mul_div_left _ _ (Nat.two_pow_pos _),Nat.add_mul_mod_self_left]
def bnV (l:List Nat):List Value:=l.map fun n:Nat=>Value.int .u8 (n:Int)
theorem bnV_at {l:List Nat} {j n:Nat} (h:l[j]?=some n):(bnV l).toArray[j]?=some (.int .u8 (n:Int)):=by simp [bnV,h]
theorem qcm (l:List Nat) (j n:Nat):(bnV l).toArray.setIfInBounds j (.int .u8 (n:Int))=(bnV (l.set j n)).toArray:=by simp [bnV,List.map_set]
theorem val_bit (x:E5) (hx:x.Lt 2251799813685248) (i k n:Nat) (hi:i<5) (hk:k<51) (hn:i*51+k=n):x.val/2^n%2=(limbs x).getD i 0/2^k%2:=by
 rw [← hn,Nat.pow_add,← Nat.div_div_eq_div_mul];obtain ⟨h1,h2,h3,h4,h5⟩:=hx
 have go:∀ l r:Nat,x.val/2^(i*51)=l+2251799813685248*r→(limbs x).getD i 0=l→x.val/2^(i*51)/2^k%2=(limbs x).getD i 0/2^k%2:=fun l r e f=>by
  rw [e,f]; exact high_bit l r k hk
 match i,hi with
 | 0,_=>exact go x.a (x.b+x.c*2251799813685248+x.d*5070602400912917605986812821504+x.e*11417981541647679048466287755595961091061972992) (by simp only [E5.val]; omega) rfl
 | 1,_=>exact go x.b (x.c+x.d*2251799813685248+x.e*5070602400912917605986812821504) (by rw [show (2:Nat)^(1*51)=2251799813685248 by decide]; simp only [E5.val]; omega) rfl
 | 2,_=>exact go x.c (x.d+x.e*2251799813685248) (by rw [show (2:Nat)^(2*51)=5070602400912917605986812821504 by decide]; simp only [E5.val]; omega) rfl
 | 3,_=>exact go x.d x.e (by rw [show (2:Nat)^(3*51)=11417981541647679048466287755595961091061972992 by decide]; simp only [E5.val]; omega) rfl
 | 4,_=>exact go x.e 0 (by rw [show (2:Nat)^(4*51)=25711008708143844408671393477458601640355247900524685364822016 by decide]; simp only [E5.val]; omega) rfl
structure B2 (w0:World) (g o:Nat) (x:Array Value) (l:List Nat) (u:World):Prop where
 bel:Below w0.heap.size w0 u
 x:Blk u g 79 x
 out:Blk u o 5 (bnV l).toArray
 lo:w0.heap.size≤o
 go:g≠o
theorem B2.put {w0 u u':World} {g o:Nat} {x:Array Value} {l l':List Nat} (k:B2 w0 g o x l u) (hw:Wrote o u u') (hb:Blk u' o 5 (bnV l').toArray):B2 w0 g o x l' u' :=
 ⟨hw.below k.bel k.lo k.bel.size,hw.blk k.x k.go,hb,k.lo,k.go⟩
theorem B2.drew {w0 u:World} {g o:Nat} {x:Array Value} {l:List Nat} (k:B2 w0 g o x l u):B2 w0 g o x l u.drew :=
 ⟨k.bel.drew,k.x,k.out,k.lo,k.go⟩
theorem b2_new (w0 u:World) (g:Nat) (x:Array Value) (hbel:Below w0.heap.size w0 u) (hx:Blk u g 79 x):B2 w0 g u.heap.size x (byN 0) (u.alloc (.cells (bnV (byN 0)).toArray 5)) :=
 ⟨hbel.alloc hbel.size _,hx.alloc _,Blk.new _ _ _,hbel.size,Nat.ne_of_lt hx.lt⟩
def BytesPost (N:Nat) (w:World) (e:Ending) (w':World):Prop :=
 ∃ o,e=.returned (.slice (some ⟨o,0,none⟩) 32 32)∧w.heap.size≤o∧Blk w' o 5 (bnV (byN N)).toArray∧Below w.heap.size w w'
theorem bytes_any (x:E5) (w:World) (hx:x.Lt 18446744073709551616):Calls Tryz.prog 49 #[.agg (eV x)] w (BytesPost (leastE x).val w):=by
 have hu:=Tryz.underlying79;have hu5:=Tryz.underlying77;obtain ⟨z,hz⟩:=eX (leastE x);have hzl:z.Lt 2251799813685248:=by rw [hz]; exact least_lt x
 have hmk:∀ u:World,(Instr.makeSlice 23 (.int .i64 32) (.int .i64 32)).run Tryz.prog u=.ok (.slice (some ⟨u.heap.size,0,none⟩) 32 32) (u.alloc (.cells (bnV (byN 0)).toArray 5)):=fun _=>by rw [byN_zero]; kernel_rfl
 rw [← hz];have HX:=zY hx;have HZ:=zY hz;have HZL:=zY hzl;have hb0:=Blk.new w 79 (eV x);have HB0:=zY hb0;clear hx hz hzl hb0;go_enter Tryz.func49,Tryz.ntmps49;go_wp2_with (refine qac (x:=.tmp 1) HB0.out rfl rfl rfl hu rfl qah ?_);refine qab (least_any x _ HX.out) ?_;rintro e w2 ⟨rfl,hb2⟩;rw [← HZ.out];have hb3:Below w.heap.size w w2:=(below_new _ _).trans (hb2.mono (by simp));have hb4:=HB0.out.below hb2 HB0.out.lt;have HB3:=zY hb3;have HB4:=zY hb4;clear hb2 hb3 hb4 HB0;generalize hg:w.heap.size=g at *
 go_wp2_with (first
  | (refine qad (x:=.tmp 1) (cells:=eV z) HB4.out rfl rfl rfl rfl qah rfl (by simp [eV,wV,limbs,Value.oneCell']) ?_; intro w5 hb5 hw5; have HB5:=zY hb5; have HW5:=zY hw5; clear hb5 hw5)
  | (refine qan (x:=.tmp 11) (n:=5) (r:=eV z) (HB5.out.alloc _) (by rw [eV_size]; decide) rfl rfl rfl rfl hu5 rfl qdd ?_))
 have hst0:=b2_new w w5 g (eV z) (by
  rw [hg];exact HW5.out.below HB3.out (Nat.le_refl _) (by rw [← hg]; exact HB3.out.size)) HB5.out
 obtain ⟨o,ho⟩:=eX (w5.heap.size);obtain ⟨V,hV⟩:=eX (z.val);have h00:byN 0=byN (V%2^(0*51)):=by rw [Nat.zero_mul,Nat.pow_zero,Nat.mod_one]
 rw [← ho,h00] at hst0;rw [← ho,h00,← hV];have HV:=zY hV;have HST0:=zY hst0;clear hst0 ho HB3 HB4 HB5 HW5 hmk h00 hV
 go_loopw [13] (fun i wr=>∃ k:Nat,k≤5∧i=.int .i64 k∧B2 w g o (eV z) (byN (V%2^(k*51))) wr) (fun i _=>5 - (intOf i).toNat)
 case atStart=>exact ⟨0,by omega,rfl,HST0.out⟩
 case round =>
  clear HST0;obtain ⟨i,hi,rfl,hst⟩:=hrel
  by_cases hlt:i<5
  ·have hlt':(i:Int)<5:=by omega
   obtain ⟨l,hl⟩:=eX ((limbs z).getD i 0);have hll:l<2251799813685248:=by rw [hl]; exact qbg HZL.out (by decide) i
   have hix:∀ u:World,(Instr.index 77 (.agg (eV z)) (.int .i64 (i:Int))).run Tryz.prog u=.ok (.int .u64 (l:Int)) u:=fun u =>
    qaR (n:=5) (e:=76) hu5 hlt (by rw [hl]; exact eV_at z i hlt) (by kernel_rfl) (by kernel_rfl) ⟨_,Tryz.underlying76⟩
   have hst':B2 w g o (eV z) (byN (V%2^(i*51+0))) wr:=hst;have HST:=zY hst';have HL:=zY hl;have HLL:=zY hll;clear hst hst' hl hll;go_wp2_with fail;obtain ⟨wo,rfl⟩:=eX wr
   go_loopw [17] (fun c wr=>∃ k:Nat,k≤51∧c=.int .i64 k∧B2 w g o (eV z) (byN (V%2^(i*51+k))) wr) (fun c _=>51 - (intOf c).toNat)
   case atStart=>exact ⟨0,by omega,rfl,HST.out⟩
   case round =>
    clear HST hix;obtain ⟨k,hk,rfl,hst⟩:=hrel
    by_cases hltk:k<51
    ·have hltk':(k:Int)<51:=by omega
     obtain ⟨n,hn⟩:=eX (i*51+k);have hni:(i:Int)*51+(k:Int)=(n:Int):=by omega
     obtain ⟨q,hq⟩:=eX (n/8);obtain ⟨r,hr⟩:=eX (n%8);have hqi:(n:Int)/8=(q:Int):=by omega
     have hri:(n:Int)%8=(r:Int):=by omega
     have hq32:(q:Int)<32:=by omega
     have hr8:(r:Int)<8:=by omega
     have hstep:=byN_step V n (by omega);have hbit:=val_bit z HZL.out i k n hlt hltk hn.symm;rw [← HV.out,← HL.out] at hbit;rw [← hq,← hr,hbit] at hstep;rw [← hn] at hst;have hcur:=byN_at (V%2^n) q (by omega);obtain ⟨y,hy⟩:=eX (V%2^n/256^q%256);rw [← hy] at hstep hcur;have hyl:y<256:=by rw [hy]; exact Nat.mod_lt _ (by decide)
     obtain ⟨lk,hlk⟩:=eX (l/2^k);rw [← hlk] at hstep;have hlkl:lk<2251799813685248:=by rw [hlk]; exact Nat.lt_of_le_of_lt (Nat.div_le_self _ _) HLL.out
     have hlki:(l:Int)/2^k=(lk:Int):=by rw [hlk,qcc]
     obtain ⟨b,hb⟩:=eX (lk%2);rw [← hb] at hstep;have HLK:=zY hlki;have HLKL:=zY hlkl;have hbl:b<2:=by rw [hb]; exact Nat.mod_lt _ (by decide)
     obtain ⟨LN,hLN⟩:=eX (byN (V%2^n));rw [← hLN] at hstep hcur hst;obtain ⟨LM,hLM⟩:=eX (byN (V%2^(n+1)));rw [← hLM] at hstep;obtain ⟨s,hs⟩:=eX (b*2^r);rw [← hs] at hstep
     have hsl:s<256:=by
      have e1:2^r≤2^7:=Nat.pow_le_pow_right (by decide) (by omega);have e2:b*2^r≤1*2^7:=Nat.mul_le_mul (by omega) e1;rw [hs]; exact Nat.lt_of_le_of_lt e2 (by decide)
     have hsi:(b:Int)*2^r%256=(s:Int):=by
      rw [shl_int,← hs]; omega
     have hor:=or8 (a:=y) (b:=s) hyl hsl;obtain ⟨yn,hyn⟩:=eX (y ||| s);rw [← hyn] at hor hstep;have HOR:=zY hor;have HSI:=zY hsi;have HSTEP:=zY hstep;have HCUR:=zY (bnV_at hcur);have HB:=zY hb;have HBL:=zY hbl;have HYL:=zY hyl;have HLM:=zY hLM;have HN:=zY hn;have HC0:=hst.drew;clear hst hstep hcur hb hbl hyl hLM hLN hy hbit hq hr hn hlk hlki hlkl hs hsl hsi hor hyn;go_wp2_with fail;refine qal (fun u=>B2 w g o (eV z) LN u) (fun u=>B2 w g o (eV z) LM u) [(0,some 24),(1,some 25),(2,some 26),(3,some 27),(4,some 28),(5,some 29),(6,some 30),(7,some 31),(8,some 32),(9,some 33),(10,some 34),(11,some 35),(12,some 36),(13,some 37),(14,some 38),(15,none)] (by kernel_rfl) (by kernel_rfl) (by decide) (by kernel_rfl) (fun _=>rfl) HC0 ?_;apply yN_
     ·apply dP [];exact fun _=>rfl;rfl;rintro vals - w1 hC1 E hE;simp only [sP] at hE ⊢;go_wp2;exact .mk (hE _ hC1)
     apply yN_
     ·apply dP [];exact fun _=>rfl;rfl;rintro vals ⟨-,-⟩ w1 hC1 E hE;simp only [sP] at hE ⊢;go_wp2;exact .mk (hE _ hC1)
     apply yN_
     ·apply dP [(1,some 25)];exact fun _=>rfl;rfl;intro vals vq w1 hC1 E hE;simp only [sP,vq] at hE ⊢;clear vq;go_wp2;exact .mk (hE _ hC1)
     apply yN_
     ·apply dP [(0,some 24),(2,some 26)];exact fun _=>rfl;rfl;intro vals vq w1 hC1 E hE;simp only [sP,vq] at hE ⊢;clear vq;go_wp2;exact .mk (hE _ hC1)
     apply yN_
     ·apply dP [(3,some 27)];exact fun _=>rfl;rfl;intro vals vq w1 hC1 E hE;have d0:=hC1.out.cell q;rw [HCUR.out] at d0;simp only [sP,vq] at hE ⊢;clear vq;go_wp2;exact .mk (hE _ hC1)
     apply yN_
     ·apply dP [];exact fun _=>rfl;rfl;intro vals vq w1 hC1 E hE;clear vq;simp only [sP] at hE ⊢;go_wp2;exact .mk (hE _ hC1)
     apply yN_
     ·apply dP [];exact fun _=>rfl;rfl;intro vals vq w1 hC1 E hE;clear vq;simp only [sP] at hE ⊢;go_wp2;exact .mk (hE _ hC1)
     apply yN_
     ·apply dP [(5,some 29),(6,some 30)];exact fun _=>rfl;rfl;intro vals vq w1 hC1 E hE;simp only [sP,vq] at hE ⊢;clear vq;go_wp2;rw [HLK.out];exact .mk (hE _ hC1)
     apply yN_
     ·apply dP [(7,some 31)];exact fun _=>rfl;rfl;intro vals vq w1 hC1 E hE;simp only [sP,vq] at hE ⊢;clear vq;go_wp2;rw [and_one lk (by have:=HLKL.out; omega),← HB.out];exact .mk (hE _ hC1)
     apply yN_
     ·apply dP [(8,some 32)];exact fun _=>rfl;rfl;intro vals vq w1 hC1 E hE;have hb8:(b:Int)<256:=by have:=HBL.out; omega
      simp only [sP,vq] at hE ⊢;clear vq;go_wp2;exact .mk (hE _ hC1)
     apply yN_
     ·apply dP [];exact fun _=>rfl;rfl;intro vals vq w1 hC1 E hE;clear vq;simp only [sP] at hE ⊢;go_wp2;exact .mk (hE _ hC1)
     apply yN_
     ·apply dP [(10,some 34)];exact fun _=>rfl;rfl;intro vals vq w1 hC1 E hE;simp only [sP,vq] at hE ⊢;clear vq;go_wp2;exact .mk (hE _ hC1)
     apply yN_
     ·apply dP [(9,some 33),(11,some 35)];exact fun _=>rfl;rfl;intro vals vq w1 hC1 E hE;simp only [sP,vq] at hE ⊢;clear vq;go_wp2;rw [HSI.out];exact .mk (hE _ hC1)
     apply yN_
     ·apply dP [(4,some 28),(12,some 36)];exact fun _=>rfl;rfl;intro vals vq w1 hC1 E hE;simp only [sP,vq] at hE ⊢;clear vq;go_wp2;rw [HOR.out];exact .mk (hE _ hC1)
     apply yN_
     ·apply dP [(0,some 24),(2,some 26),(0,some 24),(1,some 25),(2,some 26),(3,some 27),(4,some 28),(5,some 29),(6,some 30),(7,some 31),(8,some 32),(9,some 33),(10,some 34),(11,some 35),(12,some 36),(13,some 37)];exact fun _=>rfl;rfl;intro vals vq w1 hC1 E hE;simp only [sP,vq] at hE ⊢;clear vq;go_wp2;exact .mk (hE _ hC1)
     apply yL_ (v:=undef)
     ·apply dP [(14,some 38),(13,some 37),(0,some 24),(1,some 25),(2,some 26),(3,some 27),(4,some 28),(5,some 29),(6,some 30),(7,some 31),(8,some 32),(9,some 33),(10,some 34),(11,some 35),(12,some 36),(13,some 37)];exact fun _=>rfl;rfl;intro vals vq w1 hC1 E hE;have d0:=hC1.out.cell q;rw [HCUR.out] at d0;have q0:=hC1.out.free q;simp only [sP,vq] at hE ⊢;clear vq;go_wp2;refine .mk (hE _ (hC1.put (qai _ _ _ _) ?_));have h:=qak (i:=q) hC1.out (.int .u8 (yn:Int));rw [qcm,HSTEP.out] at h;exact h
     intro vals vq w1 hC1;simp only [sP,vq];clear vq;clear HC0
     have hfin:B2 w g o (eV z) (byN (V%2^(i*51+(k+1)))) w1:=by
      rw [show i*51+(k+1)=n+1 by rw [HN.out]; omega,← HLM.out];exact hC1
     have HFIN:=zY hfin;clear hC1 hfin;go_wp2_with fail;exact ⟨⟨k+1,by omega,by go_num,HFIN.out⟩,by simp [intOf]; omega⟩
    ·obtain rfl:k=51:=by omega
     rw [show i*51+51=(i+1)*51 by omega] at hst;have HST:=zY hst;clear hst;go_wp2_with fail;exact ⟨⟨i+1,by omega,by go_num,HST.out⟩,by simp [intOf]; omega⟩
  ·obtain rfl:i=5:=by omega
   have hmod:V%2^(5*51)=V:=by
    have h:=HZL.out;obtain ⟨h1,h2,h3,h4,h5⟩:=h;rw [HV.out,show (2:Nat)^(5*51)=57896044618658097711785492504343953926634992332820282019728792003956564819968 by decide];apply Nat.mod_eq_of_lt;simp only [E5.val];omega
   rw [hmod] at hst;have HST:=zY hst;clear hst hmod;go_wp2_with fail;go_ret;exact ⟨o,rfl,HST.out.lo,by rw [← HV.out]; exact HST.out.out,HST.out.bel⟩
def pwS (x out:E5) (bit:Nat):E5:=if bit=1 then mulE (mulE out out) x else mulE out out
def pwB (x out:E5) (b:Nat):Nat→E5
 | 0=>out
 | j+1=>pwS x (pwB x out b j) (b/2^(7 - j)%2)
def pwL (x:E5) (l:List Nat):Nat→E5
 | 0=>natE 1
 | j+1=>pwB x (pwL x l j) (l.getD (l.length - 1 - j) 0) 8
theorem pwS_ok {x out:E5} (hx:x.Ok) (ho:out.Ok) (bit:Nat):(pwS x out bit).Ok:=by
 unfold pwS
 split
 ·exact qba (qba ho ho) hx
 ·exact qba ho ho
theorem pwB_ok {x out:E5} (hx:x.Ok) (ho:out.Ok) (b:Nat):∀ j,(pwB x out b j).Ok
 | 0=>ho
 | j+1=>pwS_ok hx (pwB_ok hx ho b j) _
theorem pwL_ok {x:E5} (hx:x.Ok) (l:List Nat):∀ j,(pwL x l j).Ok
 | 0=>natE_ok (by decide)
 | j+1=>pwB_ok hx (pwL_ok hx l j) _ 8
theorem qd9 (a n m:Nat):a^n%PN*(a^m%PN)%PN=a^(n+m)%PN:=by
 rw [← Nat.mul_mod,Nat.pow_add]
theorem pwS_val {x out:E5} {n bit:Nat} (h:out.val%PN=x.val^n%PN) (hb:bit<2):(pwS x out bit).val%PN=x.val^(2*n+bit)%PN:=by
 have h2:(mulE out out).val%PN=x.val^(2*n)%PN:=by
  rw [mul_val,Nat.mul_mod,h,qd9,Nat.two_mul]
 unfold pwS
 split
 ·next e=>rw [mul_val,Nat.mul_mod,h2,e,← Nat.pow_one (x.val),Nat.pow_one,Nat.pow_add,Nat.pow_one,← Nat.mul_mod]
 ·next e =>
  obtain rfl:bit=0:=by omega
  exact h2
theorem pwB_val {x out:E5} {n:Nat} (h:out.val%PN=x.val^n%PN) (b:Nat):∀ j,j≤8→(pwB x out b j).val%PN=x.val^(n*2^j+b%256/2^(8 - j))%PN
 | 0,_=>by
  have e:b%256/2^(8 - 0)=0:=Nat.div_eq_of_lt (Nat.mod_lt _ (by decide));rw [e,Nat.pow_zero,Nat.mul_one,Nat.add_zero];exact h
 | j+1,hj=>by
  have ih:=pwB_val h b j (by omega);have e:=pwS_val (bit:=b/2^(7 - j)%2) ih (Nat.mod_lt _ (by decide));rw [pwB,e]
  congr 2
  have hp:2^(8 - j)=2^(7 - j)*2:=by rw [← Nat.pow_succ]; congr 1; omega
  have h1:b%256/2^(8 - j)=b%256/2^(7 - j)/2:=by rw [hp,Nat.div_div_eq_div_mul]
  have h2:b/2^(7 - j)%2=b%256/2^(7 - j)%2:=by
   obtain ⟨d,hd⟩:∃ d,8=(7 - j)+(1+d):=⟨j,by omega⟩
   have h8:2^(7 - j)*(2*2^d)=256:=by
    have h9:2^((7 - j)+(1+d))=256:=by rw [← hd]
    rw [Nat.pow_add,Nat.pow_add,Nat.pow_one] at h9;exact h9
   obtain ⟨c,hc⟩:=eX (b/256);have e4:2^(7 - j)*(2*(2^d*c))=256*c:=by rw [← h8]; simp only [Nat.mul_assoc]
   have e3:b=b%256+2^(7 - j)*(2*(2^d*c)):=by rw [e4,hc]; exact (Nat.mod_add_div b 256).symm
   conv=>lhs; rw [e3,Nat.add_mul_div_left _ _ (Nat.two_pow_pos _),Nat.add_mul_mod_self_left]
  rw [h1,h2,show 8 - (j+1)=7 - j by omega,Nat.pow_succ]
  have e5:2*(n*2^j+b%256/2^(7 - j)/2)=n*(2^j*2)+2*(b%256/2^(7 - j)/2):=by
   rw [Nat.mul_add,← Nat.mul_assoc n,Nat.mul_comm 2 (n*2^j)]
  rw [e5];omega
def leV:List Nat→Nat
 | []=>0
 | d :: r=>d+256*leV r
theorem pwL_val (x:E5) (l:List Nat) (hl:∀ d ∈ l,d<256):∀ j,j≤l.length→(pwL x l j).val%PN=x.val^leV (l.drop (l.length - j))%PN
 | 0,_=>by
  rw [Nat.sub_zero,List.drop_length,leV,Nat.pow_zero,pwL,natE_val]
 | j+1,hj=>by
  have hlt:l.length - 1 - j<l.length:=by omega
  have hd:l.getD (l.length - 1 - j) 0=l[l.length - 1 - j]:=by rw [List.getD_eq_getElem?_getD,List.getElem?_eq_getElem hlt]; rfl
  have hb:l[l.length - 1 - j]<256:=hl _ (List.getElem_mem hlt);rw [pwL,pwB_val (pwL_val x l hl j (by omega)) _ 8 (Nat.le_refl _),hd,Nat.mod_eq_of_lt hb,show l.length - (j+1)=l.length - 1 - j by omega,List.drop_eq_getElem_cons hlt,leV,show l.length - 1 - j+1=l.length - j by omega]
  congr 2
  rw [show 8 - 8=0 from rfl,Nat.pow_zero,Nat.div_one,show (2:Nat)^8=256 from rfl,Nat.mul_comm];omega
theorem and8_one (l:Nat) (h:l<256):bits .and .u8 (l:Int) 1=((l%2:Nat):Int):=by
 show IntKind.u8.wrap ((BitVec.ofInt 8 (l:Int) &&& BitVec.ofInt 8 (1:Int)).toNat:Int)=_;have e1:(BitVec.ofInt 8 (1:Int)).toNat=1:=by decide
 rw [BitVec.toNat_and,BitVec.ofInt_natCast,BitVec.toNat_ofNat,e1,Nat.mod_eq_of_lt (show l<2^8 from h),IntKind.wrap_u8];have h2:l &&& 1=l%2:=Nat.and_two_pow_sub_one_eq_mod l 1;rw [h2];omega
theorem Rd.atc {w:World} {B k:Nat} {ad:Addr} {xs:List Value} (h:Rd w B (some ad) xs) (hk:k<xs.length):w.cell? (ad.add k)=some xs[k]:=by
 obtain ⟨a2,h1,_,h3⟩:=h.at_ hk
 injection h1 with h1
 rw [h1]; exact h3
theorem pow_any (x:E5) (hx:x.Ok) (l:List UInt8) (A:Option Addr) (c:Nat) (w:World) (hr:Rd w w.heap.size A (bytesV l)) (hc:l.length≤c) (hl:l.length≤1000000) :
  Calls Tryz.prog 69 #[.agg (eV x),.slice A l.length c] w (ElemPost (pwL x ((l.take 64).map UInt8.toNat) (min l.length 64)) w):=by
 have hu:=Tryz.underlying79;have hi1:intE 1=natE 1:=rfl;have hint:=fun u=>int_any 1 (by decide) (by decide) u;rw [hi1] at hint;have HX:=zY hx;have HI:=zY hint;have HR:=zY hr;obtain ⟨n,hn⟩:=eX (l.length);rw [← hn];rw [← hn] at hc hl;have hn63:(n:Int)≤1000000:=by omega
 have HN:=zY hn;clear hx hi1 hint hr hn hc hl;obtain ⟨m,hm⟩:=eX (min n 64);have hmin1:(if (64:Int)<(n:Int) then (64:Int) else (n:Int))=(m:Int):=by rw [hm]; split <;> omega
 have hmin2:(if 64<n then (64:Int) else (n:Int))=(m:Int):=by rw [hm]; split <;> omega
 have hm64:(m:Int)≤64:=by omega
 rw [← hm];have HM:=zY hm;clear hm
 all_goals
  go_enter Tryz.func69,Tryz.ntmps69;go_wp2_with fail;refine qab (HI.out _) ?_;rintro e w2 ⟨rfl,hb2⟩;go_wp2_with (refine qad (x:=.tmp 5) (cells:=eV (natE 1)) (Blk.new w2 _ _) rfl rfl rfl rfl qah rfl (by simp [eV,wV,limbs,Value.oneCell']) ?_; intro w5 hb5 hw5; have HB5:=zY hb5; have HW5:=zY hw5; clear hb5 hw5);have hst0:G2 w w.heap.size (w.heap.size+1) (eV x) (eV zE) _:=g2_new w (eV x) (eV zE);have hst2:=hst0.next hb2
  have hst3:G3 w w.heap.size w2.heap.size (w.heap.size+1) (eV x) (eV (natE 1)) (eV zE) w5 :=
   ⟨HW5.out.below (hst2.bel.alloc hst2.bel.size _) hst2.bel.size (by simp; have:=hst2.bel.size; omega),HW5.out.blk (hst2.x.alloc _) (Nat.ne_of_lt hst2.x.lt),HB5.out,HW5.out.blk (hst2.z.alloc _) (Nat.ne_of_lt hst2.z.lt),hst2.lg,hst2.bel.size,hst2.lr,Nat.ne_of_lt hst2.x.lt,hst2.gr,Ne.symm (Nat.ne_of_lt hst2.z.lt)⟩
  have HST:=zY hst3;clear hst0 hst2 hst3 HB5 HW5 hb2;generalize hL:(l.take 64).map UInt8.toNat=L at *;generalize hg:w.heap.size=g at *;generalize ho:w2.heap.size=o at *;generalize hrr:g+1=r at *;have HL:=zY hL;clear hL hmin1 hmin2;have HHG:=zY hg;have HHR:=zY hrr;have HHO:=zY ho;clear hg ho hrr
  go_loopw [6] (fun i wr=>∃ j:Nat,j≤m∧i=.int .i64 ((m:Int) - 1 - (j:Int))∧G3 w g o r (eV x) (eV (pwL x L j)) (eV zE) wr) (fun i _=>(intOf i+1).toNat)
  case atStart=>exact ⟨0,Nat.zero_le _,by go_num,HST.out⟩
  case round =>
   clear HST;obtain ⟨j,hj,rfl,hst⟩:=hrel
   by_cases hlt:j<m
   ·obtain ⟨p,hp⟩:∃ p,p+1+j=m:=⟨m - 1 - j,by omega⟩;have hpi:(m:Int) - 1 - (j:Int)=(p:Int):=by omega
    rw [hpi];obtain ⟨cur,hcur⟩:=eX (pwL x L j);rw [← hcur] at hst;obtain ⟨b,hb⟩:=eX (L.getD p 0);have hst':G3 w g o r (eV x) (eV (pwB x cur b 0)) (eV zE) wr:=hst;have hcok:cur.Ok:=by rw [hcur]; exact pwL_ok HX.out L j
    have HST:=zY hst';have HCUR:=zY hcur;have HCOK:=zY hcok;have HB:=zY hb;clear hst hst' hcur hcok hb hpi;go_wp2_with fail;obtain ⟨wo,rfl⟩:=eX wr
    go_loopw [7] (fun c wr=>∃ k:Nat,k≤8∧c=.int .i64 (7 - (k:Int))∧G3 w g o r (eV x) (eV (pwB x cur b k)) (eV zE) wr) (fun c _=>(intOf c+1).toNat)
    case atStart=>exact ⟨0,by omega,rfl,HST.out⟩
    case round =>
     clear HST;obtain ⟨k,hk,rfl,hst⟩:=hrel
     by_cases hltk:k<8
     ·obtain ⟨q,hq⟩:∃ q,q+k=7:=⟨7 - k,by omega⟩;have hqi:(7:Int) - (k:Int)=(q:Int):=by omega
      have hq8:(q:Int)<8:=by omega
      have hbit:pwB x cur b (k+1)=pwS x (pwB x cur b k) (b/2^q%2):=by rw [pwB,show 7 - k=q by omega]
      obtain ⟨y,hy⟩:=eX (pwB x cur b k);have hyok:y.Ok:=by rw [hy]; exact pwB_ok HX.out HCOK.out b k
      rw [← hy] at hst hbit;rw [hqi];have hpl:p<l.length:=by have:=HM.out; have:=HN.out; omega
      have hp64:p<64:=by omega
      have hbel:=hst.bel;rw [HHG.out] at hbel;have hrd:=HR.out.below hbel;obtain ⟨ad,rfl,hadl,hcell⟩:=hrd.at_ (k:=p) (by rw [qap]; exact hpl)
      have hbv:(bytesV l)[p]'(by rw [qap]; exact hpl)=.int .u8 (b:Int):=by
       have e1:b=l[p].toNat:=by
        rw [HB.out,← HL.out];simp [List.getD_eq_getElem?_getD,List.getElem?_take,hp64,hpl]
       rw [e1];simp [bytesV,byteV]
      have hb256:b<256:=by
       have e1:b=l[p].toNat:=by
        rw [HB.out,← HL.out];simp [List.getD_eq_getElem?_getD,List.getElem?_take,hp64,hpl]
       rw [e1]; exact l[p].toNat_lt
      obtain ⟨bq,hbq⟩:=eX (b/2^q);have hbqi:(b:Int)/2^q=(bq:Int):=by rw [hbq,qcc]
      have hbql:bq<256:=by rw [hbq]; exact Nat.lt_of_le_of_lt (Nat.div_le_self _ _) hb256
      rw [← hbq] at hbit;have hand:=and8_one bq hbql;obtain ⟨c,hc⟩:=eX (bq%2);rw [← hc] at hbit hand;have hpn:(p:Int)<(n:Int):=by have:=HN.out; omega
      have HCELL:=zY (hcell.trans (congrArg some hbv));have HBIT:=zY hbit;have HAND:=zY hand;have HYOK:=zY hyok;have HBQI:=zY hbqi;have HQ:=zY hq;have HP:=zY hp;have HHB:=zY hb256;have hc2:c<2:=by rw [hc]; exact Nat.mod_lt _ (by decide)
      have HHC:=zY hc2;have HK:=zY hk;have HJ:=zY hj;have hm0:(m:Int)≤(n:Int):=by have:=HM.out; omega
      clear hrd hcell hbv hbit hand hyok hbqi hb256 hbel hbql hc hbq hc2 hy
      have hbv2:(bytesV l)[p]'(by rw [qap]; exact hpl)=.int .u8 (b:Int):=by
       have e1:b=l[p].toNat:=by
        rw [HB.out,← HL.out];simp [List.getD_eq_getElem?_getD,List.getElem?_take,hp64,hpl]
       rw [e1];simp [bytesV,byteV]
      have HST:=zY hst;have HBV:=zY hbv2;clear hst hbv2 HCELL
      rcases Nat.lt_or_ge c 1 with hc1 | hc1
      ·have hcc:c=0:=by omega
       rw [hcc] at HAND HBIT;have hand2:bits .and .u8 ((b:Int)/2^q) 1=0:=by rw [HBQI.out]; exact HAND.out
       go_wp2_with (refine qac (x:=.tmp 5) HST.out.y rfl rfl rfl hu rfl qah ?_);refine qab (mul_any y y _ HYOK.out HYOK.out) ?_;rintro e w3 ⟨rfl,hb3⟩;have hst3:=HST.out.next hb3;clear HST;go_wp2_with (refine qad (x:=.tmp 5) (cells:=eV (mulE y y)) hst3.y rfl rfl rfl rfl qah rfl (by simp [eV,wV,limbs,Value.oneCell']) ?_; intro w6 hb6 hw6; have hst6:=hst3.putY hw6 hb6; have hcell6:=((HR.out.below (show Below g w w6 by have h:=hst6.bel; rw [HHG.out] at h; exact h)).atc (k:=p) (by rw [qap]; exact hpl)).trans (congrArg some HBV.out); have HST6:=zY hst6; clear hst3 hst6 hb6 hw6);have hq1:(q:Int) - 1=7 - ((k+1:Nat):Int):=by have:=HQ.out; omega
       refine ⟨⟨k+1,by have:=HK.out; have:=HQ.out; omega,by rw [hq1],?_⟩,by simp [intOf]⟩;rw [HBIT.out];exact HST6.out
      ·have hcc:c=1:=by have:=HHC.out; omega
       rw [hcc] at HAND HBIT;have hand2:bits .and .u8 ((b:Int)/2^q) 1=1:=by rw [HBQI.out]; exact HAND.out
       go_wp2_with (refine qac (x:=.tmp 5) HST.out.y rfl rfl rfl hu rfl qah ?_);refine qab (mul_any y y _ HYOK.out HYOK.out) ?_;rintro e w3 ⟨rfl,hb3⟩;have hst3:=HST.out.next hb3;clear HST
       go_wp2_with (first
        | (refine qad (x:=.tmp 5) (cells:=eV (mulE y y)) hst3.y rfl rfl rfl rfl qah rfl (by simp [eV,wV,limbs,Value.oneCell']) ?_; intro w6 hb6 hw6; have hst6:=hst3.putY hw6 hb6; have hcell6:=((HR.out.below (show Below g w w6 by have h:=hst6.bel; rw [HHG.out] at h; exact h)).atc (k:=p) (by rw [qap]; exact hpl)).trans (congrArg some HBV.out); have HST6:=zY hst6; clear hst3 hst6 hb6 hw6)
        | (refine qac (x:=.tmp 5) HST6.out.y rfl rfl rfl hu rfl qah ?_)
        | (refine qac (x:=.tmp 2) HST6.out.x rfl rfl rfl hu rfl qah ?_))
       refine qab (mul_any (mulE y y) x _ (qba HYOK.out HYOK.out) HX.out) ?_;rintro e w7 ⟨rfl,hb7⟩;have hst7:=HST6.out.next hb7;go_wp2_with (refine qad (x:=.tmp 5) (cells:=eV (mulE (mulE y y) x)) hst7.y rfl rfl rfl rfl qah rfl (by simp [eV,wV,limbs,Value.oneCell']) ?_; intro w8 hb8 hw8; have hst8:=hst7.putY hw8 hb8; have HST8:=zY hst8; clear hst7 hst8 hb8 hw8);have hq1:(q:Int) - 1=7 - ((k+1:Nat):Int):=by have:=HQ.out; omega
       refine ⟨⟨k+1,by have:=HK.out; have:=HQ.out; omega,by rw [hq1],?_⟩,by simp [intOf]⟩;rw [HBIT.out];exact HST8.out
     ·obtain rfl:k=8:=by omega
      have hend:pwB x cur b 8=pwL x L (j+1):=by
       have e1:L.length=m:=by rw [← HL.out,List.length_map,List.length_take,HM.out,HN.out]; omega
       rw [pwL,← HCUR.out,HB.out,e1,show m - 1 - j=p by omega]
      rw [hend] at hst;have HST:=zY hst;clear hst hend;go_wp2_with fail;exact ⟨⟨j+1,by omega,by go_num,HST.out⟩,by simp [intOf]⟩
   ·obtain rfl:j=m:=by omega
    have hpi:(j:Int) - 1 - (j:Int)=-1:=by omega
    rw [hpi];have HST:=zY hst;clear hst
    go_wp2_with (first
     | (refine qac (x:=.tmp 5) HST.out.y rfl rfl rfl hu rfl qah ?_)
     | (refine qad (x:=.tmp 4) (cells:=eV (pwL x L j)) HST.out.z rfl rfl rfl rfl qah rfl (by simp [eV,wV,limbs,Value.oneCell']) ?_; intro w6 hb6 hw6))
    refine bodyPost_ret (qau (P:=Tryz.prog) rfl rfl hb6 hu rfl qah) rfl ⟨rfl,?_⟩;exact hw6.below HST.out.bel HST.out.lr HST.out.bel.size
structure I3 (w0:World) (g r o:Nat) (x z:Array Value) (l:List Nat) (u:World):Prop where
 bel:Below w0.heap.size w0 u
 x:Blk u g 79 x
 z:Blk u r 79 z
 out:Blk u o 5 (bnV l).toArray
 lg:w0.heap.size≤g
 lr:w0.heap.size≤r
 lo:w0.heap.size≤o
 go:g≠o
 ro:r≠o
theorem I3.put {w0 u u':World} {g r o:Nat} {x z:Array Value} {l l':List Nat} (k:I3 w0 g r o x z l u) (hw:Wrote o u u') (hb:Blk u' o 5 (bnV l').toArray):I3 w0 g r o x z l' u' :=
 ⟨hw.below k.bel k.lo k.bel.size,hw.blk k.x k.go,hw.blk k.z k.ro,hb,k.lg,k.lr,k.lo,k.go,k.ro⟩
theorem I3.next {w0 u u':World} {g r o:Nat} {x z:Array Value} {l:List Nat} (k:I3 w0 g r o x z l u) (hb:Below u.heap.size u u'):I3 w0 g r o x z l u' :=
 ⟨k.bel.trans (hb.mono k.bel.size),k.x.below hb k.x.lt,k.z.below hb k.z.lt,k.out.below hb k.out.lt,k.lg,k.lr,k.lo,k.go,k.ro⟩
theorem i3_new (w:World) (x z:Array Value) (l:List Nat):I3 w w.heap.size (w.heap.size+1) (w.heap.size+1+1) x z l (((w.alloc (.cells x 79)).alloc (.cells z 79)).alloc (.cells (bnV l).toArray 5)) :=
 ⟨((below_new _ _).alloc (by simp) _).alloc (by simp; try omega) _,((Blk.new _ _ _).alloc _).alloc _,(Blk.newAt (by simp)).alloc _,Blk.newAt (by simp),Nat.le_refl _,by omega,by omega,by omega,by omega⟩
def fillL (k:Nat):List Nat:=List.replicate k 255++List.replicate (32 - k) 0
theorem qdU:∀ k,k<32→(fillL k).set k 255=fillL (k+1):=by decide
theorem qbx:∀ k,k<33→(fillL k).length=32:=by decide
def invL:List Nat:=235 :: (List.replicate 30 255++[127])
theorem fill_end:((fillL 32).set 0 235).set 31 127=invL:=by decide
def invB:List UInt8:=invL.map UInt8.ofNat
theorem invB_v:bytesV invB=bnV invL:=by rfl
theorem invB_l:(invB.take 64).map UInt8.toNat=invL:=by decide
theorem invB_len:invB.length=32:=by decide
def invE (x:E5):E5:=pwL x invL 32
theorem inv_any (x:E5) (hx:x.Ok) (w:World):Calls Tryz.prog 47 #[.agg (eV x)] w (ElemPost (invE x) w):=by
 have hu:=Tryz.underlying79;have hmk:∀ u:World,(Instr.makeSlice 23 (.int .i64 32) (.int .i64 32)).run Tryz.prog u=.ok (.slice (some ⟨u.heap.size,0,none⟩) 32 32) (u.alloc (.cells (bnV (fillL 0)).toArray 5)):=fun _=>by kernel_rfl
 have HX:=zY hx;have hst0:=i3_new w (eV x) (eV zE) (fillL 0);have HST0:=zY hst0;clear hx hst0;go_enter Tryz.func47,Tryz.ntmps47;go_wp2_with fail;generalize ho:w.heap.size+1+1=o at *;generalize hr:w.heap.size+1=r at *;generalize hg:w.heap.size=g at *;have HHO:=zY ho;have HHR:=zY hr;have HHG:=zY hg;clear ho hr hg
 go_loopw [8] (fun i wr=>∃ k:Nat,k≤32∧i=.int .i64 k∧I3 w g r o (eV x) (eV zE) (fillL k) wr) (fun i _=>32 - (intOf i).toNat)
 case atStart=>exact ⟨0,by omega,rfl,HST0.out⟩
 case round =>
  clear HST0;obtain ⟨k,hk,rfl,hst⟩:=hrel
  by_cases hlt:k<32
  ·have hlt':(k:Int)<32:=by omega
   have HST:=zY hst;clear hst;go_wp2_with (refine qam (x:=.tmp 13) (i:=k) (v:=.int .u8 255) HST.out.out rfl rfl rfl rfl (by kernel_rfl) (by rw [List.size_toArray,bnV,List.length_map,qbx k (by omega)]; exact hlt) rfl ?_; intro w5 hb5 hw5; have hst5:=HST.out.put (l':=fillL (k+1)) hw5 (by rw [show (Value.int IntKind.u8 255)=.int .u8 ((255:Nat):Int) from rfl,qcm,qdU k hlt] at hb5; exact hb5); have HST5:=zY hst5; clear hst5 hb5 hw5);exact ⟨⟨k+1,by omega,by go_num,HST5.out⟩,by simp [intOf]; omega⟩
  ·obtain rfl:k=32:=by omega
   have HST:=zY hst;clear hst
   go_wp2_with (first
    | (refine qam (x:=.tmp 17) (i:=0) (v:=.int .u8 235) HST.out.out rfl rfl rfl rfl (by kernel_rfl) (by rw [List.size_toArray,bnV,List.length_map,qbx 32 (by omega)]; decide) rfl ?_; intro w5 hb5 hw5; have hst5:=HST.out.put (l':=(fillL 32).set 0 235) hw5 (by rw [show (Value.int IntKind.u8 235)=.int .u8 ((235:Nat):Int) from rfl,qcm] at hb5; exact hb5); have HST5:=zY hst5; clear hst5 hb5 hw5)
    | (refine qam (x:=.tmp 18) (i:=31) (v:=.int .u8 127) HST5.out.out rfl rfl rfl rfl (by kernel_rfl) (by rw [List.size_toArray,bnV,List.length_map,List.length_set,qbx 32 (by omega)]; decide) rfl ?_; intro w6 hb6 hw6; have hst6:=HST5.out.put (l':=invL) hw6 (by rw [show (Value.int IntKind.u8 127)=.int .u8 ((127:Nat):Int) from rfl,qcm,fill_end] at hb6; exact hb6); have HST6:=zY hst6; clear hst6 hb6 hw6)
    | (refine qac (x:=.tmp 1) HST6.out.x rfl rfl rfl hu rfl qah ?_))
   have hrd:Rd w6 w6.heap.size (some ⟨o,0,none⟩) (bytesV invB):=by
    rw [invB_v];exact Rd.of_blk HST6.out.out HST6.out.out.lt
   have hp:=pow_any x HX.out invB (some ⟨o,0,none⟩) 32 w6 hrd (by rw [invB_len]; omega) (by rw [invB_len]; omega);rw [invB_l,invB_len] at hp;refine qab hp ?_;rintro e w7 ⟨rfl,hb7⟩;have hst7:=HST6.out.next hb7;have HST7:=zY hst7;clear hst7;rw [show min 32 64=32 from rfl];go_wp2_with (refine qad (x:=.tmp 2) (cells:=eV (pwL x invL 32)) HST7.out.z rfl rfl rfl rfl qah rfl (by simp [eV,wV,limbs,Value.oneCell']) ?_; intro w8 hb8 hw8);refine bodyPost_ret (qau (P:=Tryz.prog) rfl rfl hb8 hu rfl qah) rfl ⟨rfl,?_⟩;exact hw8.below HST7.out.bel HST7.out.lr HST7.out.bel.size
def digs (l:List UInt8):List Nat:=l.map UInt8.toNat
theorem digs_lt (l:List UInt8):∀ d ∈ digs l,d<256:=fun d h=>by
 obtain ⟨b,_,rfl⟩:=List.mem_map.1 h;exact b.toNat_lt
theorem qdB:∀ (l:List Nat),(∀ d ∈ l,d<256)→leV l<256^l.length
 | [],_=>by decide
 | d :: r,h=>by
  have h1:=qdB r fun x hx=>h x (List.mem_cons_of_mem _ hx);have h2:=h d List.mem_cons_self;rw [leV,List.length_cons,Nat.pow_succ];omega
theorem qdC:∀ (l:List Nat),(∀ d ∈ l,d<256)→∀ j,leV l/256^j%256=l.getD j 0
 | [],_,j=>by rw [leV,Nat.zero_div]; rfl
 | d :: r,h,0=>by
  have h2:=h d List.mem_cons_self;rw [leV,Nat.pow_zero,Nat.div_one,List.getD_cons_zero];omega
 | d :: r,h,j+1=>by
  have h1:=qdC r (fun x hx=>h x (List.mem_cons_of_mem _ hx)) j;have h2:=h d List.mem_cons_self;rw [leV,Nat.pow_succ,Nat.mul_comm (256^j),← Nat.div_div_eq_div_mul,show (d+256*leV r)/256=leV r by omega,h1,List.getD_cons_succ]
theorem qck (n:Nat):leV (List.replicate n 0)=0:=by
 induction n with
 | zero=>rfl
 | succ n ih=>rw [List.replicate_succ,leV,ih]
theorem qb1:∀ (l r:List Nat),leV (l++r)=leV l+256^l.length*leV r
 | [],r=>by simp [leV]
 | d :: l,r=>by
  rw [List.cons_append,leV,qb1 l r,leV,List.length_cons,Nat.pow_succ]
  grind
theorem byN_leV (l:List Nat) (h:∀ d ∈ l,d<256) (hl:l.length=32):byN (leV l)=l:=by
 apply List.ext_getElem?;intro j
 by_cases hj:j<32
 ·rw [byN_at _ _ hj,qdC l h j,List.getD_eq_getElem?_getD,List.getElem?_eq_getElem (by omega)];rfl
 ·rw [List.getElem?_eq_none (by rw [qbs]; omega),List.getElem?_eq_none (by omega)]
theorem byN_lt (N:Nat):∀ d ∈ byN N,d<256:=fun d h=>by
 obtain ⟨j,_,rfl⟩:=List.mem_map.1 h;exact Nat.mod_lt _ (by decide)
theorem leV_ext:∀ (l r:List Nat),l.length=r.length→(∀ d ∈ l,d<256)→(∀ d ∈ r,d<256)→leV l=leV r→l=r
 | [],[],_,_,_,_=>rfl
 | [],_ :: _,h,_,_,_=>by simp at h
 | _ :: _,[],h,_,_,_=>by simp at h
 | c :: l,d :: r,h,h1,h2,e=>by
  have a1:=h1 c List.mem_cons_self;have a2:=h2 d List.mem_cons_self;rw [leV,leV] at e;rw [leV_ext l r (by simpa using h) (fun x hx=>h1 x (List.mem_cons_of_mem _ hx)) (fun x hx=>h2 x (List.mem_cons_of_mem _ hx)) (by omega),show c=d by omega]
theorem leV_mod:∀ (n N:Nat),leV ((List.range n).map fun j=>N/256^j%256)=N%256^n
 | 0,N=>by rw [Nat.pow_zero,Nat.mod_one]; rfl
 | n+1,N=>by
  rw [List.range_succ_eq_map,List.map_cons,List.map_map,leV]
  have e:((fun j=>N/256^j%256) ∘ Nat.succ)=fun j=>N/256/256^j%256:=by
   funext j
   show N/256^(j+1)%256=_;rw [Nat.pow_succ,Nat.mul_comm,← Nat.div_div_eq_div_mul]
  rw [e,leV_mod n (N/256),Nat.pow_zero,Nat.div_one,Nat.pow_succ,Nat.mul_comm (256^n),Nat.mod_mul]
theorem leV_byN (N:Nat) (h:N<256^32):leV (byN N)=N:=by
 rw [byN,leV_mod,Nat.mod_eq_of_lt h]
theorem byN_inj {N M:Nat} (h:N<256^32) (h2:M<256^32) (e:byN N=byN M):N=M:=by
 rw [← leV_byN N h,← leV_byN M h2,e]
def byB (N:Nat):List UInt8:=(byN N).map UInt8.ofNat
theorem qdw (l:List Nat) (h:∀ d ∈ l,d<256):digs (l.map UInt8.ofNat)=l:=by
 rw [digs,List.map_map]
 conv=>rhs; rw [← List.map_id l]
 apply List.map_congr_left;intro d hd;show (UInt8.ofNat d).toNat=d;rw [UInt8.toNat_ofNat'];exact Nat.mod_eq_of_lt (h d hd)
theorem qdf (N:Nat):digs (byB N)=byN N:=qdw _ (byN_lt N)
theorem bnV_digs (l:List UInt8):bnV (digs l)=bytesV l:=by
 rw [bnV,digs,List.map_map]; rfl
theorem bnV_byB (N:Nat):bnV (byN N)=bytesV (byB N):=by rw [← bnV_digs,qdf]
theorem byB_length (N:Nat):(byB N).length=32:=by rw [byB,List.length_map,qbs]
theorem digs_inj {l r:List UInt8} (h:digs l=digs r):l=r:=by
 have e:∀ l:List UInt8,(digs l).map UInt8.ofNat=l:=fun l=>by
  rw [digs,List.map_map]
  conv=>rhs; rw [← List.map_id l]
  exact List.map_congr_left fun b _=>by simp
 rw [← e l,← e r,h]
theorem byB_digs (l:List UInt8) (h:l.length=32):byB (leV (digs l))=l:=by
 apply digs_inj;rw [qdf,byN_leV _ (digs_lt l) (by rw [digs,List.length_map,h])]
def ofN (N:Nat):E5:=⟨N%2251799813685248,N/2^51%2251799813685248,N/2^102%2251799813685248,N/2^153%2251799813685248,N/2^204%2251799813685248⟩
theorem ofN_at (N k:Nat) (h:k<5):(limbs (ofN N)).getD k 0=N/2^(51*k)%2251799813685248:=by
 match k,h with
 | 0,_=>show N%2251799813685248=_; rw [Nat.mul_zero,Nat.pow_zero,Nat.div_one]
 | 1,_=>rfl
 | 2,_=>rfl
 | 3,_=>rfl
 | 4,_=>rfl
theorem ofN_lt (N:Nat):(ofN N).Lt 2251799813685248:=by
 constructor <;> exact Nat.mod_lt _ (by decide)
theorem ofN_ok (N:Nat):(ofN N).Ok:=(ofN_lt N).mono (by decide)
theorem ofN_val (N:Nat):(ofN N).val=N%2^255:=by
 simp only [ofN,E5.val];rw [show (2:Nat)^51=2251799813685248 by decide,show (2:Nat)^102=5070602400912917605986812821504 by decide,show (2:Nat)^153=11417981541647679048466287755595961091061972992 by decide,show (2:Nat)^204=25711008708143844408671393477458601640355247900524685364822016 by decide,show (2:Nat)^255=57896044618658097711785492504343953926634992332820282019728792003956564819968 by decide];omega
def winN (N q k:Nat):Nat:=N/256^q%256^k
theorem win_zero (N q:Nat):winN N q 0=0:=by rw [winN,Nat.pow_zero,Nat.mod_one]
theorem win_lt (N q k:Nat) (h:k≤8):winN N q k<18446744073709551616:=by
 have h1:winN N q k<256^k:=Nat.mod_lt _ (Nat.pow_pos (by decide));have h2:256^k≤256^8:=Nat.pow_le_pow_right (by decide) h;exact Nat.lt_of_lt_of_le h1 h2
theorem win_step (N q k:Nat):winN N q k ||| N/256^(q+k)%256*2^(8*k)=winN N q (k+1):=by
 have h1:winN N q k<2^(8*k):=by rw [← pow256]; exact Nat.mod_lt _ (Nat.pow_pos (by decide))
 have h:=Nat.shiftLeft_add_eq_or_of_lt h1 (N/256^(q+k)%256);rw [Nat.shiftLeft_eq] at h;rw [Nat.or_comm,← h,winN,winN,Nat.pow_succ,Nat.mod_mul,Nat.pow_add,← Nat.div_div_eq_div_mul,← pow256,Nat.mul_comm,Nat.add_comm]
theorem win_over (N q k:Nat) (hN:N<256^32) (h:32≤q+k):winN N q (k+1)=winN N q k:=by
 rw [← win_step];have e:N/256^(q+k)=0:=Nat.div_eq_of_lt (Nat.lt_of_lt_of_le hN (Nat.pow_le_pow_right (by decide) h));rw [e,Nat.zero_mod,Nat.zero_mul,Nat.or_zero]
theorem win_limb (N n:Nat):winN N (n/8) 8/2^(n%8)%2251799813685248=N/2^n%2251799813685248:=by
 obtain ⟨q,r,hr,rfl⟩:∃ q r,r<8∧n=8*q+r:=⟨n/8,n%8,by omega,by omega⟩;rw [show (8*q+r)/8=q by omega,show (8*q+r)%8=r by omega,winN,pow256,pow256,Nat.pow_add,← Nat.div_div_eq_div_mul];obtain ⟨M,hM⟩:=eX (N/2^(8*q));obtain ⟨d,hd⟩:∃ d,8*8=r+(51+d):=⟨13 - r,by omega⟩;rw [← hM,hd,Nat.pow_add,Nat.mod_mul_right_div_self,show (2251799813685248:Nat)=2^51 from rfl,Nat.pow_add,Nat.mod_mul_right_mod]
def mayR (l:List UInt8):Bool:=decide (l.length=32∧leV (digs l)<PN)
def readE (l:List UInt8):E5:=if mayR l then ofN (leV (digs l)) else zE
def readF (l:List UInt8):Int:=if mayR l then 0 else 2
theorem read_same (l:List UInt8) (h:l.length=32):(byB (leastE (ofN (leV (digs l)))).val=l)=(leV (digs l)<PN):=by
 have hN:=qdB (digs l) (digs_lt l);rw [show (digs l).length=32 by rw [digs,List.length_map,h]] at hN
 have hv:(leastE (ofN (leV (digs l)))).val=leV (digs l)%2^255%PN:=by
  rw [qen ((ofN_lt _).mono (by decide)),ofN_val]
 rw [hv];have hP:PN<2^255:=by decide
 have hP0:0<PN:=by decide
 have hP2:PN<256^32:=by decide
 apply propext
 constructor
 ·intro h1;have h2:=congrArg (fun x=>leV (digs x)) h1;have hlt:leV (digs l)%2^255%PN<PN:=Nat.mod_lt _ hP0;rw [qdf,leV_byN _ (Nat.lt_trans hlt hP2)] at h2;rw [← h2]; exact hlt
 ·intro h1;rw [Nat.mod_eq_of_lt (Nat.lt_trans h1 hP),Nat.mod_eq_of_lt h1,byB_digs l h]
section
variable {P:Program}
theorem run_str_of {w:World} {B:Nat} {src dst e:TypeId} (hs:P.underlying src=some (.slice e)) (he:P.underlying e=some (.int .u8)) (hd:P.underlying dst=some .string)
  {A:Option Addr} {l:List UInt8} (hr:Rd w B A (bytesV l)) (c:Nat):(convert src dst (.slice A l.length c)).run P w=.ok (.string ⟨l.toArray⟩) w:=by
 cases A with
 | none =>
  have hl:l=[]:=by
   cases l with
   | nil=>rfl
   | cons x r =>
    obtain ⟨ad,h,_⟩:=hr 0 (byteV x) (by simp [bytesV])
    cases h
  subst hl;rw [run_convert_bytes_nil w src e hs he _ c dst hd];rfl
 | some ad =>
  have hl:(loadCells ad l.length).run P w=.ok ((l.map fun b=>(b.toNat:Int)).map (Value.int .u8)).toArray w:=by
   have:=run_loadCells_list (P:=P) w ad ((l.map fun b=>(b.toNat:Int)).map (Value.int .u8)) (fun j v hj=>by
    obtain ⟨ad',h,_,hc⟩:=hr j v (by rw [← hj]; simp [bytesV,byteV]; rfl)
    injection h with h
    subst h;exact hc)
   simpa using this
  rw [run_convert_bytes_string w src dst e _ l.length c hs he hd,run_bytesToString w _ l.length c (l.map fun b=>(b.toNat:Int)) hl,foldl_push_bytes]
  have e1:((l.map fun b=>(b.toNat:Int)).map fun n=>UInt8.ofNat n.toNat)=l:=by
   rw [List.map_map]
   conv=>rhs; rw [← List.map_id l]
   exact List.map_congr_left fun b _=>by simp
  rw [e1];simp [ByteArray.empty,ByteArray.emptyWithCapacity];rfl
theorem qa2 {w:World} {ops:Array Oper} {rest:List Oper} {o:Oper} {a:Act} {Q:Exit→Act→World→Prop} {B:Nat} {src dst e:TypeId} {x:Operand} {A:Option Addr} {l:List UInt8} {c:Nat}
  (hr:Rd w B A (bytesV l)) (hs:P.underlying src=some (.slice e)) (he:P.underlying e=some (.int .u8)) (hd:P.underlying dst=some .string)
  (hgd:o.guard=none) (ho:o.op=.convert src dst x) (hx:a.eval x=.slice A l.length c)
  (h:wpList P ops Q rest (a.put o.dst (.string ⟨l.toArray⟩)) w):wpList P ops Q (o :: rest) a w:=by
 refine wpList_plain hgd fun K hK=>?_;have hrun:=run_str_of (P:=P) hs he hd hr c;unfold Oper.wp execOp;simp only [ho,hx];simp only [Sem.run_bind,hrun,Result.andThen_ok,Sem.run_pure];exact hK _ _ h
end
def ReadPost (l:List UInt8) (w:World) (e:Ending) (w':World):Prop:=e=.returned (.tuple #[.agg (eV (readE l)),.int .i64 (readF l)])∧Below w.heap.size w w'
theorem read_any (l:List UInt8) (A:Option Addr) (c:Nat) (w:World) (hr:Rd w w.heap.size A (bytesV l)) (hc:l.length≤c) (hl:l.length≤1000000) :
  Calls Tryz.prog 65 #[.slice A l.length c] w (ReadPost l w):=by
 have hu:=Tryz.underlying79
 by_cases h32:l.length=32
 ·obtain ⟨N,hN⟩:=eX (leV (digs l))
  have hNl:N<256^32:=by
   have h:=qdB (digs l) (digs_lt l);rw [show (digs l).length=32 by rw [digs,List.length_map,h32]] at h;rw [hN]; exact h
  have hst0:G2 w (w.heap.size+1) w.heap.size (mixV (ofN N) zE 0) (eV zE) ((w.alloc (.cells (eV zE) 79)).alloc (.cells (eV zE) 79)) :=
   ⟨(below_new _ _).alloc (by simp) _,Blk.newAt (by simp),(Blk.new _ _ _).alloc _,by omega,Nat.le_refl _,by omega⟩
  rw [h32];have HST0:=zY hst0;have HR:=zY hr;have HL:=zY h32;have HN:=zY hN;have HNL:=zY hNl;clear hst0 hr hc hl h32 hN hNl;go_enter Tryz.func65,Tryz.ntmps65;go_wp2_with fail;generalize ho:w.heap.size+1=o at *;generalize hg:w.heap.size=g at *;have HHO:=zY ho;have HHG:=zY hg;clear ho hg
  go_loopw [13] (fun i wr=>∃ k:Nat,k≤5∧i=.int .i64 k∧G2 w o g (mixV (ofN N) zE k) (eV zE) wr) (fun i _=>5 - (intOf i).toNat)
  case atStart=>exact ⟨0,by omega,rfl,HST0.out⟩
  case round =>
   clear HST0;obtain ⟨i,hi,rfl,hst⟩:=hrel
   by_cases hlt:i<5
   ·have hlt':(i:Int)<5:=by omega
    obtain ⟨n,hn⟩:=eX (i*51);have hni:(i:Int)*51=(n:Int):=by omega
    obtain ⟨q,hq⟩:=eX (n/8);have hqi:(n:Int)/8=(q:Int):=by omega
    have hq25:q≤25:=by omega
    have HST:=zY hst;have HNN:=zY hn;have HQ:=zY hq;clear hst hn hq;go_wp2_with fail;obtain ⟨wo,rfl⟩:=eX wr
    go_loopw [7,18] (fun v c wr=>∃ k:Nat,k≤8∧c=.int .i64 k∧v=.int .u64 (winN N q k:Nat)∧G2 w o g (mixV (ofN N) zE i) (eV zE) wr) (fun _ c _=>8 - (intOf c).toNat)
    case atStart=>exact ⟨0,by omega,rfl,by rw [win_zero]; rfl,HST.out⟩
    case round =>
     clear HST;obtain ⟨k,hk,rfl,rfl,hst⟩:=hrel
     by_cases hltk:k<8
     ·have hltk':(k:Int)<8:=by omega
      obtain ⟨p,hp⟩:=eX (q+k);have hpi:(q:Int)+(k:Int)=(p:Int):=by omega
      by_cases hp32:p<32
      ·have hp32':(p:Int)<32:=by omega
       obtain ⟨b,hb⟩:=eX (N/256^p%256);have hbl:b<256:=by rw [hb]; exact Nat.mod_lt _ (by decide)
       have hbl':(b:Int)<256:=by omega
       have hpl:p<l.length:=by rw [HL.out]; exact hp32
       have hbv:(bytesV l)[p]'(by rw [qap]; exact hpl)=.int .u8 (b:Int):=by
        have e1:b=l[p].toNat:=by
         rw [hb,HN.out,qdC _ (digs_lt l),digs,List.getD_eq_getElem?_getD,List.getElem?_map,List.getElem?_eq_getElem hpl];rfl
        rw [e1];simp [bytesV,byteV]
       have hbel:=hst.bel;rw [HHG.out] at hbel;have hrd:=HR.out.below hbel;obtain ⟨ad,rfl,hadl,hcell⟩:=hrd.at_ (k:=p) (by rw [qap]; exact hpl);rw [hbv] at hcell;obtain ⟨e,he⟩:=eX (8*k);have hei:(8:Int)*(k:Int)=(e:Int):=by omega
       have he64:(e:Int)<64:=by omega
       have hstep:=win_step N q k;rw [← hp,← hb,← he] at hstep;have hyl:=win_lt N q k (by omega);obtain ⟨y,hy⟩:=eX (winN N q k);rw [← hy] at hstep hyl;rw [← hy];obtain ⟨s,hs⟩:=eX (b*2^e);rw [← hs] at hstep
       have hsl:s<18446744073709551616:=by
        have e1:2^e≤2^56:=Nat.pow_le_pow_right (by decide) (by omega);have e2:b*2^e≤255*2^56:=Nat.mul_le_mul (by omega) e1;rw [hs]; exact Nat.lt_of_le_of_lt e2 (by decide)
       have hsi:(b:Int)*2^e%18446744073709551616=(s:Int):=by rw [shl_int,← hs]; omega
       have hor:=or64 y s hyl hsl;rw [hstep] at hor;have HST:=zY hst;have HSI:=zY hsi;have HOR:=zY hor;clear hst hp hy hs hsl hyl hstep hb hbl hbv hbel hrd he hpl hsi hor;go_wp2_with fail;have hw1:IntKind.u64.wrap ((b:Int)*2^e)=(s:Int):=by rw [IntKind.wrap_u64]; exact HSI.out
       rw [hw1,HOR.out];exact ⟨⟨k+1,by omega,by go_num,rfl,HST.out⟩,by simp [intOf]; omega⟩
      ·have hp32':¬ (p:Int)<32:=by omega
       have hw:=win_over N q k HNL.out (by omega);rw [← hw];have HST:=zY hst;clear hst hw hp;go_wp2_with fail;exact ⟨⟨k+1,by omega,by go_num,rfl,HST.out⟩,by simp [intOf]; omega⟩
     ·obtain rfl:k=8:=by omega
      obtain ⟨r,hr⟩:=eX (n%8);have hri:(n:Int)%8=(r:Int):=by omega
      have hr8:(r:Int)<8:=by omega
      have hlimb:=win_limb N n;rw [← HQ.out,← hr] at hlimb;have hat:=ofN_at N i hlt;rw [Nat.mul_comm 51,← HNN.out,← hlimb] at hat;have hvl:=win_lt N q 8 (by omega);obtain ⟨v,hv⟩:=eX (winN N q 8/2^r);have hvi:((winN N q 8:Nat):Int)/2^r=(v:Int):=by rw [qcc,hv]
      rw [← hv] at hat;have hvl2:v<18446744073709551616:=by rw [hv]; exact Nat.lt_of_le_of_lt (Nat.div_le_self _ _) hvl
      have hmk:=qel v hvl2;have hset:=qcL (ofN N) zE i hlt;rw [hat,← hmk] at hset;have HSET:=zY hset;have HVI:=zY hvi;have d0:=hst.x.cell i;rw [qcX _ _ _ hlt] at d0;have f0:=hst.x.free i;have HST:=zY hst;clear hset hst hmk hvl2 hvl hv hat hlimb hr hvi;go_wp2_with fail;refine ⟨⟨i+1,by omega,by go_num,HST.out.putX (qai _ _ _ _) ?_⟩,by simp [intOf]; omega⟩;rw [HVI.out];have h:=qak (i:=i) HST.out.x (.int .u64 (bits .and .u64 (v:Int) 2251799813685247));rw [HSET.out] at h;exact h
   ·obtain rfl:i=5:=by omega
    rw [qcM] at hst;have HST:=zY hst;clear hst;go_wp2_with fail;obtain ⟨X,hX⟩:=eX (ofN N);have hXl:X.Lt 18446744073709551616:=by rw [hX]; exact (ofN_lt N).mono (by decide)
    obtain ⟨M,hM⟩:=eX ((leastE X).val);have hsame:(byB M=l)=(N<PN):=by rw [hM,hX,HN.out]; exact read_same l HL.out
    have hmay:mayR l=decide (byB M=l):=by
     rw [mayR,Bool.eq_iff_iff,decide_eq_true_iff,decide_eq_true_iff,hsame,← HN.out];exact ⟨fun h=>h.2,fun h=>⟨HL.out,h⟩⟩
    rw [← hX] at HST;have HXL:=zY hXl;have HM:=zY hM;have HC0:=HST.out.drew;have HX:=zY hX;have HMAY:=zY hmay;clear hX hXl hM hmay hsame HST
    by_cases heq:byB M=l
    ·have HEQ:=zY heq;clear heq
     refine qaD (fun u=>G2 w o g (eV X) (eV zE) u) (fun | false=>(fun _=>True) | true=>(fun _=>True)) (fun | false,_=>false | true,_=>false)
      [fun z _=>z 0=.agg (eV X),
       fun z u=>∃ o2,z 1=.slice (some ⟨o2,0,none⟩) 32 32∧Blk u o2 5 (bnV (byN M)).toArray,
       fun z _=>z 2=.string ⟨l.toArray⟩,
       fun z _=>z 3=.slice A 32 c,
       fun z _=>z 4=.string ⟨l.toArray⟩,
       fun z _=>z 5=.bool false]
      [Eq,fun u u'=>Below u.heap.size u u',Eq,Eq,Eq,Eq]
      (fun _ _=>false) [(0,some 49),(1,some 50),(2,some 51),(3,some 52),(4,some 53),(5,some 54)] (by kernel_rfl) (by kernel_rfl) rfl (fun _=>rfl) ?_ ?_ ?_ ?_ ?_ ?_
     ·exact HC0
     ·intro m; cases m; exact trivial; exact trivial
     ·intro m; cases m
      ·refine ⟨?_,.inr (fun _ _ _ h=>h),?_,?_,?_,?_,trivial⟩ <;> exact .inr fun _ _ h h0=>h▸h0
      ·refine ⟨?_,.inr (fun _ _ _ h=>h),?_,?_,?_,?_,trivial⟩ <;> exact .inr fun _ _ h h0=>h▸h0
     ·refine ⟨⟨.inl rfl,?_,?_,?_,?_,?_,trivial⟩,⟨?_,.inl rfl,?_,?_,?_,?_,trivial⟩,⟨?_,?_,.inl rfl,?_,?_,?_,trivial⟩,⟨?_,?_,?_,.inl rfl,?_,?_,trivial⟩,⟨?_,?_,?_,?_,.inl rfl,?_,trivial⟩,⟨?_,?_,?_,?_,?_,.inl rfl,trivial⟩,trivial⟩ <;> first | exact .inr (.inr (.inl rfl)) | exact .inr (.inr (.inr fun _ _ _ _ _ h=>h)) | exact .inr (.inr (.inr fun _ _ _ _ h h0=>by cases h; exact h0))
     ·refine ⟨?_,?_,?_,?_,?_,?_,trivial⟩
      ·refine qaf [] (fun _=>rfl) rfl ?_;intro w1 vals hC1 hi0 hf E hE;clear hi0;clear hf;simp only [sP] at hE ⊢;refine qac hC1.x rfl rfl rfl hu rfl qah ?_;go_wp2_with fail;exact .mk (hE _ _ rfl hC1 rfl)
      ·refine qaf [(0,some 49)] (fun _=>rfl) rfl ?_;intro w1 vals hC1 hi0 hf E hE;clear hi0;have f0:vals 0=_:=hf 0 rfl
       try dsimp only at f0
       clear hf;simp only [sP,f0] at hE ⊢;clear f0;go_wp2_with fail;refine qab (bytes_any X _ HXL.out) ?_;rintro e w2 ⟨o2,rfl,hlo,hblk,hb2⟩;rw [← HM.out] at hblk;go_wp2_with fail;exact .mk (hE _ _ ⟨o2,rfl,hblk⟩ (hC1.next hb2) hb2)
      ·refine qaf [(1,some 50)] (fun _=>rfl) rfl ?_;intro w1 vals hC1 hi0 hf E hE;clear hi0;have f1:(fun z u=>∃ o2,z 1=.slice (some ⟨o2,0,none⟩) 32 32∧Blk u o2 5 (bnV (byN M)).toArray) vals w1:=hf 1 rfl
       try dsimp only at f1
       clear hf;obtain ⟨o2,hx,hblk⟩:=f1;simp only [sP,hx] at hE ⊢;clear hx;rw [bnV_byB] at hblk;refine qa2 (l:=byB M) (Rd.of_blk hblk hblk.lt) Tryz.underlying23 Tryz.underlying5 Tryz.underlying9 rfl rfl (by rw [byB_length]; rfl) ?_;rw [HEQ.out];go_wp2_with fail;exact .mk (hE _ _ rfl hC1 rfl)
      ·refine qaf [] (fun _=>rfl) rfl ?_;intro w1 vals hC1 hi0 hf E hE;clear hi0;clear hf;simp only [sP] at hE ⊢;go_wp2;exact .mk (hE _ _ rfl hC1 rfl)
      ·refine qaf [(3,some 52)] (fun _=>rfl) rfl ?_;intro w1 vals hC1 hi0 hf E hE;clear hi0;have f3:vals 3=_:=hf 3 rfl
       try dsimp only at f3
       clear hf;have hbel:=hC1.bel;rw [HHG.out] at hbel;simp only [sP,f3] at hE ⊢;clear f3;refine qa2 (l:=l) (HR.out.below hbel) Tryz.underlying23 Tryz.underlying5 Tryz.underlying9 rfl rfl (by rw [HL.out]; rfl) ?_;go_wp2_with fail;exact .mk (hE _ _ rfl hC1 rfl)
      ·refine qaf [(2,some 51),(4,some 53)] (fun _=>rfl) rfl ?_;intro w1 vals hC1 hi0 hf E hE;clear hi0;have f2:vals 2=_:=hf 2 rfl;have f4:vals 4=_:=hf 4 rfl
       try dsimp only at f2 f4
       clear hf;simp only [sP,f2,f4] at hE ⊢;clear f2 f4;go_wp2;exact .mk (hE _ _ rfl hC1 rfl)
     intro w1 vals hC1 hf;have f0:vals 0=_:=hf 0 (by decide) rfl;have f1:(fun z u=>∃ o2,z 1=.slice (some ⟨o2,0,none⟩) 32 32∧Blk u o2 5 (bnV (byN M)).toArray) vals w1:=hf 1 (by decide) rfl;have f2:vals 2=_:=hf 2 (by decide) rfl;have f3:vals 3=_:=hf 3 (by decide) rfl;have f4:vals 4=_:=hf 4 (by decide) rfl;have f5:vals 5=_:=hf 5 (by decide) rfl
     try dsimp only at f0 f1 f2 f3 f4 f5
     clear hf;simp only [sP,f0,f2,f3,f4,f5];clear f0 f2 f3 f4 f5;generalize vals 1=x1 at *;clear HC0 f1;have HC1:=zY hC1;clear hC1;have hok:mayR l=true:=by rw [HMAY.out]; exact decide_eq_true HEQ.out
     have hE1:readE l=X:=by rw [readE,if_pos hok,HX.out,HN.out]
     have hF1:readF l=0:=by rw [readF,if_pos hok]
     have HE1:=zY hE1;have HF1:=zY hF1;clear hok hE1 hF1
     go_wp2_with (first
      | (refine qac (x:=.tmp 4) HC1.out.x rfl rfl rfl hu rfl qah ?_)
      | (refine qad (x:=.tmp 2) (cells:=eV X) HC1.out.z rfl rfl rfl rfl qah rfl (by simp [eV,wV,limbs,Value.oneCell']) ?_; intro w5 hb5 hw5; have HB5:=zY hb5; have HW5:=zY hw5; clear hb5 hw5))
     refine bodyPost_ret (qar (P:=Tryz.prog) rfl rfl HB5.out hu rfl qah) rfl ⟨by rw [HE1.out,HF1.out]; rfl,?_⟩;exact HW5.out.below HC1.out.bel HC1.out.lr HC1.out.bel.size
    ·have HEQ:=zY heq;clear heq
     refine qaD (fun u=>G2 w o g (eV X) (eV zE) u) (fun | false=>(fun _=>True) | true=>(fun _=>True)) (fun | false,_=>false | true,_=>false)
      [fun z _=>z 0=.agg (eV X),
       fun z u=>∃ o2,z 1=.slice (some ⟨o2,0,none⟩) 32 32∧Blk u o2 5 (bnV (byN M)).toArray,
       fun z _=>z 2=.string ⟨(byB M).toArray⟩,
       fun z _=>z 3=.slice A 32 c,
       fun z _=>z 4=.string ⟨l.toArray⟩,
       fun z _=>z 5=.bool true]
      [Eq,fun u u'=>Below u.heap.size u u',Eq,Eq,Eq,Eq]
      (fun _ _=>false) [(0,some 49),(1,some 50),(2,some 51),(3,some 52),(4,some 53),(5,some 54)] (by kernel_rfl) (by kernel_rfl) rfl (fun _=>rfl) ?_ ?_ ?_ ?_ ?_ ?_
     ·exact HC0
     ·intro m; cases m; exact trivial; exact trivial
     ·intro m; cases m
      ·refine ⟨?_,.inr (fun _ _ _ h=>h),?_,?_,?_,?_,trivial⟩ <;> exact .inr fun _ _ h h0=>h▸h0
      ·refine ⟨?_,.inr (fun _ _ _ h=>h),?_,?_,?_,?_,trivial⟩ <;> exact .inr fun _ _ h h0=>h▸h0
     ·refine ⟨⟨.inl rfl,?_,?_,?_,?_,?_,trivial⟩,⟨?_,.inl rfl,?_,?_,?_,?_,trivial⟩,⟨?_,?_,.inl rfl,?_,?_,?_,trivial⟩,⟨?_,?_,?_,.inl rfl,?_,?_,trivial⟩,⟨?_,?_,?_,?_,.inl rfl,?_,trivial⟩,⟨?_,?_,?_,?_,?_,.inl rfl,trivial⟩,trivial⟩ <;> first | exact .inr (.inr (.inl rfl)) | exact .inr (.inr (.inr fun _ _ _ _ _ h=>h)) | exact .inr (.inr (.inr fun _ _ _ _ h h0=>by cases h; exact h0))
     ·refine ⟨?_,?_,?_,?_,?_,?_,trivial⟩
      ·refine qaf [] (fun _=>rfl) rfl ?_;intro w1 vals hC1 hi0 hf E hE;clear hi0;clear hf;simp only [sP] at hE ⊢;refine qac hC1.x rfl rfl rfl hu rfl qah ?_;go_wp2_with fail;exact .mk (hE _ _ rfl hC1 rfl)
      ·refine qaf [(0,some 49)] (fun _=>rfl) rfl ?_;intro w1 vals hC1 hi0 hf E hE;clear hi0;have f0:vals 0=_:=hf 0 rfl
       try dsimp only at f0
       clear hf;simp only [sP,f0] at hE ⊢;clear f0;go_wp2_with fail;refine qab (bytes_any X _ HXL.out) ?_;rintro e w2 ⟨o2,rfl,hlo,hblk,hb2⟩;rw [← HM.out] at hblk;go_wp2_with fail;exact .mk (hE _ _ ⟨o2,rfl,hblk⟩ (hC1.next hb2) hb2)
      ·refine qaf [(1,some 50)] (fun _=>rfl) rfl ?_;intro w1 vals hC1 hi0 hf E hE;clear hi0;have f1:(fun z u=>∃ o2,z 1=.slice (some ⟨o2,0,none⟩) 32 32∧Blk u o2 5 (bnV (byN M)).toArray) vals w1:=hf 1 rfl
       try dsimp only at f1
       clear hf;obtain ⟨o2,hx,hblk⟩:=f1;simp only [sP,hx] at hE ⊢;clear hx;rw [bnV_byB] at hblk;refine qa2 (l:=byB M) (Rd.of_blk hblk hblk.lt) Tryz.underlying23 Tryz.underlying5 Tryz.underlying9 rfl rfl (by rw [byB_length]; rfl) ?_;go_wp2_with fail;exact .mk (hE _ _ rfl hC1 rfl)
      ·refine qaf [] (fun _=>rfl) rfl ?_;intro w1 vals hC1 hi0 hf E hE;clear hi0;clear hf;simp only [sP] at hE ⊢;go_wp2;exact .mk (hE _ _ rfl hC1 rfl)
      ·refine qaf [(3,some 52)] (fun _=>rfl) rfl ?_;intro w1 vals hC1 hi0 hf E hE;clear hi0;have f3:vals 3=_:=hf 3 rfl
       try dsimp only at f3
       clear hf;have hbel:=hC1.bel;rw [HHG.out] at hbel;simp only [sP,f3] at hE ⊢;clear f3;refine qa2 (l:=l) (HR.out.below hbel) Tryz.underlying23 Tryz.underlying5 Tryz.underlying9 rfl rfl (by rw [HL.out]; rfl) ?_;go_wp2_with fail;exact .mk (hE _ _ rfl hC1 rfl)
      ·refine qaf [(2,some 51),(4,some 53)] (fun _=>rfl) rfl ?_;intro w1 vals hC1 hi0 hf E hE;clear hi0;have f2:vals 2=_:=hf 2 rfl;have f4:vals 4=_:=hf 4 rfl
       try dsimp only at f2 f4
       clear hf;simp only [sP,f2,f4] at hE ⊢;clear f2 f4;go_wp2;refine .mk (hE _ _ ?_ hC1 rfl);have h1:(byB M == l)=false:=beq_false_of_ne HEQ.out;show Value.bool (!byB M == l)=.bool true;rw [h1];rfl
     intro w1 vals hC1 hf;have f0:vals 0=_:=hf 0 (by decide) rfl;have f1:(fun z u=>∃ o2,z 1=.slice (some ⟨o2,0,none⟩) 32 32∧Blk u o2 5 (bnV (byN M)).toArray) vals w1:=hf 1 (by decide) rfl;have f2:vals 2=_:=hf 2 (by decide) rfl;have f3:vals 3=_:=hf 3 (by decide) rfl;have f4:vals 4=_:=hf 4 (by decide) rfl;have f5:vals 5=_:=hf 5 (by decide) rfl
     try dsimp only at f0 f1 f2 f3 f4 f5
     clear hf;simp only [sP,f0,f2,f3,f4,f5];clear f0 f2 f3 f4 f5;generalize vals 1=x1 at *;clear HC0 f1;have HC1:=zY hC1;clear hC1;have hok:mayR l=false:=by rw [HMAY.out]; exact decide_eq_false HEQ.out
     have hE1:readE l=zE:=by rw [readE,hok]; rfl
     have hF1:readF l=2:=by rw [readF,hok]; rfl
     have HE1:=zY hE1;have HF1:=zY hF1;clear hok hE1 hF1
     go_wp2_with (first
      | (refine qad (x:=.tmp 2) (cells:=eV zE) HC1.out.z rfl rfl rfl rfl qah rfl (by simp [eV,wV,limbs,Value.oneCell']) ?_; intro w5 hb5 hw5; have HB5:=zY hb5; have HW5:=zY hw5; clear hb5 hw5))
     refine bodyPost_ret (qar (P:=Tryz.prog) rfl rfl HB5.out hu rfl qah) rfl ⟨by rw [HE1.out,HF1.out]; rfl,?_⟩;exact HW5.out.below HC1.out.bel HC1.out.lr HC1.out.bel.size
 ·have hno:mayR l=false:=by simp [mayR,h32]
  have hE:readE l=zE:=by rw [readE,hno]; rfl
  have hF:readF l=2:=by rw [readF,hno]; rfl
  unfold ReadPost;rw [hE,hF];obtain ⟨n,hn⟩:=eX (l.length);rw [← hn];have hn32:¬ (n:Int)=32:=by omega
  have hb0:=Blk.new w 79 (eV zE);have HB0:=zY hb0;clear hr hc hl h32 hno hE hF hn hb0;go_enter Tryz.func65,Tryz.ntmps65;go_wp2_with (refine qad (x:=.tmp 2) (cells:=eV zE) HB0.out rfl rfl rfl rfl qah rfl (by simp [eV,wV,limbs,Value.oneCell']) ?_; intro w5 hb5 hw5; have HB5:=zY hb5; have HW5:=zY hw5; clear hb5 hw5);refine bodyPost_ret (qar (P:=Tryz.prog) rfl rfl HB5.out hu rfl qah) rfl ⟨rfl,?_⟩;exact HW5.out.below (below_new _ _) (Nat.le_refl _) (by simp)
theorem sl_bytes:SlT Tryz.prog 23 5 1 1:=SlT.mk1 (z:=.int .u8 0) Tryz.underlying23 (by kernel_rfl) rfl (by decide)
theorem sl_ints:SlT Tryz.prog 86 3 1 8:=SlT.mk1 (z:=.int .i64 0) Tryz.underlying86 (by kernel_rfl) rfl (by decide)
def numV (n:Nat):Value:=.int .i64 (n:Int)
def dV (l:List Nat):List Value:=l.map numV
theorem qbL (l:List Nat):(dV l).length=l.length:=by simp [dV]
theorem qez (l r:List Nat):dV (l++r)=dV l++dV r:=by simp [dV]
theorem dV_at {l:List Nat} {j:Nat} (h:j<l.length):(dV l)[j]'(by rw [qbL]; exact h)=.int .i64 ((l[j]:Nat):Int):=by simp [dV,numV]
theorem qc1 {α:Type} {l:List α} {k:Nat} (h:k<l.length):l.take (k+1)=l.take k++[l[k]]:=List.take_succ_eq_append_getElem h
def OwnPost (e0:TypeId) (n:Nat) (xs:List Value) (w:World) (e:Ending) (w':World):Prop :=
 ∃ A c,e=.returned (.slice A n c)∧OwnX w' w.heap.size e0 1 (.slice A n c) n xs∧Below w.heap.size w w'
theorem qbE {B:Nat} {w w1 w2:World} {A:Option Addr} {n c:Nat} {e:TypeId} {xs:List Value} (hb:Below B w w1) (ho:OwnX w1 B e 1 (.slice A n c) n xs) (hB:B≤w1.heap.size) (hg:w1.grownBy w2 (Value.slice A n c).ownBlock):Below B w w2 :=
 hb.grown hg hB fun k hk=>(ho.lt k hk).1
def refB (l:List Nat):List UInt8:=(List.range 32).map fun i=>UInt8.ofNat (l.getD i 0)
theorem rbytes_any (l:List Nat) (hd:∀ d ∈ l,d<256) (A:Option Addr) (c:Nat) (w:World) (hr:Rd w w.heap.size A (dV l)) (hc:l.length≤c) (hl:l.length≤1000000) :
  Calls Tryz.prog 55 #[.slice A l.length c] w (OwnPost 5 32 (bytesV (refB l)) w):=by
 obtain ⟨n,hn⟩:=eX (l.length);rw [← hn];have hn63:(n:Int)≤1000000:=by omega
 have hown0:OwnX w w.heap.size 5 1 (.slice none 0 0) 0 (bytesV ((refB l).take 0)):=OwnX.nil _ _ _ _
 have hd':∀ k,l.getD k 0<256:=fun k=>by
  rw [List.getD_eq_getElem?_getD]
  by_cases h:k<l.length
  ·rw [List.getElem?_eq_getElem h]; exact hd _ (List.getElem_mem h)
  ·rw [List.getElem?_eq_none (by omega)]; decide
 have HR:=zY hr;have HN:=zY hn;have HD:=zY hd';have HOWN0:=zY hown0;clear hr hn hc hl hown0 hd hd';go_enter Tryz.func55,Tryz.ntmps55;go_wp2_with fail;generalize hg:w.heap.size=g at *;have HHG:=zY hg;clear hg
 go_loopw [3,4] (fun v i wr=>∃ (k:Nat) (A1:Option Addr) (c1:Nat),k≤32∧i=.int .i64 k∧v=.slice A1 k c1∧OwnX wr g 5 1 (.slice A1 k c1) k (bytesV ((refB l).take k))∧Below g w wr) (fun _ i _=>32 - (intOf i).toNat)
 case atStart=>exact ⟨0,none,0,by omega,rfl,rfl,HOWN0.out,Below.refl _ _⟩
 case round =>
  clear HOWN0;obtain ⟨k,A1,c1,hk,rfl,rfl,hown,hbel⟩:=hrel
  by_cases hlt:k<32
  ·have hlt':(k:Int)<32:=by omega
   have hrd:=HR.out.below hbel;obtain ⟨b,hb⟩:=eX (l.getD k 0);have hbl:(b:Int)<256:=by have:=HD.out k; omega
   have hnext:(refB l).take (k+1)=(refB l).take k++[UInt8.ofNat b]:=by
    rw [qc1 (by rw [refB,List.length_map,List.length_range]; exact hlt),hb];simp [refB]
   have hbv:byteV (UInt8.ofNat b)=.int .u8 (b:Int):=by
    rw [byteV,UInt8.toNat_ofNat',Nat.mod_eq_of_lt (by omega)]
   have hsz:g≤wr.heap.size:=by rw [← HHG.out]; exact (by rw [← HHG.out] at hbel; exact hbel.size)
   have HOWN:=zY hown;have HBEL:=zY hbel;have HNEXT:=zY hnext;have HSZ:=zY hsz;have HBV:=zY hbv
   by_cases hkn:k<n
   ·have hkn':(k:Int)<(n:Int):=by omega
    have hkl:k<l.length:=by rw [← HN.out]; exact hkn
    obtain ⟨ad,rfl,hadl,hcell⟩:=hrd.at_ (k:=k) (by rw [qbL]; exact hkl);rw [dV_at hkl,show l[k]=b by rw [hb,List.getD_eq_getElem?_getD,List.getElem?_eq_getElem hkl]; rfl] at hcell;clear hown hbel hnext hrd hb hkl hsz hbv;go_wp2_with (refine qao sl_bytes rfl rfl HOWN.out rfl rfl rfl rfl (by unfold maxLen; omega) (by omega) HSZ.out ?_; intro A2 c2 w2 hown2 hg2 hn2; have HOWN2:=zY hown2; have HG2:=zY hg2; clear hown2 hg2 hn2);refine ⟨⟨k+1,A2,c2,by omega,by go_num,rfl,?_,qbE HBEL.out HOWN.out HSZ.out HG2.out⟩,by simp [intOf]; omega⟩;rw [HNEXT.out,qaT,show bytesV [UInt8.ofNat b]=[byteV (UInt8.ofNat b)] from rfl,HBV.out];exact HOWN2.out
   ·have hkn':¬ (k:Int)<(n:Int):=by omega
    have hb0:b=0:=by rw [hb,List.getD_eq_getElem?_getD,List.getElem?_eq_none (by rw [← HN.out]; omega)]; rfl
    subst hb0;clear hown hbel hnext hrd hb hsz hbv;go_wp2_with (refine qao sl_bytes rfl rfl HOWN.out rfl rfl rfl rfl (by unfold maxLen; omega) (by omega) HSZ.out ?_; intro A2 c2 w2 hown2 hg2 hn2; have HOWN2:=zY hown2; have HG2:=zY hg2; clear hown2 hg2 hn2);refine ⟨⟨k+1,A2,c2,by omega,by go_num,rfl,?_,qbE HBEL.out HOWN.out HSZ.out HG2.out⟩,by simp [intOf]; omega⟩;rw [HNEXT.out,qaT];exact HOWN2.out
  ·obtain rfl:k=32:=by omega
   have HOWN:=zY hown;have HBEL:=zY hbel;clear hown hbel;go_wp2_with fail;go_ret;refine ⟨A1,c1,rfl,?_,by rw [HHG.out]; exact HBEL.out⟩;rw [HHG.out];have h:=HOWN.out;rw [List.take_of_length_le (by rw [refB,List.length_map,List.length_range]; exact Nat.le_refl _)] at h;exact h
def Dg (l:List Nat):Prop:=∀ d ∈ l,d<256
theorem qa3 {l:List Nat} (h:Dg l) (k:Nat):l.getD k 0<256:=by
 rw [List.getD_eq_getElem?_getD]
 by_cases hk:k<l.length
 ·rw [List.getElem?_eq_getElem hk]; exact h _ (List.getElem_mem hk)
 ·rw [List.getElem?_eq_none (by omega)]; decide
theorem qdO (N k:Nat):N/256^k=N/256^k%256+256*(N/256^(k+1)):=by
 rw [Nat.pow_succ,← Nat.div_div_eq_div_mul];omega
theorem high_same:∀ (t k N M:Nat),N<256^(k+t)→M<256^(k+t)→(∀ j,k≤j→N/256^j%256=M/256^j%256)→N/256^k=M/256^k
 | 0,k,N,M,hN,hM,_=>by rw [Nat.div_eq_of_lt (show N<256^k from hN),Nat.div_eq_of_lt (show M<256^k from hM)]
 | t+1,k,N,M,hN,hM,h=>by
  have ih:=high_same t (k+1) N M (by rw [show k+1+t=k+(t+1) by omega]; exact hN) (by rw [show k+1+t=k+(t+1) by omega]; exact hM) fun j hj=>h j (by omega);rw [qdO N k,qdO M k,ih,h k (Nat.le_refl _)]
theorem qcl {l:List Nat} (h:Dg l) {t:Nat} (ht:l.length≤t):leV l<256^t :=
 Nat.lt_of_lt_of_le (qdB l h) (Nat.pow_le_pow_right (by decide) ht)
theorem high_same' {a b:List Nat} (ha:Dg a) (hb:Dg b) (k:Nat) (h:∀ j,k≤j→a.getD j 0=b.getD j 0):leV a/256^k=leV b/256^k :=
 high_same (a.length+b.length) k _ _ (qcl ha (by omega)) (qcl hb (by omega)) fun j hj=>by rw [qdC a ha,qdC b hb,h j hj]
theorem less_at {a b:List Nat} (ha:Dg a) (hb:Dg b) (k:Nat) (h:∀ j,k<j→a.getD j 0=b.getD j 0) (hne:a.getD k 0≠b.getD k 0):(leV a<leV b)=(a.getD k 0<b.getD k 0):=by
 have hq:=high_same' ha hb (k+1) fun j hj=>h j (by omega);have e1:=qdO (leV a) k;have e2:=qdO (leV b) k;rw [qdC a ha,hq] at e1;rw [qdC b hb] at e2;apply propext
 constructor
 ·intro hl;have h1:leV a/256^k≤leV b/256^k:=Nat.div_le_div_right (Nat.le_of_lt hl);omega
 ·intro hl;have h1:leV a/256^k<leV b/256^k:=by omega
  exact Nat.lt_of_not_le fun h2=>absurd (Nat.div_le_div_right (c:=256^k) h2) (by omega)
theorem less_no {a b:List Nat} (ha:Dg a) (hb:Dg b) (h:∀ j,a.getD j 0=b.getD j 0):leV a=leV b:=by
 have hq:=high_same' ha hb 0 fun j _=>h j;rw [Nat.pow_zero,Nat.div_one,Nat.div_one] at hq;exact hq
theorem qdQ (l:List Nat) (d:Nat):leV (l++[d])=leV l+256^l.length*d:=by rw [qb1]; simp [leV]
theorem qbb (l:List Nat) (k:Nat):leV (l.take (k+1))=leV (l.take k)+256^k*l.getD k 0:=by
 by_cases h:k<l.length
 ·rw [qc1 h,qdQ,List.length_take,Nat.min_eq_left (by omega),List.getD_eq_getElem?_getD,List.getElem?_eq_getElem h]; rfl
 ·rw [List.take_of_length_le (by omega),List.take_of_length_le (by omega),List.getD_eq_getElem?_getD,List.getElem?_eq_none (by omega)]; simp
def pL:List Nat:=237 :: (List.replicate 30 255++[127])
theorem pL_dg:Dg pL:=by unfold Dg pL; decide
theorem pL_val:leV pL=PN:=by decide
theorem qec:pL.length=32:=by decide
def DigPost (l:List Nat) (w:World) (e:Ending) (w':World):Prop :=
 ∃ A c,e=.returned (.slice A l.length c)∧l.length≤c∧Rd w' w'.heap.size A (dV l)∧Below w.heap.size w w'
theorem qbt (l:List Nat) (j n:Nat):(dV l).toArray.setIfInBounds j (.int .i64 (n:Int))=(dV (l.set j n)).toArray:=by simp [dV,numV,List.map_set]
structure D1 (w0:World) (o:Nat) (l:List Nat) (u:World):Prop where
 bel:Below w0.heap.size w0 u
 out:Blk u o 3 (dV l).toArray
 lo:w0.heap.size≤o
theorem D1.put {w0 u u':World} {o:Nat} {l l':List Nat} (k:D1 w0 o l u) (hw:Wrote o u u') (hb:Blk u' o 3 (dV l').toArray):D1 w0 o l' u' :=
 ⟨hw.below k.bel k.lo k.bel.size,hb,k.lo⟩
theorem D1.next {w0 u u':World} {o:Nat} {l:List Nat} (k:D1 w0 o l u) (hb:Below u.heap.size u u'):D1 w0 o l u' :=
 ⟨k.bel.trans (hb.mono k.bel.size),k.out.below hb k.out.lt,k.lo⟩
theorem D1.drew {w0 u:World} {o:Nat} {l:List Nat} (k:D1 w0 o l u):D1 w0 o l u.drew:=⟨k.bel.drew,k.out,k.lo⟩
theorem qdF {w0 u:World} (l:List Nat) (hb:Below w0.heap.size w0 u):D1 w0 u.heap.size l (u.alloc (.cells (dV l).toArray 3)) :=
 ⟨hb.alloc hb.size _,Blk.new _ _ _,hb.size⟩
theorem D1.post {w0 u:World} {o n c:Nat} {l:List Nat} (k:D1 w0 o l u) (hn:n=l.length) (hc:n≤c):DigPost l w0 (.returned (.slice (some ⟨o,0,none⟩) n c)) u :=
 ⟨_,c,by rw [hn],by omega,Rd.of_blk k.out k.out.lt,k.bel⟩
theorem qbP (l:List Nat):(dV l).toArray.size=l.length:=by simp [dV]
theorem qbr:(Tryz.prog.info? 3).map (·.size)=some 1:=by kernel_rfl
theorem pfill_end:((fillL 32).set 0 237).set 31 127=pL:=by decide
theorem p_any (w:World):Calls Tryz.prog 86 #[] w (DigPost pL w):=by
 have hmk:∀ u:World,(Instr.makeSlice 86 (.int .i64 32) (.int .i64 32)).run Tryz.prog u=.ok (.slice (some ⟨u.heap.size,0,none⟩) 32 32) (u.alloc (.cells (dV (fillL 0)).toArray 3)):=fun _=>by kernel_rfl
 have hst0:=qdF (fillL 0) (Below.refl w.heap.size w);have HST0:=zY hst0;clear hst0;go_enter Tryz.func86,Tryz.ntmps86;go_wp2_with fail;generalize ho:w.heap.size=o at HST0 ⊢;clear ho hmk
 go_loopw [2] (fun i wr=>∃ k:Nat,k≤32∧i=.int .i64 k∧D1 w o (fillL k) wr) (fun i _=>32 - (intOf i).toNat)
 case atStart=>exact ⟨0,by omega,rfl,HST0.out⟩
 case round =>
  clear HST0;obtain ⟨k,hk,rfl,hst⟩:=hrel
  by_cases hlt:k<32
  ·have hlt':(k:Int)<32:=by omega
   have HST:=zY hst;clear hst;go_wp2_with (refine qam (x:=.tmp 10) (i:=k) (v:=.int .i64 255) HST.out.out rfl rfl rfl rfl qbr (by rw [qbP,qbx k (by omega)]; exact hlt) rfl ?_; intro w5 hb5 hw5; have hst5:=HST.out.put (l':=fillL (k+1)) hw5 (by rw [show (Value.int IntKind.i64 255)=.int .i64 ((255:Nat):Int) from rfl,qbt,qdU k hlt] at hb5; exact hb5); have HST5:=zY hst5; clear hst5 hb5 hw5);exact ⟨⟨k+1,by omega,by go_num,HST5.out⟩,by simp [intOf]; omega⟩
  ·obtain rfl:k=32:=by omega
   have HST:=zY hst;clear hst
   go_wp2_with (first
    | (refine qam (x:=.tmp 12) (i:=0) (v:=.int .i64 237) HST.out.out rfl rfl rfl rfl qbr (by rw [qbP,qbx 32 (by omega)]; decide) rfl ?_; intro w5 hb5 hw5; have hst5:=HST.out.put (l':=(fillL 32).set 0 237) hw5 (by rw [show (Value.int IntKind.i64 237)=.int .i64 ((237:Nat):Int) from rfl,qbt] at hb5; exact hb5); have HST5:=zY hst5; clear hst5 hb5 hw5)
    | (refine qam (x:=.tmp 14) (i:=31) (v:=.int .i64 127) HST5.out.out rfl rfl rfl rfl qbr (by rw [qbP,List.length_set,qbx 32 (by omega)]; decide) rfl ?_; intro w6 hb6 hw6; have hst6:=HST5.out.put (l':=pL) hw6 (by rw [show (Value.int IntKind.i64 127)=.int .i64 ((127:Nat):Int) from rfl,qbt,pfill_end] at hb6; exact hb6); have HST6:=zY hst6; clear hst6 hb6 hw6))
   go_ret;exact HST6.out.post qec.symm (by decide)
theorem qda {a b:List Nat} {j p n m:Nat} (h:∀ t,n+m+1≤t+j→a.getD t 0=b.getD t 0) (hp:p+j=n+m) (he:a.getD p 0=b.getD p 0):∀ t,n+m+1≤t+(j+1)→a.getD t 0=b.getD t 0:=fun t ht=>by
 by_cases hpt:t=p
 ·rw [hpt]; exact he
 ·exact h t (by omega)
theorem less_any (a b:List Nat) (ha:Dg a) (hb:Dg b) (A B:Option Addr) (c d:Nat) (w:World) (hra:Rd w w.heap.size A (dV a)) (hrb:Rd w w.heap.size B (dV b)) (hla:a.length≤1000000) (hlb:b.length≤1000000) :
  Calls Tryz.prog 101 #[.slice A a.length c,.slice B b.length d] w (fun e w'=>e=.returned (.bool (decide (leV a<leV b)))∧w'=w):=by
 obtain ⟨n,hn⟩:=eX (a.length);obtain ⟨m,hm⟩:=eX (b.length);rw [← hn,← hm];have hn63:(n:Int)≤1000000:=by omega
 have hm63:(m:Int)≤1000000:=by omega
 have HRA:=zY hra;have HRB:=zY hrb;have HA:=zY ha;have HB:=zY hb;have HN:=zY hn;have HM:=zY hm;clear hra hrb ha hb hn hm hla hlb;go_enter Tryz.func101,Tryz.ntmps101;go_wp2_with fail
 go_loop [5] (fun i=>∃ j:Nat,j≤n+m+1∧i=.int .i64 ((n:Int)+(m:Int) - (j:Int))∧∀ t,n+m+1≤t+j→a.getD t 0=b.getD t 0) (fun i=>(intOf i+1).toNat)
 case atStart=>exact ⟨0,by omega,by go_num,fun t ht=>by rw [List.getD_eq_getElem?_getD,List.getD_eq_getElem?_getD,List.getElem?_eq_none (by have:=HN.out; omega),List.getElem?_eq_none (by have:=HM.out; omega)]⟩
 case round =>
  obtain ⟨j,hj,rfl,hsame⟩:=hrel;have HSAME:=zY hsame;clear hsame
  by_cases hlt:j<n+m+1
  ·obtain ⟨p,hp⟩:∃ p,p+j=n+m:=⟨n+m - j,by omega⟩;have hpi:(n:Int)+(m:Int) - (j:Int)=(p:Int):=by omega
   rw [hpi];obtain ⟨x,hx⟩:=eX (a.getD p 0);obtain ⟨y,hy⟩:=eX (b.getD p 0);have HX:=zY hx;have HY:=zY hy;have HP:=zY hp;have hpl2:(p:Int)≤2000000:=by omega
   clear hpi
   have hcase:∀ Z:Prop,(((p<n→∃ ad,A=some ad∧w.cell? (ad.add p)=some (.int .i64 (x:Int)))→(¬ p<n→x=0)→(p<m→∃ ad,B=some ad∧w.cell? (ad.add p)=some (.int .i64 (y:Int)))→(¬ p<m→y=0)→Z)→Z):=fun Z hZ=>hZ
    (fun h=>by
     obtain ⟨ad,h1,_,h3⟩:=HRA.out.at_ (k:=p) (by rw [qbL,← HN.out]; exact h);have hpa:p<a.length:=by rw [← HN.out]; exact h
     rw [dV_at hpa,show a[p]=x by rw [hx,List.getD_eq_getElem?_getD,List.getElem?_eq_getElem hpa]; rfl] at h3;exact ⟨ad,h1,h3⟩)
    (fun h=>by rw [hx,List.getD_eq_getElem?_getD,List.getElem?_eq_none (by rw [← HN.out]; omega)]; rfl)
    (fun h=>by
     obtain ⟨ad,h1,_,h3⟩:=HRB.out.at_ (k:=p) (by rw [qbL,← HM.out]; exact h);have hpa:p<b.length:=by rw [← HM.out]; exact h
     rw [dV_at hpa,show b[p]=y by rw [hy,List.getD_eq_getElem?_getD,List.getElem?_eq_getElem hpa]; rfl] at h3;exact ⟨ad,h1,h3⟩)
    (fun h=>by rw [hy,List.getD_eq_getElem?_getD,List.getElem?_eq_none (by rw [← HM.out]; omega)]; rfl)
   apply hcase;intro h1 h2 h3 h4;clear hcase hx hy hp
   by_cases hpn:p<n <;> by_cases hpm:p<m
   ·obtain ⟨ad,rfl,hca⟩:=h1 hpn;have hpn':(p:Int)<(n:Int):=by omega
    obtain ⟨bd,rfl,hcb⟩:=h3 hpm;have hpm':(p:Int)<(m:Int):=by omega
    clear h1 h2 h3 h4
    by_cases hxy:x=y
    ·subst hxy;go_wp2_with fail;have hq1:(p:Int) - 1=(n:Int)+(m:Int) - ((j+1:Nat):Int):=by have:=HP.out; omega
     exact ⟨⟨j+1,by omega,by rw [hq1],qda HSAME.out HP.out (HX.out.symm.trans HY.out)⟩,by simp [intOf]⟩
    ·have hxy':¬ (x:Int)=(y:Int):=by omega
     have HXY:=zY hxy;clear hxy;go_wp2_with fail;go_ret;refine ⟨?_,rfl⟩;have hl:=less_at HA.out HB.out p (fun t ht=>HSAME.out t (by have:=HP.out; omega)) (by rw [← HX.out,← HY.out]; exact HXY.out);rw [← HX.out,← HY.out] at hl;rw [show decide (leV a<leV b)=decide (x<y) from decide_eq_decide.mpr (by rw [hl])];exact congrArg (fun b=>Ending.returned (.bool b)) (decide_eq_decide.mpr (by omega))
   ·obtain ⟨ad,rfl,hca⟩:=h1 hpn;have hpn':(p:Int)<(n:Int):=by omega
    obtain rfl:=h4 hpm;have hpm':¬ (p:Int)<(m:Int):=by omega
    clear h1 h2 h3 h4
    by_cases hxy:x=0
    ·subst hxy;go_wp2_with fail;have hq1:(p:Int) - 1=(n:Int)+(m:Int) - ((j+1:Nat):Int):=by have:=HP.out; omega
     exact ⟨⟨j+1,by omega,by rw [hq1],qda HSAME.out HP.out (HX.out.symm.trans HY.out)⟩,by simp [intOf]⟩
    ·have hxy':¬ (x:Int)=(0:Int):=by omega
     have HXY:=zY hxy;clear hxy;go_wp2_with fail;go_ret;refine ⟨?_,rfl⟩;have hl:=less_at HA.out HB.out p (fun t ht=>HSAME.out t (by have:=HP.out; omega)) (by rw [← HX.out,← HY.out]; exact HXY.out);rw [← HX.out,← HY.out] at hl;rw [show decide (leV a<leV b)=decide (x<0) from decide_eq_decide.mpr (by rw [hl])];exact congrArg (fun b=>Ending.returned (.bool b)) (decide_eq_decide.mpr (by omega))
   ·obtain rfl:=h2 hpn;have hpn':¬ (p:Int)<(n:Int):=by omega
    obtain ⟨bd,rfl,hcb⟩:=h3 hpm;have hpm':(p:Int)<(m:Int):=by omega
    clear h1 h2 h3 h4
    by_cases hxy:0=y
    ·subst hxy;go_wp2_with fail;have hq1:(p:Int) - 1=(n:Int)+(m:Int) - ((j+1:Nat):Int):=by have:=HP.out; omega
     exact ⟨⟨j+1,by omega,by rw [hq1],qda HSAME.out HP.out (HX.out.symm.trans HY.out)⟩,by simp [intOf]⟩
    ·have hxy':¬ (0:Int)=(y:Int):=by omega
     have HXY:=zY hxy;clear hxy;go_wp2_with fail;go_ret;refine ⟨?_,rfl⟩;have hl:=less_at HA.out HB.out p (fun t ht=>HSAME.out t (by have:=HP.out; omega)) (by rw [← HX.out,← HY.out]; exact HXY.out);rw [← HX.out,← HY.out] at hl;rw [show decide (leV a<leV b)=decide (0<y) from decide_eq_decide.mpr (by rw [hl])];exact congrArg (fun b=>Ending.returned (.bool b)) (decide_eq_decide.mpr (by omega))
   ·obtain rfl:=h2 hpn;have hpn':¬ (p:Int)<(n:Int):=by omega
    obtain rfl:=h4 hpm;have hpm':¬ (p:Int)<(m:Int):=by omega
    clear h1 h2 h3 h4;go_wp2_with fail;have hq1:(p:Int) - 1=(n:Int)+(m:Int) - ((j+1:Nat):Int):=by have:=HP.out; omega
    exact ⟨⟨j+1,by omega,by rw [hq1],qda HSAME.out HP.out (HX.out.symm.trans HY.out)⟩,by simp [intOf]⟩
  ·obtain rfl:j=n+m+1:=by omega
   have hno:=less_no HA.out HB.out fun t=>HSAME.out t (by omega);have hm1:(n:Int)+(m:Int) - ((n+m+1:Nat):Int)=-1:=by omega
   have HNO:=zY hno;rw [hm1];clear hno hm1 hlt;go_wp2_with fail;go_ret;refine ⟨?_,rfl⟩;rw [HNO.out,decide_eq_false (Nat.lt_irrefl _)];rfl
def digN (n N:Nat):List Nat:=(List.range n).map fun j=>N/256^j%256
theorem qaj (n N:Nat):(digN n N).length=n:=by simp [digN]
theorem qa0 (n N:Nat):Dg (digN n N):=fun d h=>by
 obtain ⟨j,_,rfl⟩:=List.mem_map.1 h;exact Nat.mod_lt _ (by decide)
theorem qbk (n N:Nat) (h:N<256^n):leV (digN n N)=N:=by rw [digN,leV_mod,Nat.mod_eq_of_lt h]
theorem digN_eq {l:List Nat} {n N:Nat} (h:Dg l) (hl:l.length=n) (hv:leV l=N):l=digN n N:=by
 have hlt:=qdB l h;rw [hv,hl] at hlt;exact leV_ext l _ (by rw [hl,qaj]) h (qa0 n N) (by rw [hv,qbk n N hlt])
theorem byN_dig (N:Nat):byN N=digN 32 N:=rfl
theorem qew {l:List Nat} {d:Nat} (h:Dg l) (hd:d<256):Dg (l++[d]):=fun x hx=>by
 rcases List.mem_append.1 hx with h1 | h1
 ·exact h x h1
 ·rw [List.mem_singleton.1 h1]; exact hd
theorem dg_take {l:List Nat} (h:Dg l) (k:Nat):Dg (l.take k):=fun x hx=>h x (List.mem_of_mem_take hx)
theorem dg_drop {l:List Nat} (h:Dg l) (k:Nat):Dg (l.drop k):=fun x hx=>h x (List.mem_of_mem_drop hx)
theorem qex {l:List Nat} (h:Dg l) (k d:Nat) (hd:d<256):Dg (l.set k d):=fun x hx=>by
 rcases List.mem_or_eq_of_mem_set hx with h1 | h1
 ·exact h x h1
 ·rw [h1]; exact hd
def partL (out:List Nat) (n:Nat):List Nat:=out++List.replicate (n - out.length) 0
theorem qa4 (out:List Nat) (n:Nat) (h:out.length≤n):(partL out n).length=n:=by simp [partL]; omega
theorem qeb (n:Nat):partL [] n=List.replicate n 0:=rfl
theorem qdr (out:List Nat) (n:Nat) (h:out.length=n):partL out n=out:=by simp [partL,h]
theorem qc5 (out:List Nat) (n k d:Nat) (hk:out.length=k) (h:k<n):(partL out n).set k d=partL (out++[d]) n:=by
 subst hk;obtain ⟨r,hr⟩:∃ r,n - out.length=r+1:=⟨n - out.length - 1,by omega⟩;have hr2:n - (out++[d]).length=r:=by simp; omega
 rw [partL,partL,hr,hr2,List.set_append_right _ _ (Nat.le_refl _),Nat.sub_self,List.replicate_succ,List.set_cons_zero];simp
theorem leV_take_le (l:List Nat) (k:Nat):leV (l.take k)≤leV l:=by
 conv=>rhs; rw [← List.take_append_drop k l,qb1]
 omega
theorem qca (l:List Nat) (k:Nat) (h:l.length≤k):leV (l.take k)=leV l:=by rw [List.take_of_length_le h]
theorem leV_take_of {l:List Nat} {k N:Nat} (h:leV l≤N) (hN:N<256^k):leV (l.take k)=leV l:=by
 by_cases hk:l.length≤k
 ·exact qca l k hk
 ·have e:=qb1 (l.take k) (l.drop k);rw [List.take_append_drop,List.length_take,Nat.min_eq_left (by omega)] at e
  have:leV (l.drop k)=0:=by
   rcases Nat.eq_zero_or_pos (leV (l.drop k)) with h0 | h0
   ·exact h0
   ·have:=Nat.mul_le_mul_left (256^k) h0;omega
  rw [this,Nat.mul_zero] at e;omega
theorem plus_step {out a b:List Nat} {k c:Nat} (hl:out.length=k) (h:leV out+256^k*c=leV (a.take k)+leV (b.take k)) :
  leV (out++[(c+a.getD k 0+b.getD k 0)%256])+256^(k+1)*((c+a.getD k 0+b.getD k 0)/256)=leV (a.take (k+1))+leV (b.take (k+1)):=by
 obtain ⟨v,hv⟩:=eX (c+a.getD k 0+b.getD k 0);rw [← hv,qdQ,hl,qbb,qbb,Nat.pow_succ]
 have e:256^k*(v%256)+256^k*256*(v/256)=256^k*v:=by
  rw [Nat.mul_assoc,← Nat.mul_add,Nat.mod_add_div]
 have e2:256^k*v=256^k*c+256^k*a.getD k 0+256^k*b.getD k 0:=by rw [hv,Nat.mul_add,Nat.mul_add]
 omega
theorem plus_end {out a b:List Nat} {n c:Nat} (ha:Dg a) (hb:Dg b) (ho:Dg out) (hl:out.length=n+1) (hna:a.length≤n) (hnb:b.length≤n) (h:leV out+256^(n+1)*c=leV (a.take (n+1))+leV (b.take (n+1))):out=digN (n+1) (leV a+leV b):=by
 rw [qca a _ (by omega),qca b _ (by omega)] at h;have h1:=qcl ha hna;have h2:=qcl hb hnb
 have hc:c=0:=by
  rcases Nat.eq_zero_or_pos c with h0 | h0
  ·exact h0
  ·have:=Nat.mul_le_mul_left (256^(n+1)) h0;rw [Nat.pow_succ] at *;omega
 rw [hc,Nat.mul_zero,Nat.add_zero] at h;exact digN_eq ho hl h
def subD (a b s:Nat):Nat:=if a<s+b then a+256 - s - b else a - s - b
def subC (a b s:Nat):Nat:=if a<s+b then 1 else 0
theorem minus_step {out a b:List Nat} {k s:Nat} (hb:Dg b) (hs:s≤1) (hl:out.length=k) (h:leV out+leV (b.take k)=leV (a.take k)+256^k*s) :
  leV (out++[subD (a.getD k 0) (b.getD k 0) s])+leV (b.take (k+1))=leV (a.take (k+1))+256^(k+1)*subC (a.getD k 0) (b.getD k 0) s:=by
 obtain ⟨x,hx⟩:=eX (a.getD k 0);obtain ⟨y,hy⟩:=eX (b.getD k 0);have hyl:=qa3 hb k;rw [qdQ,hl,qbb,qbb,← hx,← hy,Nat.pow_succ]
 have e:256^k*subD x y s+256^k*s+256^k*y=256^k*x+256^k*256*subC x y s:=by
  rw [Nat.mul_assoc,← Nat.mul_add,← Nat.mul_add,← Nat.mul_add]
  congr 1
  unfold subD subC
  split <;> omega
 omega
theorem subD_lt {a b s:Nat} (ha:a<256) (hb:b<256) (hs:s≤1):subD a b s<256:=by unfold subD; split <;> omega
theorem minus_end {out a b:List Nat} {n s:Nat} (ha:Dg a) (hb:Dg b) (ho:Dg out) (hl:out.length=n) (hna:a.length=n) (hle:leV b≤leV a) (h:leV out+leV (b.take n)=leV (a.take n)+256^n*s):out=digN n (leV a - leV b):=by
 have h1:=qcl ha (Nat.le_of_eq hna);have h3:=qcl ho (Nat.le_of_eq hl);rw [qca a _ (by omega),leV_take_of hle h1] at h
 have hs:s=0:=by
  rcases Nat.eq_zero_or_pos s with h0 | h0
  ·exact h0
  ·have:=Nat.mul_le_mul_left (256^n) h0;omega
 rw [hs,Nat.mul_zero,Nat.add_zero] at h;exact digN_eq ho hl (by omega)
theorem qcf (n:Nat) (hn:n≤4000000) (u:World):(Instr.makeSlice 86 (.int .i64 (n:Int)) (.int .i64 (n:Int))).run Tryz.prog u=.ok (.slice (some ⟨u.heap.size,0,none⟩) n n) (u.alloc (.cells (dV (partL [] n)).toArray 3)):=by
 have hi:(Tryz.prog.info? 3).map (fun i=>(i.zero,i.size,i.bytes))=some (some (.int .i64 0),1,8):=by kernel_rfl
 obtain ⟨i,h1,hi2⟩:=Option.map_eq_some_iff.1 hi;have h2:i.zero=some (.int .i64 0):=congrArg (·.1) hi2;have h3:i.size=1:=congrArg (·.2.1) hi2;have h4:i.bytes=8:=congrArg (·.2.2) hi2;have h:=run_makeSlice (P:=Tryz.prog) u 86 3 i (.int .i64 0) Tryz.underlying86 h1 h2 .i64 .i64 (n:Int) (n:Int) (by omega) (by omega) (by rw [h3,Int.toNat_natCast]; omega) (by rw [h4]; omega) (by omega);rw [Int.toNat_natCast,h3] at h
 have e:madeCells (Value.int .i64 0).cells (n*1)=(dV (partL [] n)).toArray:=by
  apply Array.ext';rw [Nat.mul_one,show (Value.int IntKind.i64 0).cells=#[.int .i64 0] from rfl,toList_madeCells_one,qeb,dV,List.map_replicate];rfl
 rw [h,e]
def bsN (l:List Nat):List UInt8:=l.map UInt8.ofNat
theorem digs_bsN {l:List Nat} (h:Dg l):digs (bsN l)=l:=qdw l h
theorem bnV_bsN {l:List Nat} (h:Dg l):bnV l=bytesV (bsN l):=by
 conv=>lhs; rw [← digs_bsN h]
 simp [bnV,bytesV,byteV,digs]
theorem bnV_digs' (b:List UInt8):bnV (digs b)=bytesV b:=by simp [bnV,bytesV,byteV,digs]
theorem digs_dg (b:List UInt8):Dg (digs b):=digs_lt b
def hexD (n:Nat):Nat:=if n<10 then 48+n else 87+n
theorem hexD_lt {n:Nat} (h:n<16):hexD n<256:=by unfold hexD; split <;> omega
def hexB (x:Nat):List UInt8:=[UInt8.ofNat (hexD (x/16)),UInt8.ofNat (hexD (x%16))]
def nameK (h:List UInt8) (k:Nat):List UInt8:=(h.take k).flatMap fun b=>hexB b.toNat
theorem qdu {h:List UInt8} {k:Nat} (hk:k<h.length):nameK h (k+1)=nameK h k++hexB h[k].toNat:=by
 rw [nameK,List.take_succ_eq_append_getElem hk,List.flatMap_append];simp [nameK]
theorem hexB_length (x:Nat):(hexB x).length=2:=rfl
theorem qcy {h:List UInt8}:∀ {k:Nat},k≤h.length→(nameK h k).length=2*k
 | 0,_=>by simp [nameK]
 | k+1,hk=>by rw [qdu (by omega),List.length_append,qcy (k:=k) (by omega),hexB_length]; omega
def nameS (data:List UInt8):ByteArray:=⟨(nameK (Sh.digS Sh.F32 data) 4).toArray⟩
theorem hexB_val (x:Nat) (hx:x<256):bytesV (hexB x)=[.int .u8 (hexD (x/16):Nat),.int .u8 (hexD (x%16):Nat)]:=by
 have h1:=hexD_lt (n:=x/16) (by omega);have h2:=hexD_lt (n:=x%16) (by omega);simp [hexB,bytesV,byteV];omega
theorem qbI {w w':World} {A:Option Addr} {xs:List Value} (h:Rd w w.heap.size A xs) (hb:Below w.heap.size w w'):Rd w' w'.heap.size A xs:=(h.below hb).mono hb.size
theorem hexA_get (n:Nat) (h:n<16) (h2:n<(⟨#[48,49,50,51,52,53,54,55,56,57,97,98,99,100,101,102]⟩:ByteArray).size):((⟨#[48,49,50,51,52,53,54,55,56,57,97,98,99,100,101,102]⟩:ByteArray)[n]'h2).toNat=hexD n:=by
 have:n=0∨n=1∨n=2∨n=3∨n=4∨n=5∨n=6∨n=7∨n=8∨n=9∨n=10∨n=11∨n=12∨n=13∨n=14∨n=15:=by omega
 rcases this with h | h | h | h | h | h | h | h | h | h | h | h | h | h | h | h <;> subst h <;> rfl
theorem oneV (b:List UInt8):∀ u ∈ bytesV b,u.oneCell'=true:=fun u h=>by
 rw [bytesV] at h;obtain ⟨x,_,rfl⟩:=List.mem_map.1 h;rfl
theorem jname_any (data:List UInt8) (hl:data.length≤1000) (A:Option Addr) (c:Nat) (w:World) (hr:Rd w w.heap.size A (bytesV data)) (hc:data.length≤c) (hcm:c≤9223372036854775807) (hG:Sh.TabG w) :
  Calls Tryz.prog 23 #[.slice A data.length c] w (fun e w'=>e=.returned (.string (nameS data))∧Below w.heap.size w w'):=by
 have hus:=Tryz.underlying9;have hub:=Tryz.underlying23;have hu8:=Tryz.underlying5;have HS:=zY (Sh.p256_any data A c w.heap.size w hr (Nat.le_refl _) hl hc hcm hG);obtain ⟨n,hn⟩:=eX (data.length);rw [← hn] at HS ⊢;clear hr hl hc hcm hG hn;go_enter Tryz.func23,Tryz.ntmps23;go_wp2_with fail;refine qab HS.out ?_;rintro e u1 ⟨A1,c1,rfl,ho,hb1⟩;obtain ⟨H,hH⟩:=eX (Sh.digS Sh.F32 data);rw [← hH] at ho;have ho':OwnX u1 w.heap.size 5 1 (.slice A1 32 c1) 32 (bytesV H):=OwnX.of ho;have hlH:H.length=32:=by have:=ho'.1; rw [qap] at this; omega
 have hcap:32≤c1:=ho'.le_cap;have HRD:=zY (Rd.of_own ho' (Nat.le_refl _));obtain ⟨ad0,hA1,-,-⟩:=HRD.out.at_ (k:=0) (by rw [qap,hlH]; decide);have HH:=zY hH;have HB1:=zY hb1;have HLH:=zY hlH;subst hA1;clear hb1 ho ho' hlH hH HS;go_wp2_with fail
 go_loopw [3,10] (fun v i wr=>∃ (k:Nat) (A2:Option Addr) (c2:Nat),k≤4∧i=.int .i64 (k:Int)∧v=.slice A2 (2*k) c2∧OwnX wr u1.heap.size 5 1 (.slice A2 (2*k) c2) (2*k) (bytesV (nameK H k))∧Below u1.heap.size u1 wr) (fun _ i _=>4 - (intOf i).toNat)
 case atStart=>exact ⟨0,none,0,by omega,rfl,rfl,OwnX.nil _ _ _ _,Below.refl _ _⟩
 case round =>
  obtain ⟨k,A2,c2,hk,rfl,rfl,hown,hbel⟩:=hrel
  by_cases hlt:k<4
  ·have hlt':(k:Int)<4:=by omega
   have hkH:k<H.length:=by rw [HLH.out]; omega
   obtain ⟨ad',hA',-,hcell⟩:=(HRD.out.below hbel).at_ (k:=k) (by rw [qap]; exact hkH)
   injection hA' with hA'
   subst hA';obtain ⟨x,hx⟩:=eX (H[k].toNat);have hxl:x<256:=by have:=H[k].toNat_lt; omega
   have hbv:(bytesV H)[k]'(by rw [qap]; exact hkH)=.int .u8 (x:Int):=by
    rw [hx]; simp [bytesV,byteV]
   rw [hbv] at hcell;obtain ⟨L,hL⟩:=eX (nameK H k);have HN:=zY (show bytesV (nameK H (k+1))=bytesV L++bytesV (hexB x) by rw [qdu hkH,← hx,qaT,hL]);rw [← hL] at hown;clear hx hbv hL hkH;go_wp2_with fail;have HC0:Below u1.heap.size u1 wr.drew:=hbel.drew;have HI0:OwnX wr.drew u1.heap.size 5 1 (.slice A2 (2*k) c2) (2*k) (bytesV L):=hown;clear hbel hown
   refine qaD (fun u=>Below u1.heap.size u1 u) (fun | false=>(fun u=>OwnX u u1.heap.size 5 1 (.slice A2 (2*k) c2) (2*k) (bytesV L)) | true=>(fun _=>True)) (fun | false,i=>i == 8 | true,_=>false)
    [fun z _=>z 0=.slice A2 (2*k) c2,
     fun z _=>z 1=.int .u8 (x:Int),
     fun z _=>z 2=.int .u8 ((x/16:Nat):Int),
     fun z _=>z 3=.int .u8 ((hexD (x/16):Nat):Int),
     fun z _=>z 4=.int .u8 (x:Int),
     fun z _=>z 5=.int .u8 ((x%16:Nat):Int),
     fun z _=>z 6=.int .u8 ((hexD (x%16):Nat):Int),
     fun z u=>(fun v u=>∃ g,v=.slice (some ⟨g,0,none⟩) 2 2∧Blk u g 5 (bytesV (hexB x)).toArray) (z 7) u,
     fun z u=>∃ A3 c3,z 8=.slice A3 (2*(k+1)) c3∧OwnX u u1.heap.size 5 1 (.slice A3 (2*(k+1)) c3) (2*(k+1)) (bytesV (nameK H (k+1))),
     fun z u=>∃ A3 c3,z 9=.slice A3 (2*(k+1)) c3∧OwnX u u1.heap.size 5 1 (.slice A3 (2*(k+1)) c3) (2*(k+1)) (bytesV (nameK H (k+1)))]
    [Eq,Eq,Eq,Eq,Eq,Eq,Eq,fun u u'=>Below u.heap.size u u',fun _ _=>True,Eq]
    (fun i k=>(i == 8 && k == 7)) [(0,some 14),(1,some 15),(2,some 16),(3,some 17),(4,some 18),(5,some 19),(6,some 20),(7,some 21),(8,some 22),(9,some 3)] (by kernel_rfl) (by kernel_rfl) rfl (fun _=>rfl) ?_ ?_ ?_ ?_ ?_ ?_
   ·exact HC0
   ·intro m; cases m; exact HI0; exact trivial
   ·intro m; cases m
    ·refine ⟨?_,?_,?_,?_,?_,?_,?_,.inr (fun _ _ h h0=>h0.below h (Nat.le_refl _)),.inl rfl,?_,trivial⟩ <;> exact .inr fun _ _ h h0=>h▸h0
    ·refine ⟨?_,?_,?_,?_,?_,?_,?_,?_,?_,?_,trivial⟩ <;> first | exact .inr fun _ _ h h0=>h▸h0 | exact .inr fun _ _ _ h=>h
   ·refine ⟨⟨.inl rfl,?_,?_,?_,?_,?_,?_,?_,?_,?_,trivial⟩,⟨?_,.inl rfl,?_,?_,?_,?_,?_,?_,?_,?_,trivial⟩,⟨?_,?_,.inl rfl,?_,?_,?_,?_,?_,?_,?_,trivial⟩,⟨?_,?_,?_,.inl rfl,?_,?_,?_,?_,?_,?_,trivial⟩,⟨?_,?_,?_,?_,.inl rfl,?_,?_,?_,?_,?_,trivial⟩,⟨?_,?_,?_,?_,?_,.inl rfl,?_,?_,?_,?_,trivial⟩,⟨?_,?_,?_,?_,?_,?_,.inl rfl,?_,?_,?_,trivial⟩,⟨?_,?_,?_,?_,?_,?_,?_,.inl rfl,?_,?_,trivial⟩,⟨?_,?_,?_,?_,?_,?_,?_,.inr (.inl rfl),.inl rfl,?_,trivial⟩,⟨?_,?_,?_,?_,?_,?_,?_,?_,?_,.inl rfl,trivial⟩,trivial⟩ <;> first | exact .inr (.inr (.inl rfl)) | exact .inr (.inr (.inr fun _ _ _ _ _ h=>h)) | exact .inr (.inr (.inr fun _ _ _ _ h h0=>by cases h; exact h0))
   ·refine ⟨?_,?_,?_,?_,?_,?_,?_,?_,?_,?_,trivial⟩
    ·refine qaf [] (fun _=>rfl) rfl ?_;intro w1 vals hC1 hi0 hf E hE;have hI1:(fun u=>OwnX u u1.heap.size 5 1 (.slice A2 (2*k) c2) (2*k) (bytesV L)) w1:=hi0 false rfl
     try dsimp only at hI1
     clear hi0;clear hf;simp only [sP] at hE ⊢;go_wp2;exact .mk (hE _ _ rfl hC1 rfl)
    ·refine qaf [] (fun _=>rfl) rfl ?_;intro w1 vals hC1 hi0 hf E hE;clear hi0;clear hf;simp only [sP] at hE ⊢;go_wp2;exact .mk (hE _ _ rfl hC1 rfl)
    ·refine qaf [(1,some 15)] (fun _=>rfl) rfl ?_;intro w1 vals hC1 hi0 hf E hE;have hI1:(fun u=>OwnX u u1.heap.size 5 1 (.slice A2 (2*k) c2) (2*k) (bytesV L)) w1:=hi0 false rfl
     try dsimp only at hI1
     clear hi0;have f1:vals 1=_:=hf 1 rfl
     try dsimp only at f1
     clear hf;simp only [sP,f1] at hE ⊢;clear f1;go_wp2;exact .mk (hE _ _ rfl hC1 rfl)
    ·refine qaf [(2,some 16)] (fun _=>rfl) rfl ?_;intro w1 vals hC1 hi0 hf E hE;have hI1:(fun u=>OwnX u u1.heap.size 5 1 (.slice A2 (2*k) c2) (2*k) (bytesV L)) w1:=hi0 false rfl
     try dsimp only at hI1
     clear hi0;have f2:vals 2=_:=hf 2 rfl
     try dsimp only at f2
     clear hf;simp only [sP,f2] at hE ⊢;clear f2;go_wp2;rw [hexA_get (x/16) (by omega)];exact .mk (hE _ _ rfl hC1 rfl)
    ·refine qaf [] (fun _=>rfl) rfl ?_;intro w1 vals hC1 hi0 hf E hE;clear hi0;clear hf;simp only [sP] at hE ⊢;go_wp2;exact .mk (hE _ _ rfl hC1 rfl)
    ·refine qaf [(4,some 18)] (fun _=>rfl) rfl ?_;intro w1 vals hC1 hi0 hf E hE;have hI1:(fun u=>OwnX u u1.heap.size 5 1 (.slice A2 (2*k) c2) (2*k) (bytesV L)) w1:=hi0 false rfl
     try dsimp only at hI1
     clear hi0;have f4:vals 4=_:=hf 4 rfl
     try dsimp only at f4
     clear hf;simp only [sP,f4] at hE ⊢;clear f4;go_wp2;exact .mk (hE _ _ rfl hC1 rfl)
    ·refine qaf [(5,some 19)] (fun _=>rfl) rfl ?_;intro w1 vals hC1 hi0 hf E hE;have hI1:(fun u=>OwnX u u1.heap.size 5 1 (.slice A2 (2*k) c2) (2*k) (bytesV L)) w1:=hi0 false rfl
     try dsimp only at hI1
     clear hi0;have f5:vals 5=_:=hf 5 rfl
     try dsimp only at f5
     clear hf;simp only [sP,f5] at hE ⊢;clear f5;go_wp2;rw [hexA_get (x%16) (by omega)];exact .mk (hE _ _ rfl hC1 rfl)
    ·refine qaf [(3,some 17),(6,some 20)] (fun _=>rfl) rfl ?_;intro w1 vals hC1 hi0 hf E hE;have hI1:(fun u=>OwnX u u1.heap.size 5 1 (.slice A2 (2*k) c2) (2*k) (bytesV L)) w1:=hi0 false rfl
     try dsimp only at hI1
     clear hi0;have f3:vals 3=_:=hf 3 rfl;have f6:vals 6=_:=hf 6 rfl
     try dsimp only at f3 f6
     clear hf;simp only [sP,f3,f6] at hE ⊢;clear f3 f6;go_wp2;exact .mk (hE _ _ ⟨_,rfl,by rw [hexB_val x hxl]; exact Blk.new _ _ _⟩ (hC1.alloc hC1.size _) ((Below.refl _ _).alloc (Nat.le_refl _) _))
    ·refine qaf [(0,some 14),(7,some 21)] (fun _=>rfl) rfl ?_;intro w1 vals hC1 hi0 hf E hE;have hI1:(fun u=>OwnX u u1.heap.size 5 1 (.slice A2 (2*k) c2) (2*k) (bytesV L)) w1:=hi0 false rfl
     try dsimp only at hI1
     clear hi0;have f0:vals 0=_:=hf 0 rfl;have f7:(fun v u=>∃ g,v=.slice (some ⟨g,0,none⟩) 2 2∧Blk u g 5 (bytesV (hexB x)).toArray) (vals 7) w1:=hf 7 rfl
     try dsimp only at f0 f7
     clear hf;obtain ⟨g8,hx8,hg8⟩:=f7;simp only [sP,f0,hx8] at hE ⊢;clear f0;clear hx8;obtain ⟨A3,c3,w2,hr2,hown2,hgr2,hn2⟩:=qb8 (ty:=23) (c:=2) (Ad:=some ⟨g8,0,none⟩) Sh.sl_bytes hI1 (news:=bytesV (hexB x)) (m:=2) rfl (fun j u hu=>⟨_,rfl,blk_src hg8 2 j u (by simpa [hexB_val x hxl] using hu)⟩) (oneV _) (by unfold maxLen; omega) (by omega) hC1.size;refine qaU (R:=fun v' u'=>v'=.slice A3 (2*k+2) c3∧u'=w2) rfl rfl rfl rfl ⟨_,_,hr2,rfl,rfl⟩ ?_;rintro v' u' ⟨rfl,rfl⟩;go_wp2_with fail;exact .mk (hE _ _ ⟨A3,c3,rfl,by rw [HN.out]; exact hown2⟩ (hC1.grown hgr2 hC1.size (fun j hj=>(hI1.lt j hj).1)) trivial)
    ·refine qaf [(8,some 22),(8,some 22),(0,some 14),(1,some 15),(2,some 16),(3,some 17),(4,some 18),(5,some 19),(6,some 20),(7,some 21),(8,some 22)] (fun _=>rfl) rfl ?_;intro w1 vals hC1 hi0 hf E hE;clear hi0;have f0:vals 0=_:=hf 0 rfl;have f1:vals 1=_:=hf 1 rfl;have f2:vals 2=_:=hf 2 rfl;have f3:vals 3=_:=hf 3 rfl;have f4:vals 4=_:=hf 4 rfl;have f5:vals 5=_:=hf 5 rfl;have f6:vals 6=_:=hf 6 rfl;have f8:(fun z u=>∃ A3 c3,z 8=.slice A3 (2*(k+1)) c3∧OwnX u u1.heap.size 5 1 (.slice A3 (2*(k+1)) c3) (2*(k+1)) (bytesV (nameK H (k+1)))) vals w1:=hf 8 rfl
     try dsimp only at f0 f1 f2 f3 f4 f5 f6 f8
     clear hf;obtain ⟨A3,c3,hx8,ho8⟩:=f8;simp only [sP,f0,f1,f2,f3,f4,f5,f6,hx8] at hE ⊢;clear f0 f1 f2 f3 f4 f5 f6;clear hx8;go_wp2_with fail;exact .mk (hE _ _ ⟨A3,c3,rfl,ho8⟩ hC1 rfl)
   intro w1 vals hC1 hf;have f0:vals 0=_:=hf 0 (by decide) rfl;have f1:vals 1=_:=hf 1 (by decide) rfl;have f2:vals 2=_:=hf 2 (by decide) rfl;have f3:vals 3=_:=hf 3 (by decide) rfl;have f4:vals 4=_:=hf 4 (by decide) rfl;have f5:vals 5=_:=hf 5 (by decide) rfl;have f6:vals 6=_:=hf 6 (by decide) rfl;have f8:(fun z u=>∃ A3 c3,z 8=.slice A3 (2*(k+1)) c3∧OwnX u u1.heap.size 5 1 (.slice A3 (2*(k+1)) c3) (2*(k+1)) (bytesV (nameK H (k+1)))) vals w1:=hf 8 (by decide) rfl;have f9:(fun z u=>∃ A3 c3,z 9=.slice A3 (2*(k+1)) c3∧OwnX u u1.heap.size 5 1 (.slice A3 (2*(k+1)) c3) (2*(k+1)) (bytesV (nameK H (k+1)))) vals w1:=hf 9 (by decide) rfl
   try dsimp only at f0 f1 f2 f3 f4 f5 f6 f8 f9
   clear hf;simp only [sP,f0,f1,f2,f3,f4,f5,f6];clear f0 f1 f2 f3 f4 f5 f6;generalize vals 7=x7 at *;generalize vals 8=x8 at *;generalize vals 9=x9 at *;obtain ⟨A3,c3,hx9,ho9⟩:=f9;rw [hx9];have HO9:=zY ho9;have HC9:=zY hC1;clear hx9 ho9 hC1 HC0 HI0;go_wp2_with fail
   go_roundw
   case rel=>exact ⟨k+1,A3,c3,by omega,by go_num,rfl,HO9.out,HC9.out⟩
   case measure=>simp [intOf]; omega
  ·obtain rfl:k=4:=by omega
   have HR4:=zY (Rd.of_own hown (Nat.le_refl _));have hn8:(nameK H 4).length=2*4:=qcy (by rw [HLH.out]; decide);have HF:=zY (HB1.out.trans (hbel.mono HB1.out.size));clear hown hbel;go_wp2_with (refine qa2 HR4.out hub hu8 hus rfl rfl (by rw [hn8]; rfl) ?_);go_ret;exact ⟨by rw [nameS,← HH.out]; rfl,HF.out⟩
end Go.Proofs.YtcbkaaodmjphdaaGreatDoor
namespace Go.Proofs.YtcbkaaodmjphdaaGreatDoor.Sh
set_option linter.unusedSimpArgs false
set_option linter.unusedVariables false
set_option maxRecDepth 100000
set_option maxHeartbeats 4000000
open Go.RowKit
def turnR (b x:Nat):Nat→Nat
 | 0=>x
 | n+1=>turnR b x n/2+turnR b x n%2*2^(b - 1)
theorem rotN_add {b x n:Nat} (hx:x<2^b) (hn:n≤b):rotN b x n=x/2^n+x%2^n*2^(b - n):=by
 obtain ⟨m,rfl⟩:∃ m,b=n+m:=⟨b - n,by omega⟩;have hm:n+m - n=m:=by omega
 rw [rotN,hm]
 have h1:x*2^m%2^(n+m)=x%2^n*2^m:=by
  rw [Nat.pow_add,Nat.mul_mod_mul_right]
 have h2:x/2^n<2^m:=by
  rw [Nat.div_lt_iff_lt_mul (Nat.two_pow_pos _),← Nat.pow_add,Nat.add_comm m n]; exact hx
 rw [h1,Nat.mul_comm (x%2^n),Nat.or_comm,← Nat.two_pow_add_eq_or_of_lt h2];omega
theorem turnR_eq {b x:Nat} (hx:x<2^b):∀ n,n≤b→turnR b x n=x/2^n+x%2^n*2^(b - n)
 | 0,_=>by simp [turnR,Nat.mod_one]
 | n+1,hn=>by
  rw [turnR,turnR_eq hx n (by omega)];obtain ⟨m,rfl⟩:∃ m,b=n+1+m:=⟨b - (n+1),by omega⟩;rw [show n+1+m - n=m+1 by omega,show n+1+m - (n+1)=m by omega,show n+1+m - 1=n+m by omega];obtain ⟨q,hq⟩:=eX (x/2^n);obtain ⟨r,hr⟩:=eX (x%2^n);have hq2:x/2^(n+1)=q/2:=by rw [hq,Nat.pow_succ,Nat.div_div_eq_div_mul]
  have hr2:x%2^(n+1)=r+q%2*2^n:=by
   rw [hr,hq,Nat.pow_succ,Nat.mod_mul];rw [Nat.mul_comm (2^n)]
  rw [hq2,hr2,← hq,← hr];rw [Nat.pow_succ,← Nat.mul_assoc];generalize hz:r*2^m=z;rw [Nat.add_mul,hz,Nat.mul_assoc,← Nat.pow_add,Nat.add_mul_mod_self_right,Nat.add_mul_div_right _ _ (by decide)];omega
theorem turnR_rot {b x n:Nat} (hx:x<2^b) (hn:n≤b):turnR b x n=rotN b x n:=by rw [turnR_eq hx n hn,rotN_add hx hn]
theorem turnR_lt {b x:Nat} (hb:0<b) (hx:x<2^b):∀ n,turnR b x n<2^b
 | 0=>hx
 | n+1=>by
  have ih:=turnR_lt hb hx n;obtain ⟨c,rfl⟩:∃ c,b=c+1:=⟨b - 1,by omega⟩;rw [turnR,show c+1 - 1=c by omega];rw [Nat.pow_succ] at *;generalize 2^c=p at *;generalize turnR (c+1) x n=y at *;have:y%2=0∨y%2=1:=by omega
  rcases this with h | h <;> rw [h] <;> omega
theorem turnR_turned {b x n:Nat} (hb:b=32∨b=64) (hx:x<2^b) (hn:n≤b):turnR b x n=turnedN b x n:=by
 rw [turnR_rot hx hn]
 rcases hb with rfl | rfl
 ·rw [turnedN,if_pos rfl,Nat.mod_eq_of_lt hx]
 ·rw [turnedN,if_neg (by decide)]
def hC (bits steps:Nat) (a b c d k f:Value):Array Value:=#[.int .i64 bits,.int .i64 steps,a,b,c,d,k,f]
section
variable (bits steps:Nat) (a b c d k f:Value) (w:World)
theorem qbJ (hb:bits=32∨bits=64) (x:Nat) (hx:x<18446744073709551616) :
  Calls Tryz.prog 99 #[.agg (hC bits steps a b c d k f),.int .u64 x] w fun e w'=>e=.returned (.int .u64 (x%2^bits:Nat))∧Below w.heap.size w w':=by
 have c0:=(Blk.new w 108 (hC bits steps a b c d k f)).cell 0;simp only [hC,List.getElem?_toArray,List.getElem?_cons_zero] at c0;have hx1:(x:Int)<18446744073709551616:=by omega
 rw [hC]
 rcases hb with rfl | rfl
 ·clear hx;go_enter Tryz.func99,Tryz.ntmps99;go_wp2;go_ret;exact ⟨qbd (by omega),below_new _ _⟩
 ·have HX:=zY hx;clear hx;go_enter Tryz.func99,Tryz.ntmps99;go_wp2;go_ret;exact ⟨qbd (by have:=HX.out; omega),below_new _ _⟩
theorem top_any (hb:bits=32∨bits=64) (x:Nat) (hx:x<18446744073709551616) :
  Calls Tryz.prog 77 #[.agg (hC bits steps a b c d k f),.int .u64 x] w fun e w'=>e=.returned (.int .u64 (x/2^(64 - bits)%2^bits:Nat))∧Below w.heap.size w w':=by
 have c0:=(Blk.new w 108 (hC bits steps a b c d k f)).cell 0;simp only [hC,List.getElem?_toArray,List.getElem?_cons_zero] at c0;have hx1:(x:Int)<18446744073709551616:=by omega
 rw [hC]
 rcases hb with rfl | rfl
 ·have HX:=zY hx;clear hx;go_enter Tryz.func77,Tryz.ntmps77;go_wp2;go_ret;exact ⟨qbd (by have:=HX.out; omega),below_new _ _⟩
 ·have HX:=zY hx;clear hx;go_enter Tryz.func77,Tryz.ntmps77;go_wp2;go_ret;exact ⟨qbd (by have:=HX.out; omega),below_new _ _⟩
theorem qc0 (hb:bits=32∨bits=64) (x n:Nat) (hx:x<2^bits) (hn:n≤bits) :
  Calls Tryz.prog 105 #[.agg (hC bits steps a b c d k f),.int .u64 x,.int .i64 n] w fun e w'=>e=.returned (.int .u64 (turnedN bits x n:Nat))∧Below w.heap.size w w':=by
 have c0:=(Blk.new w 108 (hC bits steps a b c d k f)).cell 0;simp only [hC,List.getElem?_toArray,List.getElem?_cons_zero] at c0;have hbel:=below_new w (.cells (hC bits steps a b c d k f) 108);rw [hC] at hbel ⊢;have HTU:=zY (turnR_turned hb hx hn);have HTL:=zY (turnR_lt (by omega) hx);have HBEL:=zY hbel;have hn64:n≤64:=by omega
 clear hbel hn hx
 rcases hb with rfl | rfl
 all_goals
  go_enter Tryz.func105,Tryz.ntmps105;go_wp2
  go_loop [1,7] (fun v i=>∃ j y:Nat,j≤n∧i=.int .i64 j∧y=turnR _ x j∧v=.int .u64 y) (fun _ i=>n - (intOf i).toNat)
  case atStart=>exact ⟨0,x,by omega,rfl,rfl,rfl⟩
  case round =>
   obtain ⟨j,y,hj,rfl,hy,rfl⟩:=hrel;have hyl:=HTL.out j;rw [← hy] at hyl;have HY:=zY hy;have hyl2:(y:Int)<18446744073709551616:=by omega
   have hyl3:(y:Int)/2+2147483648<18446744073709551616:=by omega
   have hyl4:(y:Int)/2+9223372036854775808<18446744073709551616:=by omega
   clear hy hyl
   by_cases hlt:j<n
   ·rcases Nat.mod_two_eq_zero_or_one y with h | h
    ·have ho:(((y:Int)%2) == 1)=false:=by rw [beq_eq_false_iff_ne]; omega
     have HH:=zY h;clear h;go_wp2;exact ⟨⟨j+1,y/2,by omega,by go_num,by rw [turnR,← HY.out,HH.out]; omega,by go_num⟩,by simp [intOf]; omega⟩
    ·have ho:(((y:Int)%2) == 1)=true:=by rw [beq_iff_eq]; omega
     have HH:=zY h;clear h;go_wp2
     first
      | exact ⟨⟨j+1,y/2+2147483648,by omega,by go_num,by rw [turnR,← HY.out,HH.out],by go_num⟩,by simp [intOf]; omega⟩
      | exact ⟨⟨j+1,y/2+9223372036854775808,by omega,by go_num,by rw [turnR,← HY.out,HH.out],by go_num⟩,by simp [intOf]; omega⟩
   ·obtain rfl:j=n:=by omega
    go_wp2;go_ret;exact ⟨qbd (by rw [HY.out,HTU.out]),HBEL.out⟩
end
end Go.Proofs.YtcbkaaodmjphdaaGreatDoor.Sh
namespace Go.Proofs.YtcbkaaodmjphdaaGreatDoor
set_option linter.unusedSimpArgs false
set_option linter.unusedVariables false
set_option maxRecDepth 100000
set_option maxHeartbeats 4000000
open Go.RowKit
theorem Rd.val {w:World} {B:Nat} {ad:Addr} {xs:List Value} (h:Rd w B (some ad) xs) {k:Nat} {v:Value} (hv:xs[k]?=some v):w.cell? (ad.add k)=some v:=by
 obtain ⟨ad',e,_,hc⟩:=h k v hv
 injection e with e
 subst e;exact hc
theorem Rd.val0 {w:World} {B:Nat} {ad:Addr} {xs:List Value} (h:Rd w B (some ad) xs) {v:Value} (hv:xs[0]?=some v):w.cell? ad=some v:=by
 have:=h.val hv
 rwa [show ad.add 0=ad by unfold Addr.add; simp] at this
theorem Rd.lit {w:World} {B:Nat} {ad:Addr} {xs:List Value} (h:Rd w B (some ad) xs) {k:Nat} {v:Value} (hv:xs[k]?=some v) (hk:k≠0):w.cell? ⟨ad.block,ad.off+k,none⟩=some v:=by
 have:=h.val hv
 rwa [show ad.add k=⟨ad.block,ad.off+k,none⟩ by unfold Addr.add; simp [hk]] at this
theorem OwnX.ptr {w:World} {base e n c:Nat} {A:Option Addr} {xs:List Value} (h:OwnX w base e 1 (.slice A n c) n xs) (hn:0<n):∃ g,A=some ⟨g,0,none⟩∧base≤g∧g<w.heap.size:=by
 have hl:=h.lt
 rcases h.2 with ⟨_,h0⟩ | ⟨g,cap,cur,fz,hv,hb,hg,_⟩
 ·omega
 ·injection hv with h1
  subst h1;exact ⟨g,rfl,hb,(Array.getElem?_eq_some_iff.1 hg).1⟩
theorem OwnX.atN {w:World} {base e n c g i:Nat} {xs:List Value} {v:Value} (h:OwnX w base e 1 (.slice (some ⟨g,0,none⟩) n c) n xs) (hv:xs[i]?=some v):w.cell? ⟨g,i,none⟩=some v:=by
 have:=h.cells (g:=g) rfl i v hv
 rwa [Addr.add_lit,Nat.zero_add] at this
end Go.Proofs.YtcbkaaodmjphdaaGreatDoor
namespace Go.Proofs.YtcbkaaodmjphdaaGreatDoor.Sh
set_option linter.unusedSimpArgs false
set_option linter.unusedVariables false
set_option maxRecDepth 100000
set_option maxHeartbeats 4000000
open Go.RowKit
theorem qaJ:(Tryz.prog.info? 108).map (·.size)=some 8:=by kernel_rfl
def triV (p q c:Nat):List Value:=[.int .i64 p,.int .i64 q,.int .i64 c]
structure MxSt (w0:World) (g:Nat) (cs:Array Value) (A:Option Addr) (xs:List Value) (u:World):Prop where
 bel:Below g w0 u
 h:Blk u g 108 cs
 rd:Rd u g A xs
theorem MxSt.next {w0 u u':World} {g:Nat} {cs:Array Value} {A:Option Addr} {xs:List Value} (h:MxSt w0 g cs A xs u) (hb:Below u.heap.size u u'):MxSt w0 g cs A xs u' :=
 ⟨h.bel.trans (hb.mono (by have:=h.h.lt; omega)),h.h.below hb h.h.lt,h.rd.below (hb.mono (by have:=h.h.lt; omega))⟩
theorem MxSt.drew {w0 u:World} {g:Nat} {cs:Array Value} {A:Option Addr} {xs:List Value} (h:MxSt w0 g cs A xs u):MxSt w0 g cs A xs u.drew :=
 ⟨h.bel.drew,h.h,h.rd.below (Below.refl _ _).drew⟩
def halves (x:Nat):Nat→Nat
 | 0=>x
 | n+1=>halves x n/2
theorem qet (x:Nat):∀ n,halves x n=x/2^n
 | 0=>by simp [halves]
 | n+1=>by rw [halves,qet x n,Nat.div_div_eq_div_mul,Nat.pow_succ]
theorem halves_le (x:Nat) (n:Nat):halves x n≤x:=by rw [qet]; exact Nat.div_le_self _ _
theorem qbS (bits steps:Nat) (a b c d k f:Value) (w:World) (hb:bits=32∨bits=64) (x p q r:Nat) (shift:Bool) (hx:x<2^bits) (hp:p≤bits) (hq:q≤bits) (hr:r≤bits)
  (A:Option Addr) (cp B:Nat) (hrd:Rd w B A (triV p q r)) (hB:B≤w.heap.size) (hcp:3≤cp) :
  Calls Tryz.prog 98 #[.agg (hC bits steps a b c d k f),.int .u64 x,.slice A 3 cp,.bool shift] w fun e w'=>e=.returned (.int .u64 (allN bits x p q r shift:Nat))∧Below w.heap.size w w':=by
 obtain ⟨ad,rfl,_,_⟩:=hrd.at_ (k:=0) (by simp [triV]);obtain ⟨W0,hW0⟩:=eX (w.alloc (.cells (hC bits steps a b c d k f) 108));obtain ⟨cs,hcs⟩:=eX (hC bits steps a b c d k f)
 have hst:MxSt w w.heap.size cs (some ad) (triV p q r) W0:=by
  rw [hW0,hcs]; exact ⟨below_new _ _,Blk.new _ _ _,(hrd.mono hB).below (below_new _ _)⟩
 have hb64:bits≤64:=by omega
 have hx64:x<2^64:=Nat.lt_of_lt_of_le hx (Nat.pow_le_pow_right (by omega) hb64);have hst0:=hst;rw [hW0,← hcs] at hst0;have hr64:r≤64:=by omega
 have HST:=zY hst0;have HX:=zY hx;have HXL:=zY hx64;have HB:=zY hb;have HP:=zY hp;have HQ:=zY hq;have HR:=zY hr;have HCS:=zY hcs;have hu:=Tryz.underlying108;have hcs8:cs.size=8:=by rw [hcs]; rfl
 have HCS8:=zY hcs8;rw [← hcs];have hx1:(x:Int)<18446744073709551616:=by omega
 have hAN:allN bits x p q r shift=(turnedN bits x p ^^^ turnedN bits x q) ^^^ lastN bits x r shift:=rfl;have HAN:=zY hAN;obtain ⟨tp,htp⟩:=eX (turnedN bits x p);obtain ⟨tq,htq⟩:=eX (turnedN bits x q);obtain ⟨tr,htr⟩:=eX (turnedN bits x r);obtain ⟨la,hla⟩:=eX (lastN bits x r shift);obtain ⟨pq,hpq⟩:=eX (tp ^^^ tq);obtain ⟨re,hre⟩:=eX (pq ^^^ la);have HTP:=zY htp;have HTQ:=zY htq;have HTR:=zY htr;have HLA:=zY hla;have HPQ:=zY hpq;have HRE:=zY hre;have LTP:Hid (tp<2^64):=zY (by rw [htp]; exact qaE hx64);have LTQ:Hid (tq<2^64):=zY (by rw [htq]; exact qaE hx64);have LLA:Hid (la<2^64):=zY (by rw [hla]; exact qcN hx64);have LPQ:Hid (pq<2^64):=zY (by rw [hpq]; exact Nat.xor_lt_two_pow LTP.out LTQ.out);clear hrd hst hx hx64 hb hp hq hr hcs hcs8 hW0 hst0 hAN htp htq htr hla hpq hre W0
 cases shift
 all_goals
  go_enter Tryz.func98,Tryz.ntmps98;go_wp2_with fail;have HC0:=HST.out.drew;refine qal (fun u=>MxSt w w.heap.size cs (some ad) (triV p q r) u) (fun u=>MxSt w w.heap.size cs (some ad) (triV p q r) u) [(0,some 11),(1,some 12),(2,some 13),(3,some 14),(4,some 15),(5,some 16),(6,some 9)] (by kernel_rfl) (by kernel_rfl) (by decide) (by kernel_rfl) (fun _=>rfl) HC0 ?_;apply yN_
  ·apply dP [];exact fun _=>rfl;rfl;rintro vals - w1 hC1 E hE;simp only [sP] at hE ⊢;refine qac hC1.h rfl rfl rfl hu rfl (by rw [HCS8.out]; exact qaJ) ?_;go_wp2_with fail;exact .mk (hE _ hC1)
  apply yN_
  ·apply dP [];exact fun _=>rfl;rfl;rintro vals ⟨-,-⟩ w1 hC1 E hE;simp only [sP] at hE ⊢;go_wp2;exact .mk (hE _ hC1)
  apply yN_
  ·apply dP [];exact fun _=>rfl;rfl;intro vals vq w1 hC1 E hE;clear vq;simp only [sP] at hE ⊢;go_wp2;exact .mk (hE _ hC1)
  apply yN_
  ·apply dP [(2,some 13)];exact fun _=>rfl;rfl;intro vals vq w1 hC1 E hE;simp only [sP,vq] at hE ⊢;clear vq;go_wp2;exact .mk (hE _ hC1)
  apply yN_
  ·apply dP [(3,some 14)];exact fun _=>rfl;rfl;intro vals vq w1 hC1 E hE;have d0:=hC1.rd.lit (k:=2) rfl (by decide);simp only [sP,vq] at hE ⊢;clear vq;go_wp2;exact .mk (hE _ hC1)
  apply yN_
  ·apply dP [(0,some 11),(1,some 12),(4,some 15)];exact fun _=>rfl;rfl;intro vals vq w1 hC1 E hE;simp only [sP,vq] at hE ⊢;clear vq;go_wp2_with fail;have hct:=qc0 bits steps a b c d k f w1 HB.out x r HX.out HR.out;rw [← HCS.out] at hct;refine qab hct ?_;rintro e w2 ⟨rfl,hb2⟩;rw [← HTR.out];go_wp2_with fail;exact .mk (hE _ (hC1.next hb2))
  apply yL_
  ·apply dP [(5,some 16),(5,some 16),(0,some 11),(1,some 12),(2,some 13),(3,some 14),(4,some 15),(5,some 16)];exact fun _=>rfl;rfl;intro vals vq w1 hC1 E hE;simp only [sP,vq] at hE ⊢;clear vq;go_wp2;exact .mk (hE _ hC1)
  intro vals vq w1 hC1;simp only [sP,vq];clear vq;clear HC0;have HC1:=zY hC1;have d2:=hC1.rd.lit (k:=2) rfl (by decide);clear hC1;go_wp2_with fail
 ·obtain rfl:tr=la:=by rw [HLA.out,HTR.out]; rfl
  have HC0:=HC1.out.drew;refine qal (fun u=>MxSt w w.heap.size cs (some ad) (triV p q r) u) (fun u=>MxSt w w.heap.size cs (some ad) (triV p q r) u) [(0,some 28),(1,some 29),(2,some 30),(3,some 31),(4,some 32),(5,some 33),(6,some 34),(7,some 35),(8,some 36),(9,some 37),(10,some 38),(11,some 39),(12,some 40),(13,some 41),(14,some 42),(15,some 8)] (by kernel_rfl) (by kernel_rfl) (by decide) (by kernel_rfl) (fun _=>rfl) HC0 ?_;apply yN_
  ·apply dP [];exact fun _=>rfl;rfl;rintro vals - w1 hC1 E hE;simp only [sP] at hE ⊢;refine qac hC1.h rfl rfl rfl hu rfl (by rw [HCS8.out]; exact qaJ) ?_;go_wp2_with fail;exact .mk (hE _ hC1)
  apply yN_
  ·apply dP [];exact fun _=>rfl;rfl;rintro vals ⟨-,-⟩ w1 hC1 E hE;simp only [sP] at hE ⊢;go_wp2;exact .mk (hE _ hC1)
  apply yN_
  ·apply dP [];exact fun _=>rfl;rfl;intro vals vq w1 hC1 E hE;clear vq;simp only [sP] at hE ⊢;go_wp2;exact .mk (hE _ hC1)
  apply yN_
  ·apply dP [(2,some 30)];exact fun _=>rfl;rfl;intro vals vq w1 hC1 E hE;simp only [sP,vq] at hE ⊢;clear vq;go_wp2;exact .mk (hE _ hC1)
  apply yN_
  ·apply dP [(3,some 31)];exact fun _=>rfl;rfl;intro vals vq w1 hC1 E hE;have d0:=hC1.rd.val0 rfl;simp only [sP,vq] at hE ⊢;clear vq;go_wp2;exact .mk (hE _ hC1)
  apply yN_
  ·apply dP [(0,some 28),(1,some 29),(4,some 32)];exact fun _=>rfl;rfl;intro vals vq w1 hC1 E hE;simp only [sP,vq] at hE ⊢;clear vq;go_wp2_with fail;have hct:=qc0 bits steps a b c d k f w1 HB.out x p HX.out HP.out;rw [← HCS.out] at hct;refine qab hct ?_;rintro e w2 ⟨rfl,hb2⟩;rw [← HTP.out];go_wp2_with fail;exact .mk (hE _ (hC1.next hb2))
  apply yN_
  ·apply dP [];exact fun _=>rfl;rfl;intro vals vq w1 hC1 E hE;clear vq;simp only [sP] at hE ⊢;refine qac hC1.h rfl rfl rfl hu rfl (by rw [HCS8.out]; exact qaJ) ?_;go_wp2_with fail;exact .mk (hE _ hC1)
  apply yN_
  ·apply dP [];exact fun _=>rfl;rfl;intro vals vq w1 hC1 E hE;clear vq;simp only [sP] at hE ⊢;go_wp2;exact .mk (hE _ hC1)
  apply yN_
  ·apply dP [];exact fun _=>rfl;rfl;intro vals vq w1 hC1 E hE;clear vq;simp only [sP] at hE ⊢;go_wp2;exact .mk (hE _ hC1)
  apply yN_
  ·apply dP [(8,some 36)];exact fun _=>rfl;rfl;intro vals vq w1 hC1 E hE;simp only [sP,vq] at hE ⊢;clear vq;go_wp2;exact .mk (hE _ hC1)
  apply yN_
  ·apply dP [(9,some 37)];exact fun _=>rfl;rfl;intro vals vq w1 hC1 E hE;have d0:=hC1.rd.lit (k:=1) rfl (by decide);simp only [sP,vq] at hE ⊢;clear vq;go_wp2;exact .mk (hE _ hC1)
  apply yN_
  ·apply dP [(6,some 34),(7,some 35),(10,some 38),(5,some 33)];exact fun _=>rfl;rfl;intro vals vq w1 hC1 E hE;simp only [sP,vq] at hE ⊢;clear vq;go_wp2_with fail;have hct:=qc0 bits steps a b c d k f w1 HB.out x q HX.out HQ.out;rw [← HCS.out] at hct;refine qab hct ?_;rintro e w2 ⟨rfl,hb2⟩;rw [← HTQ.out];go_wp2_with fail;exact .mk (hE _ (hC1.next hb2))
  apply yN_
  ·apply dP [(5,some 33),(11,some 39)];exact fun _=>rfl;rfl;intro vals vq w1 hC1 E hE;simp only [sP,vq] at hE ⊢;clear vq;go_wp2;rw [xor64 tp tq LTP.out LTQ.out,← HPQ.out];exact .mk (hE _ hC1)
  apply yN_
  ·apply dP [];exact fun _=>rfl;rfl;intro vals vq w1 hC1 E hE;clear vq;simp only [sP] at hE ⊢;go_wp2;exact .mk (hE _ hC1)
  apply yN_
  ·apply dP [(12,some 40),(13,some 41)];exact fun _=>rfl;rfl;intro vals vq w1 hC1 E hE;simp only [sP,vq] at hE ⊢;clear vq;go_wp2;rw [xor64 pq tr LPQ.out LLA.out,← HRE.out];exact .mk (hE _ hC1)
  apply yL_
  ·apply dP [(14,some 42),(11,some 39),(0,some 28),(1,some 29),(2,some 30),(3,some 31),(4,some 32),(5,some 33),(6,some 34),(7,some 35),(8,some 36),(9,some 37),(10,some 38),(11,some 39),(12,some 40),(13,some 41),(14,some 42)];exact fun _=>rfl;rfl;intro vals vq w1 hC1 E hE;simp only [sP,vq] at hE ⊢;clear vq;go_wp2;exact .mk (hE _ hC1)
  intro vals vq w1 hC1;simp only [sP,vq];clear vq;clear HC0;go_wp2_with fail;go_ret;exact ⟨qbd (by rw [HAN.out,HRE.out,HPQ.out,HTP.out,HTQ.out,HLA.out]),hC1.bel⟩
 ·go_loop [9,10] (fun v i=>∃ j:Nat,j≤r∧i=.int .i64 j∧v=.int .u64 (halves x j)) (fun _ i=>r - (intOf i).toNat)
  case atStart=>exact ⟨0,by omega,rfl,rfl⟩
  case round =>
   obtain ⟨j,hj,rfl,rfl⟩:=hrel;have hh:=halves_le x j;have hhs:halves x (j+1)=halves x j/2:=rfl;obtain ⟨y,hy⟩:=eX (halves x j);rw [← hy] at hh hhs ⊢;have HY:=zY hy;have HHS:=zY hhs;have hy1:(y:Int)<18446744073709551616:=by omega
   clear hy hhs
   by_cases hlt:j<r
   ·have hlt':(j:Int)<(r:Int):=by omega
    go_wp2;exact ⟨⟨j+1,by omega,by go_num,by rw [HHS.out]; go_num⟩,by simp [intOf]; omega⟩
   ·obtain rfl:j=r:=by omega
    obtain rfl:y=la:=by rw [HLA.out,HY.out,qet]; rfl
    go_wp2_with fail;have HC0:=HC1.out.drew;refine qal (fun u=>MxSt w w.heap.size cs (some ad) (triV p q j) u) (fun u=>MxSt w w.heap.size cs (some ad) (triV p q j) u) [(0,some 28),(1,some 29),(2,some 30),(3,some 31),(4,some 32),(5,some 33),(6,some 34),(7,some 35),(8,some 36),(9,some 37),(10,some 38),(11,some 39),(12,some 40),(13,some 41),(14,some 42),(15,some 8)] (by kernel_rfl) (by kernel_rfl) (by decide) (by kernel_rfl) (fun _=>rfl) HC0 ?_;apply yN_
    ·apply dP [];exact fun _=>rfl;rfl;rintro vals - w1 hC1 E hE;simp only [sP] at hE ⊢;refine qac hC1.h rfl rfl rfl hu rfl (by rw [HCS8.out]; exact qaJ) ?_;go_wp2_with fail;exact .mk (hE _ hC1)
    apply yN_
    ·apply dP [];exact fun _=>rfl;rfl;rintro vals ⟨-,-⟩ w1 hC1 E hE;simp only [sP] at hE ⊢;go_wp2;exact .mk (hE _ hC1)
    apply yN_
    ·apply dP [];exact fun _=>rfl;rfl;intro vals vq w1 hC1 E hE;clear vq;simp only [sP] at hE ⊢;go_wp2;exact .mk (hE _ hC1)
    apply yN_
    ·apply dP [(2,some 30)];exact fun _=>rfl;rfl;intro vals vq w1 hC1 E hE;simp only [sP,vq] at hE ⊢;clear vq;go_wp2;exact .mk (hE _ hC1)
    apply yN_
    ·apply dP [(3,some 31)];exact fun _=>rfl;rfl;intro vals vq w1 hC1 E hE;have d0:=hC1.rd.val0 rfl;simp only [sP,vq] at hE ⊢;clear vq;go_wp2;exact .mk (hE _ hC1)
    apply yN_
    ·apply dP [(0,some 28),(1,some 29),(4,some 32)];exact fun _=>rfl;rfl;intro vals vq w1 hC1 E hE;simp only [sP,vq] at hE ⊢;clear vq;go_wp2_with fail;have hct:=qc0 bits steps a b c d k f w1 HB.out x p HX.out HP.out;rw [← HCS.out] at hct;refine qab hct ?_;rintro e w2 ⟨rfl,hb2⟩;rw [← HTP.out];go_wp2_with fail;exact .mk (hE _ (hC1.next hb2))
    apply yN_
    ·apply dP [];exact fun _=>rfl;rfl;intro vals vq w1 hC1 E hE;clear vq;simp only [sP] at hE ⊢;refine qac hC1.h rfl rfl rfl hu rfl (by rw [HCS8.out]; exact qaJ) ?_;go_wp2_with fail;exact .mk (hE _ hC1)
    apply yN_
    ·apply dP [];exact fun _=>rfl;rfl;intro vals vq w1 hC1 E hE;clear vq;simp only [sP] at hE ⊢;go_wp2;exact .mk (hE _ hC1)
    apply yN_
    ·apply dP [];exact fun _=>rfl;rfl;intro vals vq w1 hC1 E hE;clear vq;simp only [sP] at hE ⊢;go_wp2;exact .mk (hE _ hC1)
    apply yN_
    ·apply dP [(8,some 36)];exact fun _=>rfl;rfl;intro vals vq w1 hC1 E hE;simp only [sP,vq] at hE ⊢;clear vq;go_wp2;exact .mk (hE _ hC1)
    apply yN_
    ·apply dP [(9,some 37)];exact fun _=>rfl;rfl;intro vals vq w1 hC1 E hE;have d0:=hC1.rd.lit (k:=1) rfl (by decide);simp only [sP,vq] at hE ⊢;clear vq;go_wp2;exact .mk (hE _ hC1)
    apply yN_
    ·apply dP [(6,some 34),(7,some 35),(10,some 38),(5,some 33)];exact fun _=>rfl;rfl;intro vals vq w1 hC1 E hE;simp only [sP,vq] at hE ⊢;clear vq;go_wp2_with fail;have hct:=qc0 bits steps a b c d k f w1 HB.out x q HX.out HQ.out;rw [← HCS.out] at hct;refine qab hct ?_;rintro e w2 ⟨rfl,hb2⟩;rw [← HTQ.out];go_wp2_with fail;exact .mk (hE _ (hC1.next hb2))
    apply yN_
    ·apply dP [(5,some 33),(11,some 39)];exact fun _=>rfl;rfl;intro vals vq w1 hC1 E hE;simp only [sP,vq] at hE ⊢;clear vq;go_wp2;rw [xor64 tp tq LTP.out LTQ.out,← HPQ.out];exact .mk (hE _ hC1)
    apply yN_
    ·apply dP [];exact fun _=>rfl;rfl;intro vals vq w1 hC1 E hE;clear vq;simp only [sP] at hE ⊢;go_wp2;exact .mk (hE _ hC1)
    apply yN_
    ·apply dP [(12,some 40),(13,some 41)];exact fun _=>rfl;rfl;intro vals vq w1 hC1 E hE;simp only [sP,vq] at hE ⊢;clear vq;go_wp2;rw [xor64 pq y LPQ.out LLA.out,← HRE.out];exact .mk (hE _ hC1)
    apply yL_
    ·apply dP [(14,some 42),(11,some 39),(0,some 28),(1,some 29),(2,some 30),(3,some 31),(4,some 32),(5,some 33),(6,some 34),(7,some 35),(8,some 36),(9,some 37),(10,some 38),(11,some 39),(12,some 40),(13,some 41),(14,some 42)];exact fun _=>rfl;rfl;intro vals vq w1 hC1 E hE;simp only [sP,vq] at hE ⊢;clear vq;go_wp2;exact .mk (hE _ hC1)
    intro vals vq w1 hC1;simp only [sP,vq];clear vq;clear HC0;go_wp2_with fail;go_ret;exact ⟨qbd (by rw [HAN.out,HRE.out,HPQ.out,HTP.out,HTQ.out,HLA.out]),hC1.bel⟩
theorem qby (K:IntKind) (l:List Nat) (x:Nat):wordsV K (l++[x])=wordsV K l++[.int K (x:Int)]:=by simp [wordsV]
theorem qbM (K:IntKind) (l:List Nat) (i:Nat) (h:i<l.length):(wordsV K l)[i]?=some (.int K ((l.getD i 0:Nat):Int)):=by
 simp [wordsV,h]
structure HP where
 a:Addr
 b:Addr
 c:Addr
 d:Addr
 k:Addr
 f:Addr
 ca:Nat
 cb:Nat
 cc:Nat
 cd:Nat
 ck:Nat
 cf:Nat
def tri (t:Nat × Nat × Nat):List Value:=triV t.1 t.2.1 t.2.2
def kL (F:ShaF):List Nat:=(List.range F.many).map (kN F)
theorem kL_get (F:ShaF) (t:Nat) (h:t<F.many):(kL F)[t]?=some (kN F t):=by simp [kL,h]
theorem qbn (F:ShaF):(kL F).length=F.many:=by simp [kL]
def hv (F:ShaF) (p:HP):Array Value:=hC F.bits F.many (.slice (some p.a) 3 p.ca) (.slice (some p.b) 3 p.cb) (.slice (some p.c) 3 p.cc) (.slice (some p.d) 3 p.cd) (.slice (some p.k) F.many p.ck) (.slice (some p.f) 8 p.cf)
structure HOk (F:ShaF) (p:HP) (w:World) (B:Nat):Prop where
 a:Rd w B (some p.a) (tri F.s0)
 b:Rd w B (some p.b) (tri F.s1)
 c:Rd w B (some p.c) (tri F.t0)
 d:Rd w B (some p.d) (tri F.t1)
 k:Rd w B (some p.k) (wordsV .u64 (kL F))
 f:Rd w B (some p.f) (wordsV .u64 (s8L (startS F)))
 ca:3≤p.ca
 cb:3≤p.cb
 cc:3≤p.cc
 cd:3≤p.cd
 ck:F.many≤p.ck
 cf:8≤p.cf
theorem HOk.below {F:ShaF} {p:HP} {w w':World} {B:Nat} (h:HOk F p w B) (hb:Below B w w'):HOk F p w' B :=
 ⟨h.a.below hb,h.b.below hb,h.c.below hb,h.d.below hb,h.k.below hb,h.f.below hb,h.ca,h.cb,h.cc,h.cd,h.ck,h.cf⟩
theorem HOk.mono {F:ShaF} {p:HP} {w:World} {B B':Nat} (h:HOk F p w B) (hb:B≤B'):HOk F p w B' :=
 ⟨h.a.mono hb,h.b.mono hb,h.c.mono hb,h.d.mono hb,h.k.mono hb,h.f.mono hb,h.ca,h.cb,h.cc,h.cd,h.ck,h.cf⟩
structure BkSt (w0:World) (gf:Nat) (F:ShaF) (p:HP) (bA:Option Addr) (blk:List UInt8) (sA:Option Addr) (S:S8) (u:World):Prop where
 bel:Below gf w0 u
 h:Blk u gf 108 (hv F p)
 ok:HOk F p u gf
 rb:Rd u gf bA (bytesV blk)
 rs:Rd u gf sA (wordsV .u64 (s8L S))
section
variable {w0 u u':World} {gf:Nat} {F:ShaF} {p:HP} {bA sA:Option Addr} {blk:List UInt8} {S:S8}
theorem BkSt.keep (h:BkSt w0 gf F p bA blk sA S u) (hb:Below (gf+1) u u'):BkSt w0 gf F p bA blk sA S u' :=
 ⟨h.bel.trans (hb.mono (by omega)),h.h.below hb (by omega),h.ok.below (hb.mono (by omega)),h.rb.below (hb.mono (by omega)),h.rs.below (hb.mono (by omega))⟩
theorem BkSt.next (h:BkSt w0 gf F p bA blk sA S u) (hb:Below u.heap.size u u'):BkSt w0 gf F p bA blk sA S u' :=
 h.keep (hb.mono (by have:=h.h.lt; omega))
theorem BkSt.drew (h:BkSt w0 gf F p bA blk sA S u):BkSt w0 gf F p bA blk sA S u.drew:=h.keep (Below.refl _ _).drew
theorem BkSt.grow {e:TypeId} {s n:Nat} {v:Value} {xs:List Value} (h:BkSt w0 gf F p bA blk sA S u) (ho:OwnX u (gf+1) e s v n xs) (hg:u.grownBy u' v.ownBlock):BkSt w0 gf F p bA blk sA S u' :=
 h.keep (qbc hg (by have:=h.h.lt; omega) (fun k hk=>(ho.lt k hk).1))
end
structure BkW (w0:World) (gf:Nat) (F:ShaF) (p:HP) (bA:Option Addr) (blk:List UInt8) (sA:Option Addr) (S:S8) (v:Value) (l:List Nat) (u:World):Prop where
 st:BkSt w0 gf F p bA blk sA S u
 own:OwnX u (gf+1) 76 1 v l.length (wordsV .u64 l)
section
variable {w0 u u':World} {gf:Nat} {F:ShaF} {p:HP} {bA sA:Option Addr} {blk:List UInt8} {S:S8} {v:Value} {l:List Nat}
theorem BkW.next (h:BkW w0 gf F p bA blk sA S v l u) (hb:Below u.heap.size u u'):BkW w0 gf F p bA blk sA S v l u' :=
 ⟨h.st.next hb,h.own.below hb (Nat.le_refl _)⟩
theorem BkW.drew (h:BkW w0 gf F p bA blk sA S v l u):BkW w0 gf F p bA blk sA S v l u.drew:=h.next (Below.refl _ _).drew
theorem BkW.app {v':Value} {x:Nat} (h:BkW w0 gf F p bA blk sA S v l u) (ho:OwnX u' (gf+1) 76 1 v' (l.length+1) (wordsV .u64 l++[.int .u64 (x:Int)])) (hg:u.grownBy u' v.ownBlock):BkW w0 gf F p bA blk sA S v' (l++[x]) u' :=
 ⟨h.st.grow h.own hg,by rw [List.length_append,qby]; exact ho⟩
theorem BkW.at_ {g n c i:Nat} (h:BkW w0 gf F p bA blk sA S (.slice (some ⟨g,0,none⟩) n c) l u) (hn:l.length=n) (hi:i<n):u.cell? ⟨g,i,none⟩=some (.int .u64 ((l.getD i 0:Nat):Int)):=by
 subst hn;exact h.own.atN (qbM .u64 l i hi)
end
structure BkR (w0:World) (gf:Nat) (F:ShaF) (p:HP) (bA:Option Addr) (blk:List UInt8) (sA:Option Addr) (S:S8) (v:Value) (l:List Nat) (g2 c2:Nat) (V:S8) (u:World):Prop where
 w:BkW w0 gf F p bA blk sA S v l u
 r:OwnX u (gf+1) 76 1 (.slice (some ⟨g2,0,none⟩) 8 c2) 8 (wordsV .u64 (s8L V))
section
variable {w0 u u':World} {gf:Nat} {F:ShaF} {p:HP} {bA sA:Option Addr} {blk:List UInt8} {S V:S8} {v:Value} {l:List Nat} {g2 c2:Nat}
theorem BkR.next (h:BkR w0 gf F p bA blk sA S v l g2 c2 V u) (hb:Below u.heap.size u u'):BkR w0 gf F p bA blk sA S v l g2 c2 V u' :=
 ⟨h.w.next hb,h.r.below hb (Nat.le_refl _)⟩
theorem BkR.drew (h:BkR w0 gf F p bA blk sA S v l g2 c2 V u):BkR w0 gf F p bA blk sA S v l g2 c2 V u.drew:=h.next (Below.refl _ _).drew
theorem BkR.turn {V':S8} {fz:Nat × Nat} (h:BkR w0 gf F p bA blk sA S v l g2 c2 V u):BkR w0 gf F p bA blk sA S v l u.heap.size 8 V' (u.alloc (.cells (wordsV .u64 (s8L V')).toArray 76 fz)) :=
 ⟨h.w.next ((Below.refl _ _).alloc (Nat.le_refl _) _),own_const (C:=(wordsV .u64 (s8L V')).toArray) rfl rfl (by unfold maxLen; omega) (by have:=h.w.st.h.lt; omega)⟩
theorem BkR.le (h:BkR w0 gf F p bA blk sA S v l g2 c2 V u):8≤c2:=h.r.le_cap
end
structure BkO (w0:World) (gf:Nat) (F:ShaF) (p:HP) (bA:Option Addr) (blk:List UInt8) (sA:Option Addr) (S:S8) (v:Value) (l:List Nat) (g2 c2:Nat) (V:S8) (ov:Value) (x:List Nat) (u:World):Prop where
 r:BkR w0 gf F p bA blk sA S v l g2 c2 V u
 o:OwnX u (gf+1) 76 1 ov x.length (wordsV .u64 x)
 ne:ov.ownBlock=none∨(ov.ownBlock≠v.ownBlock∧ov.ownBlock≠some g2)
section
variable {w0 u u':World} {gf:Nat} {F:ShaF} {p:HP} {bA sA:Option Addr} {blk:List UInt8} {S V:S8} {v o o':Value} {l x:List Nat} {g2 c2:Nat}
theorem BkO.next (h:BkO w0 gf F p bA blk sA S v l g2 c2 V o x u) (hb:Below u.heap.size u u'):BkO w0 gf F p bA blk sA S v l g2 c2 V o x u' :=
 ⟨h.r.next hb,h.o.below hb (Nat.le_refl _),h.ne⟩
theorem BkO.drew (h:BkO w0 gf F p bA blk sA S v l g2 c2 V o x u):BkO w0 gf F p bA blk sA S v l g2 c2 V o x u.drew:=h.next (Below.refl _ _).drew
theorem BkO.app {y:Nat} (h:BkO w0 gf F p bA blk sA S v l g2 c2 V o x u) (ho:OwnX u' (gf+1) 76 1 o' (x.length+1) (wordsV .u64 x++[.int .u64 (y:Int)])) (hg:u.grownBy u' o.ownBlock) (hn:Next u o o'):BkO w0 gf F p bA blk sA S v l g2 c2 V o' (x++[y]) u':=by
 have hk:∀ (v2:Value),(o.ownBlock=none∨o.ownBlock≠v2.ownBlock)→v2.ownBlock=none∨v2.ownBlock≠o.ownBlock:=fun v2 h2=>by
  rcases h2 with h2 | h2
  ·rw [h2]
   cases v2.ownBlock with
   | none=>exact .inl rfl
   | some k=>exact .inr (by simp)
  ·exact .inr (Ne.symm h2)
 refine ⟨⟨⟨h.r.w.st.grow h.o hg,h.r.w.own.kept hg (hk v (h.ne.imp id And.left))⟩,h.r.r.kept hg (hk (.slice (some ⟨g2,0,none⟩) 8 c2) (h.ne.imp id And.right))⟩,by rw [List.length_append,qby]; exact ho,?_⟩
 rcases hn with hn | hn
 ·rw [hn]; exact h.ne
 ·cases ho2:o'.ownBlock with
  | none=>exact .inl rfl
  | some k =>
   have hk2:=hn k ho2;refine .inr ⟨fun e=>?_,fun e=>?_⟩
   ·have:=(h.r.w.own.lt k e.symm).2; omega
   ·have:=(h.r.r.lt k (by rw [e]; rfl)).2; omega
end
theorem ones_xor (n e:Nat) (he:e<2^n):(2^n - 1) ^^^ e=2^n - 1 - e:=by
 have h:((2^n - 1) ^^^ e)=(~~~ (BitVec.ofNat n e)).toNat:=by
  rw [← BitVec.allOnes_xor,BitVec.toNat_xor,BitVec.toNat_allOnes,BitVec.toNat_ofNat,Nat.mod_eq_of_lt he]
 rw [h,BitVec.toNat_not,BitVec.toNat_ofNat,Nat.mod_eq_of_lt he]
theorem mixX_r32 (h al ch k w:Nat):(h+al+ch+k+w)%2^32=((((h+al)%2^64+ch)%2^64+k)%2^64+w)%2^64%2^32:=by omega
theorem mixX_r64 (h al ch k w:Nat):(h+al+ch+k+w)%2^64=((((h+al)%2^64+ch)%2^64+k)%2^64+w)%2^64%2^64:=by omega
theorem mod_r32 (a b:Nat):(a+b)%2^32=(a+b)%2^64%2^32:=by omega
theorem mod_r64 (a b:Nat):(a+b)%2^64=(a+b)%2^64%2^64:=by omega
theorem addS_get (F:ShaF) (s v:S8) (i:Nat) (h:i<8):(s8L (addS F s v)).getD i 0=((s8L v).getD i 0+(s8L s).getD i 0)%2^F.bits:=by
 match i,h with
 | 0,_=>rfl
 | 1,_=>rfl
 | 2,_=>rfl
 | 3,_=>rfl
 | 4,_=>rfl
 | 5,_=>rfl
 | 6,_=>rfl
 | 7,_=>rfl
theorem s8_take (s:S8) (i:Nat) (h:i<8):(s8L s).take (i+1)=(s8L s).take i++[(s8L s).getD i 0]:=by
 match i,h with
 | 0,_=>rfl
 | 1,_=>rfl
 | 2,_=>rfl
 | 3,_=>rfl
 | 4,_=>rfl
 | 5,_=>rfl
 | 6,_=>rfl
 | 7,_=>rfl
theorem qch (s:S8) (i:Nat) (h:i≤8):((s8L s).take i).length=i:=by
 rw [List.length_take]; show min i 8=i; omega
theorem next_32 (a b c d:Nat):(a+c+(b+d))%2^32=(((a+b)%2^64+c)%2^64+d)%2^64%2^32:=by omega
theorem next_64 (a b c d:Nat):(a+c+(b+d))%2^64=(((a+b)%2^64+c)%2^64+d)%2^64%2^64:=by omega
def BlockPost (F:ShaF) (S:S8) (blk:List UInt8) (w:World) (e:Ending) (w':World):Prop :=
 ∃ A c,e=.returned (.slice A 8 c)∧OwnX w' w.heap.size 76 1 (.slice A 8 c) 8 (wordsV .u64 (s8L (mixS F S blk)))∧Below w.heap.size w w'
theorem qb7:SlT Tryz.prog 106 76 1 8:=SlT.mk1 (z:=.int .u64 0) Tryz.underlying106 (by kernel_rfl) rfl (by decide)
def backC (e:Nat) (ws:List UInt8) (j:Nat):Array Value:=(List.replicate (e - j) (Value.int .u8 0)++(bytesV ws).drop (e - j)).toArray
theorem qcR (e:Nat) (ws:List UInt8) (j:Nat) (hw:ws.length=e) (hj:j≤e):(backC e ws j).size=e:=by
 have h:((bytesV ws).drop (e - j)).length=j:=by rw [List.length_drop,qap,hw]; omega
 rw [backC,List.size_toArray,List.length_append,List.length_replicate,h]; omega
theorem qdk (e:Nat) (ws:List UInt8):backC e ws e=(bytesV ws).toArray:=by simp [backC]
theorem qeA (e:Nat) (ws:List UInt8) (j i:Nat) (v:Value) (hw:ws.length=e) (hi:i+j+1=e) (hv:(bytesV ws)[i]?=some v):(backC e ws j).setIfInBounds i v=backC e ws (j+1):=by
 apply Array.ext';have h1:e - j=i+1:=by omega
 have h2:e - (j+1)=i:=by omega
 have hlt:i<(bytesV ws).length:=by simp [bytesV]; omega
 have hv2:(bytesV ws)[i]=v:=by rw [List.getElem?_eq_getElem hlt] at hv; exact Option.some.inj hv
 rw [Array.toList_setIfInBounds,backC,backC,h1,h2,List.drop_eq_getElem_cons hlt,hv2];simp only [List.replicate_succ',List.append_assoc];rw [List.set_append_right (s:=List.replicate i (Value.int .u8 0)) _ _ (by simp)];simp
theorem qcQ (e:Nat) (ws:List UInt8) (hw:ws.length=e):backC e ws 0=(List.replicate e (Value.int .u8 0)).toArray:=by
 rw [backC,Nat.sub_zero,List.drop_of_length_le (by rw [qap,hw]; exact Nat.le_refl _),List.append_nil]
theorem qdX (b x:Nat):∀ (k i:Nat),i<k→(wordB b x k)[i]?=some (UInt8.ofNat (x/2^(b - 8 - 8*i)))
 | k+1,i,h=>by
  rw [wordB,List.getElem?_append,wordB_length]
  split
  ·rename_i h2; exact qdX b x k i h2
  ·obtain rfl:i=k:=by omega
   simp
structure ByStR (w0:World) (gf:Nat) (cs:Array Value) (gw:Nat) (r:Array Value) (u:World):Prop where
 bel:Below gf w0 u
 h:Blk u gf 108 cs
 row:Blk u gw 5 r
 lw:gf<gw
theorem ByStR.put {w u u':World} {gf gw:Nat} {cs r r':Array Value} (h:ByStR w gf cs gw r u) (hw:Wrote gw u u') (hb:Blk u' gw 5 r'):ByStR w gf cs gw r' u' :=
 ⟨hw.below h.bel (by have:=h.lw; omega) (by have:=h.h.lt; omega),hw.blk h.h (by have:=h.lw; omega),hb,h.lw⟩
def BytesPost (bits x:Nat) (w:World) (e:Ending) (w':World):Prop :=
 ∃ g,e=.returned (.slice (some ⟨g,0,none⟩) (bits/8) (bits/8))∧w.heap.size≤g∧Blk w' g 5 (bytesV (wordB bits x (bits/8))).toArray∧Below w.heap.size w w'
theorem bytes_any (bits steps:Nat) (a b c d k f:Value) (w:World) (hb:bits=32∨bits=64) (x:Nat) (hx:x<2^bits) :
  Calls Tryz.prog 80 #[.agg (hC bits steps a b c d k f),.int .u64 x] w (BytesPost bits x w):=by
 have hbel:=below_new w (.cells (hC bits steps a b c d k f) 108);have hblk:=Blk.new w 108 (hC bits steps a b c d k f);have c0:=hblk.cell 0;simp only [hC,List.getElem?_toArray,List.getElem?_cons_zero] at c0
 have hx64:(x:Int)<18446744073709551616:=by
  have:x<2^64:=Nat.lt_of_lt_of_le hx (Nat.pow_le_pow_right (by omega) (by omega));omega
 have HBEL:=zY hbel;have HBLK:=zY hblk;obtain ⟨ie,hie,hez,hes,heb⟩:=info_parts (show (Tryz.prog.info? 5).map (fun i=>(i.zero,i.size,i.bytes))=some (some (.int .u8 0),1,1) by kernel_rfl);have hmk4:∀ u:World,(Instr.makeSlice 23 (.int .i64 4) (.int .i64 4)).run Tryz.prog u=.ok (.slice (some ⟨u.heap.size,0,none⟩) 4 4) (u.alloc (.cells (List.replicate 4 (Value.int .u8 0)).toArray 5)):=fun _=>by kernel_rfl
 have hmk8:∀ u:World,(Instr.makeSlice 23 (.int .i64 8) (.int .i64 8)).run Tryz.prog u=.ok (.slice (some ⟨u.heap.size,0,none⟩) 8 8) (u.alloc (.cells (List.replicate 8 (Value.int .u8 0)).toArray 5)):=fun _=>by kernel_rfl
 rw [hC] at *;clear hbel hblk hx
 rcases hb with rfl | rfl
 ·obtain ⟨ws,hws⟩:=eX (wordB 32 x 4);have hwl:ws.length=4:=by rw [hws]; exact wordB_length _ _ _
  have HWS:=zY hws;have HWL:=zY hwl;clear hws hwl;go_enter Tryz.func80,Tryz.ntmps80;go_wp2_with fail;obtain ⟨hs,hhs⟩:∃ hs:Array Value,hs=#[.int .i64 32,.int .i64 steps,a,b,c,d,k,f]:=⟨_,rfl⟩
  have hst0:ByStR w w.heap.size hs (w.heap.size+1) (backC 4 ws 0) ((w.alloc (.cells hs 108)).alloc (.cells (List.replicate 4 (Value.int .u8 0)).toArray 5)):=by
   rw [qcQ _ _ HWL.out];exact ⟨(below_new _ _).alloc (by simp) _,(Blk.new _ _ _).alloc _,by have:=Blk.new (w.alloc (.cells hs 108)) 5 (List.replicate 4 (Value.int .u8 0)).toArray; simpa using this,by omega⟩
  rw [hhs] at hst0;generalize hgw:w.heap.size+1=gw at *;generalize hgf:w.heap.size=gf at *;have HGF:=zY hgf;have HGW:=zY hgw;clear hgf hgw c0 hmk4 hmk8 HBEL HBLK hhs hs
  go_loopw [1,6] (fun v i wr=>∃ (j:Nat) (y:Nat),j≤4∧y=x/2^(8*j)∧v=.int .u64 y∧i=.int .i64 ((4:Int) - 1 - (j:Int))∧ByStR w gf #[.int .i64 32,.int .i64 steps,a,b,c,d,k,f] gw (backC 4 ws j) wr) (fun _ i _=>(intOf i+1).toNat)
  case atStart=>exact ⟨0,x,by omega,by simp,rfl,rfl,hst0⟩
  case round =>
   obtain ⟨j,y,hj,hy,rfl,rfl,hst⟩:=hrel;clear hst0;have hyx:y≤x:=by rw [hy]; exact Nat.div_le_self _ _
   have hy64:(y:Int)<18446744073709551616:=by omega
   by_cases hlt:j<4
   ·obtain ⟨ix,hix⟩:∃ ix:Nat,(4:Int) - 1 - (j:Int)=(ix:Int):=⟨4 - 1 - j,by omega⟩;have hix2:ix+j+1=4:=by omega
    have hval:(bytesV ws)[ix]?=some (.int .u8 ((y%256:Nat):Int)):=by
     rw [bytesV,List.getElem?_map,HWS.out,qdX _ _ _ _ (by omega)];simp only [Option.map_some,byteV];rw [show 32 - 8 - 8*ix=8*j by omega,← hy];simp
    have hset:=qeA 4 ws j ix _ HWL.out hix2 hval;have hsz:=qcR 4 ws j HWL.out hj;have hnx:x/2^(8*(j+1))=y/256:=by rw [hy,show 8*(j+1)=8*j+8 by omega,Nat.pow_add,← Nat.div_div_eq_div_mul]
    rw [hix];have dcell:=hst.row.cell ix;obtain ⟨ov,hov⟩:∃ ov,(backC 4 ws j)[ix]?=some ov:=⟨_,Array.getElem?_eq_getElem (by omega)⟩;rw [hov] at dcell;have dfree:=hst.row.free ix;have hixl:(ix:Int)<4:=by omega
    have HSET:=zY hset;have HNX:=zY hnx;have HST:=zY hst;have HIX:=zY hix;have HIX2:=zY hix2;clear hset hnx hst hix hix2 hval hy hsz hov;go_wp2_with fail;refine ⟨⟨j+1,y/256,by omega,by rw [HNX.out],by go_num,by have:=HIX.out; exact congrArg (Value.int .i64) (by omega),?_⟩,by simp [intOf]⟩;refine HST.out.put (qai _ _ _ _) ?_;have h:=qak (i:=ix) HST.out.row (.int .u8 ((y%256:Nat):Int));rw [HSET.out] at h;exact h
   ·obtain rfl:j=4:=by omega
    rw [qdk] at hst;have HST:=zY hst;clear hst hy;go_wp2_with fail;go_ret;refine ⟨gw,rfl,by rw [HGF.out,← HGW.out]; omega,?_,by rw [HGF.out]; exact HST.out.bel⟩;have h:=HST.out.row;rw [HWS.out] at h;exact h
 ·obtain ⟨ws,hws⟩:=eX (wordB 64 x 8);have hwl:ws.length=8:=by rw [hws]; exact wordB_length _ _ _
  have HWS:=zY hws;have HWL:=zY hwl;clear hws hwl;go_enter Tryz.func80,Tryz.ntmps80;go_wp2_with fail;obtain ⟨hs,hhs⟩:∃ hs:Array Value,hs=#[.int .i64 64,.int .i64 steps,a,b,c,d,k,f]:=⟨_,rfl⟩
  have hst0:ByStR w w.heap.size hs (w.heap.size+1) (backC 8 ws 0) ((w.alloc (.cells hs 108)).alloc (.cells (List.replicate 8 (Value.int .u8 0)).toArray 5)):=by
   rw [qcQ _ _ HWL.out];exact ⟨(below_new _ _).alloc (by simp) _,(Blk.new _ _ _).alloc _,by have:=Blk.new (w.alloc (.cells hs 108)) 5 (List.replicate 8 (Value.int .u8 0)).toArray; simpa using this,by omega⟩
  rw [hhs] at hst0;generalize hgw:w.heap.size+1=gw at *;generalize hgf:w.heap.size=gf at *;have HGF:=zY hgf;have HGW:=zY hgw;clear hgf hgw c0 hmk4 hmk8 HBEL HBLK hhs hs
  go_loopw [1,6] (fun v i wr=>∃ (j:Nat) (y:Nat),j≤8∧y=x/2^(8*j)∧v=.int .u64 y∧i=.int .i64 ((8:Int) - 1 - (j:Int))∧ByStR w gf #[.int .i64 64,.int .i64 steps,a,b,c,d,k,f] gw (backC 8 ws j) wr) (fun _ i _=>(intOf i+1).toNat)
  case atStart=>exact ⟨0,x,by omega,by simp,rfl,rfl,hst0⟩
  case round =>
   obtain ⟨j,y,hj,hy,rfl,rfl,hst⟩:=hrel;clear hst0;have hyx:y≤x:=by rw [hy]; exact Nat.div_le_self _ _
   have hy64:(y:Int)<18446744073709551616:=by omega
   by_cases hlt:j<8
   ·obtain ⟨ix,hix⟩:∃ ix:Nat,(8:Int) - 1 - (j:Int)=(ix:Int):=⟨8 - 1 - j,by omega⟩;have hix2:ix+j+1=8:=by omega
    have hval:(bytesV ws)[ix]?=some (.int .u8 ((y%256:Nat):Int)):=by
     rw [bytesV,List.getElem?_map,HWS.out,qdX _ _ _ _ (by omega)];simp only [Option.map_some,byteV];rw [show 64 - 8 - 8*ix=8*j by omega,← hy];simp
    have hset:=qeA 8 ws j ix _ HWL.out hix2 hval;have hsz:=qcR 8 ws j HWL.out hj;have hnx:x/2^(8*(j+1))=y/256:=by rw [hy,show 8*(j+1)=8*j+8 by omega,Nat.pow_add,← Nat.div_div_eq_div_mul]
    rw [hix];have dcell:=hst.row.cell ix;obtain ⟨ov,hov⟩:∃ ov,(backC 8 ws j)[ix]?=some ov:=⟨_,Array.getElem?_eq_getElem (by omega)⟩;rw [hov] at dcell;have dfree:=hst.row.free ix;have hixl:(ix:Int)<8:=by omega
    have HSET:=zY hset;have HNX:=zY hnx;have HST:=zY hst;have HIX:=zY hix;have HIX2:=zY hix2;clear hset hnx hst hix hix2 hval hy hsz hov;go_wp2_with fail;refine ⟨⟨j+1,y/256,by omega,by rw [HNX.out],by go_num,by have:=HIX.out; exact congrArg (Value.int .i64) (by omega),?_⟩,by simp [intOf]⟩;refine HST.out.put (qai _ _ _ _) ?_;have h:=qak (i:=ix) HST.out.row (.int .u8 ((y%256:Nat):Int));rw [HSET.out] at h;exact h
   ·obtain rfl:j=8:=by omega
    rw [qdk] at hst;have HST:=zY hst;clear hst hy;go_wp2_with fail;go_ret;refine ⟨gw,rfl,by rw [HGF.out,← HGW.out]; omega,?_,by rw [HGF.out]; exact HST.out.bel⟩;have h:=HST.out.row;rw [HWS.out] at h;exact h
def dval:List Nat→Nat
 | []=>0
 | d :: r=>d+65536*dval r
def digs:Nat→Nat→List Nat
 | 0,_=>[]
 | n+1,N=>N%65536 :: digs n (N/65536)
theorem qav:∀ n N,(digs n N).length=n
 | 0,_=>rfl
 | n+1,N=>by simp [digs,qav n]
theorem digs_lt:∀ n N,∀ d ∈ digs n N,d<65536
 | 0,_,d,h=>by simp [digs] at h
 | n+1,N,d,h=>by
  simp only [digs,List.mem_cons] at h
  rcases h with rfl | h
  ·exact Nat.mod_lt _ (by decide)
  ·exact digs_lt n _ d h
theorem qa1:∀ n N,N<65536^n→dval (digs n N)=N
 | 0,N,h=>by simp at h; simp [digs,dval,h]
 | n+1,N,h=>by
  rw [digs,dval,qa1 n (N/65536) (by rw [Nat.div_lt_iff_lt_mul (by decide)]; rwa [Nat.pow_succ] at h)];omega
theorem qde:∀ l:List Nat,(∀ d ∈ l,d<65536)→digs l.length (dval l)=l
 | [],_=>rfl
 | d :: r,h=>by
  have hd:=h d (List.mem_cons_self ..);rw [List.length_cons,dval,digs,show (d+65536*dval r)%65536=d by omega,show (d+65536*dval r)/65536=dval r by omega,qde r fun x hx=>h x (List.mem_cons_of_mem _ hx)]
theorem qcZ:∀ l:List Nat,(∀ d ∈ l,d<65536)→dval l<65536^l.length
 | [],_=>by simp [dval]
 | d :: r,h=>by
  have hd:=h d (List.mem_cons_self ..);have ih:=qcZ r fun x hx=>h x (List.mem_cons_of_mem _ hx);rw [List.length_cons,dval,Nat.pow_succ];omega
theorem qbv:∀ (l:List Nat) (j:Nat),j<l.length→dval (l.take (j+1))=dval (l.take j)+l.getD j 0*65536^j
 | d :: r,0,_=>by simp [dval]
 | d :: r,j+1,h=>by
  have ih:=qbv r j (by simpa using h);rw [List.take_succ_cons,dval,ih,List.take_succ_cons,dval,List.getD_cons_succ,Nat.pow_succ];rw [Nat.mul_add,← Nat.mul_assoc,Nat.mul_comm 65536 (r.getD j 0),Nat.mul_assoc (r.getD j 0),Nat.mul_comm 65536 (65536^j)];omega
theorem qcb:∀ (l:List Nat) (i d:Nat),i<l.length→dval (l.set i d)+l.getD i 0*65536^i=dval l+d*65536^i
 | x :: r,0,d,_=>by simp [dval]; omega
 | x :: r,i+1,d,h=>by
  have ih:=qcb r i d (by simpa using h);rw [List.set_cons_succ,dval,dval,List.getD_cons_succ,Nat.pow_succ,← Nat.mul_assoc,← Nat.mul_assoc];omega
theorem qbw:∀ (l:List Nat) (i:Nat),(∀ d ∈ l,d<65536)→l.getD i 0=dval l/65536^i%65536
 | [],i,_=>by simp [dval]
 | d :: r,0,h=>by
  have hd:=h d (List.mem_cons_self ..);simp [dval]; omega
 | d :: r,i+1,h=>by
  have hd:=h d (List.mem_cons_self ..);rw [List.getD_cons_succ,qbw r i fun x hx=>h x (List.mem_cons_of_mem _ hx),dval,Nat.pow_succ,Nat.mul_comm (65536^i),← Nat.div_div_eq_div_mul,show (d+65536*dval r)/65536=dval r by omega]
theorem dig_lt {l:List Nat} (h:∀ d ∈ l,d<65536) (i:Nat):l.getD i 0<65536:=qbZ h (by decide) i
theorem qd1 {l:List Nat} {i d:Nat} (h:∀ x ∈ l,x<65536) (hd:d<65536):∀ x ∈ l.set i d,x<65536:=fun x hx=>by
 rcases List.mem_or_eq_of_mem_set hx with h1 | h1
 ·exact h x h1
 ·rw [h1]; exact hd
theorem getD_set_same (l:List Nat) (i d:Nat) (h:i<l.length):(l.set i d).getD i 0=d:=by simp [h]
theorem getD_set_ne (l:List Nat) (i j d:Nat) (h:i≠j):(l.set i d).getD j 0=l.getD j 0:=by simp [List.getElem?_set,h]
theorem qbB (K:IntKind) (l:List Nat) (i d:Nat):(wordsV K l).toArray.setIfInBounds i (.int K (d:Int))=(wordsV K (l.set i d)).toArray:=by
 apply Array.ext';simp [wordsV,Array.toList_setIfInBounds,List.map_set]
theorem mul_step {n k c P a b d i j t:Nat} (hv:t+c*65536^(i+j)=P+a*d*65536^i) (h:n+(k*65536^(i+j))=t+((k+a*b+c)%65536)*65536^(i+j)) :
  n+(k+a*b+c)/65536*65536^(i+(j+1))=P+a*(d+b*65536^j)*65536^i:=by
 have e1:65536^(i+(j+1))=65536*65536^(i+j):=by rw [← Nat.add_assoc,Nat.pow_succ,Nat.mul_comm]
 have e2:a*(d+b*65536^j)*65536^i=a*d*65536^i+a*b*65536^(i+j):=by
  rw [Nat.mul_add,Nat.add_mul,Nat.pow_add,← Nat.mul_assoc a b]
  congr 1
  rw [Nat.mul_assoc,Nat.mul_comm (65536^j)]
 rw [e1,e2];generalize 65536^(i+j)=q at *;obtain ⟨v,hv2⟩:=eX (k+a*b+c)
 have e3:v/65536*(65536*q)+v%65536*q=v*q:=by
  rw [← Nat.mul_assoc,← Nat.add_mul,Nat.div_add_mod']
 have e4:v*q=k*q+a*b*q+c*q:=by rw [hv2,Nat.add_mul,Nat.add_mul]
 rw [← hv2] at h ⊢;omega
def rootX (p k:Nat):Nat→Nat
 | 0=>0
 | n+1=>if p*65536^(4*k)<(rootX p k n+2^(68 - n))^k then rootX p k n else rootX p k n+2^(68 - n)
def rootN (p k:Nat):Nat:=rootX p k 69%2^64
theorem qd4 (p k:Nat):∀ n,n≤69→2^(69 - n) ∣ rootX p k n
 | 0,_=>Nat.dvd_zero _
 | n+1,h=>by
  have ih:=qd4 p k n (by omega);have h1:2^(69 - (n+1)) ∣ rootX p k n:=Nat.dvd_trans (Nat.pow_dvd_pow 2 (by omega)) ih;rw [rootX]
  split
  ·exact h1
  ·rw [show 68 - n=69 - (n+1) by omega];exact Nat.dvd_add h1 (Nat.dvd_refl _)
theorem qc4 (p k:Nat):∀ n,n≤69→rootX p k n+2^(69 - n)≤2^69
 | 0,_=>by simp [rootX]
 | n+1,h=>by
  have ih:=qc4 p k n (by omega);have e:2^(69 - n)=2*2^(69 - (n+1)):=by rw [show 69 - n=69 - (n+1)+1 by omega,Nat.pow_succ,Nat.mul_comm]
  rw [rootX]
  split
  ·omega
  ·rw [show 68 - n=69 - (n+1) by omega];omega
theorem dig_room {X r at_:Nat} (hr:r<16) (h:2^(16*at_+r+1) ∣ X):X/65536^at_%65536+2^r<65536:=by
 obtain ⟨q,rfl⟩:=h;have e1:(65536:Nat)^at_=2^(16*at_):=by rw [Nat.pow_mul]
 have e2:2^(16*at_+r+1)*q/2^(16*at_)=2^(r+1)*q:=by
  rw [Nat.add_assoc,Nat.pow_add,Nat.mul_assoc,Nat.mul_div_cancel_left _ (Nat.two_pow_pos _)]
 rw [e1,e2];obtain ⟨s,hs⟩:∃ s,r+1+s=16:=⟨15 - r,by omega⟩;have e3:(65536:Nat)=2^(r+1)*2^s:=by rw [← Nat.pow_add,hs]
 have h4:2^(r+1)*q%65536=2^(r+1)*(q%2^s):=by rw [e3,Nat.mul_mod_mul_left]
 have h5:q%2^s<2^s:=Nat.mod_lt _ (Nat.two_pow_pos _)
 have h6:2^(r+1)*(q%2^s)+2^(r+1)≤2^(r+1)*2^s:=by
  rw [← Nat.mul_succ]; exact Nat.mul_le_mul_left _ h5
 have h7:2^(r+1)=2*2^r:=by rw [Nat.pow_succ,Nat.mul_comm]
 have h8:=Nat.two_pow_pos r;omega
theorem dig_add {X n bit:Nat} (hX:X<65536^n) (hb:bit/16<n) (h:2^(bit+1) ∣ X) :
  (digs n X).set (bit/16) ((digs n X).getD (bit/16) 0+2^(bit%16))=digs n (X+2^bit)∧(digs n X).getD (bit/16) 0+2^(bit%16)<65536:=by
 have hlt:=digs_lt n X;have hv:=qa1 n X hX;have hg:=qbw (digs n X) (bit/16) hlt;rw [hv] at hg
 have hroom:(digs n X).getD (bit/16) 0+2^(bit%16)<65536:=by
  rw [hg];exact dig_room (Nat.mod_lt _ (by decide)) (by rw [show 16*(bit/16)+bit%16+1=bit+1 by omega]; exact h)
 refine ⟨?_,hroom⟩;have h1:=qde _ (qd1 (i:=bit/16) hlt hroom);rw [← h1,List.length_set,qav]
 congr 1
 have h2:=qcb (digs n X) (bit/16) ((digs n X).getD (bit/16) 0+2^(bit%16)) (by rw [qav]; exact hb);rw [hv,Nat.add_mul] at h2
 have h3:2^(bit%16)*65536^(bit/16)=2^bit:=by
  rw [show (65536:Nat)=2^16 from rfl,← Nat.pow_mul,← Nat.pow_add]
  congr 1
  omega
 rw [h3] at h2;omega
theorem mul_w64 (a b:Nat) (h:a*b≤9223372036854775807):wrap64 ((a:Int)*(b:Int))=((a*b:Nat):Int):=by
 rw [← Int.natCast_mul]; unfold wrap64; omega
theorem add_w64 (a b:Nat) (h:a+b≤9223372036854775807):wrap64 ((a:Int)+(b:Int))=((a+b:Nat):Int):=by
 unfold wrap64; omega
def LessPost (a b:List Nat) (w:World) (e:Ending) (w':World):Prop:=e=.returned (.bool (decide (dval a<dval b)))∧w=w'
theorem qaF {K:IntKind} {l:List Nat} {i:Nat} (h:i<l.length):(wordsV K l)[i]?=some (.int K ((l.getD i 0:Nat):Int)):=by simp [wordsV,h]
theorem hi_step {A B D:Nat} (i:Nat) (h:A/D^(i+1)=B/D^(i+1)) (hd:A/D^i%D=B/D^i%D):A/D^i=B/D^i:=by
 rw [Nat.pow_succ,← Nat.div_div_eq_div_mul,← Nat.div_div_eq_div_mul] at h;rw [← Nat.div_add_mod (A/D^i) D,← Nat.div_add_mod (B/D^i) D,h,hd]
theorem hi_lt {A B D:Nat} (hD:0<D) (i:Nat) (h:A/D^(i+1)=B/D^(i+1)) (hd:A/D^i%D<B/D^i%D):A<B:=by
 rw [Nat.pow_succ,← Nat.div_div_eq_div_mul,← Nat.div_div_eq_div_mul] at h
 have h1:A/D^i<B/D^i:=by
  rw [← Nat.div_add_mod (A/D^i) D,← Nat.div_add_mod (B/D^i) D,h]; omega
 rcases Nat.lt_or_ge A B with h2 | h2
 ·exact h2
 ·have:=Nat.div_le_div_right (c:=D^i) h2; omega
theorem qdP {A B x y:Nat} (q:Nat) (h:A/65536^(q+1)=B/65536^(q+1)) (hx:x=A/65536^q%65536) (hy:y=B/65536^q%65536) (hne:x≠y):decide (x<y)=decide (A<B):=by
 rcases Nat.lt_or_gt_of_ne hne with h1 | h1
 ·have:=hi_lt (by decide) q h (by rw [← hx,← hy]; exact h1);rw [decide_eq_true this,decide_eq_true (by omega)]
 ·have:=hi_lt (by decide) q h.symm (by rw [← hx,← hy]; exact h1);rw [decide_eq_false (by omega),decide_eq_false (by omega)]
theorem less_any (a b:List Nat) (ha:∀ d ∈ a,d<65536) (hb:∀ d ∈ b,d<65536) (A1 A2:Option Addr) (c1 c2 B1 B2 la lb:Nat) (w:World) (h1:Rd w B1 A1 (wordsV .i64 a)) (h2:Rd w B2 A2 (wordsV .i64 b)) (hla:a.length=la) (hlb:b.length=lb) (la1:la≤1000) (lb1:lb≤1000) (hc1:la≤c1) (hc2:lb≤c2) :
  Calls Tryz.prog 97 #[.slice A1 la c1,.slice A2 lb c2] w (LessPost a b w):=by
 obtain ⟨m,hm⟩:=eX (max la lb);have hml:la≤m:=by omega
 have hmr:lb≤m:=by omega
 have hm1:m≤1000:=by omega
 have HM:Hid (if la<lb then m=lb else m=la):=zY (by split <;> omega)
 have hda:∀ i,(if i<la then a.getD i 0 else 0)=dval a/65536^i%65536:=fun i=>by
  split
  ·exact qbw a i ha
  ·rw [← qbw a i ha,List.getD_eq_getElem?_getD,List.getElem?_eq_none (by omega)]; rfl
 have hdb:∀ i,(if i<lb then b.getD i 0 else 0)=dval b/65536^i%65536:=fun i=>by
  split
  ·exact qbw b i hb
  ·rw [← qbw b i hb,List.getD_eq_getElem?_getD,List.getElem?_eq_none (by omega)]; rfl
 have hA:dval a/65536^m=0:=Nat.div_eq_of_lt (Nat.lt_of_lt_of_le (qcZ a ha) (Nat.pow_le_pow_right (by decide) (by omega)));have hB:dval b/65536^m=0:=Nat.div_eq_of_lt (Nat.lt_of_lt_of_le (qcZ b hb) (Nat.pow_le_pow_right (by decide) (by omega)));obtain ⟨NA,hNA⟩:=eX (dval a);obtain ⟨NB,hNB⟩:=eX (dval b);rw [← hNA] at hda hA;rw [← hNB] at hdb hB;have HNA:=zY hNA;have HNB:=zY hNB;have HDA:=zY hda;have HDB:=zY hdb;have HAB:Hid (NA/65536^m=NB/65536^m):=zY (hA.trans hB.symm);have H1:=zY h1;have H2:=zY h2;have HLA:=zY hla;have HLB:=zY hlb;clear hNA hNB hda hdb hA hB h1 h2 hla hlb ha hb hm
 by_cases hlt:la<lb
 all_goals
  first
   | (have hge:(la:Int)<(lb:Int):=by omega)
   | (have hge:¬ (la:Int)<(lb:Int):=by omega)
  have hmm:=HM.out
  first
   | (rw [if_pos hlt] at hmm)
   | (rw [if_neg hlt] at hmm)
  have HMM:=zY hmm;clear HM hmm;go_enter Tryz.func97,Tryz.ntmps97;go_wp2;have hab:=HAB.out
  go_loop [6] (fun v=>∃ i:Nat,i≤m∧v=.int .i64 ((i:Int) - 1)∧NA/65536^i=NB/65536^i) (fun v=>(intOf v+1).toNat)
  case atStart=>exact ⟨m,Nat.le_refl _,by rw [HMM.out],hab⟩
  case round =>
   clear hab;obtain ⟨i,hi,rfl,hh⟩:=hrel
   cases i with
   | zero =>
    have HH:=zY hh;clear hh;go_wp2;go_ret;refine ⟨?_,rfl⟩;have:=HH.out;simp at this;rw [decide_eq_false (by rw [← HNA.out,← HNB.out]; omega)];rfl
   | succ q =>
    rw [show (((q+1:Nat):Int) - 1)=(q:Int) by omega];have hq0:(0:Int)≤(q:Int):=by omega
    obtain ⟨x,hx⟩:=eX (NA/65536^q%65536);obtain ⟨y,hy⟩:=eX (NB/65536^q%65536);have hxa:=HDA.out q;have hyb:=HDB.out q;rw [← hx] at hxa;rw [← hy] at hyb;have HX:=zY hx;have HY:=zY hy;have HH:=zY hh;clear hx hy hh
    by_cases hxy:x=y
    all_goals
     by_cases hqa:q<la <;> by_cases hqb:q<lb
    all_goals
     first | (rw [if_pos hqa] at hxa) | (rw [if_neg hqa] at hxa)
     first | (rw [if_pos hqb] at hyb) | (rw [if_neg hqb] at hyb)
    ·obtain ⟨ad1,rfl,hz1,hz2⟩:=H1.out.at_ (k:=q) (by rw [qaL,HLA.out]; exact hqa);have d1:=H1.out.val (qaF (K:=.i64) (by rw [HLA.out]; exact hqa:q<a.length));rw [hxa] at d1;clear hz1 hz2;obtain ⟨ad2,rfl,hz3,hz4⟩:=H2.out.at_ (k:=q) (by rw [qaL,HLB.out]; exact hqb);have d2:=H2.out.val (qaF (K:=.i64) (by rw [HLB.out]; exact hqb:q<b.length));rw [hyb] at d2;clear hz3 hz4;have hfin:=hi_step q HH.out (by rw [← HX.out,← HY.out]; exact hxy);have HFIN:=zY hfin;clear hfin;subst hxy;clear hxa hyb;go_wp2;exact ⟨⟨q,by omega,rfl,HFIN.out⟩,by simp [intOf] <;> omega⟩
    ·obtain ⟨ad1,rfl,hz1,hz2⟩:=H1.out.at_ (k:=q) (by rw [qaL,HLA.out]; exact hqa);have d1:=H1.out.val (qaF (K:=.i64) (by rw [HLA.out]; exact hqa:q<a.length));rw [hxa] at d1;clear hz1 hz2;have hfin:=hi_step q HH.out (by rw [← HX.out,← HY.out]; exact hxy);have HFIN:=zY hfin;clear hfin;obtain rfl:x=0:=by omega
     clear hxa hyb;clear hxy;go_wp2;exact ⟨⟨q,by omega,rfl,HFIN.out⟩,by simp [intOf] <;> omega⟩
    ·obtain ⟨ad2,rfl,hz3,hz4⟩:=H2.out.at_ (k:=q) (by rw [qaL,HLB.out]; exact hqb);have d2:=H2.out.val (qaF (K:=.i64) (by rw [HLB.out]; exact hqb:q<b.length));rw [hyb] at d2;clear hz3 hz4;have hfin:=hi_step q HH.out (by rw [← HX.out,← HY.out]; exact hxy);have HFIN:=zY hfin;clear hfin;obtain rfl:y=0:=by omega
     clear hxa hyb;clear hxy;go_wp2;exact ⟨⟨q,by omega,rfl,HFIN.out⟩,by simp [intOf] <;> omega⟩
    ·have hfin:=hi_step q HH.out (by rw [← HX.out,← HY.out]; exact hxy);have HFIN:=zY hfin;clear hfin;clear hxa hyb;clear hxy;go_wp2;exact ⟨⟨q,by omega,rfl,HFIN.out⟩,by simp [intOf] <;> omega⟩
    ·obtain ⟨ad1,rfl,hz1,hz2⟩:=H1.out.at_ (k:=q) (by rw [qaL,HLA.out]; exact hqa);have d1:=H1.out.val (qaF (K:=.i64) (by rw [HLA.out]; exact hqa:q<a.length));rw [hxa] at d1;clear hz1 hz2;obtain ⟨ad2,rfl,hz3,hz4⟩:=H2.out.at_ (k:=q) (by rw [qaL,HLB.out]; exact hqb);have d2:=H2.out.val (qaF (K:=.i64) (by rw [HLB.out]; exact hqb:q<b.length));rw [hyb] at d2;clear hz3 hz4;have hd:=qdP q HH.out HX.out HY.out hxy;rw [HNA.out,HNB.out] at hd;have HD:=zY hd;have hb1:((x:Int) != (y:Int))=true:=by rw [bne_iff_ne]; omega
     have hb2:¬ x=y:=hxy;clear hxa hyb hd hxy;go_wp2;go_ret;exact ⟨ret_bool (by rw [← HD.out]; first | done | rfl | exact decide_eq_decide.2 (by omega)),rfl⟩
    ·obtain ⟨ad1,rfl,hz1,hz2⟩:=H1.out.at_ (k:=q) (by rw [qaL,HLA.out]; exact hqa);have d1:=H1.out.val (qaF (K:=.i64) (by rw [HLA.out]; exact hqa:q<a.length));rw [hxa] at d1;clear hz1 hz2;have hd:=qdP q HH.out HX.out HY.out hxy;rw [HNA.out,HNB.out] at hd;rw [show y=0 by omega] at hd;have HD:=zY hd;have hb1:((x:Int) != 0)=true:=by rw [bne_iff_ne]; omega
     have hb2:¬ x=y:=hxy;clear hxa hyb hd hxy;go_wp2;go_ret;exact ⟨ret_bool (by rw [← HD.out]; first | done | rfl | exact decide_eq_decide.2 (by omega)),rfl⟩
    ·obtain ⟨ad2,rfl,hz3,hz4⟩:=H2.out.at_ (k:=q) (by rw [qaL,HLB.out]; exact hqb);have d2:=H2.out.val (qaF (K:=.i64) (by rw [HLB.out]; exact hqb:q<b.length));rw [hyb] at d2;clear hz3 hz4;have hd:=qdP q HH.out HX.out HY.out hxy;rw [HNA.out,HNB.out] at hd;rw [show x=0 by omega] at hd;have HD:=zY hd;have hb1:((0:Int) != (y:Int))=true:=by rw [bne_iff_ne]; omega
     have hb2:¬ x=y:=hxy;clear hxa hyb hd hxy;go_wp2;go_ret;exact ⟨ret_bool (by rw [← HD.out]; first | done | rfl | exact decide_eq_decide.2 (by omega)),rfl⟩
    ·have hd:=qdP q HH.out HX.out HY.out hxy;rw [HNA.out,HNB.out] at hd;rw [show x=0 by omega] at hd;rw [show y=0 by omega] at hd;have HD:=zY hd;omega
def rootA (p k:Nat):Nat→Nat→Nat
 | 0,X=>X
 | n+1,X=>if p*65536^(4*k)<(X+2^n)^k then rootA p k n X else rootA p k n (X+2^n)
theorem rootA_eq (p k:Nat):∀ n,n≤69→rootA p k (69 - n) (rootX p k n)=rootA p k 69 0
 | 0,_=>rfl
 | n+1,h=>by
  rw [← rootA_eq p k n (by omega)];obtain ⟨m,hm⟩:=eX (68 - n);rw [show 69 - n=m+1 by omega,show 69 - (n+1)=m by omega,rootA,rootX,← hm]
  split <;> rfl
theorem rootN_eq (p k:Nat):rootN p k=rootA p k 69 0%2^64:=by
 have:=rootA_eq p k 69 (Nat.le_refl _);rw [rootN,← this];rfl
def primes80:List Nat:=[2,3,5,7,11,13,17,19,23,29,31,37,41,43,47,53,59,61,67,71,73,79,83,89,97,101,103,107,109,113,127,131,137,139,149,151,157,163,167,173,179,181,191,193,197,199,211,223,227,229,233,239,241,251,257,263,269,271,277,281,283,293,307,311,313,317,331,337,347,349,353,359,367,373,379,383,389,397,401,409]
theorem roots3:(primes80.map fun p=>rootA p 3 69 0%2^64)=stepsN:=by decide +kernel
theorem roots2:((primes80.take 8).map fun p=>rootA p 2 69 0%2^64)=firstN:=by decide +kernel
def primesTo (k:Nat):List Nat:=primes80.filter fun q=>decide (q<k)
theorem primes_step:((List.range 410).all fun k=>decide (primesTo (k+1)=if 2≤k∧(primesTo k).all (fun q=>k%q != 0)=true then primesTo k++[k] else primesTo k))=true:=by decide +kernel
theorem primes_len:((List.range 410).all fun k=>decide ((primesTo k).length<80))=true:=by decide +kernel
theorem primes_end:primesTo 410=primes80:=by decide +kernel
theorem primes_lt:(primes80.all fun p=>decide (2≤p∧p<65536))=true:=by decide +kernel
theorem map_getD (l:List Nat) (f:Nat→Nat) (i:Nat) (h:i<l.length):(l.map f).getD i 0=f (l.getD i 0):=by
 simp [List.getD_eq_getElem?_getD,h]
theorem rootN3 (i:Nat) (h:i<80):rootN (primes80.getD i 0) 3=stepsN.getD i 0:=by
 rw [← roots3,map_getD primes80 _ i h,rootN_eq]
theorem rootN2 (i:Nat) (h:i<8):rootN (primes80.getD i 0) 2=firstN.getD i 0:=by
 have e:primes80.getD i 0=(primes80.take 8).getD i 0:=by
  rw [List.getD_eq_getElem?_getD,List.getD_eq_getElem?_getD,List.getElem?_take,if_pos h]
 rw [← roots2,map_getD (primes80.take 8) _ i h,rootN_eq,e]
theorem sl_int:SlT Tryz.prog 86 3 1 8:=SlT.mk1 (z:=.int .i64 0) Tryz.underlying86 (by kernel_rfl) rfl (by decide)
def prB (k:Nat) (l:List Nat):Bool:=l.all fun q=>k%q != 0
theorem primesTo_step (k:Nat) (h:k<410) (h2:2≤k):primesTo (k+1)=if prB k (primesTo k)=true then primesTo k++[k] else primesTo k:=by
 have:=(List.all_eq_true.1 primes_step) k (List.mem_range.2 h);rw [decide_eq_true_eq] at this;rw [this];simp only [h2,true_and];rfl
theorem primesTo_len (k:Nat) (h:k<410):(primesTo k).length<80:=by
 have:=(List.all_eq_true.1 primes_len) k (List.mem_range.2 h)
 rwa [decide_eq_true_eq] at this
theorem primesTo_mem (k:Nat):∀ q ∈ primesTo k,2≤q∧q<65536:=fun q hq=>by
 have h1:=(List.mem_filter.1 hq).1;have:=(List.all_eq_true.1 primes_lt) q h1
 rwa [decide_eq_true_eq] at this
theorem prB_snoc (k:Nat) (l:List Nat) (q:Nat):prB k (l++[q])=(prB k l && (k%q != 0)):=by simp [prB]
def PrimesPost (w:World) (e:Ending) (w':World):Prop :=
 ∃ A c,e=.returned (.slice A 80 c)∧OwnX w' w.heap.size 3 1 (.slice A 80 c) 80 (wordsV .i64 primes80)∧Below w.heap.size w w'
structure PrSt (w0:World) (gf:Nat) (v:Value) (n:Nat) (l:List Nat) (u:World):Prop where
 bel:Below gf w0 u
 own:OwnX u gf 3 1 v n (wordsV .i64 l)
 le:gf≤u.heap.size
theorem primes_any (w:World):Calls Tryz.prog 76 #[.int .i64 80] w (PrimesPost w):=by
 obtain ⟨gf,hgf⟩:=eX (w.heap.size);have hst0:PrSt w gf (.slice none 0 0) 0 (primesTo 2) w:=⟨Below.refl _ _,OwnX.nil _ _ _ _,by omega⟩;have HST0:=zY hst0;have HGF:=zY hgf;clear hst0 hgf;go_enter Tryz.func76,Tryz.ntmps76;go_wp2;have hst0:=HST0.out;clear HST0
 go_loopw [3,4] (fun v i wr=>∃ (k n:Nat) (A:Option Addr) (c:Nat),2≤k∧k≤410∧i=.int .i64 k∧n=(primesTo k).length∧v=.slice A n c∧PrSt w gf (.slice A n c) n (primesTo k) wr) (fun _ i _=>410 - (intOf i).toNat)
 case atStart=>exact ⟨2,0,none,0,by omega,by omega,rfl,by decide +kernel,rfl,hst0⟩
 case round =>
  obtain ⟨k,n,A,c,hk2,hk,rfl,hn,rfl,hst⟩:=hrel;clear hst0
  by_cases hlt:k<410
  ·have hn80:n<80:=by rw [hn]; exact primesTo_len k hlt
   have hn80':(n:Int)<80:=by omega
   obtain ⟨L,hL⟩:=eX (primesTo k);have hstep:=primesTo_step k hlt hk2;have hmem:∀ q ∈ L,2≤q∧q<65536:=by rw [hL]; exact primesTo_mem k
   rw [← hL] at hn hst hstep;have HL:=zY hL;have HN:=zY hn;have HST:=zY hst;have HSTEP:=zY hstep;have HMEM:=zY hmem;have hk0:(0:Int)≤(k:Int):=by omega
   clear hL hn hst hstep hmem;go_wp2_with fail;obtain ⟨wo,rfl⟩:∃ wo:World,wo=wr:=⟨_,rfl⟩
   go_loop [5,6] (fun b i=>∃ (j:Nat) (bb:Bool),j≤n∧i=.int .i64 j∧bb=prB k (L.take j)∧b=.bool bb) (fun _ i=>n - (intOf i).toNat)
   case atStart=>exact ⟨0,true,by omega,rfl,rfl,rfl⟩
   case round =>
    obtain ⟨j,bb,hj,rfl,hbb,rfl⟩:=hrel
    by_cases hjn:j<n
    ·have hjL:j<L.length:=by rw [← HN.out]; exact hjn
     obtain ⟨q,hq⟩:=eX (L[j]);obtain ⟨hq2,hq3⟩:=HMEM.out q (by rw [hq]; exact List.getElem_mem hjL);obtain ⟨g,rfl,hgb,hgl⟩:=HST.out.own.ptr (by omega);have dq:=HST.out.own.atN (i:=j) (v:=.int .i64 (q:Int)) (by rw [wordsV,List.getElem?_map,List.getElem?_eq_getElem hjL,hq]; rfl);have hnc:=HST.out.own.le_cap;have hsn:prB k (L.take (j+1))=(bb && (k%q != 0)):=by rw [List.take_succ_eq_append_getElem hjL,prB_snoc,← hbb,hq]
     have HSN:=zY hsn;have hq0:(0:Int)<(q:Int):=by omega
     clear hbb hsn hq
     by_cases hd:k%q=0
     ·have hb1:(((k:Int)%(q:Int)) == 0)=true:=by rw [beq_iff_eq]; omega
      have hfin:false=prB k (L.take (j+1)):=by rw [HSN.out,hd]; simp
      have HFIN:=zY hfin;clear hfin hd;go_wp2_with fail;exact ⟨⟨j+1,false,by omega,by go_num,HFIN.out,rfl⟩,by simp [intOf]; omega⟩
     ·have hb1:(((k:Int)%(q:Int)) == 0)=false:=by rw [beq_eq_false_iff_ne]; omega
      have hfin:bb=prB k (L.take (j+1)):=by rw [HSN.out]; simp [hd]
      have HFIN:=zY hfin;clear hfin hd;go_wp2_with fail;exact ⟨⟨j+1,bb,by omega,by go_num,HFIN.out,rfl⟩,by simp [intOf]; omega⟩
    ·obtain rfl:j=n:=by omega
     have hst2:=HSTEP.out;rw [List.take_of_length_le (by rw [HN.out]; exact Nat.le_refl _)] at hbb;rw [← hbb] at hst2
     cases bb
     ·rw [if_neg (by decide)] at hst2;have HS2:=zY hst2;clear hst2 hbb;go_wp2_with fail;exact ⟨⟨k+1,j,A,c,by omega,by omega,by go_num,by rw [HS2.out]; exact HN.out,rfl,by rw [HS2.out]; exact HST.out⟩,by simp [intOf]; omega⟩
     ·rw [if_pos rfl] at hst2;have HS2:=zY hst2;clear hst2 hbb;go_wp2_with (refine qao sl_int rfl rfl HST.out.own rfl rfl rfl rfl (by unfold maxLen; omega) (by omega) HST.out.le ?_; intro A3 c3 w3 hown3 hg3 hn3; have HOWN3:=zY hown3; have HG3:=zY hg3; clear hown3 hg3 hn3);refine ⟨⟨k+1,j+1,A3,c3,by omega,by omega,by go_num,by rw [HS2.out,List.length_append,← HN.out]; rfl,rfl,?_⟩,by simp [intOf]; omega⟩;rw [HS2.out];refine ⟨HST.out.bel.grown HG3.out HST.out.le (fun k hk=>(HST.out.own.lt k hk).1),?_,by have:=HG3.out.size; have:=HST.out.le; omega⟩;rw [qby]; exact HOWN3.out
  ·obtain rfl:k=410:=by omega
   rw [primes_end] at hn hst;obtain rfl:n=80:=hn;have HST:=zY hst;clear hst;go_wp2_with fail;go_ret;exact ⟨A,c,rfl,by rw [← HGF.out]; exact HST.out.own,by rw [← HGF.out]; exact HST.out.bel⟩
structure MulStA (w0:World) (gf gw:Nat) (A1 A2:Option Addr) (a b:List Nat) (m:List Nat) (u:World):Prop where
 bel:Below gf w0 u
 r1:Rd u gf A1 (wordsV .i64 a)
 r2:Rd u gf A2 (wordsV .i64 b)
 row:Blk u gw 3 (wordsV .i64 m).toArray
 le:gf≤gw
theorem MulStA.put {w0 u u':World} {gf gw:Nat} {A1 A2:Option Addr} {a b m m':List Nat} (h:MulStA w0 gf gw A1 A2 a b m u) (hw:Wrote gw u u') (hb:Blk u' gw 3 (wordsV .i64 m').toArray):MulStA w0 gf gw A1 A2 a b m' u' :=
 have hx:=hw.below (Below.refl gf u) h.le (by have:=h.row.lt; have:=h.le; omega)
 ⟨h.bel.trans hx,h.r1.below hx,h.r2.below hx,hb,h.le⟩
theorem MulStA.drew {w0 u:World} {gf gw:Nat} {A1 A2:Option Addr} {a b m:List Nat} (h:MulStA w0 gf gw A1 A2 a b m u):MulStA w0 gf gw A1 A2 a b m u.drew :=
 have hx:=(Below.refl gf u).drew
 ⟨h.bel.drew,h.r1.below hx,h.r2.below hx,h.row,h.le⟩
def MulPostA (a b:List Nat) (w:World) (e:Ending) (w':World):Prop :=
 ∃ g,e=.returned (.slice (some ⟨g,0,none⟩) 10 10)∧w.heap.size≤g∧Blk w' g 3 (wordsV .i64 (digs 10 (dval a*dval b))).toArray∧Below w.heap.size w w'
theorem mulA_any (a b:List Nat) (ha:∀ d ∈ a,d<65536) (hb:∀ d ∈ b,d<65536) (A1 A2:Option Addr) (c1 c2 B1 B2:Nat) (w:World) (h1:Rd w B1 A1 (wordsV .i64 a)) (h2:Rd w B2 A2 (wordsV .i64 b)) (hla:a.length=5) (hlb:b.length=5) (hc1:5≤c1) (hc2:5≤c2) (hB1:B1≤w.heap.size) (hB2:B2≤w.heap.size) :
  Calls Tryz.prog 96 #[.slice A1 5 c1,.slice A2 5 c2] w (MulPostA a b w):=by
 obtain ⟨ad1,rfl,hz1,hz2⟩:=h1.at_ (k:=0) (by rw [qaL,hla]; decide);obtain ⟨ad2,rfl,hz3,hz4⟩:=h2.at_ (k:=0) (by rw [qaL,hlb]; decide);clear hz1 hz2 hz3 hz4;have hmk:∀ u:World,(Instr.makeSlice 86 (.int .i64 10) (.int .i64 10)).run Tryz.prog u=.ok (.slice (some ⟨u.heap.size,0,none⟩) 10 10) (u.alloc (.cells (wordsV .i64 (digs 10 0)).toArray 3)):=fun _=>by kernel_rfl
 have H1:=zY (h1.mono hB1);have H2:=zY (h2.mono hB2);have HALN:=zY hla;have HBLN:=zY hlb;have HA:=zY ha;have HB:=zY hb;clear h1 h2 hla hlb ha hb hB1 hB2;go_enter Tryz.func96,Tryz.ntmps96;go_wp2_with fail;obtain ⟨gw,hgw⟩:=eX (w.heap.size)
 have hst0:MulStA w gw gw (some ad1) (some ad2) a b (digs 10 (dval (a.take 0)*dval b)) (w.alloc (.cells (wordsV .i64 (digs 10 0)).toArray 3)):=by
  have hb0:=below_new w (.cells (wordsV .i64 (digs 10 0)).toArray 3);rw [← hgw] at hb0;refine ⟨hb0,?_,?_,?_,Nat.le_refl _⟩
  ·have:=H1.out; rw [← hgw] at this; exact this.below hb0
  ·have:=H2.out; rw [← hgw] at this; exact this.below hb0
  ·rw [hgw]; simp only [List.take_zero,dval,Nat.zero_mul]; exact Blk.new _ _ _
 rw [← hgw];have HGW:=zY hgw;clear hgw hmk H1 H2
 go_loopw [6] (fun i wr=>∃ k:Nat,k≤5∧i=.int .i64 k∧MulStA w gw gw (some ad1) (some ad2) a b (digs 10 (dval (a.take k)*dval b)) wr) (fun i _=>5 - (intOf i).toNat)
 case atStart=>exact ⟨0,by omega,rfl,hst0⟩
 case round =>
  obtain ⟨i,hi,rfl,hst⟩:=hrel;clear hst0
  by_cases hlt:i<5
  ·have hlt':(i:Int)<5:=by omega
   obtain ⟨ai,hai⟩:=eX (a.getD i 0);have hail:ai<65536:=by rw [hai]; exact dig_lt HA.out i
   obtain ⟨P,hP⟩:=eX (dval (a.take i)*dval b)
   have hPl:P<65536^(i+5):=by
    rw [hP,Nat.pow_add];have e1:=qcZ (a.take i) fun x hx=>HA.out x (List.mem_of_mem_take hx);have e2:=qcZ b HB.out;rw [List.length_take,Nat.min_eq_left (by rw [HALN.out]; exact hi)] at e1;rw [HBLN.out] at e2;exact Nat.mul_lt_mul'' e1 e2
   rw [← hP] at hst;have HAI:=zY hai;have HAIL:=zY hail;have HP:=zY hP;have HPL:=zY hPl;have HST:=zY hst;clear hai hail hP hPl hst;go_wp2_with fail;obtain ⟨wo,rfl⟩:∃ wo:World,wo=wr:=⟨_,rfl⟩;have hPN:P<65536^10:=Nat.lt_of_lt_of_le HPL.out (Nat.pow_le_pow_right (by decide) (by omega))
   have hr0:∃ m:List Nat,m.length=10∧(∀ d ∈ m,d<65536)∧m.getD (i+5) 0=0∧dval m+0*65536^(i+0)=P+ai*dval (b.take 0)*65536^i∧MulStA w gw gw (some ad1) (some ad2) a b m wo:=by
    refine ⟨digs 10 P,qav _ _,digs_lt _ _,?_,?_,HST.out⟩
    ·rw [qbw _ _ (digs_lt _ _),qa1 _ _ hPN,Nat.div_eq_of_lt HPL.out]
    ·rw [qa1 _ _ hPN]; simp [dval]
   have HR0:=zY hr0;clear hr0 hPN HST
   go_loopw [7,8] (fun c j wr=>∃ (k cn:Nat) (m:List Nat),k≤5∧j=.int .i64 k∧c=.int .i64 cn∧cn<65536∧m.length=10∧(∀ d ∈ m,d<65536)∧m.getD (i+5) 0=0∧dval m+cn*65536^(i+k)=P+ai*dval (b.take k)*65536^i∧MulStA w gw gw (some ad1) (some ad2) a b m wr) (fun _ j _=>5 - (intOf j).toNat)
   case atStart =>
    obtain ⟨m,q1,q2,q3,q4,q5⟩:=HR0.out;exact ⟨0,0,m,by omega,rfl,rfl,by omega,q1,q2,q3,q4,q5⟩
   case round =>
    clear HR0;obtain ⟨j,c,m,hj,rfl,rfl,hcl,hml,hmd,hm0,hmv,hsm⟩:=hrel
    by_cases hjl:j<5
    ·have hjl':(j:Int)<5:=by omega
     obtain ⟨bj,hbj⟩:=eX (b.getD j 0);have hbjl:bj<65536:=by rw [hbj]; exact dig_lt HB.out j
     obtain ⟨mk,hmk⟩:=eX (m.getD (i+j) 0);have hmkl:mk<65536:=by rw [hmk]; exact dig_lt hmd _
     obtain ⟨pr,hpr⟩:=eX (ai*bj);have hprl:pr≤4294836225:=by rw [hpr]; exact Nat.mul_le_mul (show ai≤65535 by have:=HAIL.out; omega) (show bj≤65535 by omega)
     obtain ⟨v,hv⟩:=eX (mk+pr+c);obtain ⟨mp,hmp⟩:=eX (mk+pr);have hv2:v=mp+c:=by rw [hv,hmp]
     have hnv:=mul_step (n:=dval (m.set (i+j) (v%65536))) (k:=mk) (a:=ai) (b:=bj) hmv (by rw [← hpr,← hv,hmk]; exact qcb m (i+j) (v%65536) (by omega));rw [← hpr,← hv] at hnv;have hbt:dval (b.take (j+1))=dval (b.take j)+bj*65536^j:=by rw [qbv b j (by rw [HBLN.out]; exact hjl),hbj]
     rw [← hbt] at hnv;have hset:=qbB .i64 m (i+j) (v%65536);have hvd:v/65536<65536:=by omega
     have hml2:(m.set (i+j) (v%65536)).length=10:=by rw [List.length_set]; exact hml
     have hmd2:∀ d ∈ m.set (i+j) (v%65536),d<65536:=qd1 hmd (Nat.mod_lt _ (by decide));have hm02:(m.set (i+j) (v%65536)).getD (i+5) 0=0:=by rw [getD_set_ne _ _ _ _ (by omega)]; exact hm0
     have e1:(wordsV .i64 a)[i]?=some (.int .i64 (ai:Int)):=by rw [HAI.out]; exact qaF (by rw [HALN.out]; exact hlt)
     have e2:(wordsV .i64 b)[j]?=some (.int .i64 (bj:Int)):=by rw [hbj]; exact qaF (by rw [HBLN.out]; exact hjl)
     have e3:(wordsV .i64 m)[i+j]?=some (.int .i64 (mk:Int)):=by rw [hmk]; exact qaF (by rw [hml]; omega)
     have E1:=zY e1;have E2:=zY e2;have E3:=zY e3;have HMK:=zY hmk;have HBJ:=zY hbj;have HPR:=zY hpr;have HV:=zY hv;have HV2:=zY hv2;have HMP:=zY hmp;have HNV:=zY hnv;have HSET:=zY hset;have HVD:=zY hvd;have HML2:=zY hml2;have HMD2:=zY hmd2;have HM02:=zY hm02;have HML:=zY hml;have HC0:=hsm.drew;have hil:i+j<10:=by omega
     have PRL:=zY hprl;have MKL:=zY hmkl;have CL:=zY hcl;clear hmk hbj hpr hv hv2 hmp hnv hset hvd hml2 hmd2 hm02 hml hmd hm0 hmv hsm hbt e1 e2 e3 hprl hmkl hcl hbjl;go_wp2_with fail;refine qal (fun u=>MulStA w gw gw (some ad1) (some ad2) a b m u) (fun u=>MulStA w gw gw (some ad1) (some ad2) a b m u) [(0,some 28),(1,some 29),(2,some 30),(3,some 31),(4,some 32),(5,some 33),(6,some 34),(7,some 35),(8,some 36),(9,some 37),(10,some 38),(11,some 39),(12,some 40),(13,some 41),(14,some 42),(15,some 43),(16,some 44),(17,some 45),(18,some 9)] (by kernel_rfl) (by kernel_rfl) (by decide) (by kernel_rfl) (fun _=>rfl) HC0 ?_;apply yN_
     ·apply dP [];exact fun _=>rfl;rfl;rintro vals - w1 hC1 E hE;simp only [sP] at hE ⊢;go_wp2;exact .mk (hE _ hC1)
     apply yN_
     ·apply dP [];exact fun _=>rfl;rfl;rintro vals ⟨-,-⟩ w1 hC1 E hE;simp only [sP] at hE ⊢;go_wp2;exact .mk (hE _ hC1)
     apply yN_
     ·apply dP [];exact fun _=>rfl;rfl;intro vals vq w1 hC1 E hE;clear vq;simp only [sP] at hE ⊢;go_wp2;exact .mk (hE _ hC1)
     apply yN_
     ·apply dP [(1,some 29),(2,some 30)];exact fun _=>rfl;rfl;intro vals vq w1 hC1 E hE;simp only [sP,vq] at hE ⊢;clear vq;go_wp2;exact .mk (hE _ hC1)
     apply yN_
     ·apply dP [(0,some 28),(3,some 31)];exact fun _=>rfl;rfl;intro vals vq w1 hC1 E hE;simp only [sP,vq] at hE ⊢;clear vq;go_wp2;exact .mk (hE _ hC1)
     apply yN_
     ·apply dP [(4,some 32)];exact fun _=>rfl;rfl;intro vals vq w1 hC1 E hE;have d0:=hC1.row.cell (i+j);rw [List.getElem?_toArray,E3.out] at d0;simp only [sP,vq] at hE ⊢;clear vq;go_wp2;exact .mk (hE _ hC1)
     apply yN_
     ·apply dP [];exact fun _=>rfl;rfl;intro vals vq w1 hC1 E hE;clear vq;simp only [sP] at hE ⊢;go_wp2;exact .mk (hE _ hC1)
     apply yN_
     ·apply dP [];exact fun _=>rfl;rfl;intro vals vq w1 hC1 E hE;clear vq;simp only [sP] at hE ⊢;go_wp2;exact .mk (hE _ hC1)
     apply yN_
     ·apply dP [(6,some 34),(7,some 35)];exact fun _=>rfl;rfl;intro vals vq w1 hC1 E hE;simp only [sP,vq] at hE ⊢;clear vq;go_wp2;exact .mk (hE _ hC1)
     apply yN_
     ·apply dP [(8,some 36)];exact fun _=>rfl;rfl;intro vals vq w1 hC1 E hE;have d0:=hC1.r1.val E1.out;simp only [sP,vq] at hE ⊢;clear vq;go_wp2;exact .mk (hE _ hC1)
     apply yN_
     ·apply dP [];exact fun _=>rfl;rfl;intro vals vq w1 hC1 E hE;clear vq;simp only [sP] at hE ⊢;go_wp2;exact .mk (hE _ hC1)
     apply yN_
     ·apply dP [];exact fun _=>rfl;rfl;intro vals vq w1 hC1 E hE;clear vq;simp only [sP] at hE ⊢;go_wp2;exact .mk (hE _ hC1)
     apply yN_
     ·apply dP [(10,some 38),(11,some 39)];exact fun _=>rfl;rfl;intro vals vq w1 hC1 E hE;simp only [sP,vq] at hE ⊢;clear vq;go_wp2;exact .mk (hE _ hC1)
     apply yN_
     ·apply dP [(12,some 40)];exact fun _=>rfl;rfl;intro vals vq w1 hC1 E hE;have d0:=hC1.r2.val E2.out;simp only [sP,vq] at hE ⊢;clear vq;go_wp2;exact .mk (hE _ hC1)
     apply yN_
     ·apply dP [(9,some 37),(13,some 41)];exact fun _=>rfl;rfl;intro vals vq w1 hC1 E hE;simp only [sP,vq] at hE ⊢;clear vq;go_wp2;rw [mul_w64 ai bj (by rw [← HPR.out]; have:=PRL.out; omega),← HPR.out];exact .mk (hE _ hC1)
     apply yN_
     ·apply dP [(5,some 33),(14,some 42)];exact fun _=>rfl;rfl;intro vals vq w1 hC1 E hE;simp only [sP,vq] at hE ⊢;clear vq;go_wp2;rw [add_w64 mk pr (by have:=PRL.out; have:=MKL.out; omega),← HMP.out];exact .mk (hE _ hC1)
     apply yN_
     ·apply dP [];exact fun _=>rfl;rfl;intro vals vq w1 hC1 E hE;clear vq;simp only [sP] at hE ⊢;go_wp2;exact .mk (hE _ hC1)
     apply yN_
     ·apply dP [(15,some 43),(16,some 44)];exact fun _=>rfl;rfl;intro vals vq w1 hC1 E hE;simp only [sP,vq] at hE ⊢;clear vq;go_wp2;rw [add_w64 mp c (by have:=HMP.out; have:=PRL.out; have:=MKL.out; have:=CL.out; omega),← HV2.out];exact .mk (hE _ hC1)
     apply yL_
     ·apply dP [(17,some 45),(0,some 28),(1,some 29),(2,some 30),(3,some 31),(4,some 32),(5,some 33),(6,some 34),(7,some 35),(8,some 36),(9,some 37),(10,some 38),(11,some 39),(12,some 40),(13,some 41),(14,some 42),(15,some 43),(16,some 44),(17,some 45)];exact fun _=>rfl;rfl;intro vals vq w1 hC1 E hE;simp only [sP,vq] at hE ⊢;clear vq;go_wp2;exact .mk (hE _ hC1)
     intro vals vq w1 hC1;simp only [sP,vq];clear vq;clear HC0;have dr:=hC1.row.cell (i+j);rw [List.getElem?_toArray,E3.out] at dr;have fr:=hC1.row.free (i+j);have HC1:=zY hC1;clear hC1;have hv63:(v:Int)≤4295032831:=by have:=HV.out; have:=PRL.out; have:=MKL.out; have:=CL.out; omega
     go_wp2_with fail;refine ⟨⟨j+1,v/65536,m.set (i+j) (v%65536),by omega,by go_num,by go_num,HVD.out,HML2.out,HMD2.out,HM02.out,HNV.out,?_⟩,by simp [intOf]; omega⟩;refine HC1.out.put (qai _ _ _ _) ?_;have h:=qak (i:=i+j) HC1.out.row (.int .i64 ((v%65536:Nat):Int));rw [HSET.out] at h;exact h
    ·obtain rfl:j=5:=by omega
     have hge:¬ ((5:Nat):Int)<5:=by omega
     have hbt:b.take 5=b:=List.take_of_length_le (by rw [HBLN.out]; exact Nat.le_refl _);rw [hbt] at hmv;have hset:=qbB .i64 m (i+5) c;have hnv:=qcb m (i+5) c (by omega);rw [hm0,Nat.zero_mul,Nat.add_zero] at hnv
     have hfin:digs 10 (dval (a.take (i+1))*dval b)=m.set (i+5) c:=by
      have h1:=qde (m.set (i+5) c) (qd1 hmd hcl);rw [List.length_set,hml] at h1;rw [← h1]
      congr 1
      rw [qbv a i (by rw [HALN.out]; exact hlt),← HAI.out,Nat.add_mul,← HP.out,hnv,hmv,Nat.mul_assoc ai (65536^i),Nat.mul_comm (65536^i),Nat.mul_assoc ai]
     have e3:(wordsV .i64 m)[i+5]?=some (.int .i64 0):=by
      rw [qaF (by rw [hml]; omega),hm0]; rfl
     have dr:=hsm.row.cell (i+5);rw [List.getElem?_toArray,e3] at dr;have fr:=hsm.row.free (i+5);have HSET:=zY hset;have HFIN:=zY hfin;have HSM:=zY hsm;have hil:i+5<10:=by omega
     have hc63:(c:Int)<65536:=by omega
     clear hset hfin hsm hnv hmv hbt e3 hm0 hmd hml hcl;go_wp2_with fail;refine ⟨⟨i+1,by omega,by go_num,?_⟩,by simp [intOf]; omega⟩;rw [HFIN.out];refine HSM.out.put (qai _ _ _ _) ?_;have h:=qak (i:=i+5) HSM.out.row (.int .i64 (c:Int));rw [HSET.out] at h;exact h
  ·obtain rfl:i=5:=by omega
   have hat:a.take 5=a:=List.take_of_length_le (by rw [HALN.out]; exact Nat.le_refl _);rw [hat] at hst;have HST:=zY hst;clear hst hat;go_wp2_with fail;go_ret;exact ⟨gw,rfl,by rw [HGW.out]; exact Nat.le_refl _,HST.out.row,by rw [← HGW.out]; exact HST.out.bel⟩
structure MulStB (w0:World) (gf gw:Nat) (A1 A2:Option Addr) (a b:List Nat) (m:List Nat) (u:World):Prop where
 bel:Below gf w0 u
 r1:Rd u gf A1 (wordsV .i64 a)
 r2:Rd u gf A2 (wordsV .i64 b)
 row:Blk u gw 3 (wordsV .i64 m).toArray
 le:gf≤gw
theorem MulStB.put {w0 u u':World} {gf gw:Nat} {A1 A2:Option Addr} {a b m m':List Nat} (h:MulStB w0 gf gw A1 A2 a b m u) (hw:Wrote gw u u') (hb:Blk u' gw 3 (wordsV .i64 m').toArray):MulStB w0 gf gw A1 A2 a b m' u' :=
 have hx:=hw.below (Below.refl gf u) h.le (by have:=h.row.lt; have:=h.le; omega)
 ⟨h.bel.trans hx,h.r1.below hx,h.r2.below hx,hb,h.le⟩
theorem MulStB.drew {w0 u:World} {gf gw:Nat} {A1 A2:Option Addr} {a b m:List Nat} (h:MulStB w0 gf gw A1 A2 a b m u):MulStB w0 gf gw A1 A2 a b m u.drew :=
 have hx:=(Below.refl gf u).drew
 ⟨h.bel.drew,h.r1.below hx,h.r2.below hx,h.row,h.le⟩
def MulPostB (a b:List Nat) (w:World) (e:Ending) (w':World):Prop :=
 ∃ g,e=.returned (.slice (some ⟨g,0,none⟩) 15 15)∧w.heap.size≤g∧Blk w' g 3 (wordsV .i64 (digs 15 (dval a*dval b))).toArray∧Below w.heap.size w w'
theorem mulB_any (a b:List Nat) (ha:∀ d ∈ a,d<65536) (hb:∀ d ∈ b,d<65536) (A1 A2:Option Addr) (c1 c2 B1 B2:Nat) (w:World) (h1:Rd w B1 A1 (wordsV .i64 a)) (h2:Rd w B2 A2 (wordsV .i64 b)) (hla:a.length=10) (hlb:b.length=5) (hc1:10≤c1) (hc2:5≤c2) (hB1:B1≤w.heap.size) (hB2:B2≤w.heap.size) :
  Calls Tryz.prog 96 #[.slice A1 10 c1,.slice A2 5 c2] w (MulPostB a b w):=by
 obtain ⟨ad1,rfl,hz1,hz2⟩:=h1.at_ (k:=0) (by rw [qaL,hla]; decide);obtain ⟨ad2,rfl,hz3,hz4⟩:=h2.at_ (k:=0) (by rw [qaL,hlb]; decide);clear hz1 hz2 hz3 hz4;have hmk:∀ u:World,(Instr.makeSlice 86 (.int .i64 15) (.int .i64 15)).run Tryz.prog u=.ok (.slice (some ⟨u.heap.size,0,none⟩) 15 15) (u.alloc (.cells (wordsV .i64 (digs 15 0)).toArray 3)):=fun _=>by kernel_rfl
 have H1:=zY (h1.mono hB1);have H2:=zY (h2.mono hB2);have HALN:=zY hla;have HBLN:=zY hlb;have HA:=zY ha;have HB:=zY hb;clear h1 h2 hla hlb ha hb hB1 hB2;go_enter Tryz.func96,Tryz.ntmps96;go_wp2_with fail;obtain ⟨gw,hgw⟩:=eX (w.heap.size)
 have hst0:MulStB w gw gw (some ad1) (some ad2) a b (digs 15 (dval (a.take 0)*dval b)) (w.alloc (.cells (wordsV .i64 (digs 15 0)).toArray 3)):=by
  have hb0:=below_new w (.cells (wordsV .i64 (digs 15 0)).toArray 3);rw [← hgw] at hb0;refine ⟨hb0,?_,?_,?_,Nat.le_refl _⟩
  ·have:=H1.out; rw [← hgw] at this; exact this.below hb0
  ·have:=H2.out; rw [← hgw] at this; exact this.below hb0
  ·rw [hgw]; simp only [List.take_zero,dval,Nat.zero_mul]; exact Blk.new _ _ _
 rw [← hgw];have HGW:=zY hgw;clear hgw hmk H1 H2
 go_loopw [6] (fun i wr=>∃ k:Nat,k≤10∧i=.int .i64 k∧MulStB w gw gw (some ad1) (some ad2) a b (digs 15 (dval (a.take k)*dval b)) wr) (fun i _=>10 - (intOf i).toNat)
 case atStart=>exact ⟨0,by omega,rfl,hst0⟩
 case round =>
  obtain ⟨i,hi,rfl,hst⟩:=hrel;clear hst0
  by_cases hlt:i<10
  ·have hlt':(i:Int)<10:=by omega
   obtain ⟨ai,hai⟩:=eX (a.getD i 0);have hail:ai<65536:=by rw [hai]; exact dig_lt HA.out i
   obtain ⟨P,hP⟩:=eX (dval (a.take i)*dval b)
   have hPl:P<65536^(i+5):=by
    rw [hP,Nat.pow_add];have e1:=qcZ (a.take i) fun x hx=>HA.out x (List.mem_of_mem_take hx);have e2:=qcZ b HB.out;rw [List.length_take,Nat.min_eq_left (by rw [HALN.out]; exact hi)] at e1;rw [HBLN.out] at e2;exact Nat.mul_lt_mul'' e1 e2
   rw [← hP] at hst;have HAI:=zY hai;have HAIL:=zY hail;have HP:=zY hP;have HPL:=zY hPl;have HST:=zY hst;clear hai hail hP hPl hst;go_wp2_with fail;obtain ⟨wo,rfl⟩:∃ wo:World,wo=wr:=⟨_,rfl⟩;have hPN:P<65536^15:=Nat.lt_of_lt_of_le HPL.out (Nat.pow_le_pow_right (by decide) (by omega))
   have hr0:∃ m:List Nat,m.length=15∧(∀ d ∈ m,d<65536)∧m.getD (i+5) 0=0∧dval m+0*65536^(i+0)=P+ai*dval (b.take 0)*65536^i∧MulStB w gw gw (some ad1) (some ad2) a b m wo:=by
    refine ⟨digs 15 P,qav _ _,digs_lt _ _,?_,?_,HST.out⟩
    ·rw [qbw _ _ (digs_lt _ _),qa1 _ _ hPN,Nat.div_eq_of_lt HPL.out]
    ·rw [qa1 _ _ hPN]; simp [dval]
   have HR0:=zY hr0;clear hr0 hPN HST
   go_loopw [7,8] (fun c j wr=>∃ (k cn:Nat) (m:List Nat),k≤5∧j=.int .i64 k∧c=.int .i64 cn∧cn<65536∧m.length=15∧(∀ d ∈ m,d<65536)∧m.getD (i+5) 0=0∧dval m+cn*65536^(i+k)=P+ai*dval (b.take k)*65536^i∧MulStB w gw gw (some ad1) (some ad2) a b m wr) (fun _ j _=>5 - (intOf j).toNat)
   case atStart =>
    obtain ⟨m,q1,q2,q3,q4,q5⟩:=HR0.out;exact ⟨0,0,m,by omega,rfl,rfl,by omega,q1,q2,q3,q4,q5⟩
   case round =>
    clear HR0;obtain ⟨j,c,m,hj,rfl,rfl,hcl,hml,hmd,hm0,hmv,hsm⟩:=hrel
    by_cases hjl:j<5
    ·have hjl':(j:Int)<5:=by omega
     obtain ⟨bj,hbj⟩:=eX (b.getD j 0);have hbjl:bj<65536:=by rw [hbj]; exact dig_lt HB.out j
     obtain ⟨mk,hmk⟩:=eX (m.getD (i+j) 0);have hmkl:mk<65536:=by rw [hmk]; exact dig_lt hmd _
     obtain ⟨pr,hpr⟩:=eX (ai*bj);have hprl:pr≤4294836225:=by rw [hpr]; exact Nat.mul_le_mul (show ai≤65535 by have:=HAIL.out; omega) (show bj≤65535 by omega)
     obtain ⟨v,hv⟩:=eX (mk+pr+c);obtain ⟨mp,hmp⟩:=eX (mk+pr);have hv2:v=mp+c:=by rw [hv,hmp]
     have hnv:=mul_step (n:=dval (m.set (i+j) (v%65536))) (k:=mk) (a:=ai) (b:=bj) hmv (by rw [← hpr,← hv,hmk]; exact qcb m (i+j) (v%65536) (by omega));rw [← hpr,← hv] at hnv;have hbt:dval (b.take (j+1))=dval (b.take j)+bj*65536^j:=by rw [qbv b j (by rw [HBLN.out]; exact hjl),hbj]
     rw [← hbt] at hnv;have hset:=qbB .i64 m (i+j) (v%65536);have hvd:v/65536<65536:=by omega
     have hml2:(m.set (i+j) (v%65536)).length=15:=by rw [List.length_set]; exact hml
     have hmd2:∀ d ∈ m.set (i+j) (v%65536),d<65536:=qd1 hmd (Nat.mod_lt _ (by decide));have hm02:(m.set (i+j) (v%65536)).getD (i+5) 0=0:=by rw [getD_set_ne _ _ _ _ (by omega)]; exact hm0
     have e1:(wordsV .i64 a)[i]?=some (.int .i64 (ai:Int)):=by rw [HAI.out]; exact qaF (by rw [HALN.out]; exact hlt)
     have e2:(wordsV .i64 b)[j]?=some (.int .i64 (bj:Int)):=by rw [hbj]; exact qaF (by rw [HBLN.out]; exact hjl)
     have e3:(wordsV .i64 m)[i+j]?=some (.int .i64 (mk:Int)):=by rw [hmk]; exact qaF (by rw [hml]; omega)
     have E1:=zY e1;have E2:=zY e2;have E3:=zY e3;have HMK:=zY hmk;have HBJ:=zY hbj;have HPR:=zY hpr;have HV:=zY hv;have HV2:=zY hv2;have HMP:=zY hmp;have HNV:=zY hnv;have HSET:=zY hset;have HVD:=zY hvd;have HML2:=zY hml2;have HMD2:=zY hmd2;have HM02:=zY hm02;have HML:=zY hml;have HC0:=hsm.drew;have hil:i+j<15:=by omega
     have PRL:=zY hprl;have MKL:=zY hmkl;have CL:=zY hcl;clear hmk hbj hpr hv hv2 hmp hnv hset hvd hml2 hmd2 hm02 hml hmd hm0 hmv hsm hbt e1 e2 e3 hprl hmkl hcl hbjl;go_wp2_with fail;refine qal (fun u=>MulStB w gw gw (some ad1) (some ad2) a b m u) (fun u=>MulStB w gw gw (some ad1) (some ad2) a b m u) [(0,some 28),(1,some 29),(2,some 30),(3,some 31),(4,some 32),(5,some 33),(6,some 34),(7,some 35),(8,some 36),(9,some 37),(10,some 38),(11,some 39),(12,some 40),(13,some 41),(14,some 42),(15,some 43),(16,some 44),(17,some 45),(18,some 9)] (by kernel_rfl) (by kernel_rfl) (by decide) (by kernel_rfl) (fun _=>rfl) HC0 ?_;apply yN_
     ·apply dP [];exact fun _=>rfl;rfl;rintro vals - w1 hC1 E hE;simp only [sP] at hE ⊢;go_wp2;exact .mk (hE _ hC1)
     apply yN_
     ·apply dP [];exact fun _=>rfl;rfl;rintro vals ⟨-,-⟩ w1 hC1 E hE;simp only [sP] at hE ⊢;go_wp2;exact .mk (hE _ hC1)
     apply yN_
     ·apply dP [];exact fun _=>rfl;rfl;intro vals vq w1 hC1 E hE;clear vq;simp only [sP] at hE ⊢;go_wp2;exact .mk (hE _ hC1)
     apply yN_
     ·apply dP [(1,some 29),(2,some 30)];exact fun _=>rfl;rfl;intro vals vq w1 hC1 E hE;simp only [sP,vq] at hE ⊢;clear vq;go_wp2;exact .mk (hE _ hC1)
     apply yN_
     ·apply dP [(0,some 28),(3,some 31)];exact fun _=>rfl;rfl;intro vals vq w1 hC1 E hE;simp only [sP,vq] at hE ⊢;clear vq;go_wp2;exact .mk (hE _ hC1)
     apply yN_
     ·apply dP [(4,some 32)];exact fun _=>rfl;rfl;intro vals vq w1 hC1 E hE;have d0:=hC1.row.cell (i+j);rw [List.getElem?_toArray,E3.out] at d0;simp only [sP,vq] at hE ⊢;clear vq;go_wp2;exact .mk (hE _ hC1)
     apply yN_
     ·apply dP [];exact fun _=>rfl;rfl;intro vals vq w1 hC1 E hE;clear vq;simp only [sP] at hE ⊢;go_wp2;exact .mk (hE _ hC1)
     apply yN_
     ·apply dP [];exact fun _=>rfl;rfl;intro vals vq w1 hC1 E hE;clear vq;simp only [sP] at hE ⊢;go_wp2;exact .mk (hE _ hC1)
     apply yN_
     ·apply dP [(6,some 34),(7,some 35)];exact fun _=>rfl;rfl;intro vals vq w1 hC1 E hE;simp only [sP,vq] at hE ⊢;clear vq;go_wp2;exact .mk (hE _ hC1)
     apply yN_
     ·apply dP [(8,some 36)];exact fun _=>rfl;rfl;intro vals vq w1 hC1 E hE;have d0:=hC1.r1.val E1.out;simp only [sP,vq] at hE ⊢;clear vq;go_wp2;exact .mk (hE _ hC1)
     apply yN_
     ·apply dP [];exact fun _=>rfl;rfl;intro vals vq w1 hC1 E hE;clear vq;simp only [sP] at hE ⊢;go_wp2;exact .mk (hE _ hC1)
     apply yN_
     ·apply dP [];exact fun _=>rfl;rfl;intro vals vq w1 hC1 E hE;clear vq;simp only [sP] at hE ⊢;go_wp2;exact .mk (hE _ hC1)
     apply yN_
     ·apply dP [(10,some 38),(11,some 39)];exact fun _=>rfl;rfl;intro vals vq w1 hC1 E hE;simp only [sP,vq] at hE ⊢;clear vq;go_wp2;exact .mk (hE _ hC1)
     apply yN_
     ·apply dP [(12,some 40)];exact fun _=>rfl;rfl;intro vals vq w1 hC1 E hE;have d0:=hC1.r2.val E2.out;simp only [sP,vq] at hE ⊢;clear vq;go_wp2;exact .mk (hE _ hC1)
     apply yN_
     ·apply dP [(9,some 37),(13,some 41)];exact fun _=>rfl;rfl;intro vals vq w1 hC1 E hE;simp only [sP,vq] at hE ⊢;clear vq;go_wp2;rw [mul_w64 ai bj (by rw [← HPR.out]; have:=PRL.out; omega),← HPR.out];exact .mk (hE _ hC1)
     apply yN_
     ·apply dP [(5,some 33),(14,some 42)];exact fun _=>rfl;rfl;intro vals vq w1 hC1 E hE;simp only [sP,vq] at hE ⊢;clear vq;go_wp2;rw [add_w64 mk pr (by have:=PRL.out; have:=MKL.out; omega),← HMP.out];exact .mk (hE _ hC1)
     apply yN_
     ·apply dP [];exact fun _=>rfl;rfl;intro vals vq w1 hC1 E hE;clear vq;simp only [sP] at hE ⊢;go_wp2;exact .mk (hE _ hC1)
     apply yN_
     ·apply dP [(15,some 43),(16,some 44)];exact fun _=>rfl;rfl;intro vals vq w1 hC1 E hE;simp only [sP,vq] at hE ⊢;clear vq;go_wp2;rw [add_w64 mp c (by have:=HMP.out; have:=PRL.out; have:=MKL.out; have:=CL.out; omega),← HV2.out];exact .mk (hE _ hC1)
     apply yL_
     ·apply dP [(17,some 45),(0,some 28),(1,some 29),(2,some 30),(3,some 31),(4,some 32),(5,some 33),(6,some 34),(7,some 35),(8,some 36),(9,some 37),(10,some 38),(11,some 39),(12,some 40),(13,some 41),(14,some 42),(15,some 43),(16,some 44),(17,some 45)];exact fun _=>rfl;rfl;intro vals vq w1 hC1 E hE;simp only [sP,vq] at hE ⊢;clear vq;go_wp2;exact .mk (hE _ hC1)
     intro vals vq w1 hC1;simp only [sP,vq];clear vq;clear HC0;have dr:=hC1.row.cell (i+j);rw [List.getElem?_toArray,E3.out] at dr;have fr:=hC1.row.free (i+j);have HC1:=zY hC1;clear hC1;have hv63:(v:Int)≤4295032831:=by have:=HV.out; have:=PRL.out; have:=MKL.out; have:=CL.out; omega
     go_wp2_with fail;refine ⟨⟨j+1,v/65536,m.set (i+j) (v%65536),by omega,by go_num,by go_num,HVD.out,HML2.out,HMD2.out,HM02.out,HNV.out,?_⟩,by simp [intOf]; omega⟩;refine HC1.out.put (qai _ _ _ _) ?_;have h:=qak (i:=i+j) HC1.out.row (.int .i64 ((v%65536:Nat):Int));rw [HSET.out] at h;exact h
    ·obtain rfl:j=5:=by omega
     have hge:¬ ((5:Nat):Int)<5:=by omega
     have hbt:b.take 5=b:=List.take_of_length_le (by rw [HBLN.out]; exact Nat.le_refl _);rw [hbt] at hmv;have hset:=qbB .i64 m (i+5) c;have hnv:=qcb m (i+5) c (by omega);rw [hm0,Nat.zero_mul,Nat.add_zero] at hnv
     have hfin:digs 15 (dval (a.take (i+1))*dval b)=m.set (i+5) c:=by
      have h1:=qde (m.set (i+5) c) (qd1 hmd hcl);rw [List.length_set,hml] at h1;rw [← h1]
      congr 1
      rw [qbv a i (by rw [HALN.out]; exact hlt),← HAI.out,Nat.add_mul,← HP.out,hnv,hmv,Nat.mul_assoc ai (65536^i),Nat.mul_comm (65536^i),Nat.mul_assoc ai]
     have e3:(wordsV .i64 m)[i+5]?=some (.int .i64 0):=by
      rw [qaF (by rw [hml]; omega),hm0]; rfl
     have dr:=hsm.row.cell (i+5);rw [List.getElem?_toArray,e3] at dr;have fr:=hsm.row.free (i+5);have HSET:=zY hset;have HFIN:=zY hfin;have HSM:=zY hsm;have hil:i+5<15:=by omega
     have hc63:(c:Int)<65536:=by omega
     clear hset hfin hsm hnv hmv hbt e3 hm0 hmd hml hcl;go_wp2_with fail;refine ⟨⟨i+1,by omega,by go_num,?_⟩,by simp [intOf]; omega⟩;rw [HFIN.out];refine HSM.out.put (qai _ _ _ _) ?_;have h:=qak (i:=i+5) HSM.out.row (.int .i64 (c:Int));rw [HSET.out] at h;exact h
  ·obtain rfl:i=10:=by omega
   have hat:a.take 10=a:=List.take_of_length_le (by rw [HALN.out]; exact Nat.le_refl _);rw [hat] at hst;have HST:=zY hst;clear hst hat;go_wp2_with fail;go_ret;exact ⟨gw,rfl,by rw [HGW.out]; exact Nat.le_refl _,HST.out.row,by rw [← HGW.out]; exact HST.out.bel⟩
structure RtSt (w0:World) (gt gx:Nat) (T:List Nat) (X:Nat) (u:World):Prop where
 bel:Below gt w0 u
 t:Blk u gt 3 (wordsV .i64 T).toArray
 x:Blk u gx 3 (wordsV .i64 (digs 5 X)).toArray
 lt:gt<gx
theorem RtSt.next {w0 u u':World} {gt gx X:Nat} {T:List Nat} (h:RtSt w0 gt gx T X u) (hb:Below u.heap.size u u'):RtSt w0 gt gx T X u' :=
 ⟨h.bel.trans (hb.mono (by have:=h.t.lt; omega)),h.t.below hb h.t.lt,h.x.below hb h.x.lt,h.lt⟩
theorem RtSt.drew {w0 u:World} {gt gx X:Nat} {T:List Nat} (h:RtSt w0 gt gx T X u):RtSt w0 gt gx T X u.drew:=h.next (Below.refl _ _).drew
theorem RtSt.put {w0 u u':World} {gt gx X X':Nat} {T:List Nat} (h:RtSt w0 gt gx T X u) (hw:Wrote gx u u') (hb:Blk u' gx 3 (wordsV .i64 (digs 5 X')).toArray):RtSt w0 gt gx T X' u' :=
 ⟨hw.below h.bel (by have:=h.lt; omega) (by have:=h.t.lt; omega),hw.blk h.t (by have:=h.lt; omega),hb,h.lt⟩
theorem root2_any (p:Nat) (w:World) (hp:p<65536):Calls Tryz.prog 78 #[.int .i64 p,.int .i64 2] w fun e w'=>e=.returned (.int .u64 (rootN p 2:Nat))∧Below w.heap.size w w':=by
 have hmkT:∀ u:World,(Instr.makeSlice 86 (.int .i64 9) (.int .i64 9)).run Tryz.prog u=.ok (.slice (some ⟨u.heap.size,0,none⟩) 9 9) (u.alloc (.cells (wordsV .i64 (digs 9 0)).toArray 3)):=fun _=>by kernel_rfl
 have hmk5:∀ u:World,(Instr.makeSlice 86 (.int .i64 5) (.int .i64 5)).run Tryz.prog u=.ok (.slice (some ⟨u.heap.size,0,none⟩) 5 5) (u.alloc (.cells (wordsV .i64 (digs 5 0)).toArray 3)):=fun _=>by kernel_rfl
 have hb0:=Blk.new w 3 (wordsV .i64 (digs 9 0)).toArray;have dT:(w.alloc (.cells (wordsV .i64 (digs 9 0)).toArray 3)).cell? ⟨w.heap.size,8,none⟩=some (.int .i64 0):=hb0.cell 8;have fT:=hb0.free 8;have hset:(wordsV .i64 (digs 9 0)).set 8 (.int .i64 (p:Int))=wordsV .i64 ((digs 9 0).set 8 p):=by simp [wordsV,List.map_set]
 obtain ⟨TL,hTL⟩:=eX ((digs 9 0).set 8 p);have hTd:∀ d ∈ TL,d<65536:=by rw [hTL]; exact qd1 (digs_lt _ _) hp
 have hTv:dval TL=p*65536^8:=by
  have h:=qcb (digs 9 0) 8 p (by rw [qav]; decide);rw [qbw _ _ (digs_lt _ _),qa1 _ _ (by decide)] at h;rw [hTL]
  simpa using h
 have hTl:TL.length=9:=by rw [hTL,List.length_set,qav]
 rw [← hTL] at hset;have HSET:=zY hset;have HTD:=zY hTd;have HTV:=zY hTv;have HTL:=zY hTl;clear hb0 hset hTL hTd hTv hTl;have hpl:(p:Int)<65536:=by omega
 clear hp;go_enter Tryz.func78,Tryz.ntmps78;go_wp2_with fail;rw [HSET.out];obtain ⟨gt,hgt⟩:=eX (w.heap.size);obtain ⟨gx,hgx⟩:=eX (w.heap.size+1)
 have hst0:RtSt w gt gx TL (rootX p 2 0) ((w.alloc (.cells (wordsV .i64 TL).toArray 3)).alloc (.cells (wordsV .i64 (digs 5 0)).toArray 3)):=by
  rw [hgt,hgx];exact ⟨(below_new _ _).alloc (by simp) _,(Blk.new _ _ _).alloc _,by have:=Blk.new (w.alloc (.cells (wordsV .i64 TL).toArray 3)) 3 (wordsV .i64 (digs 5 0)).toArray; exact (by simpa using this:Blk _ (w.heap.size+1) 3 (wordsV .i64 (digs 5 0)).toArray),by omega⟩
 rw [← hgx,← hgt];have HGT:=zY hgt;clear hgt hgx hmkT hmk5 dT fT
 go_loopw [7] (fun i wr=>∃ n:Nat,n≤69∧i=.int .i64 (68 - (n:Int))∧RtSt w gt gx TL (rootX p 2 n) wr) (fun i _=>(intOf i+1).toNat)
 case atStart=>exact ⟨0,by omega,rfl,hst0⟩
 case round =>
  obtain ⟨n,hn,rfl,hst⟩:=hrel;clear hst0
  by_cases hlt:n<69
  ·obtain ⟨b,hb⟩:∃ b:Nat,(68 - (n:Int))=(b:Int):=⟨68 - n,by omega⟩;rw [hb];have hbn:b+n=68:=by omega
   obtain ⟨X,hX⟩:=eX (rootX p 2 n);have hXl:=qc4 p 2 n hn;have hXd:=qd4 p 2 n hn
   have hnext:rootX p 2 (n+1)=if p*65536^8<(X+2^b)^2 then X else X+2^b:=by
    rw [rootX,← hX,show 68 - n=b by omega]
   rw [← hX] at hst hXl hXd;rw [show 69 - n=b+1 by omega] at hXl hXd;obtain ⟨q,hq⟩:=eX (b/16);obtain ⟨r,hr⟩:=eX (b%16);have hq5:q<5:=by omega
   have hr16:r<16:=by omega
   have hX80:X+2^b<65536^5:=by
    have h2:2^(b+1)=2*2^b:=by rw [Nat.pow_succ,Nat.mul_comm]
    have h3:(2:Nat)^69<65536^5:=by decide
    omega
   obtain ⟨hda,hdl⟩:=dig_add (n:=5) (bit:=b) (X:=X) (by omega) (by omega) hXd;rw [← hq,← hr] at hda hdl;obtain ⟨X1,hX1⟩:=eX (X+2^b);obtain ⟨d0,hd0⟩:=eX ((digs 5 X).getD q 0);obtain ⟨D,hD⟩:=eX (2^r);rw [← hX1,← hd0,← hD] at hda;rw [← hd0,← hD] at hdl;rw [← hX1] at hnext hX80;have hset1:(wordsV .i64 (digs 5 X)).toArray.setIfInBounds q (.int .i64 ((d0+D:Nat):Int))=(wordsV .i64 (digs 5 X1)).toArray:=by rw [qbB,hda]
   have hset2:(wordsV .i64 (digs 5 X1)).toArray.setIfInBounds q (.int .i64 (d0:Int))=(wordsV .i64 (digs 5 X)).toArray:=by
    rw [qbB,← hda,List.set_set,hd0]
    congr 2
    rw [List.getD_eq_getElem?_getD,List.getElem?_eq_getElem (by rw [qav]; exact hq5),Option.getD_some,List.set_getElem_self]
   have hc1:(wordsV .i64 (digs 5 X))[q]?=some (.int .i64 (d0:Int)):=by rw [hd0]; exact qaF (by rw [qav]; exact hq5)
   have hc2:(wordsV .i64 (digs 5 X1))[q]?=some (.int .i64 ((d0+D:Nat):Int)):=by
    rw [← hda,wordsV,List.getElem?_map,List.getElem?_set_self (by rw [qav]; exact hq5)]; rfl
   have hqb:(b:Int)/16=(q:Int):=by omega
   have hrb:(b:Int)%16=(r:Int):=by omega
   have hDl:D≤32768:=by rw [hD]; exact Nat.pow_le_pow_right (n:=2) (by decide) (show r≤15 by omega)
   have dx:=hst.x.cell q;rw [List.getElem?_toArray,hc1] at dx;have fx:=hst.x.free q;have hd0l:d0+D≤65535:=by omega
   have HX:=zY hX;have HNEXT:=zY hnext;have HX80:=zY hX80;have HX1:=zY hX1;have HSET1:=zY hset1;have HSET2:=zY hset2;have HC2:=zY hc2;have HD:=zY hD;have HST:=zY hst;have HB:=zY hb;have HBN:=zY hbn;have hb0:(0:Int)≤(b:Int):=by omega
   clear hb hbn hX hXl hXd hnext hq hr hX80 hda hdl hX1 hd0 hD hset1 hset2 hc1 hc2 hst hlt hn;go_wp2_with fail
   go_loop [8,9] (fun v i=>∃ j e:Nat,j≤r∧i=.int .i64 j∧e=2^j∧v=.int .i64 e) (fun _ i=>r - (intOf i).toNat)
   case atStart=>exact ⟨0,1,by omega,rfl,rfl,rfl⟩
   case round =>
    obtain ⟨j,e,hj,rfl,he,rfl⟩:=hrel
    by_cases hjr:j<r
    ·have hjr':(j:Int)<(r:Int):=by omega
     have hel:e≤16384:=by rw [he]; exact Nat.pow_le_pow_right (n:=2) (by decide) (show j≤14 by omega)
     have HE:=zY he;clear he;go_wp2_with fail;exact ⟨⟨j+1,2*e,by omega,by go_num,by rw [HE.out,Nat.pow_succ,Nat.mul_comm],by go_num⟩,by simp [intOf]; omega⟩
    ·obtain rfl:j=r:=by omega
     obtain rfl:e=D:=by rw [he,HD.out]
     clear he;go_wp2_with fail;obtain ⟨w2,hw2⟩:∃ x,x=wr.setCell ⟨gx,q,none⟩ (.int .i64 ((d0:Int)+(e:Int))):=⟨_,rfl⟩
     have hst2:RtSt w gt gx TL X1 w2:=by
      rw [hw2];refine HST.out.put (qai _ _ _ _) ?_;have h:=qak (i:=q) HST.out.x (.int .i64 ((d0+e:Nat):Int));rw [HSET1.out] at h;exact h
     rw [← hw2];have hx2:=Rd.of_blk (B:=w2.heap.size) hst2.x hst2.x.lt;have hm:=mulA_any (digs 5 X1) (digs 5 X1) (digs_lt _ _) (digs_lt _ _) _ _ 5 5 _ _ w2 hx2 hx2 (qav _ _) (qav _ _) (Nat.le_refl _) (Nat.le_refl _) (Nat.le_refl _) (Nat.le_refl _);refine qab hm ?_;rintro e1 w3 ⟨g1,rfl,hg1,hb1,hbel1⟩;rw [qa1 5 X1 HX80.out] at hb1;have hst3:=hst2.next hbel1;clear hw2 hst2 hx2 hm hbel1 hg1 dx fx HSET1 HST;have HST3:=zY hst3;have HB1:=zY hb1;clear hst3 hb1;go_wp2_with fail;have hls:=less_any TL (digs 10 (X1*X1)) HTD.out (digs_lt _ _) (some ⟨gt,0,none⟩) (some ⟨g1,0,none⟩) 9 10 w3.heap.size w3.heap.size 9 10 w3 (Rd.of_blk HST3.out.t HST3.out.t.lt) (Rd.of_blk HB1.out HB1.out.lt) HTL.out (qav _ _) (by decide) (by decide) (Nat.le_refl _) (Nat.le_refl _);refine qab hls ?_;rintro e1 w4 ⟨rfl,rfl⟩;clear hls;have hpw:X1*X1<65536^10:=by have:=HX80.out; exact Nat.lt_of_lt_of_le (Nat.mul_lt_mul'' this this) (by decide)
     rw [HTV.out,qa1 _ _ hpw,show X1*X1=X1^2 by simp [Nat.pow_succ]];clear hpw;have dx2:=HST3.out.x.cell q;rw [List.getElem?_toArray,HC2.out] at dx2;have fx2:=HST3.out.x.free q
     by_cases hmo:p*65536^8<X1^2
     ·rw [decide_eq_true hmo]
      have hfin:RtSt w gt gx TL (rootX p 2 (n+1)) (w3.setCell ⟨gx,q,none⟩ (.int .i64 (d0:Int))):=by
       rw [HNEXT.out,if_pos hmo];refine HST3.out.put (qai _ _ _ _) ?_;have h:=qak (i:=q) HST3.out.x (.int .i64 (d0:Int));rw [HSET2.out] at h;exact h
      have HFIN:=zY hfin;clear hfin hmo;go_wp2_with fail;have:=HBN.out;exact ⟨⟨n+1,by omega,congrArg (Value.int .i64) (by omega),HFIN.out⟩,by simp [intOf]⟩
     ·rw [decide_eq_false hmo]
      have hfin:RtSt w gt gx TL (rootX p 2 (n+1)) w3:=by
       rw [HNEXT.out,if_neg hmo];exact HST3.out
      have HFIN:=zY hfin;clear hfin hmo;go_wp2_with fail;have:=HBN.out;exact ⟨⟨n+1,by omega,congrArg (Value.int .i64) (by omega),HFIN.out⟩,by simp [intOf]⟩
  ·obtain rfl:n=69:=by omega
   rw [show (68 - ((69:Nat):Int))=-1 from rfl];obtain ⟨X,hX⟩:=eX (rootX p 2 69);rw [← hX] at hst
   have hXl:X<65536^5:=by
    have:=qc4 p 2 69 (Nat.le_refl _);rw [← hX] at this;have h3:(2:Nat)^69<65536^5:=by decide
    omega
   have hgd:∀ i,(digs 5 X).getD i 0=X/65536^i%65536:=fun i=>by rw [qbw _ _ (digs_lt _ _),qa1 5 X hXl]
   have hws:∀ i,i<5→(wordsV .i64 (digs 5 X))[i]?=some (.int .i64 ((X/65536^i%65536:Nat):Int)):=fun i hi=>by rw [qaF (by rw [qav]; exact hi),hgd]
   obtain ⟨x0,h0⟩:=eX (X%65536);obtain ⟨x1,h1⟩:=eX (X/65536%65536);obtain ⟨x2,h2⟩:=eX (X/4294967296%65536);obtain ⟨x3,h3⟩:=eX (X/281474976710656%65536);have E0:Hid ((wordsV .i64 (digs 5 X))[0]?=some (.int .i64 (x0:Int))):=zY (by rw [hws 0 (by decide),h0] <;> simp);have E1:Hid ((wordsV .i64 (digs 5 X))[1]?=some (.int .i64 (x1:Int))):=zY (by rw [hws 1 (by decide),h1] <;> simp);have E2:Hid ((wordsV .i64 (digs 5 X))[2]?=some (.int .i64 (x2:Int))):=zY (by rw [hws 2 (by decide),h2]);have E3:Hid ((wordsV .i64 (digs 5 X))[3]?=some (.int .i64 (x3:Int))):=zY (by rw [hws 3 (by decide),h3])
   have hv:x0+x1*65536+x2*4294967296+x3*281474976710656=rootN p 2:=by
    rw [rootN,← hX,h0,h1,h2,h3];omega
   have l0:(x0:Int)<65536:=by omega
   have l1:(x1:Int)<65536:=by omega
   have l2:(x2:Int)<65536:=by omega
   have l3:(x3:Int)<65536:=by omega
   have HV:=zY hv;have HC0:=hst.drew;clear hX hXl hgd hws h0 h1 h2 h3 hv hst hlt hn;go_wp2_with fail;refine qal (fun u=>RtSt w gt gx TL X u) (fun u=>RtSt w gt gx TL X u) [(0,some 67),(1,some 68),(2,some 69),(3,some 70),(4,some 71),(5,some 72),(6,some 73),(7,some 74),(8,some 75),(9,some 76),(10,some 77),(11,some 78),(12,some 79),(13,some 80),(14,some 81),(15,some 82),(16,some 83),(17,some 84),(18,some 85),(19,some 86),(20,some 87),(21,some 88),(22,some 4)] (by kernel_rfl) (by kernel_rfl) (by decide) (by kernel_rfl) (fun _=>rfl) HC0 ?_;apply yN_
   ·apply dP [];exact fun _=>rfl;rfl;rintro vals - w1 hC1 E hE;simp only [sP] at hE ⊢;go_wp2;exact .mk (hE _ hC1)
   apply yN_
   ·apply dP [(0,some 67)];exact fun _=>rfl;rfl;intro vals vq w1 hC1 E hE;simp only [sP,vq] at hE ⊢;clear vq;go_wp2;exact .mk (hE _ hC1)
   apply yN_
   ·apply dP [(1,some 68)];exact fun _=>rfl;rfl;intro vals vq w1 hC1 E hE;have d0:=hC1.x.cell 0;rw [List.getElem?_toArray,E0.out] at d0;simp only [sP,vq] at hE ⊢;clear vq;go_wp2;exact .mk (hE _ hC1)
   apply yN_
   ·apply dP [(2,some 69)];exact fun _=>rfl;rfl;intro vals vq w1 hC1 E hE;simp only [sP,vq] at hE ⊢;clear vq;go_wp2;exact .mk (hE _ hC1)
   apply yN_
   ·apply dP [];exact fun _=>rfl;rfl;intro vals vq w1 hC1 E hE;clear vq;simp only [sP] at hE ⊢;go_wp2;exact .mk (hE _ hC1)
   apply yN_
   ·apply dP [(4,some 71)];exact fun _=>rfl;rfl;intro vals vq w1 hC1 E hE;simp only [sP,vq] at hE ⊢;clear vq;go_wp2;exact .mk (hE _ hC1)
   apply yN_
   ·apply dP [(5,some 72)];exact fun _=>rfl;rfl;intro vals vq w1 hC1 E hE;have d0:=hC1.x.cell 1;rw [List.getElem?_toArray,E1.out] at d0;simp only [sP,vq] at hE ⊢;clear vq;go_wp2;exact .mk (hE _ hC1)
   apply yN_
   ·apply dP [(6,some 73)];exact fun _=>rfl;rfl;intro vals vq w1 hC1 E hE;simp only [sP,vq] at hE ⊢;clear vq;go_wp2;exact .mk (hE _ hC1)
   apply yN_
   ·apply dP [(7,some 74)];exact fun _=>rfl;rfl;intro vals vq w1 hC1 E hE;simp only [sP,vq] at hE ⊢;clear vq;go_wp2;exact .mk (hE _ hC1)
   apply yN_
   ·apply dP [(3,some 70),(8,some 75)];exact fun _=>rfl;rfl;intro vals vq w1 hC1 E hE;simp only [sP,vq] at hE ⊢;clear vq;go_wp2;exact .mk (hE _ hC1)
   apply yN_
   ·apply dP [];exact fun _=>rfl;rfl;intro vals vq w1 hC1 E hE;clear vq;simp only [sP] at hE ⊢;go_wp2;exact .mk (hE _ hC1)
   apply yN_
   ·apply dP [(10,some 77)];exact fun _=>rfl;rfl;intro vals vq w1 hC1 E hE;simp only [sP,vq] at hE ⊢;clear vq;go_wp2;exact .mk (hE _ hC1)
   apply yN_
   ·apply dP [(11,some 78)];exact fun _=>rfl;rfl;intro vals vq w1 hC1 E hE;have d0:=hC1.x.cell 2;rw [List.getElem?_toArray,E2.out] at d0;simp only [sP,vq] at hE ⊢;clear vq;go_wp2;exact .mk (hE _ hC1)
   apply yN_
   ·apply dP [(12,some 79)];exact fun _=>rfl;rfl;intro vals vq w1 hC1 E hE;simp only [sP,vq] at hE ⊢;clear vq;go_wp2;exact .mk (hE _ hC1)
   apply yN_
   ·apply dP [(13,some 80)];exact fun _=>rfl;rfl;intro vals vq w1 hC1 E hE;simp only [sP,vq] at hE ⊢;clear vq;go_wp2;exact .mk (hE _ hC1)
   apply yN_
   ·apply dP [(9,some 76),(14,some 81)];exact fun _=>rfl;rfl;intro vals vq w1 hC1 E hE;simp only [sP,vq] at hE ⊢;clear vq;go_wp2;exact .mk (hE _ hC1)
   apply yN_
   ·apply dP [];exact fun _=>rfl;rfl;intro vals vq w1 hC1 E hE;clear vq;simp only [sP] at hE ⊢;go_wp2;exact .mk (hE _ hC1)
   apply yN_
   ·apply dP [(16,some 83)];exact fun _=>rfl;rfl;intro vals vq w1 hC1 E hE;simp only [sP,vq] at hE ⊢;clear vq;go_wp2;exact .mk (hE _ hC1)
   apply yN_
   ·apply dP [(17,some 84)];exact fun _=>rfl;rfl;intro vals vq w1 hC1 E hE;have d0:=hC1.x.cell 3;rw [List.getElem?_toArray,E3.out] at d0;simp only [sP,vq] at hE ⊢;clear vq;go_wp2;exact .mk (hE _ hC1)
   apply yN_
   ·apply dP [(18,some 85)];exact fun _=>rfl;rfl;intro vals vq w1 hC1 E hE;simp only [sP,vq] at hE ⊢;clear vq;go_wp2;exact .mk (hE _ hC1)
   apply yN_
   ·apply dP [(19,some 86)];exact fun _=>rfl;rfl;intro vals vq w1 hC1 E hE;simp only [sP,vq] at hE ⊢;clear vq;go_wp2;exact .mk (hE _ hC1)
   apply yN_
   ·apply dP [(15,some 82),(20,some 87)];exact fun _=>rfl;rfl;intro vals vq w1 hC1 E hE;simp only [sP,vq] at hE ⊢;clear vq;go_wp2;exact .mk (hE _ hC1)
   apply yL_
   ·apply dP [(21,some 88),(0,some 67),(1,some 68),(2,some 69),(3,some 70),(4,some 71),(5,some 72),(6,some 73),(7,some 74),(8,some 75),(9,some 76),(10,some 77),(11,some 78),(12,some 79),(13,some 80),(14,some 81),(15,some 82),(16,some 83),(17,some 84),(18,some 85),(19,some 86),(20,some 87),(21,some 88)];exact fun _=>rfl;rfl;intro vals vq w1 hC1 E hE;simp only [sP,vq] at hE ⊢;clear vq;go_wp2;exact .mk (hE _ hC1)
   intro vals vq w1 hC1;simp only [sP,vq];clear vq;clear HC0;go_wp2_with fail;go_ret;exact ⟨qbd (by rw [← HV.out]; omega),by rw [← HGT.out]; exact hC1.bel⟩
theorem root3_any (p:Nat) (w:World) (hp:p<65536):Calls Tryz.prog 78 #[.int .i64 p,.int .i64 3] w fun e w'=>e=.returned (.int .u64 (rootN p 3:Nat))∧Below w.heap.size w w':=by
 have hmkT:∀ u:World,(Instr.makeSlice 86 (.int .i64 13) (.int .i64 13)).run Tryz.prog u=.ok (.slice (some ⟨u.heap.size,0,none⟩) 13 13) (u.alloc (.cells (wordsV .i64 (digs 13 0)).toArray 3)):=fun _=>by kernel_rfl
 have hmk5:∀ u:World,(Instr.makeSlice 86 (.int .i64 5) (.int .i64 5)).run Tryz.prog u=.ok (.slice (some ⟨u.heap.size,0,none⟩) 5 5) (u.alloc (.cells (wordsV .i64 (digs 5 0)).toArray 3)):=fun _=>by kernel_rfl
 have hb0:=Blk.new w 3 (wordsV .i64 (digs 13 0)).toArray;have dT:(w.alloc (.cells (wordsV .i64 (digs 13 0)).toArray 3)).cell? ⟨w.heap.size,12,none⟩=some (.int .i64 0):=hb0.cell 12;have fT:=hb0.free 12;have hset:(wordsV .i64 (digs 13 0)).set 12 (.int .i64 (p:Int))=wordsV .i64 ((digs 13 0).set 12 p):=by simp [wordsV,List.map_set]
 obtain ⟨TL,hTL⟩:=eX ((digs 13 0).set 12 p);have hTd:∀ d ∈ TL,d<65536:=by rw [hTL]; exact qd1 (digs_lt _ _) hp
 have hTv:dval TL=p*65536^12:=by
  have h:=qcb (digs 13 0) 12 p (by rw [qav]; decide);rw [qbw _ _ (digs_lt _ _),qa1 _ _ (by decide)] at h;rw [hTL]
  simpa using h
 have hTl:TL.length=13:=by rw [hTL,List.length_set,qav]
 rw [← hTL] at hset;have HSET:=zY hset;have HTD:=zY hTd;have HTV:=zY hTv;have HTL:=zY hTl;clear hb0 hset hTL hTd hTv hTl;have hpl:(p:Int)<65536:=by omega
 clear hp;go_enter Tryz.func78,Tryz.ntmps78;go_wp2_with fail;rw [HSET.out];obtain ⟨gt,hgt⟩:=eX (w.heap.size);obtain ⟨gx,hgx⟩:=eX (w.heap.size+1)
 have hst0:RtSt w gt gx TL (rootX p 3 0) ((w.alloc (.cells (wordsV .i64 TL).toArray 3)).alloc (.cells (wordsV .i64 (digs 5 0)).toArray 3)):=by
  rw [hgt,hgx];exact ⟨(below_new _ _).alloc (by simp) _,(Blk.new _ _ _).alloc _,by have:=Blk.new (w.alloc (.cells (wordsV .i64 TL).toArray 3)) 3 (wordsV .i64 (digs 5 0)).toArray; exact (by simpa using this:Blk _ (w.heap.size+1) 3 (wordsV .i64 (digs 5 0)).toArray),by omega⟩
 rw [← hgx,← hgt];have HGT:=zY hgt;clear hgt hgx hmkT hmk5 dT fT
 go_loopw [7] (fun i wr=>∃ n:Nat,n≤69∧i=.int .i64 (68 - (n:Int))∧RtSt w gt gx TL (rootX p 3 n) wr) (fun i _=>(intOf i+1).toNat)
 case atStart=>exact ⟨0,by omega,rfl,hst0⟩
 case round =>
  obtain ⟨n,hn,rfl,hst⟩:=hrel;clear hst0
  by_cases hlt:n<69
  ·obtain ⟨b,hb⟩:∃ b:Nat,(68 - (n:Int))=(b:Int):=⟨68 - n,by omega⟩;rw [hb];have hbn:b+n=68:=by omega
   obtain ⟨X,hX⟩:=eX (rootX p 3 n);have hXl:=qc4 p 3 n hn;have hXd:=qd4 p 3 n hn
   have hnext:rootX p 3 (n+1)=if p*65536^12<(X+2^b)^3 then X else X+2^b:=by
    rw [rootX,← hX,show 68 - n=b by omega]
   rw [← hX] at hst hXl hXd;rw [show 69 - n=b+1 by omega] at hXl hXd;obtain ⟨q,hq⟩:=eX (b/16);obtain ⟨r,hr⟩:=eX (b%16);have hq5:q<5:=by omega
   have hr16:r<16:=by omega
   have hX80:X+2^b<65536^5:=by
    have h2:2^(b+1)=2*2^b:=by rw [Nat.pow_succ,Nat.mul_comm]
    have h3:(2:Nat)^69<65536^5:=by decide
    omega
   obtain ⟨hda,hdl⟩:=dig_add (n:=5) (bit:=b) (X:=X) (by omega) (by omega) hXd;rw [← hq,← hr] at hda hdl;obtain ⟨X1,hX1⟩:=eX (X+2^b);obtain ⟨d0,hd0⟩:=eX ((digs 5 X).getD q 0);obtain ⟨D,hD⟩:=eX (2^r);rw [← hX1,← hd0,← hD] at hda;rw [← hd0,← hD] at hdl;rw [← hX1] at hnext hX80;have hset1:(wordsV .i64 (digs 5 X)).toArray.setIfInBounds q (.int .i64 ((d0+D:Nat):Int))=(wordsV .i64 (digs 5 X1)).toArray:=by rw [qbB,hda]
   have hset2:(wordsV .i64 (digs 5 X1)).toArray.setIfInBounds q (.int .i64 (d0:Int))=(wordsV .i64 (digs 5 X)).toArray:=by
    rw [qbB,← hda,List.set_set,hd0]
    congr 2
    rw [List.getD_eq_getElem?_getD,List.getElem?_eq_getElem (by rw [qav]; exact hq5),Option.getD_some,List.set_getElem_self]
   have hc1:(wordsV .i64 (digs 5 X))[q]?=some (.int .i64 (d0:Int)):=by rw [hd0]; exact qaF (by rw [qav]; exact hq5)
   have hc2:(wordsV .i64 (digs 5 X1))[q]?=some (.int .i64 ((d0+D:Nat):Int)):=by
    rw [← hda,wordsV,List.getElem?_map,List.getElem?_set_self (by rw [qav]; exact hq5)]; rfl
   have hqb:(b:Int)/16=(q:Int):=by omega
   have hrb:(b:Int)%16=(r:Int):=by omega
   have hDl:D≤32768:=by rw [hD]; exact Nat.pow_le_pow_right (n:=2) (by decide) (show r≤15 by omega)
   have dx:=hst.x.cell q;rw [List.getElem?_toArray,hc1] at dx;have fx:=hst.x.free q;have hd0l:d0+D≤65535:=by omega
   have HX:=zY hX;have HNEXT:=zY hnext;have HX80:=zY hX80;have HX1:=zY hX1;have HSET1:=zY hset1;have HSET2:=zY hset2;have HC2:=zY hc2;have HD:=zY hD;have HST:=zY hst;have HB:=zY hb;have HBN:=zY hbn;have hb0:(0:Int)≤(b:Int):=by omega
   clear hb hbn hX hXl hXd hnext hq hr hX80 hda hdl hX1 hd0 hD hset1 hset2 hc1 hc2 hst hlt hn;go_wp2_with fail
   go_loop [8,9] (fun v i=>∃ j e:Nat,j≤r∧i=.int .i64 j∧e=2^j∧v=.int .i64 e) (fun _ i=>r - (intOf i).toNat)
   case atStart=>exact ⟨0,1,by omega,rfl,rfl,rfl⟩
   case round =>
    obtain ⟨j,e,hj,rfl,he,rfl⟩:=hrel
    by_cases hjr:j<r
    ·have hjr':(j:Int)<(r:Int):=by omega
     have hel:e≤16384:=by rw [he]; exact Nat.pow_le_pow_right (n:=2) (by decide) (show j≤14 by omega)
     have HE:=zY he;clear he;go_wp2_with fail;exact ⟨⟨j+1,2*e,by omega,by go_num,by rw [HE.out,Nat.pow_succ,Nat.mul_comm],by go_num⟩,by simp [intOf]; omega⟩
    ·obtain rfl:j=r:=by omega
     obtain rfl:e=D:=by rw [he,HD.out]
     clear he;go_wp2_with fail;obtain ⟨w2,hw2⟩:∃ x,x=wr.setCell ⟨gx,q,none⟩ (.int .i64 ((d0:Int)+(e:Int))):=⟨_,rfl⟩
     have hst2:RtSt w gt gx TL X1 w2:=by
      rw [hw2];refine HST.out.put (qai _ _ _ _) ?_;have h:=qak (i:=q) HST.out.x (.int .i64 ((d0+e:Nat):Int));rw [HSET1.out] at h;exact h
     rw [← hw2];have hx2:=Rd.of_blk (B:=w2.heap.size) hst2.x hst2.x.lt;have hm:=mulA_any (digs 5 X1) (digs 5 X1) (digs_lt _ _) (digs_lt _ _) _ _ 5 5 _ _ w2 hx2 hx2 (qav _ _) (qav _ _) (Nat.le_refl _) (Nat.le_refl _) (Nat.le_refl _) (Nat.le_refl _);refine qab hm ?_;rintro e1 w3 ⟨g1,rfl,hg1,hb1,hbel1⟩;rw [qa1 5 X1 HX80.out] at hb1;have hst3:=hst2.next hbel1;clear hw2 hst2 hx2 hm hbel1 hg1 dx fx HSET1 HST;have HST3:=zY hst3;have HB1:=zY hb1;clear hst3 hb1;go_wp2_with fail;have hx3:=Rd.of_blk (B:=w3.heap.size) HST3.out.x HST3.out.x.lt;have hm:=mulB_any (digs 10 (X1*X1)) (digs 5 X1) (digs_lt _ _) (digs_lt _ _) _ _ 10 5 _ _ w3 (Rd.of_blk (B:=w3.heap.size) HB1.out HB1.out.lt) hx3 (qav _ _) (qav _ _) (Nat.le_refl _) (Nat.le_refl _) (Nat.le_refl _) (Nat.le_refl _);refine qab hm ?_;rintro e1 w5 ⟨g3,rfl,hg3,hb3,hbel3⟩;rw [qa1 5 X1 HX80.out,qa1 10 (X1*X1) (by have:=HX80.out; exact Nat.lt_of_lt_of_le (Nat.mul_lt_mul'' this this) (by decide))] at hb3;have hst3:=HST3.out.next hbel3;clear HST3 HB1 hx3 hm hbel3 hg3;obtain ⟨w3,rfl⟩:=eX w5;obtain ⟨g1,rfl⟩:=eX g3;have hb1:=hb3;clear hb3;have HST3:=zY hst3;have HB1:=zY hb1;clear hst3 hb1;go_wp2_with fail;have hls:=less_any TL (digs 15 (X1*X1*X1)) HTD.out (digs_lt _ _) (some ⟨gt,0,none⟩) (some ⟨g1,0,none⟩) 13 15 w3.heap.size w3.heap.size 13 15 w3 (Rd.of_blk HST3.out.t HST3.out.t.lt) (Rd.of_blk HB1.out HB1.out.lt) HTL.out (qav _ _) (by decide) (by decide) (Nat.le_refl _) (Nat.le_refl _);refine qab hls ?_;rintro e1 w4 ⟨rfl,rfl⟩;clear hls;have hpw:X1*X1*X1<65536^15:=by have:=HX80.out; exact Nat.lt_of_lt_of_le (Nat.mul_lt_mul'' (Nat.mul_lt_mul'' this this) this) (by decide)
     rw [HTV.out,qa1 _ _ hpw,show X1*X1*X1=X1^3 by simp [Nat.pow_succ]];clear hpw;have dx2:=HST3.out.x.cell q;rw [List.getElem?_toArray,HC2.out] at dx2;have fx2:=HST3.out.x.free q
     by_cases hmo:p*65536^12<X1^3
     ·rw [decide_eq_true hmo]
      have hfin:RtSt w gt gx TL (rootX p 3 (n+1)) (w3.setCell ⟨gx,q,none⟩ (.int .i64 (d0:Int))):=by
       rw [HNEXT.out,if_pos hmo];refine HST3.out.put (qai _ _ _ _) ?_;have h:=qak (i:=q) HST3.out.x (.int .i64 (d0:Int));rw [HSET2.out] at h;exact h
      have HFIN:=zY hfin;clear hfin hmo;go_wp2_with fail;have:=HBN.out;exact ⟨⟨n+1,by omega,congrArg (Value.int .i64) (by omega),HFIN.out⟩,by simp [intOf]⟩
     ·rw [decide_eq_false hmo]
      have hfin:RtSt w gt gx TL (rootX p 3 (n+1)) w3:=by
       rw [HNEXT.out,if_neg hmo];exact HST3.out
      have HFIN:=zY hfin;clear hfin hmo;go_wp2_with fail;have:=HBN.out;exact ⟨⟨n+1,by omega,congrArg (Value.int .i64) (by omega),HFIN.out⟩,by simp [intOf]⟩
  ·obtain rfl:n=69:=by omega
   rw [show (68 - ((69:Nat):Int))=-1 from rfl];obtain ⟨X,hX⟩:=eX (rootX p 3 69);rw [← hX] at hst
   have hXl:X<65536^5:=by
    have:=qc4 p 3 69 (Nat.le_refl _);rw [← hX] at this;have h3:(2:Nat)^69<65536^5:=by decide
    omega
   have hgd:∀ i,(digs 5 X).getD i 0=X/65536^i%65536:=fun i=>by rw [qbw _ _ (digs_lt _ _),qa1 5 X hXl]
   have hws:∀ i,i<5→(wordsV .i64 (digs 5 X))[i]?=some (.int .i64 ((X/65536^i%65536:Nat):Int)):=fun i hi=>by rw [qaF (by rw [qav]; exact hi),hgd]
   obtain ⟨x0,h0⟩:=eX (X%65536);obtain ⟨x1,h1⟩:=eX (X/65536%65536);obtain ⟨x2,h2⟩:=eX (X/4294967296%65536);obtain ⟨x3,h3⟩:=eX (X/281474976710656%65536);have E0:Hid ((wordsV .i64 (digs 5 X))[0]?=some (.int .i64 (x0:Int))):=zY (by rw [hws 0 (by decide),h0] <;> simp);have E1:Hid ((wordsV .i64 (digs 5 X))[1]?=some (.int .i64 (x1:Int))):=zY (by rw [hws 1 (by decide),h1] <;> simp);have E2:Hid ((wordsV .i64 (digs 5 X))[2]?=some (.int .i64 (x2:Int))):=zY (by rw [hws 2 (by decide),h2]);have E3:Hid ((wordsV .i64 (digs 5 X))[3]?=some (.int .i64 (x3:Int))):=zY (by rw [hws 3 (by decide),h3])
   have hv:x0+x1*65536+x2*4294967296+x3*281474976710656=rootN p 3:=by
    rw [rootN,← hX,h0,h1,h2,h3];omega
   have l0:(x0:Int)<65536:=by omega
   have l1:(x1:Int)<65536:=by omega
   have l2:(x2:Int)<65536:=by omega
   have l3:(x3:Int)<65536:=by omega
   have HV:=zY hv;have HC0:=hst.drew;clear hX hXl hgd hws h0 h1 h2 h3 hv hst hlt hn;go_wp2_with fail;refine qal (fun u=>RtSt w gt gx TL X u) (fun u=>RtSt w gt gx TL X u) [(0,some 67),(1,some 68),(2,some 69),(3,some 70),(4,some 71),(5,some 72),(6,some 73),(7,some 74),(8,some 75),(9,some 76),(10,some 77),(11,some 78),(12,some 79),(13,some 80),(14,some 81),(15,some 82),(16,some 83),(17,some 84),(18,some 85),(19,some 86),(20,some 87),(21,some 88),(22,some 4)] (by kernel_rfl) (by kernel_rfl) (by decide) (by kernel_rfl) (fun _=>rfl) HC0 ?_;apply yN_
   ·apply dP [];exact fun _=>rfl;rfl;rintro vals - w1 hC1 E hE;simp only [sP] at hE ⊢;go_wp2;exact .mk (hE _ hC1)
   apply yN_
   ·apply dP [(0,some 67)];exact fun _=>rfl;rfl;intro vals vq w1 hC1 E hE;simp only [sP,vq] at hE ⊢;clear vq;go_wp2;exact .mk (hE _ hC1)
   apply yN_
   ·apply dP [(1,some 68)];exact fun _=>rfl;rfl;intro vals vq w1 hC1 E hE;have d0:=hC1.x.cell 0;rw [List.getElem?_toArray,E0.out] at d0;simp only [sP,vq] at hE ⊢;clear vq;go_wp2;exact .mk (hE _ hC1)
   apply yN_
   ·apply dP [(2,some 69)];exact fun _=>rfl;rfl;intro vals vq w1 hC1 E hE;simp only [sP,vq] at hE ⊢;clear vq;go_wp2;exact .mk (hE _ hC1)
   apply yN_
   ·apply dP [];exact fun _=>rfl;rfl;intro vals vq w1 hC1 E hE;clear vq;simp only [sP] at hE ⊢;go_wp2;exact .mk (hE _ hC1)
   apply yN_
   ·apply dP [(4,some 71)];exact fun _=>rfl;rfl;intro vals vq w1 hC1 E hE;simp only [sP,vq] at hE ⊢;clear vq;go_wp2;exact .mk (hE _ hC1)
   apply yN_
   ·apply dP [(5,some 72)];exact fun _=>rfl;rfl;intro vals vq w1 hC1 E hE;have d0:=hC1.x.cell 1;rw [List.getElem?_toArray,E1.out] at d0;simp only [sP,vq] at hE ⊢;clear vq;go_wp2;exact .mk (hE _ hC1)
   apply yN_
   ·apply dP [(6,some 73)];exact fun _=>rfl;rfl;intro vals vq w1 hC1 E hE;simp only [sP,vq] at hE ⊢;clear vq;go_wp2;exact .mk (hE _ hC1)
   apply yN_
   ·apply dP [(7,some 74)];exact fun _=>rfl;rfl;intro vals vq w1 hC1 E hE;simp only [sP,vq] at hE ⊢;clear vq;go_wp2;exact .mk (hE _ hC1)
   apply yN_
   ·apply dP [(3,some 70),(8,some 75)];exact fun _=>rfl;rfl;intro vals vq w1 hC1 E hE;simp only [sP,vq] at hE ⊢;clear vq;go_wp2;exact .mk (hE _ hC1)
   apply yN_
   ·apply dP [];exact fun _=>rfl;rfl;intro vals vq w1 hC1 E hE;clear vq;simp only [sP] at hE ⊢;go_wp2;exact .mk (hE _ hC1)
   apply yN_
   ·apply dP [(10,some 77)];exact fun _=>rfl;rfl;intro vals vq w1 hC1 E hE;simp only [sP,vq] at hE ⊢;clear vq;go_wp2;exact .mk (hE _ hC1)
   apply yN_
   ·apply dP [(11,some 78)];exact fun _=>rfl;rfl;intro vals vq w1 hC1 E hE;have d0:=hC1.x.cell 2;rw [List.getElem?_toArray,E2.out] at d0;simp only [sP,vq] at hE ⊢;clear vq;go_wp2;exact .mk (hE _ hC1)
   apply yN_
   ·apply dP [(12,some 79)];exact fun _=>rfl;rfl;intro vals vq w1 hC1 E hE;simp only [sP,vq] at hE ⊢;clear vq;go_wp2;exact .mk (hE _ hC1)
   apply yN_
   ·apply dP [(13,some 80)];exact fun _=>rfl;rfl;intro vals vq w1 hC1 E hE;simp only [sP,vq] at hE ⊢;clear vq;go_wp2;exact .mk (hE _ hC1)
   apply yN_
   ·apply dP [(9,some 76),(14,some 81)];exact fun _=>rfl;rfl;intro vals vq w1 hC1 E hE;simp only [sP,vq] at hE ⊢;clear vq;go_wp2;exact .mk (hE _ hC1)
   apply yN_
   ·apply dP [];exact fun _=>rfl;rfl;intro vals vq w1 hC1 E hE;clear vq;simp only [sP] at hE ⊢;go_wp2;exact .mk (hE _ hC1)
   apply yN_
   ·apply dP [(16,some 83)];exact fun _=>rfl;rfl;intro vals vq w1 hC1 E hE;simp only [sP,vq] at hE ⊢;clear vq;go_wp2;exact .mk (hE _ hC1)
   apply yN_
   ·apply dP [(17,some 84)];exact fun _=>rfl;rfl;intro vals vq w1 hC1 E hE;have d0:=hC1.x.cell 3;rw [List.getElem?_toArray,E3.out] at d0;simp only [sP,vq] at hE ⊢;clear vq;go_wp2;exact .mk (hE _ hC1)
   apply yN_
   ·apply dP [(18,some 85)];exact fun _=>rfl;rfl;intro vals vq w1 hC1 E hE;simp only [sP,vq] at hE ⊢;clear vq;go_wp2;exact .mk (hE _ hC1)
   apply yN_
   ·apply dP [(19,some 86)];exact fun _=>rfl;rfl;intro vals vq w1 hC1 E hE;simp only [sP,vq] at hE ⊢;clear vq;go_wp2;exact .mk (hE _ hC1)
   apply yN_
   ·apply dP [(15,some 82),(20,some 87)];exact fun _=>rfl;rfl;intro vals vq w1 hC1 E hE;simp only [sP,vq] at hE ⊢;clear vq;go_wp2;exact .mk (hE _ hC1)
   apply yL_
   ·apply dP [(21,some 88),(0,some 67),(1,some 68),(2,some 69),(3,some 70),(4,some 71),(5,some 72),(6,some 73),(7,some 74),(8,some 75),(9,some 76),(10,some 77),(11,some 78),(12,some 79),(13,some 80),(14,some 81),(15,some 82),(16,some 83),(17,some 84),(18,some 85),(19,some 86),(20,some 87),(21,some 88)];exact fun _=>rfl;rfl;intro vals vq w1 hC1 E hE;simp only [sP,vq] at hE ⊢;clear vq;go_wp2;exact .mk (hE _ hC1)
   intro vals vq w1 hC1;simp only [sP,vq];clear vq;clear HC0;go_wp2_with fail;go_ret;exact ⟨qbd (by rw [← HV.out]; omega),by rw [← HGT.out]; exact hC1.bel⟩
theorem qdt {w:World} {B1 B2 n1 n2 s1 s2:Nat} {e1 e2:TypeId} {v1 v2:Value} {x1 x2:List Value} (h1:OwnX w B1 e1 s1 v1 n1 x1) (h2:OwnX w B2 e2 s2 v2 n2 x2) (hne:e1≠e2):v1.ownBlock=none∨v1.ownBlock≠v2.ownBlock:=by
 rcases h1.2 with ⟨rfl,_⟩ | ⟨g,cap,cur,fz,rfl,_,hg,_⟩
 ·exact .inl rfl
 ·refine .inr fun e=>?_;have e2':v2.ownBlock=some g:=e.symm
  rcases h2.2 with ⟨rfl,_⟩ | ⟨g',cap',cur',fz',rfl,_,hg',_⟩
  ·simp [Value.ownBlock] at e2'
  ·simp [Value.ownBlock] at e2';subst e2';rw [hg] at hg';simp at hg';exact hne hg'.2.1
theorem qdJ:(Tryz.prog.info? 106).map (·.size)=some 1:=by kernel_rfl
structure OfG where
 g0:Nat
 gh:Nat
 ga:Nat
 gb:Nat
 gc:Nat
 gd:Nat
structure OfSt (w0:World) (G:OfG) (F:ShaF) (z:Array Value) (vP:Value) (cs:Array Value) (vK:Value) (kl:List Nat) (vF:Value) (fl:List Nat) (u:World):Prop where
 bel:Below G.g0 w0 u
 res:Blk u G.g0 108 z
 h:Blk u G.gh 108 cs
 a:Blk u G.ga 3 (tri F.s0).toArray
 b:Blk u G.gb 3 (tri F.s1).toArray
 c:Blk u G.gc 3 (tri F.t0).toArray
 d:Blk u G.gd 3 (tri F.t1).toArray
 p:OwnX u G.g0 3 1 vP 80 (wordsV .i64 primes80)
 k:OwnX u G.g0 76 1 vK kl.length (wordsV .u64 kl)
 f:OwnX u G.g0 76 1 vF fl.length (wordsV .u64 fl)
 ne:vF.ownBlock=none∨vF.ownBlock≠vK.ownBlock
 lt:G.g0<G.gh
section
variable {w0 u u':World} {G:OfG} {F:ShaF} {z cs cs':Array Value} {vP vK vF v':Value} {kl fl:List Nat}
theorem OfSt.next (h:OfSt w0 G F z vP cs vK kl vF fl u) (hb:Below u.heap.size u u'):OfSt w0 G F z vP cs vK kl vF fl u' :=
 ⟨h.bel.trans (hb.mono (by have:=h.res.lt; omega)),h.res.below hb h.res.lt,h.h.below hb h.h.lt,h.a.below hb h.a.lt,h.b.below hb h.b.lt,h.c.below hb h.c.lt,h.d.below hb h.d.lt,
  h.p.below hb (Nat.le_refl _),h.k.below hb (Nat.le_refl _),h.f.below hb (Nat.le_refl _),h.ne,h.lt⟩
theorem OfSt.drew (h:OfSt w0 G F z vP cs vK kl vF fl u):OfSt w0 G F z vP cs vK kl vF fl u.drew:=h.next (Below.refl _ _).drew
theorem OfSt.put (h:OfSt w0 G F z vP cs vK kl vF fl u) (hw:Wrote G.gh u u') (hb:Blk u' G.gh 108 cs') (hd:G.ga≠G.gh∧G.gb≠G.gh∧G.gc≠G.gh∧G.gd≠G.gh):OfSt w0 G F z vP cs' vK kl vF fl u' :=
 ⟨hw.below h.bel (Nat.le_of_lt h.lt) (by have:=h.res.lt; omega),hw.blk h.res (Nat.ne_of_lt h.lt),hb,hw.blk h.a hd.1,hw.blk h.b hd.2.1,hw.blk h.c hd.2.2.1,hw.blk h.d hd.2.2.2,
  hw.own h.p (qaI h.p h.h (by decide)),hw.own h.k (qaI h.k h.h (by decide)),hw.own h.f (qaI h.f h.h (by decide)),h.ne,h.lt⟩
theorem qbX {g:Nat} {o:Option Nat} (h:o≠some g):some g≠o:=fun e=>h e.symm
theorem OfSt.appK {x:Nat} (h:OfSt w0 G F z vP cs vK kl vF fl u) (ho:OwnX u' G.g0 76 1 v' (kl.length+1) (wordsV .u64 kl++[.int .u64 (x:Int)])) (hg:u.grownBy u' vK.ownBlock) (hn:vF.ownBlock=none):OfSt w0 G F z vP cs v' (kl++[x]) vF fl u' :=
 ⟨h.bel.grown hg (by have:=h.res.lt; omega) (fun k hk=>(h.k.lt k hk).1),h.res.grown hg (qbX (qaI h.k h.res (by decide))),h.h.grown hg (qbX (qaI h.k h.h (by decide))),h.a.grown hg (qbX (qaI h.k h.a (by decide))),h.b.grown hg (qbX (qaI h.k h.b (by decide))),
  h.c.grown hg (qbX (qaI h.k h.c (by decide))),h.d.grown hg (qbX (qaI h.k h.d (by decide))),h.p.kept hg (qdt h.p h.k (by decide)),by rw [List.length_append,qby]; exact ho,h.f.kept hg (.inl hn),.inl hn,h.lt⟩
theorem OfSt.appF {x:Nat} (h:OfSt w0 G F z vP cs vK kl vF fl u) (ho:OwnX u' G.g0 76 1 v' (fl.length+1) (wordsV .u64 fl++[.int .u64 (x:Int)])) (hg:u.grownBy u' vF.ownBlock) (hn:Next u vF v'):OfSt w0 G F z vP cs vK kl v' (fl++[x]) u':=by
 refine ⟨h.bel.grown hg (by have:=h.res.lt; omega) (fun k hk=>(h.f.lt k hk).1),h.res.grown hg (qbX (qaI h.f h.res (by decide))),h.h.grown hg (qbX (qaI h.f h.h (by decide))),h.a.grown hg (qbX (qaI h.f h.a (by decide))),h.b.grown hg (qbX (qaI h.f h.b (by decide))),
  h.c.grown hg (qbX (qaI h.f h.c (by decide))),h.d.grown hg (qbX (qaI h.f h.d (by decide))),h.p.kept hg (qdt h.p h.f (by decide)),h.k.kept hg ?_,by rw [List.length_append,qby]; exact ho,?_,h.lt⟩
 ·rcases h.ne with h1 | h1
  ·rw [h1]
   cases vK.ownBlock with
   | none=>exact .inl rfl
   | some k=>exact .inr (by simp)
  ·exact .inr (Ne.symm h1)
 ·rcases hn with h1 | h1
  ·rw [h1]; exact h.ne
  ·cases ho2:v'.ownBlock with
   | none=>exact .inl rfl
   | some k =>
    have h2:=h1 k ho2;refine .inr fun e=>?_;have:=(h.k.lt k e.symm).2;omega
end
def OfPost (F:ShaF) (w:World) (e:Ending) (w':World):Prop :=
 ∃ p:HP,e=.returned (.agg (hv F p))∧HOk F p w' w'.heap.size∧Below w.heap.size w w'
theorem qdN (i:Nat) (h:i<80):primes80.getD i 0<65536:=by
 have hm:primes80.getD i 0 ∈ primes80:=by
  rw [List.getD_eq_getElem?_getD,List.getElem?_eq_getElem (show i<primes80.length from h)]; exact List.getElem_mem _
 have:=(List.all_eq_true.1 primes_lt) _ hm;rw [decide_eq_true_eq] at this;exact this.2
end Go.Proofs.YtcbkaaodmjphdaaGreatDoor.Sh
