/-
  Joined texts: TurnR RefT RefX ShaH RefB8 Dgs Less Roots Primes MulA MulB Root2 Root3 OfS HsS Blk64 HSum64 HSumZ OfC.
-/
import Derived.Test.YtdgheahbafnboaaDoorProg
import Derived.Test.YtdgheahbafnboaaDoorJ1
import Derived.Test.YtdgheahbafnboaaDoorJ2
import Derived.Test.YtdgheahbafnboaaDoorJ3
/-
  Plain: turning a word step by step is turning it at once.
-/
namespace Go.Proofs.YtdgheahbafnboaaDoor.Sh
set_option linter.unusedSimpArgs false
set_option linter.unusedVariables false
open Go.RowKit
def turnR (b x:Nat):Nat→Nat
 | 0=>x
 | n+1=>turnR b x n/2+turnR b x n%2*2^(b - 1)
theorem rotN_add {b x n:Nat} (hx:x<2^b) (hn:n≤b):rotN b x n=x/2^n+x%2^n*2^(b - n):=by
 obtain ⟨m,rfl⟩:∃ m,b=n+m:=⟨b - n,by omega⟩;have hm:n+m - n=m:=by omega
 rw [rotN,hm]
 have h1:x*2^m%2^(n+m)=x%2^n*2^m:=by
  rw [Nat.pow_add,Nat.mul_mod_mul_right]
 have h2:x/2^n<2^m:=by
  rw [Nat.div_lt_iff_lt_mul (Nat.two_pow_pos _),← Nat.pow_add,Nat.add_comm m n]; exact hx
 rw [h1,Nat.mul_comm (x%2^n),Nat.or_comm,← Nat.two_pow_add_eq_or_of_lt h2];omega
theorem turnR_eq {b x:Nat} (hx:x<2^b):∀ n,n≤b→turnR b x n=x/2^n+x%2^n*2^(b - n)
 | 0,_=>by simp [turnR,Nat.mod_one]
 | n+1,hn=>by
  rw [turnR,turnR_eq hx n (by omega)];obtain ⟨m,rfl⟩:∃ m,b=n+1+m:=⟨b - (n+1),by omega⟩;rw [show n+1+m - n=m+1 by omega,show n+1+m - (n+1)=m by omega,show n+1+m - 1=n+m by omega];obtain ⟨q,hq⟩:∃ q,q=x/2^n:=⟨_,rfl⟩;obtain ⟨r,hr⟩:∃ r,r=x%2^n:=⟨_,rfl⟩;have hq2:x/2^(n+1)=q/2:=by rw [hq,Nat.pow_succ,Nat.div_div_eq_div_mul]
  have hr2:x%2^(n+1)=r+q%2*2^n:=by
   rw [hr,hq,Nat.pow_succ,Nat.mod_mul];rw [Nat.mul_comm (2^n)]
  rw [hq2,hr2,← hq,← hr];rw [Nat.pow_succ,← Nat.mul_assoc];generalize hz:r*2^m=z;rw [Nat.add_mul,hz,Nat.mul_assoc,← Nat.pow_add,Nat.add_mul_mod_self_right,Nat.add_mul_div_right _ _ (by decide)];omega
theorem turnR_rot {b x n:Nat} (hx:x<2^b) (hn:n≤b):turnR b x n=rotN b x n:=by rw [turnR_eq hx n hn,rotN_add hx hn]
theorem turnR_lt {b x:Nat} (hb:0<b) (hx:x<2^b):∀ n,turnR b x n<2^b
 | 0=>hx
 | n+1=>by
  have ih:=turnR_lt hb hx n;obtain ⟨c,rfl⟩:∃ c,b=c+1:=⟨b - 1,by omega⟩;rw [turnR,show c+1 - 1=c by omega];rw [Nat.pow_succ] at *;generalize 2^c=p at *;generalize turnR (c+1) x n=y at *;have:y%2=0∨y%2=1:=by omega
  rcases this with h | h <;> rw [h] <;> omega
theorem turnR_turned {b x n:Nat} (hb:b=32∨b=64) (hx:x<2^b) (hn:n≤b):turnR b x n=turnedN b x n:=by
 rw [turnR_rot hx hn]
 rcases hb with rfl | rfl
 ·rw [turnedN,if_pos rfl,Nat.mod_eq_of_lt hx]
 ·rw [turnedN,if_neg (by decide)]
end Go.Proofs.YtdgheahbafnboaaDoor.Sh
/-
  Walks: the reference's turn, mixed, low, top.
-/
namespace Go.Proofs.YtdgheahbafnboaaDoor.Sh
set_option linter.unusedSimpArgs false
set_option linter.unusedVariables false
open Go.RowKit
def hC (bits steps:Nat) (a b c d k f:Value):Array Value:=#[.int .i64 bits,.int .i64 steps,a,b,c,d,k,f]
section
variable (bits steps:Nat) (a b c d k f:Value) (w:World)
theorem low_any (hb:bits=32∨bits=64) (x:Nat) (hx:x<18446744073709551616) :
  Calls Tryd.prog 107 #[.agg (hC bits steps a b c d k f),.int .u64 x] w fun e w'=>e=.returned (.int .u64 (x%2^bits:Nat))∧Below w.heap.size w w':=by
 have c0:=(Blk.new w 101 (hC bits steps a b c d k f)).cell 0;simp only [hC,List.getElem?_toArray,List.getElem?_cons_zero] at c0;have hx1:(x:Int)<18446744073709551616:=by omega
 rw [hC]
 rcases hb with rfl | rfl
 ·clear hx;go_enter Tryd.func107,Tryd.ntmps107;go_wp2;go_ret;exact ⟨ret_int' (by omega),below_new _ _⟩
 ·have HX:=zY hx;clear hx;go_enter Tryd.func107,Tryd.ntmps107;go_wp2;go_ret;exact ⟨ret_int' (by have:=HX.out; omega),below_new _ _⟩
theorem top_any (hb:bits=32∨bits=64) (x:Nat) (hx:x<18446744073709551616) :
  Calls Tryd.prog 97 #[.agg (hC bits steps a b c d k f),.int .u64 x] w fun e w'=>e=.returned (.int .u64 (x/2^(64 - bits)%2^bits:Nat))∧Below w.heap.size w w':=by
 have c0:=(Blk.new w 101 (hC bits steps a b c d k f)).cell 0;simp only [hC,List.getElem?_toArray,List.getElem?_cons_zero] at c0;have hx1:(x:Int)<18446744073709551616:=by omega
 rw [hC]
 rcases hb with rfl | rfl
 ·have HX:=zY hx;clear hx;go_enter Tryd.func97,Tryd.ntmps97;go_wp2;go_ret;exact ⟨ret_int' (by have:=HX.out; omega),below_new _ _⟩
 ·have HX:=zY hx;clear hx;go_enter Tryd.func97,Tryd.ntmps97;go_wp2;go_ret;exact ⟨ret_int' (by have:=HX.out; omega),below_new _ _⟩
set_option maxHeartbeats 1000000 in
theorem turn_any (hb:bits=32∨bits=64) (x n:Nat) (hx:x<2^bits) (hn:n≤bits) :
  Calls Tryd.prog 110 #[.agg (hC bits steps a b c d k f),.int .u64 x,.int .i64 n] w fun e w'=>e=.returned (.int .u64 (turnedN bits x n:Nat))∧Below w.heap.size w w':=by
 have c0:=(Blk.new w 101 (hC bits steps a b c d k f)).cell 0;simp only [hC,List.getElem?_toArray,List.getElem?_cons_zero] at c0;have hbel:=below_new w (.cells (hC bits steps a b c d k f) 101);rw [hC] at hbel ⊢;have HTU:=zY (turnR_turned hb hx hn);have HTL:=zY (turnR_lt (by omega) hx);have HBEL:=zY hbel;have hn64:n≤64:=by omega
 clear hbel hn hx
 rcases hb with rfl | rfl
 all_goals
  go_enter Tryd.func110,Tryd.ntmps110;go_wp2
  go_loop [1,7] (fun v i=>∃ j y:Nat,j≤n∧i=.int .i64 j∧y=turnR _ x j∧v=.int .u64 y) (fun _ i=>n - (intOf i).toNat)
  case atStart=>exact ⟨0,x,by omega,rfl,rfl,rfl⟩
  case round =>
   obtain ⟨j,y,hj,rfl,hy,rfl⟩:=hrel;have hyl:=HTL.out j;rw [← hy] at hyl;have HY:=zY hy;have hyl2:(y:Int)<18446744073709551616:=by omega
   have hyl3:(y:Int)/2+2147483648<18446744073709551616:=by omega
   have hyl4:(y:Int)/2+9223372036854775808<18446744073709551616:=by omega
   clear hy hyl
   by_cases hlt:j<n
   ·rcases Nat.mod_two_eq_zero_or_one y with h | h
    ·have ho:(((y:Int)%2) == 1)=false:=by rw [beq_eq_false_iff_ne]; omega
     have HH:=zY h;clear h;go_wp2;exact ⟨⟨j+1,y/2,by omega,by go_num,by rw [turnR,← HY.out,HH.out]; omega,by go_num⟩,by simp [intOf]; omega⟩
    ·have ho:(((y:Int)%2) == 1)=true:=by rw [beq_iff_eq]; omega
     have HH:=zY h;clear h;go_wp2
     first
      | exact ⟨⟨j+1,y/2+2147483648,by omega,by go_num,by rw [turnR,← HY.out,HH.out],by go_num⟩,by simp [intOf]; omega⟩
      | exact ⟨⟨j+1,y/2+9223372036854775808,by omega,by go_num,by rw [turnR,← HY.out,HH.out],by go_num⟩,by simp [intOf]; omega⟩
   ·obtain rfl:j=n:=by omega
    go_wp2;go_ret;exact ⟨ret_int' (by rw [HY.out,HTU.out]),HBEL.out⟩
end
end Go.Proofs.YtdgheahbafnboaaDoor.Sh
/-
  Walk: the reference's mixed.
-/
namespace Go.Proofs.YtdgheahbafnboaaDoor.Sh
set_option linter.unusedSimpArgs false
set_option linter.unusedVariables false
open Go.RowKit
theorem h_size:(Tryd.prog.info? 101).map (·.size)=some 8:=by kernel_rfl
def triV (p q c:Nat):List Value:=[.int .i64 p,.int .i64 q,.int .i64 c]
structure MxSt (w0:World) (g:Nat) (cs:Array Value) (A:Option Addr) (xs:List Value) (u:World):Prop where
 bel:Below g w0 u
 h:Blk u g 101 cs
 rd:Rd u g A xs
theorem MxSt.next {w0 u u':World} {g:Nat} {cs:Array Value} {A:Option Addr} {xs:List Value} (h:MxSt w0 g cs A xs u) (hb:Below u.heap.size u u'):MxSt w0 g cs A xs u' :=
 ⟨h.bel.trans (hb.mono (by have:=h.h.lt; omega)),h.h.below hb h.h.lt,h.rd.below (hb.mono (by have:=h.h.lt; omega))⟩
theorem MxSt.drew {w0 u:World} {g:Nat} {cs:Array Value} {A:Option Addr} {xs:List Value} (h:MxSt w0 g cs A xs u):MxSt w0 g cs A xs u.drew :=
 ⟨h.bel.drew,h.h,h.rd.below (Below.refl _ _).drew⟩
def halves (x:Nat):Nat→Nat
 | 0=>x
 | n+1=>halves x n/2
theorem halves_eq (x:Nat):∀ n,halves x n=x/2^n
 | 0=>by simp [halves]
 | n+1=>by rw [halves,halves_eq x n,Nat.div_div_eq_div_mul,Nat.pow_succ]
theorem halves_le (x:Nat) (n:Nat):halves x n≤x:=by rw [halves_eq]; exact Nat.div_le_self _ _
set_option maxRecDepth 100000 in
set_option maxHeartbeats 2000000 in
theorem mixed_any (bits steps:Nat) (a b c d k f:Value) (w:World) (hb:bits=32∨bits=64) (x p q r:Nat) (shift:Bool) (hx:x<2^bits) (hp:p≤bits) (hq:q≤bits) (hr:r≤bits)
  (A:Option Addr) (cp B:Nat) (hrd:Rd w B A (triV p q r)) (hB:B≤w.heap.size) (hcp:3≤cp) :
  Calls Tryd.prog 106 #[.agg (hC bits steps a b c d k f),.int .u64 x,.slice A 3 cp,.bool shift] w fun e w'=>e=.returned (.int .u64 (allN bits x p q r shift:Nat))∧Below w.heap.size w w':=by
 obtain ⟨ad,rfl,_,_⟩:=hrd.at_ (k:=0) (by simp [triV]);obtain ⟨W0,hW0⟩:∃ W0,W0=w.alloc (.cells (hC bits steps a b c d k f) 101):=⟨_,rfl⟩;obtain ⟨cs,hcs⟩:∃ cs,cs=hC bits steps a b c d k f:=⟨_,rfl⟩
 have hst:MxSt w w.heap.size cs (some ad) (triV p q r) W0:=by
  rw [hW0,hcs]; exact ⟨below_new _ _,Blk.new _ _ _,(hrd.mono hB).below (below_new _ _)⟩
 have hb64:bits≤64:=by omega
 have hx64:x<2^64:=Nat.lt_of_lt_of_le hx (Nat.pow_le_pow_right (by omega) hb64);have hst0:=hst;rw [hW0,← hcs] at hst0;have hr64:r≤64:=by omega
 have HST:=zY hst0;have HX:=zY hx;have HXL:=zY hx64;have HB:=zY hb;have HP:=zY hp;have HQ:=zY hq;have HR:=zY hr;have HCS:=zY hcs;have hu:=Tryd.underlying101;have hcs8:cs.size=8:=by rw [hcs]; rfl
 have HCS8:=zY hcs8;rw [← hcs];have hx1:(x:Int)<18446744073709551616:=by omega
 have hAN:allN bits x p q r shift=(turnedN bits x p ^^^ turnedN bits x q) ^^^ lastN bits x r shift:=rfl;have HAN:=zY hAN;obtain ⟨tp,htp⟩:∃ z,z=turnedN bits x p:=⟨_,rfl⟩;obtain ⟨tq,htq⟩:∃ z,z=turnedN bits x q:=⟨_,rfl⟩;obtain ⟨tr,htr⟩:∃ z,z=turnedN bits x r:=⟨_,rfl⟩;obtain ⟨la,hla⟩:∃ z,z=lastN bits x r shift:=⟨_,rfl⟩;obtain ⟨pq,hpq⟩:∃ z,z=tp ^^^ tq:=⟨_,rfl⟩;obtain ⟨re,hre⟩:∃ z,z=pq ^^^ la:=⟨_,rfl⟩;have HTP:=zY htp;have HTQ:=zY htq;have HTR:=zY htr;have HLA:=zY hla;have HPQ:=zY hpq;have HRE:=zY hre;have LTP:Hid (tp<2^64):=zY (by rw [htp]; exact turnedN_lt hx64);have LTQ:Hid (tq<2^64):=zY (by rw [htq]; exact turnedN_lt hx64);have LLA:Hid (la<2^64):=zY (by rw [hla]; exact lastN_lt hx64);have LPQ:Hid (pq<2^64):=zY (by rw [hpq]; exact Nat.xor_lt_two_pow LTP.out LTQ.out);clear hrd hst hx hx64 hb hp hq hr hcs hcs8 hW0 hst0 hAN htp htq htr hla hpq hre W0
 cases shift
 all_goals
  go_enter Tryd.func106,Tryd.ntmps106;go_wp2_with fail;have HC0:=HST.out.drew;refine wp_region_det (fun u=>MxSt w w.heap.size cs (some ad) (triV p q r) u) (fun u=>MxSt w w.heap.size cs (some ad) (triV p q r) u) [(0,some 11),(1,some 12),(2,some 13),(3,some 14),(4,some 15),(5,some 16),(6,some 9)] (by kernel_rfl) (by kernel_rfl) (by decide) (by kernel_rfl) (fun _=>rfl) HC0 ?_;apply DetL.next
  ·apply dP [];exact fun _=>rfl;rfl;rintro vals - w1 hC1 E hE;simp only [sP] at hE ⊢;refine wpList_get_box hC1.h rfl rfl rfl hu rfl (by rw [HCS8.out]; exact h_size) ?_;go_wp2_with fail;exact .mk (hE _ hC1)
  apply DetL.next
  ·apply dP [];exact fun _=>rfl;rfl;rintro vals ⟨-,-⟩ w1 hC1 E hE;simp only [sP] at hE ⊢;go_wp2;exact .mk (hE _ hC1)
  apply DetL.next
  ·apply dP [];exact fun _=>rfl;rfl;intro vals vq w1 hC1 E hE;clear vq;simp only [sP] at hE ⊢;go_wp2;exact .mk (hE _ hC1)
  apply DetL.next
  ·apply dP [(2,some 13)];exact fun _=>rfl;rfl;intro vals vq w1 hC1 E hE;have f2:=vq.2;clear vq;simp only [sP,f2] at hE ⊢;clear f2;go_wp2;exact .mk (hE _ hC1)
  apply DetL.next
  ·apply dP [(3,some 14)];exact fun _=>rfl;rfl;intro vals vq w1 hC1 E hE;have f3:=vq.2;clear vq;have d0:=hC1.rd.lit (k:=2) rfl (by decide);simp only [sP,f3] at hE ⊢;clear f3;go_wp2;exact .mk (hE _ hC1)
  apply DetL.next
  ·apply dP [(0,some 11),(1,some 12),(4,some 15)];exact fun _=>rfl;rfl;rintro vals ⟨⟨⟨⟨⟨-,f0⟩,f1⟩,-⟩,-⟩,f4⟩ w1 hC1 E hE;simp only [sP,f0,f1,f4] at hE ⊢;clear f0 f1 f4;go_wp2_with fail;have hct:=turn_any bits steps a b c d k f w1 HB.out x r HX.out HR.out;rw [← HCS.out] at hct;refine calls_then hct ?_;rintro e w2 ⟨rfl,hb2⟩;rw [← HTR.out];go_wp2_with fail;exact .mk (hE _ (hC1.next hb2))
  apply DetL.last
  ·apply dP [(5,some 16),(5,some 16),(0,some 11),(1,some 12),(2,some 13),(3,some 14),(4,some 15),(5,some 16)];exact fun _=>rfl;rfl;rintro vals ⟨⟨⟨⟨⟨⟨-,f0⟩,f1⟩,f2⟩,f3⟩,f4⟩,f5⟩ w1 hC1 E hE;simp only [sP,f0,f1,f2,f3,f4,f5] at hE ⊢;clear f0 f1 f2 f3 f4 f5;go_wp2;exact .mk (hE _ hC1)
  rintro vals ⟨⟨⟨⟨⟨⟨⟨-,f0⟩,f1⟩,f2⟩,f3⟩,f4⟩,f5⟩,f6⟩ w1 hC1;simp only [sP,f0,f1,f2,f3,f4,f5,f6];clear f0 f1 f2 f3 f4 f5 f6;clear HC0;have HC1:=zY hC1;have d2:=hC1.rd.lit (k:=2) rfl (by decide);clear hC1;go_wp2_with fail
 ·obtain rfl:tr=la:=by rw [HLA.out,HTR.out]; rfl
  have HC0:=HC1.out.drew;refine wp_region_det (fun u=>MxSt w w.heap.size cs (some ad) (triV p q r) u) (fun u=>MxSt w w.heap.size cs (some ad) (triV p q r) u) [(0,some 28),(1,some 29),(2,some 30),(3,some 31),(4,some 32),(5,some 33),(6,some 34),(7,some 35),(8,some 36),(9,some 37),(10,some 38),(11,some 39),(12,some 40),(13,some 41),(14,some 42),(15,some 8)] (by kernel_rfl) (by kernel_rfl) (by decide) (by kernel_rfl) (fun _=>rfl) HC0 ?_;apply DetL.next
  ·apply dP [];exact fun _=>rfl;rfl;rintro vals - w1 hC1 E hE;simp only [sP] at hE ⊢;refine wpList_get_box hC1.h rfl rfl rfl hu rfl (by rw [HCS8.out]; exact h_size) ?_;go_wp2_with fail;exact .mk (hE _ hC1)
  apply DetL.next
  ·apply dP [];exact fun _=>rfl;rfl;rintro vals ⟨-,-⟩ w1 hC1 E hE;simp only [sP] at hE ⊢;go_wp2;exact .mk (hE _ hC1)
  apply DetL.next
  ·apply dP [];exact fun _=>rfl;rfl;intro vals vq w1 hC1 E hE;clear vq;simp only [sP] at hE ⊢;go_wp2;exact .mk (hE _ hC1)
  apply DetL.next
  ·apply dP [(2,some 30)];exact fun _=>rfl;rfl;intro vals vq w1 hC1 E hE;have f2:=vq.2;clear vq;simp only [sP,f2] at hE ⊢;clear f2;go_wp2;exact .mk (hE _ hC1)
  apply DetL.next
  ·apply dP [(3,some 31)];exact fun _=>rfl;rfl;intro vals vq w1 hC1 E hE;have f3:=vq.2;clear vq;have d0:=hC1.rd.val0 rfl;simp only [sP,f3] at hE ⊢;clear f3;go_wp2;exact .mk (hE _ hC1)
  apply DetL.next
  ·apply dP [(0,some 28),(1,some 29),(4,some 32)];exact fun _=>rfl;rfl;rintro vals ⟨⟨⟨⟨⟨-,f0⟩,f1⟩,-⟩,-⟩,f4⟩ w1 hC1 E hE;simp only [sP,f0,f1,f4] at hE ⊢;clear f0 f1 f4;go_wp2_with fail;have hct:=turn_any bits steps a b c d k f w1 HB.out x p HX.out HP.out;rw [← HCS.out] at hct;refine calls_then hct ?_;rintro e w2 ⟨rfl,hb2⟩;rw [← HTP.out];go_wp2_with fail;exact .mk (hE _ (hC1.next hb2))
  apply DetL.next
  ·apply dP [];exact fun _=>rfl;rfl;intro vals vq w1 hC1 E hE;clear vq;simp only [sP] at hE ⊢;refine wpList_get_box hC1.h rfl rfl rfl hu rfl (by rw [HCS8.out]; exact h_size) ?_;go_wp2_with fail;exact .mk (hE _ hC1)
  apply DetL.next
  ·apply dP [];exact fun _=>rfl;rfl;intro vals vq w1 hC1 E hE;clear vq;simp only [sP] at hE ⊢;go_wp2;exact .mk (hE _ hC1)
  apply DetL.next
  ·apply dP [];exact fun _=>rfl;rfl;intro vals vq w1 hC1 E hE;clear vq;simp only [sP] at hE ⊢;go_wp2;exact .mk (hE _ hC1)
  apply DetL.next
  ·apply dP [(8,some 36)];exact fun _=>rfl;rfl;intro vals vq w1 hC1 E hE;have f8:=vq.2;clear vq;simp only [sP,f8] at hE ⊢;clear f8;go_wp2;exact .mk (hE _ hC1)
  apply DetL.next
  ·apply dP [(9,some 37)];exact fun _=>rfl;rfl;intro vals vq w1 hC1 E hE;have f9:=vq.2;clear vq;have d0:=hC1.rd.lit (k:=1) rfl (by decide);simp only [sP,f9] at hE ⊢;clear f9;go_wp2;exact .mk (hE _ hC1)
  apply DetL.next
  ·apply dP [(6,some 34),(7,some 35),(10,some 38),(5,some 33)];exact fun _=>rfl;rfl;intro vals vq w1 hC1 E hE;have f5:=vq.1.1.1.1.1.2;have f6:=vq.1.1.1.1.2;have f7:=vq.1.1.1.2;have f10:=vq.2;clear vq;simp only [sP,f5,f6,f7,f10] at hE ⊢;clear f5 f6 f7 f10;go_wp2_with fail;have hct:=turn_any bits steps a b c d k f w1 HB.out x q HX.out HQ.out;rw [← HCS.out] at hct;refine calls_then hct ?_;rintro e w2 ⟨rfl,hb2⟩;rw [← HTQ.out];go_wp2_with fail;exact .mk (hE _ (hC1.next hb2))
  apply DetL.next
  ·apply dP [(5,some 33),(11,some 39)];exact fun _=>rfl;rfl;intro vals vq w1 hC1 E hE;have f5:=vq.1.1.1.1.1.1.2;have f11:=vq.2;clear vq;simp only [sP,f5,f11] at hE ⊢;clear f5 f11;go_wp2;rw [xor64 tp tq LTP.out LTQ.out,← HPQ.out];exact .mk (hE _ hC1)
  apply DetL.next
  ·apply dP [];exact fun _=>rfl;rfl;intro vals vq w1 hC1 E hE;clear vq;simp only [sP] at hE ⊢;go_wp2;exact .mk (hE _ hC1)
  apply DetL.next
  ·apply dP [(12,some 40),(13,some 41)];exact fun _=>rfl;rfl;intro vals vq w1 hC1 E hE;have f12:=vq.1.2;have f13:=vq.2;clear vq;simp only [sP,f12,f13] at hE ⊢;clear f12 f13;go_wp2;rw [xor64 pq tr LPQ.out LLA.out,← HRE.out];exact .mk (hE _ hC1)
  apply DetL.last
  ·apply dP [(14,some 42),(11,some 39),(0,some 28),(1,some 29),(2,some 30),(3,some 31),(4,some 32),(5,some 33),(6,some 34),(7,some 35),(8,some 36),(9,some 37),(10,some 38),(11,some 39),(12,some 40),(13,some 41),(14,some 42)];exact fun _=>rfl;rfl;rintro vals ⟨⟨⟨⟨⟨⟨⟨⟨⟨⟨⟨⟨⟨⟨⟨-,f0⟩,f1⟩,f2⟩,f3⟩,f4⟩,f5⟩,f6⟩,f7⟩,f8⟩,f9⟩,f10⟩,f11⟩,f12⟩,f13⟩,f14⟩ w1 hC1 E hE;simp only [sP,f0,f1,f2,f3,f4,f5,f6,f7,f8,f9,f10,f11,f12,f13,f14] at hE ⊢;clear f0 f1 f2 f3 f4 f5 f6 f7 f8 f9 f10 f11 f12 f13 f14;go_wp2;exact .mk (hE _ hC1)
  rintro vals ⟨⟨⟨⟨⟨⟨⟨⟨⟨⟨⟨⟨⟨⟨⟨⟨-,f0⟩,f1⟩,f2⟩,f3⟩,f4⟩,f5⟩,f6⟩,f7⟩,f8⟩,f9⟩,f10⟩,f11⟩,f12⟩,f13⟩,f14⟩,f15⟩ w1 hC1;simp only [sP,f0,f1,f2,f3,f4,f5,f6,f7,f8,f9,f10,f11,f12,f13,f14,f15];clear f0 f1 f2 f3 f4 f5 f6 f7 f8 f9 f10 f11 f12 f13 f14 f15;clear HC0;go_wp2_with fail;go_ret;exact ⟨ret_int' (by rw [HAN.out,HRE.out,HPQ.out,HTP.out,HTQ.out,HLA.out]),hC1.bel⟩
 ·go_loop [9,10] (fun v i=>∃ j:Nat,j≤r∧i=.int .i64 j∧v=.int .u64 (halves x j)) (fun _ i=>r - (intOf i).toNat)
  case atStart=>exact ⟨0,by omega,rfl,rfl⟩
  case round =>
   obtain ⟨j,hj,rfl,rfl⟩:=hrel;have hh:=halves_le x j;have hhs:halves x (j+1)=halves x j/2:=rfl;obtain ⟨y,hy⟩:∃ y,y=halves x j:=⟨_,rfl⟩;rw [← hy] at hh hhs ⊢;have HY:=zY hy;have HHS:=zY hhs;have hy1:(y:Int)<18446744073709551616:=by omega
   clear hy hhs
   by_cases hlt:j<r
   ·have hlt':(j:Int)<(r:Int):=by omega
    go_wp2;exact ⟨⟨j+1,by omega,by go_num,by rw [HHS.out]; go_num⟩,by simp [intOf]; omega⟩
   ·obtain rfl:j=r:=by omega
    obtain rfl:y=la:=by rw [HLA.out,HY.out,halves_eq]; rfl
    go_wp2_with fail;have HC0:=HC1.out.drew;refine wp_region_det (fun u=>MxSt w w.heap.size cs (some ad) (triV p q j) u) (fun u=>MxSt w w.heap.size cs (some ad) (triV p q j) u) [(0,some 28),(1,some 29),(2,some 30),(3,some 31),(4,some 32),(5,some 33),(6,some 34),(7,some 35),(8,some 36),(9,some 37),(10,some 38),(11,some 39),(12,some 40),(13,some 41),(14,some 42),(15,some 8)] (by kernel_rfl) (by kernel_rfl) (by decide) (by kernel_rfl) (fun _=>rfl) HC0 ?_;apply DetL.next
    ·apply dP [];exact fun _=>rfl;rfl;rintro vals - w1 hC1 E hE;simp only [sP] at hE ⊢;refine wpList_get_box hC1.h rfl rfl rfl hu rfl (by rw [HCS8.out]; exact h_size) ?_;go_wp2_with fail;exact .mk (hE _ hC1)
    apply DetL.next
    ·apply dP [];exact fun _=>rfl;rfl;rintro vals ⟨-,-⟩ w1 hC1 E hE;simp only [sP] at hE ⊢;go_wp2;exact .mk (hE _ hC1)
    apply DetL.next
    ·apply dP [];exact fun _=>rfl;rfl;intro vals vq w1 hC1 E hE;clear vq;simp only [sP] at hE ⊢;go_wp2;exact .mk (hE _ hC1)
    apply DetL.next
    ·apply dP [(2,some 30)];exact fun _=>rfl;rfl;intro vals vq w1 hC1 E hE;have f2:=vq.2;clear vq;simp only [sP,f2] at hE ⊢;clear f2;go_wp2;exact .mk (hE _ hC1)
    apply DetL.next
    ·apply dP [(3,some 31)];exact fun _=>rfl;rfl;intro vals vq w1 hC1 E hE;have f3:=vq.2;clear vq;have d0:=hC1.rd.val0 rfl;simp only [sP,f3] at hE ⊢;clear f3;go_wp2;exact .mk (hE _ hC1)
    apply DetL.next
    ·apply dP [(0,some 28),(1,some 29),(4,some 32)];exact fun _=>rfl;rfl;rintro vals ⟨⟨⟨⟨⟨-,f0⟩,f1⟩,-⟩,-⟩,f4⟩ w1 hC1 E hE;simp only [sP,f0,f1,f4] at hE ⊢;clear f0 f1 f4;go_wp2_with fail;have hct:=turn_any bits steps a b c d k f w1 HB.out x p HX.out HP.out;rw [← HCS.out] at hct;refine calls_then hct ?_;rintro e w2 ⟨rfl,hb2⟩;rw [← HTP.out];go_wp2_with fail;exact .mk (hE _ (hC1.next hb2))
    apply DetL.next
    ·apply dP [];exact fun _=>rfl;rfl;intro vals vq w1 hC1 E hE;clear vq;simp only [sP] at hE ⊢;refine wpList_get_box hC1.h rfl rfl rfl hu rfl (by rw [HCS8.out]; exact h_size) ?_;go_wp2_with fail;exact .mk (hE _ hC1)
    apply DetL.next
    ·apply dP [];exact fun _=>rfl;rfl;intro vals vq w1 hC1 E hE;clear vq;simp only [sP] at hE ⊢;go_wp2;exact .mk (hE _ hC1)
    apply DetL.next
    ·apply dP [];exact fun _=>rfl;rfl;intro vals vq w1 hC1 E hE;clear vq;simp only [sP] at hE ⊢;go_wp2;exact .mk (hE _ hC1)
    apply DetL.next
    ·apply dP [(8,some 36)];exact fun _=>rfl;rfl;intro vals vq w1 hC1 E hE;have f8:=vq.2;clear vq;simp only [sP,f8] at hE ⊢;clear f8;go_wp2;exact .mk (hE _ hC1)
    apply DetL.next
    ·apply dP [(9,some 37)];exact fun _=>rfl;rfl;intro vals vq w1 hC1 E hE;have f9:=vq.2;clear vq;have d0:=hC1.rd.lit (k:=1) rfl (by decide);simp only [sP,f9] at hE ⊢;clear f9;go_wp2;exact .mk (hE _ hC1)
    apply DetL.next
    ·apply dP [(6,some 34),(7,some 35),(10,some 38),(5,some 33)];exact fun _=>rfl;rfl;intro vals vq w1 hC1 E hE;have f5:=vq.1.1.1.1.1.2;have f6:=vq.1.1.1.1.2;have f7:=vq.1.1.1.2;have f10:=vq.2;clear vq;simp only [sP,f5,f6,f7,f10] at hE ⊢;clear f5 f6 f7 f10;go_wp2_with fail;have hct:=turn_any bits steps a b c d k f w1 HB.out x q HX.out HQ.out;rw [← HCS.out] at hct;refine calls_then hct ?_;rintro e w2 ⟨rfl,hb2⟩;rw [← HTQ.out];go_wp2_with fail;exact .mk (hE _ (hC1.next hb2))
    apply DetL.next
    ·apply dP [(5,some 33),(11,some 39)];exact fun _=>rfl;rfl;intro vals vq w1 hC1 E hE;have f5:=vq.1.1.1.1.1.1.2;have f11:=vq.2;clear vq;simp only [sP,f5,f11] at hE ⊢;clear f5 f11;go_wp2;rw [xor64 tp tq LTP.out LTQ.out,← HPQ.out];exact .mk (hE _ hC1)
    apply DetL.next
    ·apply dP [];exact fun _=>rfl;rfl;intro vals vq w1 hC1 E hE;clear vq;simp only [sP] at hE ⊢;go_wp2;exact .mk (hE _ hC1)
    apply DetL.next
    ·apply dP [(12,some 40),(13,some 41)];exact fun _=>rfl;rfl;intro vals vq w1 hC1 E hE;have f12:=vq.1.2;have f13:=vq.2;clear vq;simp only [sP,f12,f13] at hE ⊢;clear f12 f13;go_wp2;rw [xor64 pq y LPQ.out LLA.out,← HRE.out];exact .mk (hE _ hC1)
    apply DetL.last
    ·apply dP [(14,some 42),(11,some 39),(0,some 28),(1,some 29),(2,some 30),(3,some 31),(4,some 32),(5,some 33),(6,some 34),(7,some 35),(8,some 36),(9,some 37),(10,some 38),(11,some 39),(12,some 40),(13,some 41),(14,some 42)];exact fun _=>rfl;rfl;rintro vals ⟨⟨⟨⟨⟨⟨⟨⟨⟨⟨⟨⟨⟨⟨⟨-,f0⟩,f1⟩,f2⟩,f3⟩,f4⟩,f5⟩,f6⟩,f7⟩,f8⟩,f9⟩,f10⟩,f11⟩,f12⟩,f13⟩,f14⟩ w1 hC1 E hE;simp only [sP,f0,f1,f2,f3,f4,f5,f6,f7,f8,f9,f10,f11,f12,f13,f14] at hE ⊢;clear f0 f1 f2 f3 f4 f5 f6 f7 f8 f9 f10 f11 f12 f13 f14;go_wp2;exact .mk (hE _ hC1)
    rintro vals ⟨⟨⟨⟨⟨⟨⟨⟨⟨⟨⟨⟨⟨⟨⟨⟨-,f0⟩,f1⟩,f2⟩,f3⟩,f4⟩,f5⟩,f6⟩,f7⟩,f8⟩,f9⟩,f10⟩,f11⟩,f12⟩,f13⟩,f14⟩,f15⟩ w1 hC1;simp only [sP,f0,f1,f2,f3,f4,f5,f6,f7,f8,f9,f10,f11,f12,f13,f14,f15];clear f0 f1 f2 f3 f4 f5 f6 f7 f8 f9 f10 f11 f12 f13 f14 f15;clear HC0;go_wp2_with fail;go_ret;exact ⟨ret_int' (by rw [HAN.out,HRE.out,HPQ.out,HTP.out,HTQ.out,HLA.out]),hC1.bel⟩
end Go.Proofs.YtdgheahbafnboaaDoor.Sh
/-
  The reference's H as it lies: a struct of slices.
-/
namespace Go.Proofs.YtdgheahbafnboaaDoor.Sh
set_option linter.unusedSimpArgs false
set_option linter.unusedVariables false
open Go.RowKit
theorem wordsV_snoc (K:IntKind) (l:List Nat) (x:Nat):wordsV K (l++[x])=wordsV K l++[.int K (x:Int)]:=by simp [wordsV]
theorem wordsV_get (K:IntKind) (l:List Nat) (i:Nat) (h:i<l.length):(wordsV K l)[i]?=some (.int K ((l.getD i 0:Nat):Int)):=by
 simp [wordsV,h]
structure HP where
 a:Addr
 b:Addr
 c:Addr
 d:Addr
 k:Addr
 f:Addr
 ca:Nat
 cb:Nat
 cc:Nat
 cd:Nat
 ck:Nat
 cf:Nat
def tri (t:Nat × Nat × Nat):List Value:=triV t.1 t.2.1 t.2.2
def kL (F:ShaF):List Nat:=(List.range F.many).map (kN F)
theorem kL_get (F:ShaF) (t:Nat) (h:t<F.many):(kL F)[t]?=some (kN F t):=by simp [kL,h]
theorem kL_length (F:ShaF):(kL F).length=F.many:=by simp [kL]
def hv (F:ShaF) (p:HP):Array Value:=hC F.bits F.many (.slice (some p.a) 3 p.ca) (.slice (some p.b) 3 p.cb) (.slice (some p.c) 3 p.cc) (.slice (some p.d) 3 p.cd) (.slice (some p.k) F.many p.ck) (.slice (some p.f) 8 p.cf)
structure HOk (F:ShaF) (p:HP) (w:World) (B:Nat):Prop where
 a:Rd w B (some p.a) (tri F.s0)
 b:Rd w B (some p.b) (tri F.s1)
 c:Rd w B (some p.c) (tri F.t0)
 d:Rd w B (some p.d) (tri F.t1)
 k:Rd w B (some p.k) (wordsV .u64 (kL F))
 f:Rd w B (some p.f) (wordsV .u64 (s8L (startS F)))
 ca:3≤p.ca
 cb:3≤p.cb
 cc:3≤p.cc
 cd:3≤p.cd
 ck:F.many≤p.ck
 cf:8≤p.cf
theorem HOk.below {F:ShaF} {p:HP} {w w':World} {B:Nat} (h:HOk F p w B) (hb:Below B w w'):HOk F p w' B :=
 ⟨h.a.below hb,h.b.below hb,h.c.below hb,h.d.below hb,h.k.below hb,h.f.below hb,h.ca,h.cb,h.cc,h.cd,h.ck,h.cf⟩
theorem HOk.mono {F:ShaF} {p:HP} {w:World} {B B':Nat} (h:HOk F p w B) (hb:B≤B'):HOk F p w B' :=
 ⟨h.a.mono hb,h.b.mono hb,h.c.mono hb,h.d.mono hb,h.k.mono hb,h.f.mono hb,h.ca,h.cb,h.cc,h.cd,h.ck,h.cf⟩
structure BkSt (w0:World) (gf:Nat) (F:ShaF) (p:HP) (bA:Option Addr) (blk:List UInt8) (sA:Option Addr) (S:S8) (u:World):Prop where
 bel:Below gf w0 u
 h:Blk u gf 101 (hv F p)
 ok:HOk F p u gf
 rb:Rd u gf bA (bytesV blk)
 rs:Rd u gf sA (wordsV .u64 (s8L S))
section
variable {w0 u u':World} {gf:Nat} {F:ShaF} {p:HP} {bA sA:Option Addr} {blk:List UInt8} {S:S8}
theorem BkSt.keep (h:BkSt w0 gf F p bA blk sA S u) (hb:Below (gf+1) u u'):BkSt w0 gf F p bA blk sA S u' :=
 ⟨h.bel.trans (hb.mono (by omega)),h.h.below hb (by omega),h.ok.below (hb.mono (by omega)),h.rb.below (hb.mono (by omega)),h.rs.below (hb.mono (by omega))⟩
theorem BkSt.next (h:BkSt w0 gf F p bA blk sA S u) (hb:Below u.heap.size u u'):BkSt w0 gf F p bA blk sA S u' :=
 h.keep (hb.mono (by have:=h.h.lt; omega))
theorem BkSt.drew (h:BkSt w0 gf F p bA blk sA S u):BkSt w0 gf F p bA blk sA S u.drew:=h.keep (Below.refl _ _).drew
theorem BkSt.grow {e:TypeId} {s n:Nat} {v:Value} {xs:List Value} (h:BkSt w0 gf F p bA blk sA S u) (ho:OwnX u (gf+1) e s v n xs) (hg:u.grownBy u' v.ownBlock):BkSt w0 gf F p bA blk sA S u' :=
 h.keep (below_of_grown hg (by have:=h.h.lt; omega) (fun k hk=>(ho.lt k hk).1))
end
structure BkW (w0:World) (gf:Nat) (F:ShaF) (p:HP) (bA:Option Addr) (blk:List UInt8) (sA:Option Addr) (S:S8) (v:Value) (l:List Nat) (u:World):Prop where
 st:BkSt w0 gf F p bA blk sA S u
 own:OwnX u (gf+1) 36 1 v l.length (wordsV .u64 l)
section
variable {w0 u u':World} {gf:Nat} {F:ShaF} {p:HP} {bA sA:Option Addr} {blk:List UInt8} {S:S8} {v:Value} {l:List Nat}
theorem BkW.next (h:BkW w0 gf F p bA blk sA S v l u) (hb:Below u.heap.size u u'):BkW w0 gf F p bA blk sA S v l u' :=
 ⟨h.st.next hb,h.own.below hb (Nat.le_refl _)⟩
theorem BkW.drew (h:BkW w0 gf F p bA blk sA S v l u):BkW w0 gf F p bA blk sA S v l u.drew:=h.next (Below.refl _ _).drew
theorem BkW.app {v':Value} {x:Nat} (h:BkW w0 gf F p bA blk sA S v l u) (ho:OwnX u' (gf+1) 36 1 v' (l.length+1) (wordsV .u64 l++[.int .u64 (x:Int)])) (hg:u.grownBy u' v.ownBlock):BkW w0 gf F p bA blk sA S v' (l++[x]) u' :=
 ⟨h.st.grow h.own hg,by rw [List.length_append,wordsV_snoc]; exact ho⟩
theorem BkW.at_ {g n c i:Nat} (h:BkW w0 gf F p bA blk sA S (.slice (some ⟨g,0,none⟩) n c) l u) (hn:l.length=n) (hi:i<n):u.cell? ⟨g,i,none⟩=some (.int .u64 ((l.getD i 0:Nat):Int)):=by
 subst hn;exact h.own.atN (wordsV_get .u64 l i hi)
end
structure BkR (w0:World) (gf:Nat) (F:ShaF) (p:HP) (bA:Option Addr) (blk:List UInt8) (sA:Option Addr) (S:S8) (v:Value) (l:List Nat) (g2 c2:Nat) (V:S8) (u:World):Prop where
 w:BkW w0 gf F p bA blk sA S v l u
 r:OwnX u (gf+1) 36 1 (.slice (some ⟨g2,0,none⟩) 8 c2) 8 (wordsV .u64 (s8L V))
section
variable {w0 u u':World} {gf:Nat} {F:ShaF} {p:HP} {bA sA:Option Addr} {blk:List UInt8} {S V:S8} {v:Value} {l:List Nat} {g2 c2:Nat}
theorem BkR.next (h:BkR w0 gf F p bA blk sA S v l g2 c2 V u) (hb:Below u.heap.size u u'):BkR w0 gf F p bA blk sA S v l g2 c2 V u' :=
 ⟨h.w.next hb,h.r.below hb (Nat.le_refl _)⟩
theorem BkR.drew (h:BkR w0 gf F p bA blk sA S v l g2 c2 V u):BkR w0 gf F p bA blk sA S v l g2 c2 V u.drew:=h.next (Below.refl _ _).drew
theorem BkR.turn {V':S8} {fz:Nat × Nat} (h:BkR w0 gf F p bA blk sA S v l g2 c2 V u):BkR w0 gf F p bA blk sA S v l u.heap.size 8 V' (u.alloc (.cells (wordsV .u64 (s8L V')).toArray 36 fz)) :=
 ⟨h.w.next ((Below.refl _ _).alloc (Nat.le_refl _) _),own_const (C:=(wordsV .u64 (s8L V')).toArray) rfl rfl (by unfold maxLen; omega) (by have:=h.w.st.h.lt; omega)⟩
theorem BkR.le (h:BkR w0 gf F p bA blk sA S v l g2 c2 V u):8≤c2:=h.r.le_cap
end
structure BkO (w0:World) (gf:Nat) (F:ShaF) (p:HP) (bA:Option Addr) (blk:List UInt8) (sA:Option Addr) (S:S8) (v:Value) (l:List Nat) (g2 c2:Nat) (V:S8) (ov:Value) (x:List Nat) (u:World):Prop where
 r:BkR w0 gf F p bA blk sA S v l g2 c2 V u
 o:OwnX u (gf+1) 36 1 ov x.length (wordsV .u64 x)
 ne:ov.ownBlock=none∨(ov.ownBlock≠v.ownBlock∧ov.ownBlock≠some g2)
section
variable {w0 u u':World} {gf:Nat} {F:ShaF} {p:HP} {bA sA:Option Addr} {blk:List UInt8} {S V:S8} {v o o':Value} {l x:List Nat} {g2 c2:Nat}
theorem BkO.next (h:BkO w0 gf F p bA blk sA S v l g2 c2 V o x u) (hb:Below u.heap.size u u'):BkO w0 gf F p bA blk sA S v l g2 c2 V o x u' :=
 ⟨h.r.next hb,h.o.below hb (Nat.le_refl _),h.ne⟩
theorem BkO.drew (h:BkO w0 gf F p bA blk sA S v l g2 c2 V o x u):BkO w0 gf F p bA blk sA S v l g2 c2 V o x u.drew:=h.next (Below.refl _ _).drew
theorem BkO.app {y:Nat} (h:BkO w0 gf F p bA blk sA S v l g2 c2 V o x u) (ho:OwnX u' (gf+1) 36 1 o' (x.length+1) (wordsV .u64 x++[.int .u64 (y:Int)])) (hg:u.grownBy u' o.ownBlock) (hn:Next u o o'):BkO w0 gf F p bA blk sA S v l g2 c2 V o' (x++[y]) u':=by
 have hk:∀ (v2:Value),(o.ownBlock=none∨o.ownBlock≠v2.ownBlock)→v2.ownBlock=none∨v2.ownBlock≠o.ownBlock:=fun v2 h2=>by
  rcases h2 with h2 | h2
  ·rw [h2]
   cases v2.ownBlock with
   | none=>exact .inl rfl
   | some k=>exact .inr (by simp)
  ·exact .inr (Ne.symm h2)
 refine ⟨⟨⟨h.r.w.st.grow h.o hg,h.r.w.own.kept hg (hk v (h.ne.imp id And.left))⟩,h.r.r.kept hg (hk (.slice (some ⟨g2,0,none⟩) 8 c2) (h.ne.imp id And.right))⟩,by rw [List.length_append,wordsV_snoc]; exact ho,?_⟩
 rcases hn with hn | hn
 ·rw [hn]; exact h.ne
 ·cases ho2:o'.ownBlock with
  | none=>exact .inl rfl
  | some k =>
   have hk2:=hn k ho2;refine .inr ⟨fun e=>?_,fun e=>?_⟩
   ·have:=(h.r.w.own.lt k e.symm).2; omega
   ·have:=(h.r.r.lt k (by rw [e]; rfl)).2; omega
end
theorem ones_xor (n e:Nat) (he:e<2^n):(2^n - 1) ^^^ e=2^n - 1 - e:=by
 have h:((2^n - 1) ^^^ e)=(~~~ (BitVec.ofNat n e)).toNat:=by
  rw [← BitVec.allOnes_xor,BitVec.toNat_xor,BitVec.toNat_allOnes,BitVec.toNat_ofNat,Nat.mod_eq_of_lt he]
 rw [h,BitVec.toNat_not,BitVec.toNat_ofNat,Nat.mod_eq_of_lt he]
theorem mixX_r32 (h al ch k w:Nat):(h+al+ch+k+w)%2^32=((((h+al)%2^64+ch)%2^64+k)%2^64+w)%2^64%2^32:=by omega
theorem mixX_r64 (h al ch k w:Nat):(h+al+ch+k+w)%2^64=((((h+al)%2^64+ch)%2^64+k)%2^64+w)%2^64%2^64:=by omega
theorem mod_r32 (a b:Nat):(a+b)%2^32=(a+b)%2^64%2^32:=by omega
theorem mod_r64 (a b:Nat):(a+b)%2^64=(a+b)%2^64%2^64:=by omega
theorem addS_get (F:ShaF) (s v:S8) (i:Nat) (h:i<8):(s8L (addS F s v)).getD i 0=((s8L v).getD i 0+(s8L s).getD i 0)%2^F.bits:=by
 match i,h with
 | 0,_=>rfl
 | 1,_=>rfl
 | 2,_=>rfl
 | 3,_=>rfl
 | 4,_=>rfl
 | 5,_=>rfl
 | 6,_=>rfl
 | 7,_=>rfl
theorem s8_take (s:S8) (i:Nat) (h:i<8):(s8L s).take (i+1)=(s8L s).take i++[(s8L s).getD i 0]:=by
 match i,h with
 | 0,_=>rfl
 | 1,_=>rfl
 | 2,_=>rfl
 | 3,_=>rfl
 | 4,_=>rfl
 | 5,_=>rfl
 | 6,_=>rfl
 | 7,_=>rfl
theorem s8_take_len (s:S8) (i:Nat) (h:i≤8):((s8L s).take i).length=i:=by
 rw [List.length_take]; show min i 8=i; omega
theorem s8_lt {s:S8} {m:Nat} (h:s.Lt m) (hm:0<m) (i:Nat):(s8L s).getD i 0<m:=s8L_lt h hm i
theorem next_32 (a b c d:Nat):(a+c+(b+d))%2^32=(((a+b)%2^64+c)%2^64+d)%2^64%2^32:=by omega
theorem next_64 (a b c d:Nat):(a+c+(b+d))%2^64=(((a+b)%2^64+c)%2^64+d)%2^64%2^64:=by omega
def BlockPost (F:ShaF) (S:S8) (blk:List UInt8) (w:World) (e:Ending) (w':World):Prop :=
 ∃ A c,e=.returned (.slice A 8 c)∧OwnX w' w.heap.size 36 1 (.slice A 8 c) 8 (wordsV .u64 (s8L (mixS F S blk)))∧Below w.heap.size w w'
theorem sl_u64:SlT Tryd.prog 99 36 1 8:=SlT.mk1 (z:=.int .u64 0) Tryd.underlying99 (by kernel_rfl) rfl (by decide)
end Go.Proofs.YtdgheahbafnboaaDoor.Sh
/-
  Walk: the reference's bytes of a word.
-/
namespace Go.Proofs.YtdgheahbafnboaaDoor.Sh
set_option linter.unusedSimpArgs false
set_option linter.unusedVariables false
open Go.RowKit
def backC (e:Nat) (ws:List UInt8) (j:Nat):Array Value:=(List.replicate (e - j) (Value.int .u8 0)++(bytesV ws).drop (e - j)).toArray
theorem backC_size (e:Nat) (ws:List UInt8) (j:Nat) (hw:ws.length=e) (hj:j≤e):(backC e ws j).size=e:=by
 have h:((bytesV ws).drop (e - j)).length=j:=by rw [List.length_drop,bytesV_length,hw]; omega
 rw [backC,List.size_toArray,List.length_append,List.length_replicate,h]; omega
theorem backC_end (e:Nat) (ws:List UInt8):backC e ws e=(bytesV ws).toArray:=by simp [backC]
theorem backC_set (e:Nat) (ws:List UInt8) (j i:Nat) (v:Value) (hw:ws.length=e) (hi:i+j+1=e) (hv:(bytesV ws)[i]?=some v):(backC e ws j).setIfInBounds i v=backC e ws (j+1):=by
 apply Array.ext';have h1:e - j=i+1:=by omega
 have h2:e - (j+1)=i:=by omega
 have hlt:i<(bytesV ws).length:=by simp [bytesV]; omega
 have hv2:(bytesV ws)[i]=v:=by rw [List.getElem?_eq_getElem hlt] at hv; exact Option.some.inj hv
 rw [Array.toList_setIfInBounds,backC,backC,h1,h2,List.drop_eq_getElem_cons hlt,hv2];simp only [List.replicate_succ',List.append_assoc];rw [List.set_append_right (s:=List.replicate i (Value.int .u8 0)) _ _ (by simp)];simp
theorem backC_zero (e:Nat) (ws:List UInt8) (hw:ws.length=e):backC e ws 0=(List.replicate e (Value.int .u8 0)).toArray:=by
 rw [backC,Nat.sub_zero,List.drop_of_length_le (by rw [bytesV_length,hw]; exact Nat.le_refl _),List.append_nil]
theorem wordB_get (b x:Nat):∀ (k i:Nat),i<k→(wordB b x k)[i]?=some (UInt8.ofNat (x/2^(b - 8 - 8*i)))
 | k+1,i,h=>by
  rw [wordB,List.getElem?_append,wordB_length]
  split
  ·rename_i h2; exact wordB_get b x k i h2
  ·obtain rfl:i=k:=by omega
   simp
structure ByStR (w0:World) (gf:Nat) (cs:Array Value) (gw:Nat) (r:Array Value) (u:World):Prop where
 bel:Below gf w0 u
 h:Blk u gf 101 cs
 row:Blk u gw 5 r
 lw:gf<gw
theorem ByStR.put {w u u':World} {gf gw:Nat} {cs r r':Array Value} (h:ByStR w gf cs gw r u) (hw:Wrote gw u u') (hb:Blk u' gw 5 r'):ByStR w gf cs gw r' u' :=
 ⟨hw.below h.bel (by have:=h.lw; omega) (by have:=h.h.lt; omega),hw.blk h.h (by have:=h.lw; omega),hb,h.lw⟩
def BytesPost (bits x:Nat) (w:World) (e:Ending) (w':World):Prop :=
 ∃ g,e=.returned (.slice (some ⟨g,0,none⟩) (bits/8) (bits/8))∧w.heap.size≤g∧Blk w' g 5 (bytesV (wordB bits x (bits/8))).toArray∧Below w.heap.size w w'
set_option maxRecDepth 100000 in
set_option maxHeartbeats 2000000 in
theorem bytes_any (bits steps:Nat) (a b c d k f:Value) (w:World) (hb:bits=32∨bits=64) (x:Nat) (hx:x<2^bits) :
  Calls Tryd.prog 100 #[.agg (hC bits steps a b c d k f),.int .u64 x] w (BytesPost bits x w):=by
 have hbel:=below_new w (.cells (hC bits steps a b c d k f) 101);have hblk:=Blk.new w 101 (hC bits steps a b c d k f);have c0:=hblk.cell 0;simp only [hC,List.getElem?_toArray,List.getElem?_cons_zero] at c0
 have hx64:(x:Int)<18446744073709551616:=by
  have:x<2^64:=Nat.lt_of_lt_of_le hx (Nat.pow_le_pow_right (by omega) (by omega));omega
 have HBEL:=zY hbel;have HBLK:=zY hblk;obtain ⟨ie,hie,hez,hes,heb⟩:=info_parts (show (Tryd.prog.info? 5).map (fun i=>(i.zero,i.size,i.bytes))=some (some (.int .u8 0),1,1) by kernel_rfl);have hmk4:∀ u:World,(Instr.makeSlice 22 (.int .i64 4) (.int .i64 4)).run Tryd.prog u=.ok (.slice (some ⟨u.heap.size,0,none⟩) 4 4) (u.alloc (.cells (List.replicate 4 (Value.int .u8 0)).toArray 5)):=fun _=>by kernel_rfl
 have hmk8:∀ u:World,(Instr.makeSlice 22 (.int .i64 8) (.int .i64 8)).run Tryd.prog u=.ok (.slice (some ⟨u.heap.size,0,none⟩) 8 8) (u.alloc (.cells (List.replicate 8 (Value.int .u8 0)).toArray 5)):=fun _=>by kernel_rfl
 rw [hC] at *;clear hbel hblk hx
 rcases hb with rfl | rfl
 ·obtain ⟨ws,hws⟩:∃ ws,ws=wordB 32 x 4:=⟨_,rfl⟩;have hwl:ws.length=4:=by rw [hws]; exact wordB_length _ _ _
  have HWS:=zY hws;have HWL:=zY hwl;clear hws hwl;go_enter Tryd.func100,Tryd.ntmps100;go_wp2_with fail;obtain ⟨hs,hhs⟩:∃ hs:Array Value,hs=#[.int .i64 32,.int .i64 steps,a,b,c,d,k,f]:=⟨_,rfl⟩
  have hst0:ByStR w w.heap.size hs (w.heap.size+1) (backC 4 ws 0) ((w.alloc (.cells hs 101)).alloc (.cells (List.replicate 4 (Value.int .u8 0)).toArray 5)):=by
   rw [backC_zero _ _ HWL.out];exact ⟨(below_new _ _).alloc (by simp) _,(Blk.new _ _ _).alloc _,by have:=Blk.new (w.alloc (.cells hs 101)) 5 (List.replicate 4 (Value.int .u8 0)).toArray; simpa using this,by omega⟩
  rw [hhs] at hst0;generalize hgw:w.heap.size+1=gw at *;generalize hgf:w.heap.size=gf at *;have HGF:=zY hgf;have HGW:=zY hgw;clear hgf hgw c0 hmk4 hmk8 HBEL HBLK hhs hs
  go_loopw [1,6] (fun v i wr=>∃ (j:Nat) (y:Nat),j≤4∧y=x/2^(8*j)∧v=.int .u64 y∧i=.int .i64 ((4:Int) - 1 - (j:Int))∧ByStR w gf #[.int .i64 32,.int .i64 steps,a,b,c,d,k,f] gw (backC 4 ws j) wr) (fun _ i _=>(intOf i+1).toNat)
  case atStart=>exact ⟨0,x,by omega,by simp,rfl,rfl,hst0⟩
  case round =>
   obtain ⟨j,y,hj,hy,rfl,rfl,hst⟩:=hrel;clear hst0;have hyx:y≤x:=by rw [hy]; exact Nat.div_le_self _ _
   have hy64:(y:Int)<18446744073709551616:=by omega
   by_cases hlt:j<4
   ·obtain ⟨ix,hix⟩:∃ ix:Nat,(4:Int) - 1 - (j:Int)=(ix:Int):=⟨4 - 1 - j,by omega⟩;have hix2:ix+j+1=4:=by omega
    have hval:(bytesV ws)[ix]?=some (.int .u8 ((y%256:Nat):Int)):=by
     rw [bytesV,List.getElem?_map,HWS.out,wordB_get _ _ _ _ (by omega)];simp only [Option.map_some,byteV];rw [show 32 - 8 - 8*ix=8*j by omega,← hy];simp
    have hset:=backC_set 4 ws j ix _ HWL.out hix2 hval;have hsz:=backC_size 4 ws j HWL.out hj;have hnx:x/2^(8*(j+1))=y/256:=by rw [hy,show 8*(j+1)=8*j+8 by omega,Nat.pow_add,← Nat.div_div_eq_div_mul]
    rw [hix];have dcell:=hst.row.cell ix;obtain ⟨ov,hov⟩:∃ ov,(backC 4 ws j)[ix]?=some ov:=⟨_,Array.getElem?_eq_getElem (by omega)⟩;rw [hov] at dcell;have dfree:=hst.row.free ix;have hixl:(ix:Int)<4:=by omega
    have HSET:=zY hset;have HNX:=zY hnx;have HST:=zY hst;have HIX:=zY hix;have HIX2:=zY hix2;clear hset hnx hst hix hix2 hval hy hsz hov;go_wp2_with fail;refine ⟨⟨j+1,y/256,by omega,by rw [HNX.out],by go_num,by have:=HIX.out; exact congrArg (Value.int .i64) (by omega),?_⟩,by simp [intOf]⟩;refine HST.out.put (wrote_setCell_at _ _ _ _) ?_;have h:=blk_setCell_at (i:=ix) HST.out.row (.int .u8 ((y%256:Nat):Int));rw [HSET.out] at h;exact h
   ·obtain rfl:j=4:=by omega
    rw [backC_end] at hst;have HST:=zY hst;clear hst hy;go_wp2_with fail;go_ret;refine ⟨gw,rfl,by rw [HGF.out,← HGW.out]; omega,?_,by rw [HGF.out]; exact HST.out.bel⟩;have h:=HST.out.row;rw [HWS.out] at h;exact h
 ·obtain ⟨ws,hws⟩:∃ ws,ws=wordB 64 x 8:=⟨_,rfl⟩;have hwl:ws.length=8:=by rw [hws]; exact wordB_length _ _ _
  have HWS:=zY hws;have HWL:=zY hwl;clear hws hwl;go_enter Tryd.func100,Tryd.ntmps100;go_wp2_with fail;obtain ⟨hs,hhs⟩:∃ hs:Array Value,hs=#[.int .i64 64,.int .i64 steps,a,b,c,d,k,f]:=⟨_,rfl⟩
  have hst0:ByStR w w.heap.size hs (w.heap.size+1) (backC 8 ws 0) ((w.alloc (.cells hs 101)).alloc (.cells (List.replicate 8 (Value.int .u8 0)).toArray 5)):=by
   rw [backC_zero _ _ HWL.out];exact ⟨(below_new _ _).alloc (by simp) _,(Blk.new _ _ _).alloc _,by have:=Blk.new (w.alloc (.cells hs 101)) 5 (List.replicate 8 (Value.int .u8 0)).toArray; simpa using this,by omega⟩
  rw [hhs] at hst0;generalize hgw:w.heap.size+1=gw at *;generalize hgf:w.heap.size=gf at *;have HGF:=zY hgf;have HGW:=zY hgw;clear hgf hgw c0 hmk4 hmk8 HBEL HBLK hhs hs
  go_loopw [1,6] (fun v i wr=>∃ (j:Nat) (y:Nat),j≤8∧y=x/2^(8*j)∧v=.int .u64 y∧i=.int .i64 ((8:Int) - 1 - (j:Int))∧ByStR w gf #[.int .i64 64,.int .i64 steps,a,b,c,d,k,f] gw (backC 8 ws j) wr) (fun _ i _=>(intOf i+1).toNat)
  case atStart=>exact ⟨0,x,by omega,by simp,rfl,rfl,hst0⟩
  case round =>
   obtain ⟨j,y,hj,hy,rfl,rfl,hst⟩:=hrel;clear hst0;have hyx:y≤x:=by rw [hy]; exact Nat.div_le_self _ _
   have hy64:(y:Int)<18446744073709551616:=by omega
   by_cases hlt:j<8
   ·obtain ⟨ix,hix⟩:∃ ix:Nat,(8:Int) - 1 - (j:Int)=(ix:Int):=⟨8 - 1 - j,by omega⟩;have hix2:ix+j+1=8:=by omega
    have hval:(bytesV ws)[ix]?=some (.int .u8 ((y%256:Nat):Int)):=by
     rw [bytesV,List.getElem?_map,HWS.out,wordB_get _ _ _ _ (by omega)];simp only [Option.map_some,byteV];rw [show 64 - 8 - 8*ix=8*j by omega,← hy];simp
    have hset:=backC_set 8 ws j ix _ HWL.out hix2 hval;have hsz:=backC_size 8 ws j HWL.out hj;have hnx:x/2^(8*(j+1))=y/256:=by rw [hy,show 8*(j+1)=8*j+8 by omega,Nat.pow_add,← Nat.div_div_eq_div_mul]
    rw [hix];have dcell:=hst.row.cell ix;obtain ⟨ov,hov⟩:∃ ov,(backC 8 ws j)[ix]?=some ov:=⟨_,Array.getElem?_eq_getElem (by omega)⟩;rw [hov] at dcell;have dfree:=hst.row.free ix;have hixl:(ix:Int)<8:=by omega
    have HSET:=zY hset;have HNX:=zY hnx;have HST:=zY hst;have HIX:=zY hix;have HIX2:=zY hix2;clear hset hnx hst hix hix2 hval hy hsz hov;go_wp2_with fail;refine ⟨⟨j+1,y/256,by omega,by rw [HNX.out],by go_num,by have:=HIX.out; exact congrArg (Value.int .i64) (by omega),?_⟩,by simp [intOf]⟩;refine HST.out.put (wrote_setCell_at _ _ _ _) ?_;have h:=blk_setCell_at (i:=ix) HST.out.row (.int .u8 ((y%256:Nat):Int));rw [HSET.out] at h;exact h
   ·obtain rfl:j=8:=by omega
    rw [backC_end] at hst;have HST:=zY hst;clear hst hy;go_wp2_with fail;go_ret;refine ⟨gw,rfl,by rw [HGF.out,← HGW.out]; omega,?_,by rw [HGF.out]; exact HST.out.bel⟩;have h:=HST.out.row;rw [HWS.out] at h;exact h
end Go.Proofs.YtdgheahbafnboaaDoor.Sh
/-
  Plain: numbers as digits of 65536, the lowest first; roots found bit by bit.
-/
namespace Go.Proofs.YtdgheahbafnboaaDoor.Sh
set_option linter.unusedSimpArgs false
set_option linter.unusedVariables false
open Go.RowKit
def dval:List Nat→Nat
 | []=>0
 | d :: r=>d+65536*dval r
def digs:Nat→Nat→List Nat
 | 0,_=>[]
 | n+1,N=>N%65536 :: digs n (N/65536)
theorem digs_length:∀ n N,(digs n N).length=n
 | 0,_=>rfl
 | n+1,N=>by simp [digs,digs_length n]
theorem digs_lt:∀ n N,∀ d ∈ digs n N,d<65536
 | 0,_,d,h=>by simp [digs] at h
 | n+1,N,d,h=>by
  simp only [digs,List.mem_cons] at h
  rcases h with rfl | h
  ·exact Nat.mod_lt _ (by decide)
  ·exact digs_lt n _ d h
theorem dval_digs:∀ n N,N<65536^n→dval (digs n N)=N
 | 0,N,h=>by simp at h; simp [digs,dval,h]
 | n+1,N,h=>by
  rw [digs,dval,dval_digs n (N/65536) (by rw [Nat.div_lt_iff_lt_mul (by decide)]; rwa [Nat.pow_succ] at h)];omega
theorem digs_dval:∀ l:List Nat,(∀ d ∈ l,d<65536)→digs l.length (dval l)=l
 | [],_=>rfl
 | d :: r,h=>by
  have hd:=h d (List.mem_cons_self ..);rw [List.length_cons,dval,digs,show (d+65536*dval r)%65536=d by omega,show (d+65536*dval r)/65536=dval r by omega,digs_dval r fun x hx=>h x (List.mem_cons_of_mem _ hx)]
theorem dval_lt:∀ l:List Nat,(∀ d ∈ l,d<65536)→dval l<65536^l.length
 | [],_=>by simp [dval]
 | d :: r,h=>by
  have hd:=h d (List.mem_cons_self ..);have ih:=dval_lt r fun x hx=>h x (List.mem_cons_of_mem _ hx);rw [List.length_cons,dval,Nat.pow_succ];omega
theorem dval_take_succ:∀ (l:List Nat) (j:Nat),j<l.length→dval (l.take (j+1))=dval (l.take j)+l.getD j 0*65536^j
 | d :: r,0,_=>by simp [dval]
 | d :: r,j+1,h=>by
  have ih:=dval_take_succ r j (by simpa using h);rw [List.take_succ_cons,dval,ih,List.take_succ_cons,dval,List.getD_cons_succ,Nat.pow_succ];rw [Nat.mul_add,← Nat.mul_assoc,Nat.mul_comm 65536 (r.getD j 0),Nat.mul_assoc (r.getD j 0),Nat.mul_comm 65536 (65536^j)];omega
theorem dval_set:∀ (l:List Nat) (i d:Nat),i<l.length→dval (l.set i d)+l.getD i 0*65536^i=dval l+d*65536^i
 | x :: r,0,d,_=>by simp [dval]; omega
 | x :: r,i+1,d,h=>by
  have ih:=dval_set r i d (by simpa using h);rw [List.set_cons_succ,dval,dval,List.getD_cons_succ,Nat.pow_succ,← Nat.mul_assoc,← Nat.mul_assoc];omega
theorem getD_dig:∀ (l:List Nat) (i:Nat),(∀ d ∈ l,d<65536)→l.getD i 0=dval l/65536^i%65536
 | [],i,_=>by simp [dval]
 | d :: r,0,h=>by
  have hd:=h d (List.mem_cons_self ..);simp [dval]; omega
 | d :: r,i+1,h=>by
  have hd:=h d (List.mem_cons_self ..);rw [List.getD_cons_succ,getD_dig r i fun x hx=>h x (List.mem_cons_of_mem _ hx),dval,Nat.pow_succ,Nat.mul_comm (65536^i),← Nat.div_div_eq_div_mul,show (d+65536*dval r)/65536=dval r by omega]
theorem dig_lt {l:List Nat} (h:∀ d ∈ l,d<65536) (i:Nat):l.getD i 0<65536:=getD_lt h (by decide) i
theorem set_lt {l:List Nat} {i d:Nat} (h:∀ x ∈ l,x<65536) (hd:d<65536):∀ x ∈ l.set i d,x<65536:=fun x hx=>by
 rcases List.mem_or_eq_of_mem_set hx with h1 | h1
 ·exact h x h1
 ·rw [h1]; exact hd
theorem getD_set_same (l:List Nat) (i d:Nat) (h:i<l.length):(l.set i d).getD i 0=d:=by simp [h]
theorem getD_set_ne (l:List Nat) (i j d:Nat) (h:i≠j):(l.set i d).getD j 0=l.getD j 0:=by simp [List.getElem?_set,h]
theorem wordsV_set (K:IntKind) (l:List Nat) (i d:Nat):(wordsV K l).toArray.setIfInBounds i (.int K (d:Int))=(wordsV K (l.set i d)).toArray:=by
 apply Array.ext';simp [wordsV,Array.toList_setIfInBounds,List.map_set]
theorem mul_step {n k c P a b d i j t:Nat} (hv:t+c*65536^(i+j)=P+a*d*65536^i) (h:n+(k*65536^(i+j))=t+((k+a*b+c)%65536)*65536^(i+j)) :
  n+(k+a*b+c)/65536*65536^(i+(j+1))=P+a*(d+b*65536^j)*65536^i:=by
 have e1:65536^(i+(j+1))=65536*65536^(i+j):=by rw [← Nat.add_assoc,Nat.pow_succ,Nat.mul_comm]
 have e2:a*(d+b*65536^j)*65536^i=a*d*65536^i+a*b*65536^(i+j):=by
  rw [Nat.mul_add,Nat.add_mul,Nat.pow_add,← Nat.mul_assoc a b]
  congr 1
  rw [Nat.mul_assoc,Nat.mul_comm (65536^j)]
 rw [e1,e2];generalize 65536^(i+j)=q at *;obtain ⟨v,hv2⟩:∃ v,v=k+a*b+c:=⟨_,rfl⟩
 have e3:v/65536*(65536*q)+v%65536*q=v*q:=by
  rw [← Nat.mul_assoc,← Nat.add_mul,Nat.div_add_mod']
 have e4:v*q=k*q+a*b*q+c*q:=by rw [hv2,Nat.add_mul,Nat.add_mul]
 rw [← hv2] at h ⊢;omega
def rootX (p k:Nat):Nat→Nat
 | 0=>0
 | n+1=>if p*65536^(4*k)<(rootX p k n+2^(68 - n))^k then rootX p k n else rootX p k n+2^(68 - n)
def rootN (p k:Nat):Nat:=rootX p k 69%2^64
theorem rootX_dvd (p k:Nat):∀ n,n≤69→2^(69 - n) ∣ rootX p k n
 | 0,_=>Nat.dvd_zero _
 | n+1,h=>by
  have ih:=rootX_dvd p k n (by omega);have h1:2^(69 - (n+1)) ∣ rootX p k n:=Nat.dvd_trans (Nat.pow_dvd_pow 2 (by omega)) ih;rw [rootX]
  split
  ·exact h1
  ·rw [show 68 - n=69 - (n+1) by omega];exact Nat.dvd_add h1 (Nat.dvd_refl _)
theorem rootX_lt (p k:Nat):∀ n,n≤69→rootX p k n+2^(69 - n)≤2^69
 | 0,_=>by simp [rootX]
 | n+1,h=>by
  have ih:=rootX_lt p k n (by omega);have e:2^(69 - n)=2*2^(69 - (n+1)):=by rw [show 69 - n=69 - (n+1)+1 by omega,Nat.pow_succ,Nat.mul_comm]
  rw [rootX]
  split
  ·omega
  ·rw [show 68 - n=69 - (n+1) by omega];omega
theorem dig_room {X r at_:Nat} (hr:r<16) (h:2^(16*at_+r+1) ∣ X):X/65536^at_%65536+2^r<65536:=by
 obtain ⟨q,rfl⟩:=h;have e1:(65536:Nat)^at_=2^(16*at_):=by rw [Nat.pow_mul]
 have e2:2^(16*at_+r+1)*q/2^(16*at_)=2^(r+1)*q:=by
  rw [Nat.add_assoc,Nat.pow_add,Nat.mul_assoc,Nat.mul_div_cancel_left _ (Nat.two_pow_pos _)]
 rw [e1,e2];obtain ⟨s,hs⟩:∃ s,r+1+s=16:=⟨15 - r,by omega⟩;have e3:(65536:Nat)=2^(r+1)*2^s:=by rw [← Nat.pow_add,hs]
 have h4:2^(r+1)*q%65536=2^(r+1)*(q%2^s):=by rw [e3,Nat.mul_mod_mul_left]
 have h5:q%2^s<2^s:=Nat.mod_lt _ (Nat.two_pow_pos _)
 have h6:2^(r+1)*(q%2^s)+2^(r+1)≤2^(r+1)*2^s:=by
  rw [← Nat.mul_succ]; exact Nat.mul_le_mul_left _ h5
 have h7:2^(r+1)=2*2^r:=by rw [Nat.pow_succ,Nat.mul_comm]
 have h8:=Nat.two_pow_pos r;omega
theorem dig_add {X n bit:Nat} (hX:X<65536^n) (hb:bit/16<n) (h:2^(bit+1) ∣ X) :
  (digs n X).set (bit/16) ((digs n X).getD (bit/16) 0+2^(bit%16))=digs n (X+2^bit)∧(digs n X).getD (bit/16) 0+2^(bit%16)<65536:=by
 have hlt:=digs_lt n X;have hv:=dval_digs n X hX;have hg:=getD_dig (digs n X) (bit/16) hlt;rw [hv] at hg
 have hroom:(digs n X).getD (bit/16) 0+2^(bit%16)<65536:=by
  rw [hg];exact dig_room (Nat.mod_lt _ (by decide)) (by rw [show 16*(bit/16)+bit%16+1=bit+1 by omega]; exact h)
 refine ⟨?_,hroom⟩;have h1:=digs_dval _ (set_lt (i:=bit/16) hlt hroom);rw [← h1,List.length_set,digs_length]
 congr 1
 have h2:=dval_set (digs n X) (bit/16) ((digs n X).getD (bit/16) 0+2^(bit%16)) (by rw [digs_length]; exact hb);rw [hv,Nat.add_mul] at h2
 have h3:2^(bit%16)*65536^(bit/16)=2^bit:=by
  rw [show (65536:Nat)=2^16 from rfl,← Nat.pow_mul,← Nat.pow_add]
  congr 1
  omega
 rw [h3] at h2;omega
theorem mul_i64 (a b:Nat) (h:a*b≤9223372036854775807):IntKind.i64.wrap ((a:Int)*(b:Int))=((a*b:Nat):Int):=by
 rw [← Int.natCast_mul,IntKind.wrap_i64]; omega
theorem add_i64 (a b:Nat) (h:a+b≤9223372036854775807):IntKind.i64.wrap ((a:Int)+(b:Int))=((a+b:Nat):Int):=by
 rw [IntKind.wrap_i64]; omega
theorem mul_w64 (a b:Nat) (h:a*b≤9223372036854775807):wrap64 ((a:Int)*(b:Int))=((a*b:Nat):Int):=by
 rw [← Int.natCast_mul]; unfold wrap64; omega
theorem add_w64 (a b:Nat) (h:a+b≤9223372036854775807):wrap64 ((a:Int)+(b:Int))=((a+b:Nat):Int):=by
 unfold wrap64; omega
def primesL:Nat→List Nat
 | 0=>[]
 | k+1=>if 2≤k∧(primesL k).all (fun q=>k%q != 0) then primesL k++[k] else primesL k
end Go.Proofs.YtdgheahbafnboaaDoor.Sh
/-
  Walk: the reference's Less.
-/
namespace Go.Proofs.YtdgheahbafnboaaDoor.Sh
set_option linter.unusedSimpArgs false
set_option linter.unusedVariables false
open Go.RowKit
def LessPost (a b:List Nat) (w:World) (e:Ending) (w':World):Prop:=e=.returned (.bool (decide (dval a<dval b)))∧w=w'
theorem wordsV_at {K:IntKind} {l:List Nat} {i:Nat} (h:i<l.length):(wordsV K l)[i]?=some (.int K ((l.getD i 0:Nat):Int)):=by simp [wordsV,h]
theorem hi_step {A B D:Nat} (i:Nat) (h:A/D^(i+1)=B/D^(i+1)) (hd:A/D^i%D=B/D^i%D):A/D^i=B/D^i:=by
 rw [Nat.pow_succ,← Nat.div_div_eq_div_mul,← Nat.div_div_eq_div_mul] at h;rw [← Nat.div_add_mod (A/D^i) D,← Nat.div_add_mod (B/D^i) D,h,hd]
theorem hi_lt {A B D:Nat} (hD:0<D) (i:Nat) (h:A/D^(i+1)=B/D^(i+1)) (hd:A/D^i%D<B/D^i%D):A<B:=by
 rw [Nat.pow_succ,← Nat.div_div_eq_div_mul,← Nat.div_div_eq_div_mul] at h
 have h1:A/D^i<B/D^i:=by
  rw [← Nat.div_add_mod (A/D^i) D,← Nat.div_add_mod (B/D^i) D,h]; omega
 rcases Nat.lt_or_ge A B with h2 | h2
 ·exact h2
 ·have:=Nat.div_le_div_right (c:=D^i) h2; omega
theorem less_dec {A B x y:Nat} (q:Nat) (h:A/65536^(q+1)=B/65536^(q+1)) (hx:x=A/65536^q%65536) (hy:y=B/65536^q%65536) (hne:x≠y):decide (x<y)=decide (A<B):=by
 rcases Nat.lt_or_gt_of_ne hne with h1 | h1
 ·have:=hi_lt (by decide) q h (by rw [← hx,← hy]; exact h1);rw [decide_eq_true this,decide_eq_true (by omega)]
 ·have:=hi_lt (by decide) q h.symm (by rw [← hx,← hy]; exact h1);rw [decide_eq_false (by omega),decide_eq_false (by omega)]
set_option maxRecDepth 100000 in
set_option maxHeartbeats 2000000 in
theorem less_any (a b:List Nat) (ha:∀ d ∈ a,d<65536) (hb:∀ d ∈ b,d<65536) (A1 A2:Option Addr) (c1 c2 B1 B2 la lb:Nat) (w:World) (h1:Rd w B1 A1 (wordsV .i64 a)) (h2:Rd w B2 A2 (wordsV .i64 b)) (hla:a.length=la) (hlb:b.length=lb) (la1:la≤1000) (lb1:lb≤1000) (hc1:la≤c1) (hc2:lb≤c2) :
  Calls Tryd.prog 105 #[.slice A1 la c1,.slice A2 lb c2] w (LessPost a b w):=by
 obtain ⟨m,hm⟩:∃ m,m=max la lb:=⟨_,rfl⟩;have hml:la≤m:=by omega
 have hmr:lb≤m:=by omega
 have hm1:m≤1000:=by omega
 have HM:Hid (if la<lb then m=lb else m=la):=zY (by split <;> omega)
 have hda:∀ i,(if i<la then a.getD i 0 else 0)=dval a/65536^i%65536:=fun i=>by
  split
  ·exact getD_dig a i ha
  ·rw [← getD_dig a i ha,List.getD_eq_getElem?_getD,List.getElem?_eq_none (by omega)]; rfl
 have hdb:∀ i,(if i<lb then b.getD i 0 else 0)=dval b/65536^i%65536:=fun i=>by
  split
  ·exact getD_dig b i hb
  ·rw [← getD_dig b i hb,List.getD_eq_getElem?_getD,List.getElem?_eq_none (by omega)]; rfl
 have hA:dval a/65536^m=0:=Nat.div_eq_of_lt (Nat.lt_of_lt_of_le (dval_lt a ha) (Nat.pow_le_pow_right (by decide) (by omega)));have hB:dval b/65536^m=0:=Nat.div_eq_of_lt (Nat.lt_of_lt_of_le (dval_lt b hb) (Nat.pow_le_pow_right (by decide) (by omega)));obtain ⟨NA,hNA⟩:∃ x,x=dval a:=⟨_,rfl⟩;obtain ⟨NB,hNB⟩:∃ x,x=dval b:=⟨_,rfl⟩;rw [← hNA] at hda hA;rw [← hNB] at hdb hB;have HNA:=zY hNA;have HNB:=zY hNB;have HDA:=zY hda;have HDB:=zY hdb;have HAB:Hid (NA/65536^m=NB/65536^m):=zY (hA.trans hB.symm);have H1:=zY h1;have H2:=zY h2;have HLA:=zY hla;have HLB:=zY hlb;clear hNA hNB hda hdb hA hB h1 h2 hla hlb ha hb hm
 by_cases hlt:la<lb
 all_goals
  first
   | (have hge:(la:Int)<(lb:Int):=by omega)
   | (have hge:¬ (la:Int)<(lb:Int):=by omega)
  have hmm:=HM.out
  first
   | (rw [if_pos hlt] at hmm)
   | (rw [if_neg hlt] at hmm)
  have HMM:=zY hmm;clear HM hmm;go_enter Tryd.func105,Tryd.ntmps105;go_wp2;have hab:=HAB.out
  go_loop [6] (fun v=>∃ i:Nat,i≤m∧v=.int .i64 ((i:Int) - 1)∧NA/65536^i=NB/65536^i) (fun v=>(intOf v+1).toNat)
  case atStart=>exact ⟨m,Nat.le_refl _,by rw [HMM.out],hab⟩
  case round =>
   clear hab;obtain ⟨i,hi,rfl,hh⟩:=hrel
   cases i with
   | zero =>
    have HH:=zY hh;clear hh;go_wp2;go_ret;refine ⟨?_,rfl⟩;have:=HH.out;simp at this;rw [decide_eq_false (by rw [← HNA.out,← HNB.out]; omega)];rfl
   | succ q =>
    rw [show (((q+1:Nat):Int) - 1)=(q:Int) by omega];have hq0:(0:Int)≤(q:Int):=by omega
    obtain ⟨x,hx⟩:∃ x,x=NA/65536^q%65536:=⟨_,rfl⟩;obtain ⟨y,hy⟩:∃ y,y=NB/65536^q%65536:=⟨_,rfl⟩;have hxa:=HDA.out q;have hyb:=HDB.out q;rw [← hx] at hxa;rw [← hy] at hyb;have HX:=zY hx;have HY:=zY hy;have HH:=zY hh;clear hx hy hh
    by_cases hxy:x=y
    all_goals
     by_cases hqa:q<la <;> by_cases hqb:q<lb
    all_goals
     first | (rw [if_pos hqa] at hxa) | (rw [if_neg hqa] at hxa)
     first | (rw [if_pos hqb] at hyb) | (rw [if_neg hqb] at hyb)
    ·obtain ⟨ad1,rfl,hz1,hz2⟩:=H1.out.at_ (k:=q) (by rw [wordsV_length,HLA.out]; exact hqa);have d1:=H1.out.val (wordsV_at (K:=.i64) (by rw [HLA.out]; exact hqa:q<a.length));rw [hxa] at d1;clear hz1 hz2;obtain ⟨ad2,rfl,hz3,hz4⟩:=H2.out.at_ (k:=q) (by rw [wordsV_length,HLB.out]; exact hqb);have d2:=H2.out.val (wordsV_at (K:=.i64) (by rw [HLB.out]; exact hqb:q<b.length));rw [hyb] at d2;clear hz3 hz4;have hfin:=hi_step q HH.out (by rw [← HX.out,← HY.out]; exact hxy);have HFIN:=zY hfin;clear hfin;subst hxy;clear hxa hyb;go_wp2;exact ⟨⟨q,by omega,rfl,HFIN.out⟩,by simp [intOf] <;> omega⟩
    ·obtain ⟨ad1,rfl,hz1,hz2⟩:=H1.out.at_ (k:=q) (by rw [wordsV_length,HLA.out]; exact hqa);have d1:=H1.out.val (wordsV_at (K:=.i64) (by rw [HLA.out]; exact hqa:q<a.length));rw [hxa] at d1;clear hz1 hz2;have hfin:=hi_step q HH.out (by rw [← HX.out,← HY.out]; exact hxy);have HFIN:=zY hfin;clear hfin;obtain rfl:x=0:=by omega
     clear hxa hyb;clear hxy;go_wp2;exact ⟨⟨q,by omega,rfl,HFIN.out⟩,by simp [intOf] <;> omega⟩
    ·obtain ⟨ad2,rfl,hz3,hz4⟩:=H2.out.at_ (k:=q) (by rw [wordsV_length,HLB.out]; exact hqb);have d2:=H2.out.val (wordsV_at (K:=.i64) (by rw [HLB.out]; exact hqb:q<b.length));rw [hyb] at d2;clear hz3 hz4;have hfin:=hi_step q HH.out (by rw [← HX.out,← HY.out]; exact hxy);have HFIN:=zY hfin;clear hfin;obtain rfl:y=0:=by omega
     clear hxa hyb;clear hxy;go_wp2;exact ⟨⟨q,by omega,rfl,HFIN.out⟩,by simp [intOf] <;> omega⟩
    ·have hfin:=hi_step q HH.out (by rw [← HX.out,← HY.out]; exact hxy);have HFIN:=zY hfin;clear hfin;clear hxa hyb;clear hxy;go_wp2;exact ⟨⟨q,by omega,rfl,HFIN.out⟩,by simp [intOf] <;> omega⟩
    ·obtain ⟨ad1,rfl,hz1,hz2⟩:=H1.out.at_ (k:=q) (by rw [wordsV_length,HLA.out]; exact hqa);have d1:=H1.out.val (wordsV_at (K:=.i64) (by rw [HLA.out]; exact hqa:q<a.length));rw [hxa] at d1;clear hz1 hz2;obtain ⟨ad2,rfl,hz3,hz4⟩:=H2.out.at_ (k:=q) (by rw [wordsV_length,HLB.out]; exact hqb);have d2:=H2.out.val (wordsV_at (K:=.i64) (by rw [HLB.out]; exact hqb:q<b.length));rw [hyb] at d2;clear hz3 hz4;have hd:=less_dec q HH.out HX.out HY.out hxy;rw [HNA.out,HNB.out] at hd;have HD:=zY hd;have hb1:((x:Int) != (y:Int))=true:=by rw [bne_iff_ne]; omega
     have hb2:¬ x=y:=hxy;clear hxa hyb hd hxy;go_wp2;go_ret;exact ⟨ret_bool (by rw [← HD.out]; first | done | rfl | exact decide_eq_decide.2 (by omega)),rfl⟩
    ·obtain ⟨ad1,rfl,hz1,hz2⟩:=H1.out.at_ (k:=q) (by rw [wordsV_length,HLA.out]; exact hqa);have d1:=H1.out.val (wordsV_at (K:=.i64) (by rw [HLA.out]; exact hqa:q<a.length));rw [hxa] at d1;clear hz1 hz2;have hd:=less_dec q HH.out HX.out HY.out hxy;rw [HNA.out,HNB.out] at hd;rw [show y=0 by omega] at hd;have HD:=zY hd;have hb1:((x:Int) != 0)=true:=by rw [bne_iff_ne]; omega
     have hb2:¬ x=y:=hxy;clear hxa hyb hd hxy;go_wp2;go_ret;exact ⟨ret_bool (by rw [← HD.out]; first | done | rfl | exact decide_eq_decide.2 (by omega)),rfl⟩
    ·obtain ⟨ad2,rfl,hz3,hz4⟩:=H2.out.at_ (k:=q) (by rw [wordsV_length,HLB.out]; exact hqb);have d2:=H2.out.val (wordsV_at (K:=.i64) (by rw [HLB.out]; exact hqb:q<b.length));rw [hyb] at d2;clear hz3 hz4;have hd:=less_dec q HH.out HX.out HY.out hxy;rw [HNA.out,HNB.out] at hd;rw [show x=0 by omega] at hd;have HD:=zY hd;have hb1:((0:Int) != (y:Int))=true:=by rw [bne_iff_ne]; omega
     have hb2:¬ x=y:=hxy;clear hxa hyb hd hxy;go_wp2;go_ret;exact ⟨ret_bool (by rw [← HD.out]; first | done | rfl | exact decide_eq_decide.2 (by omega)),rfl⟩
    ·have hd:=less_dec q HH.out HX.out HY.out hxy;rw [HNA.out,HNB.out] at hd;rw [show x=0 by omega] at hd;rw [show y=0 by omega] at hd;have HD:=zY hd;omega
end Go.Proofs.YtdgheahbafnboaaDoor.Sh
/-
  Plain: the roots of the first primes are the words that the program names.
-/
namespace Go.Proofs.YtdgheahbafnboaaDoor.Sh
set_option linter.unusedSimpArgs false
set_option linter.unusedVariables false
open Go.RowKit
def rootA (p k:Nat):Nat→Nat→Nat
 | 0,X=>X
 | n+1,X=>if p*65536^(4*k)<(X+2^n)^k then rootA p k n X else rootA p k n (X+2^n)
theorem rootA_eq (p k:Nat):∀ n,n≤69→rootA p k (69 - n) (rootX p k n)=rootA p k 69 0
 | 0,_=>rfl
 | n+1,h=>by
  rw [← rootA_eq p k n (by omega)];obtain ⟨m,hm⟩:∃ m,m=68 - n:=⟨_,rfl⟩;rw [show 69 - n=m+1 by omega,show 69 - (n+1)=m by omega,rootA,rootX,← hm]
  split <;> rfl
theorem rootN_eq (p k:Nat):rootN p k=rootA p k 69 0%2^64:=by
 have:=rootA_eq p k 69 (Nat.le_refl _);rw [rootN,← this];rfl
def primes80:List Nat:=[2,3,5,7,11,13,17,19,23,29,31,37,41,43,47,53,59,61,67,71,73,79,83,89,97,101,103,107,109,113,127,131,137,139,149,151,157,163,167,173,179,181,191,193,197,199,211,223,227,229,233,239,241,251,257,263,269,271,277,281,283,293,307,311,313,317,331,337,347,349,353,359,367,373,379,383,389,397,401,409]
theorem roots3:(primes80.map fun p=>rootA p 3 69 0%2^64)=stepsN:=by decide +kernel
theorem roots2:((primes80.take 8).map fun p=>rootA p 2 69 0%2^64)=firstN:=by decide +kernel
def primesTo (k:Nat):List Nat:=primes80.filter fun q=>decide (q<k)
theorem primes_step:((List.range 410).all fun k=>decide (primesTo (k+1)=if 2≤k∧(primesTo k).all (fun q=>k%q != 0)=true then primesTo k++[k] else primesTo k))=true:=by decide +kernel
theorem primes_len:((List.range 410).all fun k=>decide ((primesTo k).length<80))=true:=by decide +kernel
theorem primes_end:primesTo 410=primes80:=by decide +kernel
theorem primes_lt:(primes80.all fun p=>decide (2≤p∧p<65536))=true:=by decide +kernel
theorem map_getD (l:List Nat) (f:Nat→Nat) (i:Nat) (h:i<l.length):(l.map f).getD i 0=f (l.getD i 0):=by
 simp [List.getD_eq_getElem?_getD,h]
theorem rootN3 (i:Nat) (h:i<80):rootN (primes80.getD i 0) 3=stepsN.getD i 0:=by
 rw [← roots3,map_getD primes80 _ i h,rootN_eq]
theorem rootN2 (i:Nat) (h:i<8):rootN (primes80.getD i 0) 2=firstN.getD i 0:=by
 have e:primes80.getD i 0=(primes80.take 8).getD i 0:=by
  rw [List.getD_eq_getElem?_getD,List.getD_eq_getElem?_getD,List.getElem?_take,if_pos h]
 rw [← roots2,map_getD (primes80.take 8) _ i h,rootN_eq,e]
end Go.Proofs.YtdgheahbafnboaaDoor.Sh
/-
  Walk: the reference's Primes, the first 80.
-/
namespace Go.Proofs.YtdgheahbafnboaaDoor.Sh
set_option linter.unusedSimpArgs false
set_option linter.unusedVariables false
open Go.RowKit
theorem sl_int:SlT Tryd.prog 48 3 1 8:=SlT.mk1 (z:=.int .i64 0) Tryd.underlying48 (by kernel_rfl) rfl (by decide)
def prB (k:Nat) (l:List Nat):Bool:=l.all fun q=>k%q != 0
theorem primesTo_step (k:Nat) (h:k<410) (h2:2≤k):primesTo (k+1)=if prB k (primesTo k)=true then primesTo k++[k] else primesTo k:=by
 have:=(List.all_eq_true.1 primes_step) k (List.mem_range.2 h);rw [decide_eq_true_eq] at this;rw [this];simp only [h2,true_and];rfl
theorem primesTo_len (k:Nat) (h:k<410):(primesTo k).length<80:=by
 have:=(List.all_eq_true.1 primes_len) k (List.mem_range.2 h)
 rwa [decide_eq_true_eq] at this
theorem primesTo_mem (k:Nat):∀ q ∈ primesTo k,2≤q∧q<65536:=fun q hq=>by
 have h1:=(List.mem_filter.1 hq).1;have:=(List.all_eq_true.1 primes_lt) q h1
 rwa [decide_eq_true_eq] at this
theorem prB_snoc (k:Nat) (l:List Nat) (q:Nat):prB k (l++[q])=(prB k l && (k%q != 0)):=by simp [prB]
def PrimesPost (w:World) (e:Ending) (w':World):Prop :=
 ∃ A c,e=.returned (.slice A 80 c)∧OwnX w' w.heap.size 3 1 (.slice A 80 c) 80 (wordsV .i64 primes80)∧Below w.heap.size w w'
structure PrSt (w0:World) (gf:Nat) (v:Value) (n:Nat) (l:List Nat) (u:World):Prop where
 bel:Below gf w0 u
 own:OwnX u gf 3 1 v n (wordsV .i64 l)
 le:gf≤u.heap.size
set_option maxRecDepth 100000 in
set_option maxHeartbeats 2000000 in
theorem primes_any (w:World):Calls Tryd.prog 96 #[.int .i64 80] w (PrimesPost w):=by
 obtain ⟨gf,hgf⟩:∃ x,x=w.heap.size:=⟨_,rfl⟩;have hst0:PrSt w gf (.slice none 0 0) 0 (primesTo 2) w:=⟨Below.refl _ _,OwnX.nil _ _ _ _,by omega⟩;have HST0:=zY hst0;have HGF:=zY hgf;clear hst0 hgf;go_enter Tryd.func96,Tryd.ntmps96;go_wp2;have hst0:=HST0.out;clear HST0
 go_loopw [3,4] (fun v i wr=>∃ (k n:Nat) (A:Option Addr) (c:Nat),2≤k∧k≤410∧i=.int .i64 k∧n=(primesTo k).length∧v=.slice A n c∧PrSt w gf (.slice A n c) n (primesTo k) wr) (fun _ i _=>410 - (intOf i).toNat)
 case atStart=>exact ⟨2,0,none,0,by omega,by omega,rfl,by decide +kernel,rfl,hst0⟩
 case round =>
  obtain ⟨k,n,A,c,hk2,hk,rfl,hn,rfl,hst⟩:=hrel;clear hst0
  by_cases hlt:k<410
  ·have hn80:n<80:=by rw [hn]; exact primesTo_len k hlt
   have hn80':(n:Int)<80:=by omega
   obtain ⟨L,hL⟩:∃ L,L=primesTo k:=⟨_,rfl⟩;have hstep:=primesTo_step k hlt hk2;have hmem:∀ q ∈ L,2≤q∧q<65536:=by rw [hL]; exact primesTo_mem k
   rw [← hL] at hn hst hstep;have HL:=zY hL;have HN:=zY hn;have HST:=zY hst;have HSTEP:=zY hstep;have HMEM:=zY hmem;have hk0:(0:Int)≤(k:Int):=by omega
   clear hL hn hst hstep hmem;go_wp2_with fail;obtain ⟨wo,rfl⟩:∃ wo:World,wo=wr:=⟨_,rfl⟩
   go_loop [5,6] (fun b i=>∃ (j:Nat) (bb:Bool),j≤n∧i=.int .i64 j∧bb=prB k (L.take j)∧b=.bool bb) (fun _ i=>n - (intOf i).toNat)
   case atStart=>exact ⟨0,true,by omega,rfl,rfl,rfl⟩
   case round =>
    obtain ⟨j,bb,hj,rfl,hbb,rfl⟩:=hrel
    by_cases hjn:j<n
    ·have hjL:j<L.length:=by rw [← HN.out]; exact hjn
     obtain ⟨q,hq⟩:∃ q,q=L[j]:=⟨_,rfl⟩;obtain ⟨hq2,hq3⟩:=HMEM.out q (by rw [hq]; exact List.getElem_mem hjL);obtain ⟨g,rfl,hgb,hgl⟩:=HST.out.own.ptr (by omega);have dq:=HST.out.own.atN (i:=j) (v:=.int .i64 (q:Int)) (by rw [wordsV,List.getElem?_map,List.getElem?_eq_getElem hjL,hq]; rfl);have hnc:=HST.out.own.le_cap;have hsn:prB k (L.take (j+1))=(bb && (k%q != 0)):=by rw [List.take_succ_eq_append_getElem hjL,prB_snoc,← hbb,hq]
     have HSN:=zY hsn;have hq0:(0:Int)<(q:Int):=by omega
     clear hbb hsn hq
     by_cases hd:k%q=0
     ·have hb1:(((k:Int)%(q:Int)) == 0)=true:=by rw [beq_iff_eq]; omega
      have hfin:false=prB k (L.take (j+1)):=by rw [HSN.out,hd]; simp
      have HFIN:=zY hfin;clear hfin hd;go_wp2_with fail;exact ⟨⟨j+1,false,by omega,by go_num,HFIN.out,rfl⟩,by simp [intOf]; omega⟩
     ·have hb1:(((k:Int)%(q:Int)) == 0)=false:=by rw [beq_eq_false_iff_ne]; omega
      have hfin:bb=prB k (L.take (j+1)):=by rw [HSN.out]; simp [hd]
      have HFIN:=zY hfin;clear hfin hd;go_wp2_with fail;exact ⟨⟨j+1,bb,by omega,by go_num,HFIN.out,rfl⟩,by simp [intOf]; omega⟩
    ·obtain rfl:j=n:=by omega
     have hst2:=HSTEP.out;rw [List.take_of_length_le (by rw [HN.out]; exact Nat.le_refl _)] at hbb;rw [← hbb] at hst2
     cases bb
     ·rw [if_neg (by decide)] at hst2;have HS2:=zY hst2;clear hst2 hbb;go_wp2_with fail;exact ⟨⟨k+1,j,A,c,by omega,by omega,by go_num,by rw [HS2.out]; exact HN.out,rfl,by rw [HS2.out]; exact HST.out⟩,by simp [intOf]; omega⟩
     ·rw [if_pos rfl] at hst2;have HS2:=zY hst2;clear hst2 hbb;go_wp2_with (refine wpList_append_one sl_int rfl rfl HST.out.own rfl rfl rfl rfl (by unfold maxLen; omega) (by omega) HST.out.le ?_; intro A3 c3 w3 hown3 hg3 hn3; have HOWN3:=zY hown3; have HG3:=zY hg3; clear hown3 hg3 hn3);refine ⟨⟨k+1,j+1,A3,c3,by omega,by omega,by go_num,by rw [HS2.out,List.length_append,← HN.out]; rfl,rfl,?_⟩,by simp [intOf]; omega⟩;rw [HS2.out];refine ⟨HST.out.bel.grown HG3.out HST.out.le (fun k hk=>(HST.out.own.lt k hk).1),?_,by have:=HG3.out.size; have:=HST.out.le; omega⟩;rw [wordsV_snoc]; exact HOWN3.out
  ·obtain rfl:k=410:=by omega
   rw [primes_end] at hn hst;obtain rfl:n=80:=hn;have HST:=zY hst;clear hst;go_wp2_with fail;go_ret;exact ⟨A,c,rfl,by rw [← HGF.out]; exact HST.out.own,by rw [← HGF.out]; exact HST.out.bel⟩
end Go.Proofs.YtdgheahbafnboaaDoor.Sh
/-
  Walk: the reference's Mul, of 5 and 5 digits.
-/
namespace Go.Proofs.YtdgheahbafnboaaDoor.Sh
set_option linter.unusedSimpArgs false
set_option linter.unusedVariables false
open Go.RowKit
structure MulStA (w0:World) (gf gw:Nat) (A1 A2:Option Addr) (a b:List Nat) (m:List Nat) (u:World):Prop where
 bel:Below gf w0 u
 r1:Rd u gf A1 (wordsV .i64 a)
 r2:Rd u gf A2 (wordsV .i64 b)
 row:Blk u gw 3 (wordsV .i64 m).toArray
 le:gf≤gw
theorem MulStA.put {w0 u u':World} {gf gw:Nat} {A1 A2:Option Addr} {a b m m':List Nat} (h:MulStA w0 gf gw A1 A2 a b m u) (hw:Wrote gw u u') (hb:Blk u' gw 3 (wordsV .i64 m').toArray):MulStA w0 gf gw A1 A2 a b m' u' :=
 have hx:=hw.below (Below.refl gf u) h.le (by have:=h.row.lt; have:=h.le; omega)
 ⟨h.bel.trans hx,h.r1.below hx,h.r2.below hx,hb,h.le⟩
theorem MulStA.drew {w0 u:World} {gf gw:Nat} {A1 A2:Option Addr} {a b m:List Nat} (h:MulStA w0 gf gw A1 A2 a b m u):MulStA w0 gf gw A1 A2 a b m u.drew :=
 have hx:=(Below.refl gf u).drew
 ⟨h.bel.drew,h.r1.below hx,h.r2.below hx,h.row,h.le⟩
def MulPostA (a b:List Nat) (w:World) (e:Ending) (w':World):Prop :=
 ∃ g,e=.returned (.slice (some ⟨g,0,none⟩) 10 10)∧w.heap.size≤g∧Blk w' g 3 (wordsV .i64 (digs 10 (dval a*dval b))).toArray∧Below w.heap.size w w'
set_option maxRecDepth 100000 in
set_option maxHeartbeats 2000000 in
theorem mulA_any (a b:List Nat) (ha:∀ d ∈ a,d<65536) (hb:∀ d ∈ b,d<65536) (A1 A2:Option Addr) (c1 c2 B1 B2:Nat) (w:World) (h1:Rd w B1 A1 (wordsV .i64 a)) (h2:Rd w B2 A2 (wordsV .i64 b)) (hla:a.length=5) (hlb:b.length=5) (hc1:5≤c1) (hc2:5≤c2) (hB1:B1≤w.heap.size) (hB2:B2≤w.heap.size) :
  Calls Tryd.prog 104 #[.slice A1 5 c1,.slice A2 5 c2] w (MulPostA a b w):=by
 obtain ⟨ad1,rfl,hz1,hz2⟩:=h1.at_ (k:=0) (by rw [wordsV_length,hla]; decide);obtain ⟨ad2,rfl,hz3,hz4⟩:=h2.at_ (k:=0) (by rw [wordsV_length,hlb]; decide);clear hz1 hz2 hz3 hz4;have hmk:∀ u:World,(Instr.makeSlice 48 (.int .i64 10) (.int .i64 10)).run Tryd.prog u=.ok (.slice (some ⟨u.heap.size,0,none⟩) 10 10) (u.alloc (.cells (wordsV .i64 (digs 10 0)).toArray 3)):=fun _=>by kernel_rfl
 have H1:=zY (h1.mono hB1);have H2:=zY (h2.mono hB2);have HALN:=zY hla;have HBLN:=zY hlb;have HA:=zY ha;have HB:=zY hb;clear h1 h2 hla hlb ha hb hB1 hB2;go_enter Tryd.func104,Tryd.ntmps104;go_wp2_with fail;obtain ⟨gw,hgw⟩:∃ x,x=w.heap.size:=⟨_,rfl⟩
 have hst0:MulStA w gw gw (some ad1) (some ad2) a b (digs 10 (dval (a.take 0)*dval b)) (w.alloc (.cells (wordsV .i64 (digs 10 0)).toArray 3)):=by
  have hb0:=below_new w (.cells (wordsV .i64 (digs 10 0)).toArray 3);rw [← hgw] at hb0;refine ⟨hb0,?_,?_,?_,Nat.le_refl _⟩
  ·have:=H1.out; rw [← hgw] at this; exact this.below hb0
  ·have:=H2.out; rw [← hgw] at this; exact this.below hb0
  ·rw [hgw]; simp only [List.take_zero,dval,Nat.zero_mul]; exact Blk.new _ _ _
 rw [← hgw];have HGW:=zY hgw;clear hgw hmk H1 H2
 go_loopw [6] (fun i wr=>∃ k:Nat,k≤5∧i=.int .i64 k∧MulStA w gw gw (some ad1) (some ad2) a b (digs 10 (dval (a.take k)*dval b)) wr) (fun i _=>5 - (intOf i).toNat)
 case atStart=>exact ⟨0,by omega,rfl,hst0⟩
 case round =>
  obtain ⟨i,hi,rfl,hst⟩:=hrel;clear hst0
  by_cases hlt:i<5
  ·have hlt':(i:Int)<5:=by omega
   obtain ⟨ai,hai⟩:∃ x,x=a.getD i 0:=⟨_,rfl⟩;have hail:ai<65536:=by rw [hai]; exact dig_lt HA.out i
   obtain ⟨P,hP⟩:∃ x,x=dval (a.take i)*dval b:=⟨_,rfl⟩
   have hPl:P<65536^(i+5):=by
    rw [hP,Nat.pow_add];have e1:=dval_lt (a.take i) fun x hx=>HA.out x (List.mem_of_mem_take hx);have e2:=dval_lt b HB.out;rw [List.length_take,Nat.min_eq_left (by rw [HALN.out]; exact hi)] at e1;rw [HBLN.out] at e2;exact Nat.mul_lt_mul'' e1 e2
   rw [← hP] at hst;have HAI:=zY hai;have HAIL:=zY hail;have HP:=zY hP;have HPL:=zY hPl;have HST:=zY hst;clear hai hail hP hPl hst;go_wp2_with fail;obtain ⟨wo,rfl⟩:∃ wo:World,wo=wr:=⟨_,rfl⟩;have hPN:P<65536^10:=Nat.lt_of_lt_of_le HPL.out (Nat.pow_le_pow_right (by decide) (by omega))
   have hr0:∃ m:List Nat,m.length=10∧(∀ d ∈ m,d<65536)∧m.getD (i+5) 0=0∧dval m+0*65536^(i+0)=P+ai*dval (b.take 0)*65536^i∧MulStA w gw gw (some ad1) (some ad2) a b m wo:=by
    refine ⟨digs 10 P,digs_length _ _,digs_lt _ _,?_,?_,HST.out⟩
    ·rw [getD_dig _ _ (digs_lt _ _),dval_digs _ _ hPN,Nat.div_eq_of_lt HPL.out]
    ·rw [dval_digs _ _ hPN]; simp [dval]
   have HR0:=zY hr0;clear hr0 hPN HST
   go_loopw [7,8] (fun c j wr=>∃ (k cn:Nat) (m:List Nat),k≤5∧j=.int .i64 k∧c=.int .i64 cn∧cn<65536∧m.length=10∧(∀ d ∈ m,d<65536)∧m.getD (i+5) 0=0∧dval m+cn*65536^(i+k)=P+ai*dval (b.take k)*65536^i∧MulStA w gw gw (some ad1) (some ad2) a b m wr) (fun _ j _=>5 - (intOf j).toNat)
   case atStart =>
    obtain ⟨m,q1,q2,q3,q4,q5⟩:=HR0.out;exact ⟨0,0,m,by omega,rfl,rfl,by omega,q1,q2,q3,q4,q5⟩
   case round =>
    clear HR0;obtain ⟨j,c,m,hj,rfl,rfl,hcl,hml,hmd,hm0,hmv,hsm⟩:=hrel
    by_cases hjl:j<5
    ·have hjl':(j:Int)<5:=by omega
     obtain ⟨bj,hbj⟩:∃ x,x=b.getD j 0:=⟨_,rfl⟩;have hbjl:bj<65536:=by rw [hbj]; exact dig_lt HB.out j
     obtain ⟨mk,hmk⟩:∃ x,x=m.getD (i+j) 0:=⟨_,rfl⟩;have hmkl:mk<65536:=by rw [hmk]; exact dig_lt hmd _
     obtain ⟨pr,hpr⟩:∃ x,x=ai*bj:=⟨_,rfl⟩;have hprl:pr≤4294836225:=by rw [hpr]; exact Nat.mul_le_mul (show ai≤65535 by have:=HAIL.out; omega) (show bj≤65535 by omega)
     obtain ⟨v,hv⟩:∃ x,x=mk+pr+c:=⟨_,rfl⟩;obtain ⟨mp,hmp⟩:∃ x,x=mk+pr:=⟨_,rfl⟩;have hv2:v=mp+c:=by rw [hv,hmp]
     have hnv:=mul_step (n:=dval (m.set (i+j) (v%65536))) (k:=mk) (a:=ai) (b:=bj) hmv (by rw [← hpr,← hv,hmk]; exact dval_set m (i+j) (v%65536) (by omega));rw [← hpr,← hv] at hnv;have hbt:dval (b.take (j+1))=dval (b.take j)+bj*65536^j:=by rw [dval_take_succ b j (by rw [HBLN.out]; exact hjl),hbj]
     rw [← hbt] at hnv;have hset:=wordsV_set .i64 m (i+j) (v%65536);have hvd:v/65536<65536:=by omega
     have hml2:(m.set (i+j) (v%65536)).length=10:=by rw [List.length_set]; exact hml
     have hmd2:∀ d ∈ m.set (i+j) (v%65536),d<65536:=set_lt hmd (Nat.mod_lt _ (by decide));have hm02:(m.set (i+j) (v%65536)).getD (i+5) 0=0:=by rw [getD_set_ne _ _ _ _ (by omega)]; exact hm0
     have e1:(wordsV .i64 a)[i]?=some (.int .i64 (ai:Int)):=by rw [HAI.out]; exact wordsV_at (by rw [HALN.out]; exact hlt)
     have e2:(wordsV .i64 b)[j]?=some (.int .i64 (bj:Int)):=by rw [hbj]; exact wordsV_at (by rw [HBLN.out]; exact hjl)
     have e3:(wordsV .i64 m)[i+j]?=some (.int .i64 (mk:Int)):=by rw [hmk]; exact wordsV_at (by rw [hml]; omega)
     have E1:=zY e1;have E2:=zY e2;have E3:=zY e3;have HMK:=zY hmk;have HBJ:=zY hbj;have HPR:=zY hpr;have HV:=zY hv;have HV2:=zY hv2;have HMP:=zY hmp;have HNV:=zY hnv;have HSET:=zY hset;have HVD:=zY hvd;have HML2:=zY hml2;have HMD2:=zY hmd2;have HM02:=zY hm02;have HML:=zY hml;have HC0:=hsm.drew;have hil:i+j<10:=by omega
     have PRL:=zY hprl;have MKL:=zY hmkl;have CL:=zY hcl;clear hmk hbj hpr hv hv2 hmp hnv hset hvd hml2 hmd2 hm02 hml hmd hm0 hmv hsm hbt e1 e2 e3 hprl hmkl hcl hbjl;go_wp2_with fail;refine wp_region_det (fun u=>MulStA w gw gw (some ad1) (some ad2) a b m u) (fun u=>MulStA w gw gw (some ad1) (some ad2) a b m u) [(0,some 28),(1,some 29),(2,some 30),(3,some 31),(4,some 32),(5,some 33),(6,some 34),(7,some 35),(8,some 36),(9,some 37),(10,some 38),(11,some 39),(12,some 40),(13,some 41),(14,some 42),(15,some 43),(16,some 44),(17,some 45),(18,some 9)] (by kernel_rfl) (by kernel_rfl) (by decide) (by kernel_rfl) (fun _=>rfl) HC0 ?_;apply DetL.next
     ·apply dP [];exact fun _=>rfl;rfl;rintro vals - w1 hC1 E hE;simp only [sP] at hE ⊢;go_wp2;exact .mk (hE _ hC1)
     apply DetL.next
     ·apply dP [];exact fun _=>rfl;rfl;rintro vals ⟨-,-⟩ w1 hC1 E hE;simp only [sP] at hE ⊢;go_wp2;exact .mk (hE _ hC1)
     apply DetL.next
     ·apply dP [];exact fun _=>rfl;rfl;intro vals vq w1 hC1 E hE;clear vq;simp only [sP] at hE ⊢;go_wp2;exact .mk (hE _ hC1)
     apply DetL.next
     ·apply dP [(1,some 29),(2,some 30)];exact fun _=>rfl;rfl;rintro vals ⟨⟨⟨-,-⟩,f1⟩,f2⟩ w1 hC1 E hE;simp only [sP,f1,f2] at hE ⊢;clear f1 f2;go_wp2;exact .mk (hE _ hC1)
     apply DetL.next
     ·apply dP [(0,some 28),(3,some 31)];exact fun _=>rfl;rfl;rintro vals ⟨⟨⟨⟨-,f0⟩,-⟩,-⟩,f3⟩ w1 hC1 E hE;simp only [sP,f0,f3] at hE ⊢;clear f0 f3;go_wp2;exact .mk (hE _ hC1)
     apply DetL.next
     ·apply dP [(4,some 32)];exact fun _=>rfl;rfl;intro vals vq w1 hC1 E hE;have f4:=vq.2;clear vq;have d0:=hC1.row.cell (i+j);rw [List.getElem?_toArray,E3.out] at d0;simp only [sP,f4] at hE ⊢;clear f4;go_wp2;exact .mk (hE _ hC1)
     apply DetL.next
     ·apply dP [];exact fun _=>rfl;rfl;intro vals vq w1 hC1 E hE;clear vq;simp only [sP] at hE ⊢;go_wp2;exact .mk (hE _ hC1)
     apply DetL.next
     ·apply dP [];exact fun _=>rfl;rfl;intro vals vq w1 hC1 E hE;clear vq;simp only [sP] at hE ⊢;go_wp2;exact .mk (hE _ hC1)
     apply DetL.next
     ·apply dP [(6,some 34),(7,some 35)];exact fun _=>rfl;rfl;intro vals vq w1 hC1 E hE;have f6:=vq.1.2;have f7:=vq.2;clear vq;simp only [sP,f6,f7] at hE ⊢;clear f6 f7;go_wp2;exact .mk (hE _ hC1)
     apply DetL.next
     ·apply dP [(8,some 36)];exact fun _=>rfl;rfl;intro vals vq w1 hC1 E hE;have f8:=vq.2;clear vq;have d0:=hC1.r1.val E1.out;simp only [sP,f8] at hE ⊢;clear f8;go_wp2;exact .mk (hE _ hC1)
     apply DetL.next
     ·apply dP [];exact fun _=>rfl;rfl;intro vals vq w1 hC1 E hE;clear vq;simp only [sP] at hE ⊢;go_wp2;exact .mk (hE _ hC1)
     apply DetL.next
     ·apply dP [];exact fun _=>rfl;rfl;intro vals vq w1 hC1 E hE;clear vq;simp only [sP] at hE ⊢;go_wp2;exact .mk (hE _ hC1)
     apply DetL.next
     ·apply dP [(10,some 38),(11,some 39)];exact fun _=>rfl;rfl;intro vals vq w1 hC1 E hE;have f10:=vq.1.2;have f11:=vq.2;clear vq;simp only [sP,f10,f11] at hE ⊢;clear f10 f11;go_wp2;exact .mk (hE _ hC1)
     apply DetL.next
     ·apply dP [(12,some 40)];exact fun _=>rfl;rfl;intro vals vq w1 hC1 E hE;have f12:=vq.2;clear vq;have d0:=hC1.r2.val E2.out;simp only [sP,f12] at hE ⊢;clear f12;go_wp2;exact .mk (hE _ hC1)
     apply DetL.next
     ·apply dP [(9,some 37),(13,some 41)];exact fun _=>rfl;rfl;intro vals vq w1 hC1 E hE;have f9:=vq.1.1.1.1.2;have f13:=vq.2;clear vq;simp only [sP,f9,f13] at hE ⊢;clear f9 f13;go_wp2;rw [mul_w64 ai bj (by rw [← HPR.out]; have:=PRL.out; omega),← HPR.out];exact .mk (hE _ hC1)
     apply DetL.next
     ·apply dP [(5,some 33),(14,some 42)];exact fun _=>rfl;rfl;intro vals vq w1 hC1 E hE;have f5:=vq.1.1.1.1.1.1.1.1.1.2;have f14:=vq.2;clear vq;simp only [sP,f5,f14] at hE ⊢;clear f5 f14;go_wp2;rw [add_w64 mk pr (by have:=PRL.out; have:=MKL.out; omega),← HMP.out];exact .mk (hE _ hC1)
     apply DetL.next
     ·apply dP [];exact fun _=>rfl;rfl;intro vals vq w1 hC1 E hE;clear vq;simp only [sP] at hE ⊢;go_wp2;exact .mk (hE _ hC1)
     apply DetL.next
     ·apply dP [(15,some 43),(16,some 44)];exact fun _=>rfl;rfl;intro vals vq w1 hC1 E hE;have f15:=vq.1.2;have f16:=vq.2;clear vq;simp only [sP,f15,f16] at hE ⊢;clear f15 f16;go_wp2;rw [add_w64 mp c (by have:=HMP.out; have:=PRL.out; have:=MKL.out; have:=CL.out; omega),← HV2.out];exact .mk (hE _ hC1)
     apply DetL.last
     ·apply dP [(17,some 45),(0,some 28),(1,some 29),(2,some 30),(3,some 31),(4,some 32),(5,some 33),(6,some 34),(7,some 35),(8,some 36),(9,some 37),(10,some 38),(11,some 39),(12,some 40),(13,some 41),(14,some 42),(15,some 43),(16,some 44),(17,some 45)];exact fun _=>rfl;rfl;rintro vals ⟨⟨⟨⟨⟨⟨⟨⟨⟨⟨⟨⟨⟨⟨⟨⟨⟨⟨-,f0⟩,f1⟩,f2⟩,f3⟩,f4⟩,f5⟩,f6⟩,f7⟩,f8⟩,f9⟩,f10⟩,f11⟩,f12⟩,f13⟩,f14⟩,f15⟩,f16⟩,f17⟩ w1 hC1 E hE;simp only [sP,f0,f1,f2,f3,f4,f5,f6,f7,f8,f9,f10,f11,f12,f13,f14,f15,f16,f17] at hE ⊢;clear f0 f1 f2 f3 f4 f5 f6 f7 f8 f9 f10 f11 f12 f13 f14 f15 f16 f17;go_wp2;exact .mk (hE _ hC1)
     rintro vals ⟨⟨⟨⟨⟨⟨⟨⟨⟨⟨⟨⟨⟨⟨⟨⟨⟨⟨⟨-,f0⟩,f1⟩,f2⟩,f3⟩,f4⟩,f5⟩,f6⟩,f7⟩,f8⟩,f9⟩,f10⟩,f11⟩,f12⟩,f13⟩,f14⟩,f15⟩,f16⟩,f17⟩,f18⟩ w1 hC1;simp only [sP,f0,f1,f2,f3,f4,f5,f6,f7,f8,f9,f10,f11,f12,f13,f14,f15,f16,f17,f18];clear f0 f1 f2 f3 f4 f5 f6 f7 f8 f9 f10 f11 f12 f13 f14 f15 f16 f17 f18;clear HC0;have dr:=hC1.row.cell (i+j);rw [List.getElem?_toArray,E3.out] at dr;have fr:=hC1.row.free (i+j);have HC1:=zY hC1;clear hC1;have hv63:(v:Int)≤4295032831:=by have:=HV.out; have:=PRL.out; have:=MKL.out; have:=CL.out; omega
     go_wp2_with fail;refine ⟨⟨j+1,v/65536,m.set (i+j) (v%65536),by omega,by go_num,by go_num,HVD.out,HML2.out,HMD2.out,HM02.out,HNV.out,?_⟩,by simp [intOf]; omega⟩;refine HC1.out.put (wrote_setCell_at _ _ _ _) ?_;have h:=blk_setCell_at (i:=i+j) HC1.out.row (.int .i64 ((v%65536:Nat):Int));rw [HSET.out] at h;exact h
    ·obtain rfl:j=5:=by omega
     have hge:¬ ((5:Nat):Int)<5:=by omega
     have hbt:b.take 5=b:=List.take_of_length_le (by rw [HBLN.out]; exact Nat.le_refl _);rw [hbt] at hmv;have hset:=wordsV_set .i64 m (i+5) c;have hnv:=dval_set m (i+5) c (by omega);rw [hm0,Nat.zero_mul,Nat.add_zero] at hnv
     have hfin:digs 10 (dval (a.take (i+1))*dval b)=m.set (i+5) c:=by
      have h1:=digs_dval (m.set (i+5) c) (set_lt hmd hcl);rw [List.length_set,hml] at h1;rw [← h1]
      congr 1
      rw [dval_take_succ a i (by rw [HALN.out]; exact hlt),← HAI.out,Nat.add_mul,← HP.out,hnv,hmv,Nat.mul_assoc ai (65536^i),Nat.mul_comm (65536^i),Nat.mul_assoc ai]
     have e3:(wordsV .i64 m)[i+5]?=some (.int .i64 0):=by
      rw [wordsV_at (by rw [hml]; omega),hm0]; rfl
     have dr:=hsm.row.cell (i+5);rw [List.getElem?_toArray,e3] at dr;have fr:=hsm.row.free (i+5);have HSET:=zY hset;have HFIN:=zY hfin;have HSM:=zY hsm;have hil:i+5<10:=by omega
     have hc63:(c:Int)<65536:=by omega
     clear hset hfin hsm hnv hmv hbt e3 hm0 hmd hml hcl;go_wp2_with fail;refine ⟨⟨i+1,by omega,by go_num,?_⟩,by simp [intOf]; omega⟩;rw [HFIN.out];refine HSM.out.put (wrote_setCell_at _ _ _ _) ?_;have h:=blk_setCell_at (i:=i+5) HSM.out.row (.int .i64 (c:Int));rw [HSET.out] at h;exact h
  ·obtain rfl:i=5:=by omega
   have hat:a.take 5=a:=List.take_of_length_le (by rw [HALN.out]; exact Nat.le_refl _);rw [hat] at hst;have HST:=zY hst;clear hst hat;go_wp2_with fail;go_ret;exact ⟨gw,rfl,by rw [HGW.out]; exact Nat.le_refl _,HST.out.row,by rw [← HGW.out]; exact HST.out.bel⟩
end Go.Proofs.YtdgheahbafnboaaDoor.Sh
/-
  Walk: the reference's Mul, of 10 and 5 digits.
-/
namespace Go.Proofs.YtdgheahbafnboaaDoor.Sh
set_option linter.unusedSimpArgs false
set_option linter.unusedVariables false
open Go.RowKit
structure MulStB (w0:World) (gf gw:Nat) (A1 A2:Option Addr) (a b:List Nat) (m:List Nat) (u:World):Prop where
 bel:Below gf w0 u
 r1:Rd u gf A1 (wordsV .i64 a)
 r2:Rd u gf A2 (wordsV .i64 b)
 row:Blk u gw 3 (wordsV .i64 m).toArray
 le:gf≤gw
theorem MulStB.put {w0 u u':World} {gf gw:Nat} {A1 A2:Option Addr} {a b m m':List Nat} (h:MulStB w0 gf gw A1 A2 a b m u) (hw:Wrote gw u u') (hb:Blk u' gw 3 (wordsV .i64 m').toArray):MulStB w0 gf gw A1 A2 a b m' u' :=
 have hx:=hw.below (Below.refl gf u) h.le (by have:=h.row.lt; have:=h.le; omega)
 ⟨h.bel.trans hx,h.r1.below hx,h.r2.below hx,hb,h.le⟩
theorem MulStB.drew {w0 u:World} {gf gw:Nat} {A1 A2:Option Addr} {a b m:List Nat} (h:MulStB w0 gf gw A1 A2 a b m u):MulStB w0 gf gw A1 A2 a b m u.drew :=
 have hx:=(Below.refl gf u).drew
 ⟨h.bel.drew,h.r1.below hx,h.r2.below hx,h.row,h.le⟩
def MulPostB (a b:List Nat) (w:World) (e:Ending) (w':World):Prop :=
 ∃ g,e=.returned (.slice (some ⟨g,0,none⟩) 15 15)∧w.heap.size≤g∧Blk w' g 3 (wordsV .i64 (digs 15 (dval a*dval b))).toArray∧Below w.heap.size w w'
set_option maxRecDepth 100000 in
set_option maxHeartbeats 2000000 in
theorem mulB_any (a b:List Nat) (ha:∀ d ∈ a,d<65536) (hb:∀ d ∈ b,d<65536) (A1 A2:Option Addr) (c1 c2 B1 B2:Nat) (w:World) (h1:Rd w B1 A1 (wordsV .i64 a)) (h2:Rd w B2 A2 (wordsV .i64 b)) (hla:a.length=10) (hlb:b.length=5) (hc1:10≤c1) (hc2:5≤c2) (hB1:B1≤w.heap.size) (hB2:B2≤w.heap.size) :
  Calls Tryd.prog 104 #[.slice A1 10 c1,.slice A2 5 c2] w (MulPostB a b w):=by
 obtain ⟨ad1,rfl,hz1,hz2⟩:=h1.at_ (k:=0) (by rw [wordsV_length,hla]; decide);obtain ⟨ad2,rfl,hz3,hz4⟩:=h2.at_ (k:=0) (by rw [wordsV_length,hlb]; decide);clear hz1 hz2 hz3 hz4;have hmk:∀ u:World,(Instr.makeSlice 48 (.int .i64 15) (.int .i64 15)).run Tryd.prog u=.ok (.slice (some ⟨u.heap.size,0,none⟩) 15 15) (u.alloc (.cells (wordsV .i64 (digs 15 0)).toArray 3)):=fun _=>by kernel_rfl
 have H1:=zY (h1.mono hB1);have H2:=zY (h2.mono hB2);have HALN:=zY hla;have HBLN:=zY hlb;have HA:=zY ha;have HB:=zY hb;clear h1 h2 hla hlb ha hb hB1 hB2;go_enter Tryd.func104,Tryd.ntmps104;go_wp2_with fail;obtain ⟨gw,hgw⟩:∃ x,x=w.heap.size:=⟨_,rfl⟩
 have hst0:MulStB w gw gw (some ad1) (some ad2) a b (digs 15 (dval (a.take 0)*dval b)) (w.alloc (.cells (wordsV .i64 (digs 15 0)).toArray 3)):=by
  have hb0:=below_new w (.cells (wordsV .i64 (digs 15 0)).toArray 3);rw [← hgw] at hb0;refine ⟨hb0,?_,?_,?_,Nat.le_refl _⟩
  ·have:=H1.out; rw [← hgw] at this; exact this.below hb0
  ·have:=H2.out; rw [← hgw] at this; exact this.below hb0
  ·rw [hgw]; simp only [List.take_zero,dval,Nat.zero_mul]; exact Blk.new _ _ _
 rw [← hgw];have HGW:=zY hgw;clear hgw hmk H1 H2
 go_loopw [6] (fun i wr=>∃ k:Nat,k≤10∧i=.int .i64 k∧MulStB w gw gw (some ad1) (some ad2) a b (digs 15 (dval (a.take k)*dval b)) wr) (fun i _=>10 - (intOf i).toNat)
 case atStart=>exact ⟨0,by omega,rfl,hst0⟩
 case round =>
  obtain ⟨i,hi,rfl,hst⟩:=hrel;clear hst0
  by_cases hlt:i<10
  ·have hlt':(i:Int)<10:=by omega
   obtain ⟨ai,hai⟩:∃ x,x=a.getD i 0:=⟨_,rfl⟩;have hail:ai<65536:=by rw [hai]; exact dig_lt HA.out i
   obtain ⟨P,hP⟩:∃ x,x=dval (a.take i)*dval b:=⟨_,rfl⟩
   have hPl:P<65536^(i+5):=by
    rw [hP,Nat.pow_add];have e1:=dval_lt (a.take i) fun x hx=>HA.out x (List.mem_of_mem_take hx);have e2:=dval_lt b HB.out;rw [List.length_take,Nat.min_eq_left (by rw [HALN.out]; exact hi)] at e1;rw [HBLN.out] at e2;exact Nat.mul_lt_mul'' e1 e2
   rw [← hP] at hst;have HAI:=zY hai;have HAIL:=zY hail;have HP:=zY hP;have HPL:=zY hPl;have HST:=zY hst;clear hai hail hP hPl hst;go_wp2_with fail;obtain ⟨wo,rfl⟩:∃ wo:World,wo=wr:=⟨_,rfl⟩;have hPN:P<65536^15:=Nat.lt_of_lt_of_le HPL.out (Nat.pow_le_pow_right (by decide) (by omega))
   have hr0:∃ m:List Nat,m.length=15∧(∀ d ∈ m,d<65536)∧m.getD (i+5) 0=0∧dval m+0*65536^(i+0)=P+ai*dval (b.take 0)*65536^i∧MulStB w gw gw (some ad1) (some ad2) a b m wo:=by
    refine ⟨digs 15 P,digs_length _ _,digs_lt _ _,?_,?_,HST.out⟩
    ·rw [getD_dig _ _ (digs_lt _ _),dval_digs _ _ hPN,Nat.div_eq_of_lt HPL.out]
    ·rw [dval_digs _ _ hPN]; simp [dval]
   have HR0:=zY hr0;clear hr0 hPN HST
   go_loopw [7,8] (fun c j wr=>∃ (k cn:Nat) (m:List Nat),k≤5∧j=.int .i64 k∧c=.int .i64 cn∧cn<65536∧m.length=15∧(∀ d ∈ m,d<65536)∧m.getD (i+5) 0=0∧dval m+cn*65536^(i+k)=P+ai*dval (b.take k)*65536^i∧MulStB w gw gw (some ad1) (some ad2) a b m wr) (fun _ j _=>5 - (intOf j).toNat)
   case atStart =>
    obtain ⟨m,q1,q2,q3,q4,q5⟩:=HR0.out;exact ⟨0,0,m,by omega,rfl,rfl,by omega,q1,q2,q3,q4,q5⟩
   case round =>
    clear HR0;obtain ⟨j,c,m,hj,rfl,rfl,hcl,hml,hmd,hm0,hmv,hsm⟩:=hrel
    by_cases hjl:j<5
    ·have hjl':(j:Int)<5:=by omega
     obtain ⟨bj,hbj⟩:∃ x,x=b.getD j 0:=⟨_,rfl⟩;have hbjl:bj<65536:=by rw [hbj]; exact dig_lt HB.out j
     obtain ⟨mk,hmk⟩:∃ x,x=m.getD (i+j) 0:=⟨_,rfl⟩;have hmkl:mk<65536:=by rw [hmk]; exact dig_lt hmd _
     obtain ⟨pr,hpr⟩:∃ x,x=ai*bj:=⟨_,rfl⟩;have hprl:pr≤4294836225:=by rw [hpr]; exact Nat.mul_le_mul (show ai≤65535 by have:=HAIL.out; omega) (show bj≤65535 by omega)
     obtain ⟨v,hv⟩:∃ x,x=mk+pr+c:=⟨_,rfl⟩;obtain ⟨mp,hmp⟩:∃ x,x=mk+pr:=⟨_,rfl⟩;have hv2:v=mp+c:=by rw [hv,hmp]
     have hnv:=mul_step (n:=dval (m.set (i+j) (v%65536))) (k:=mk) (a:=ai) (b:=bj) hmv (by rw [← hpr,← hv,hmk]; exact dval_set m (i+j) (v%65536) (by omega));rw [← hpr,← hv] at hnv;have hbt:dval (b.take (j+1))=dval (b.take j)+bj*65536^j:=by rw [dval_take_succ b j (by rw [HBLN.out]; exact hjl),hbj]
     rw [← hbt] at hnv;have hset:=wordsV_set .i64 m (i+j) (v%65536);have hvd:v/65536<65536:=by omega
     have hml2:(m.set (i+j) (v%65536)).length=15:=by rw [List.length_set]; exact hml
     have hmd2:∀ d ∈ m.set (i+j) (v%65536),d<65536:=set_lt hmd (Nat.mod_lt _ (by decide));have hm02:(m.set (i+j) (v%65536)).getD (i+5) 0=0:=by rw [getD_set_ne _ _ _ _ (by omega)]; exact hm0
     have e1:(wordsV .i64 a)[i]?=some (.int .i64 (ai:Int)):=by rw [HAI.out]; exact wordsV_at (by rw [HALN.out]; exact hlt)
     have e2:(wordsV .i64 b)[j]?=some (.int .i64 (bj:Int)):=by rw [hbj]; exact wordsV_at (by rw [HBLN.out]; exact hjl)
     have e3:(wordsV .i64 m)[i+j]?=some (.int .i64 (mk:Int)):=by rw [hmk]; exact wordsV_at (by rw [hml]; omega)
     have E1:=zY e1;have E2:=zY e2;have E3:=zY e3;have HMK:=zY hmk;have HBJ:=zY hbj;have HPR:=zY hpr;have HV:=zY hv;have HV2:=zY hv2;have HMP:=zY hmp;have HNV:=zY hnv;have HSET:=zY hset;have HVD:=zY hvd;have HML2:=zY hml2;have HMD2:=zY hmd2;have HM02:=zY hm02;have HML:=zY hml;have HC0:=hsm.drew;have hil:i+j<15:=by omega
     have PRL:=zY hprl;have MKL:=zY hmkl;have CL:=zY hcl;clear hmk hbj hpr hv hv2 hmp hnv hset hvd hml2 hmd2 hm02 hml hmd hm0 hmv hsm hbt e1 e2 e3 hprl hmkl hcl hbjl;go_wp2_with fail;refine wp_region_det (fun u=>MulStB w gw gw (some ad1) (some ad2) a b m u) (fun u=>MulStB w gw gw (some ad1) (some ad2) a b m u) [(0,some 28),(1,some 29),(2,some 30),(3,some 31),(4,some 32),(5,some 33),(6,some 34),(7,some 35),(8,some 36),(9,some 37),(10,some 38),(11,some 39),(12,some 40),(13,some 41),(14,some 42),(15,some 43),(16,some 44),(17,some 45),(18,some 9)] (by kernel_rfl) (by kernel_rfl) (by decide) (by kernel_rfl) (fun _=>rfl) HC0 ?_;apply DetL.next
     ·apply dP [];exact fun _=>rfl;rfl;rintro vals - w1 hC1 E hE;simp only [sP] at hE ⊢;go_wp2;exact .mk (hE _ hC1)
     apply DetL.next
     ·apply dP [];exact fun _=>rfl;rfl;rintro vals ⟨-,-⟩ w1 hC1 E hE;simp only [sP] at hE ⊢;go_wp2;exact .mk (hE _ hC1)
     apply DetL.next
     ·apply dP [];exact fun _=>rfl;rfl;intro vals vq w1 hC1 E hE;clear vq;simp only [sP] at hE ⊢;go_wp2;exact .mk (hE _ hC1)
     apply DetL.next
     ·apply dP [(1,some 29),(2,some 30)];exact fun _=>rfl;rfl;rintro vals ⟨⟨⟨-,-⟩,f1⟩,f2⟩ w1 hC1 E hE;simp only [sP,f1,f2] at hE ⊢;clear f1 f2;go_wp2;exact .mk (hE _ hC1)
     apply DetL.next
     ·apply dP [(0,some 28),(3,some 31)];exact fun _=>rfl;rfl;rintro vals ⟨⟨⟨⟨-,f0⟩,-⟩,-⟩,f3⟩ w1 hC1 E hE;simp only [sP,f0,f3] at hE ⊢;clear f0 f3;go_wp2;exact .mk (hE _ hC1)
     apply DetL.next
     ·apply dP [(4,some 32)];exact fun _=>rfl;rfl;intro vals vq w1 hC1 E hE;have f4:=vq.2;clear vq;have d0:=hC1.row.cell (i+j);rw [List.getElem?_toArray,E3.out] at d0;simp only [sP,f4] at hE ⊢;clear f4;go_wp2;exact .mk (hE _ hC1)
     apply DetL.next
     ·apply dP [];exact fun _=>rfl;rfl;intro vals vq w1 hC1 E hE;clear vq;simp only [sP] at hE ⊢;go_wp2;exact .mk (hE _ hC1)
     apply DetL.next
     ·apply dP [];exact fun _=>rfl;rfl;intro vals vq w1 hC1 E hE;clear vq;simp only [sP] at hE ⊢;go_wp2;exact .mk (hE _ hC1)
     apply DetL.next
     ·apply dP [(6,some 34),(7,some 35)];exact fun _=>rfl;rfl;intro vals vq w1 hC1 E hE;have f6:=vq.1.2;have f7:=vq.2;clear vq;simp only [sP,f6,f7] at hE ⊢;clear f6 f7;go_wp2;exact .mk (hE _ hC1)
     apply DetL.next
     ·apply dP [(8,some 36)];exact fun _=>rfl;rfl;intro vals vq w1 hC1 E hE;have f8:=vq.2;clear vq;have d0:=hC1.r1.val E1.out;simp only [sP,f8] at hE ⊢;clear f8;go_wp2;exact .mk (hE _ hC1)
     apply DetL.next
     ·apply dP [];exact fun _=>rfl;rfl;intro vals vq w1 hC1 E hE;clear vq;simp only [sP] at hE ⊢;go_wp2;exact .mk (hE _ hC1)
     apply DetL.next
     ·apply dP [];exact fun _=>rfl;rfl;intro vals vq w1 hC1 E hE;clear vq;simp only [sP] at hE ⊢;go_wp2;exact .mk (hE _ hC1)
     apply DetL.next
     ·apply dP [(10,some 38),(11,some 39)];exact fun _=>rfl;rfl;intro vals vq w1 hC1 E hE;have f10:=vq.1.2;have f11:=vq.2;clear vq;simp only [sP,f10,f11] at hE ⊢;clear f10 f11;go_wp2;exact .mk (hE _ hC1)
     apply DetL.next
     ·apply dP [(12,some 40)];exact fun _=>rfl;rfl;intro vals vq w1 hC1 E hE;have f12:=vq.2;clear vq;have d0:=hC1.r2.val E2.out;simp only [sP,f12] at hE ⊢;clear f12;go_wp2;exact .mk (hE _ hC1)
     apply DetL.next
     ·apply dP [(9,some 37),(13,some 41)];exact fun _=>rfl;rfl;intro vals vq w1 hC1 E hE;have f9:=vq.1.1.1.1.2;have f13:=vq.2;clear vq;simp only [sP,f9,f13] at hE ⊢;clear f9 f13;go_wp2;rw [mul_w64 ai bj (by rw [← HPR.out]; have:=PRL.out; omega),← HPR.out];exact .mk (hE _ hC1)
     apply DetL.next
     ·apply dP [(5,some 33),(14,some 42)];exact fun _=>rfl;rfl;intro vals vq w1 hC1 E hE;have f5:=vq.1.1.1.1.1.1.1.1.1.2;have f14:=vq.2;clear vq;simp only [sP,f5,f14] at hE ⊢;clear f5 f14;go_wp2;rw [add_w64 mk pr (by have:=PRL.out; have:=MKL.out; omega),← HMP.out];exact .mk (hE _ hC1)
     apply DetL.next
     ·apply dP [];exact fun _=>rfl;rfl;intro vals vq w1 hC1 E hE;clear vq;simp only [sP] at hE ⊢;go_wp2;exact .mk (hE _ hC1)
     apply DetL.next
     ·apply dP [(15,some 43),(16,some 44)];exact fun _=>rfl;rfl;intro vals vq w1 hC1 E hE;have f15:=vq.1.2;have f16:=vq.2;clear vq;simp only [sP,f15,f16] at hE ⊢;clear f15 f16;go_wp2;rw [add_w64 mp c (by have:=HMP.out; have:=PRL.out; have:=MKL.out; have:=CL.out; omega),← HV2.out];exact .mk (hE _ hC1)
     apply DetL.last
     ·apply dP [(17,some 45),(0,some 28),(1,some 29),(2,some 30),(3,some 31),(4,some 32),(5,some 33),(6,some 34),(7,some 35),(8,some 36),(9,some 37),(10,some 38),(11,some 39),(12,some 40),(13,some 41),(14,some 42),(15,some 43),(16,some 44),(17,some 45)];exact fun _=>rfl;rfl;rintro vals ⟨⟨⟨⟨⟨⟨⟨⟨⟨⟨⟨⟨⟨⟨⟨⟨⟨⟨-,f0⟩,f1⟩,f2⟩,f3⟩,f4⟩,f5⟩,f6⟩,f7⟩,f8⟩,f9⟩,f10⟩,f11⟩,f12⟩,f13⟩,f14⟩,f15⟩,f16⟩,f17⟩ w1 hC1 E hE;simp only [sP,f0,f1,f2,f3,f4,f5,f6,f7,f8,f9,f10,f11,f12,f13,f14,f15,f16,f17] at hE ⊢;clear f0 f1 f2 f3 f4 f5 f6 f7 f8 f9 f10 f11 f12 f13 f14 f15 f16 f17;go_wp2;exact .mk (hE _ hC1)
     rintro vals ⟨⟨⟨⟨⟨⟨⟨⟨⟨⟨⟨⟨⟨⟨⟨⟨⟨⟨⟨-,f0⟩,f1⟩,f2⟩,f3⟩,f4⟩,f5⟩,f6⟩,f7⟩,f8⟩,f9⟩,f10⟩,f11⟩,f12⟩,f13⟩,f14⟩,f15⟩,f16⟩,f17⟩,f18⟩ w1 hC1;simp only [sP,f0,f1,f2,f3,f4,f5,f6,f7,f8,f9,f10,f11,f12,f13,f14,f15,f16,f17,f18];clear f0 f1 f2 f3 f4 f5 f6 f7 f8 f9 f10 f11 f12 f13 f14 f15 f16 f17 f18;clear HC0;have dr:=hC1.row.cell (i+j);rw [List.getElem?_toArray,E3.out] at dr;have fr:=hC1.row.free (i+j);have HC1:=zY hC1;clear hC1;have hv63:(v:Int)≤4295032831:=by have:=HV.out; have:=PRL.out; have:=MKL.out; have:=CL.out; omega
     go_wp2_with fail;refine ⟨⟨j+1,v/65536,m.set (i+j) (v%65536),by omega,by go_num,by go_num,HVD.out,HML2.out,HMD2.out,HM02.out,HNV.out,?_⟩,by simp [intOf]; omega⟩;refine HC1.out.put (wrote_setCell_at _ _ _ _) ?_;have h:=blk_setCell_at (i:=i+j) HC1.out.row (.int .i64 ((v%65536:Nat):Int));rw [HSET.out] at h;exact h
    ·obtain rfl:j=5:=by omega
     have hge:¬ ((5:Nat):Int)<5:=by omega
     have hbt:b.take 5=b:=List.take_of_length_le (by rw [HBLN.out]; exact Nat.le_refl _);rw [hbt] at hmv;have hset:=wordsV_set .i64 m (i+5) c;have hnv:=dval_set m (i+5) c (by omega);rw [hm0,Nat.zero_mul,Nat.add_zero] at hnv
     have hfin:digs 15 (dval (a.take (i+1))*dval b)=m.set (i+5) c:=by
      have h1:=digs_dval (m.set (i+5) c) (set_lt hmd hcl);rw [List.length_set,hml] at h1;rw [← h1]
      congr 1
      rw [dval_take_succ a i (by rw [HALN.out]; exact hlt),← HAI.out,Nat.add_mul,← HP.out,hnv,hmv,Nat.mul_assoc ai (65536^i),Nat.mul_comm (65536^i),Nat.mul_assoc ai]
     have e3:(wordsV .i64 m)[i+5]?=some (.int .i64 0):=by
      rw [wordsV_at (by rw [hml]; omega),hm0]; rfl
     have dr:=hsm.row.cell (i+5);rw [List.getElem?_toArray,e3] at dr;have fr:=hsm.row.free (i+5);have HSET:=zY hset;have HFIN:=zY hfin;have HSM:=zY hsm;have hil:i+5<15:=by omega
     have hc63:(c:Int)<65536:=by omega
     clear hset hfin hsm hnv hmv hbt e3 hm0 hmd hml hcl;go_wp2_with fail;refine ⟨⟨i+1,by omega,by go_num,?_⟩,by simp [intOf]; omega⟩;rw [HFIN.out];refine HSM.out.put (wrote_setCell_at _ _ _ _) ?_;have h:=blk_setCell_at (i:=i+5) HSM.out.row (.int .i64 (c:Int));rw [HSET.out] at h;exact h
  ·obtain rfl:i=10:=by omega
   have hat:a.take 10=a:=List.take_of_length_le (by rw [HALN.out]; exact Nat.le_refl _);rw [hat] at hst;have HST:=zY hst;clear hst hat;go_wp2_with fail;go_ret;exact ⟨gw,rfl,by rw [HGW.out]; exact Nat.le_refl _,HST.out.row,by rw [← HGW.out]; exact HST.out.bel⟩
end Go.Proofs.YtdgheahbafnboaaDoor.Sh
/-
  Walk: the reference's Root, the 2-th.
-/
namespace Go.Proofs.YtdgheahbafnboaaDoor.Sh
set_option linter.unusedSimpArgs false
set_option linter.unusedVariables false
open Go.RowKit
structure RtSt (w0:World) (gt gx:Nat) (T:List Nat) (X:Nat) (u:World):Prop where
 bel:Below gt w0 u
 t:Blk u gt 3 (wordsV .i64 T).toArray
 x:Blk u gx 3 (wordsV .i64 (digs 5 X)).toArray
 lt:gt<gx
theorem RtSt.next {w0 u u':World} {gt gx X:Nat} {T:List Nat} (h:RtSt w0 gt gx T X u) (hb:Below u.heap.size u u'):RtSt w0 gt gx T X u' :=
 ⟨h.bel.trans (hb.mono (by have:=h.t.lt; omega)),h.t.below hb h.t.lt,h.x.below hb h.x.lt,h.lt⟩
theorem RtSt.drew {w0 u:World} {gt gx X:Nat} {T:List Nat} (h:RtSt w0 gt gx T X u):RtSt w0 gt gx T X u.drew:=h.next (Below.refl _ _).drew
theorem RtSt.put {w0 u u':World} {gt gx X X':Nat} {T:List Nat} (h:RtSt w0 gt gx T X u) (hw:Wrote gx u u') (hb:Blk u' gx 3 (wordsV .i64 (digs 5 X')).toArray):RtSt w0 gt gx T X' u' :=
 ⟨hw.below h.bel (by have:=h.lt; omega) (by have:=h.t.lt; omega),hw.blk h.t (by have:=h.lt; omega),hb,h.lt⟩
theorem mul_u64 (a k:Nat):IntKind.u64.wrap ((a:Int)*(k:Int))=((a*k%2^64:Nat):Int):=by
 rw [← Int.natCast_mul,IntKind.wrap_u64]; omega
set_option maxRecDepth 100000 in
set_option maxHeartbeats 4000000 in
theorem root2_any (p:Nat) (w:World) (hp:p<65536):Calls Tryd.prog 98 #[.int .i64 p,.int .i64 2] w fun e w'=>e=.returned (.int .u64 (rootN p 2:Nat))∧Below w.heap.size w w':=by
 have hmkT:∀ u:World,(Instr.makeSlice 48 (.int .i64 9) (.int .i64 9)).run Tryd.prog u=.ok (.slice (some ⟨u.heap.size,0,none⟩) 9 9) (u.alloc (.cells (wordsV .i64 (digs 9 0)).toArray 3)):=fun _=>by kernel_rfl
 have hmk5:∀ u:World,(Instr.makeSlice 48 (.int .i64 5) (.int .i64 5)).run Tryd.prog u=.ok (.slice (some ⟨u.heap.size,0,none⟩) 5 5) (u.alloc (.cells (wordsV .i64 (digs 5 0)).toArray 3)):=fun _=>by kernel_rfl
 have hb0:=Blk.new w 3 (wordsV .i64 (digs 9 0)).toArray;have dT:(w.alloc (.cells (wordsV .i64 (digs 9 0)).toArray 3)).cell? ⟨w.heap.size,8,none⟩=some (.int .i64 0):=hb0.cell 8;have fT:=hb0.free 8;have hset:(wordsV .i64 (digs 9 0)).set 8 (.int .i64 (p:Int))=wordsV .i64 ((digs 9 0).set 8 p):=by simp [wordsV,List.map_set]
 obtain ⟨TL,hTL⟩:∃ x,x=(digs 9 0).set 8 p:=⟨_,rfl⟩;have hTd:∀ d ∈ TL,d<65536:=by rw [hTL]; exact set_lt (digs_lt _ _) hp
 have hTv:dval TL=p*65536^8:=by
  have h:=dval_set (digs 9 0) 8 p (by rw [digs_length]; decide);rw [getD_dig _ _ (digs_lt _ _),dval_digs _ _ (by decide)] at h;rw [hTL]
  simpa using h
 have hTl:TL.length=9:=by rw [hTL,List.length_set,digs_length]
 rw [← hTL] at hset;have HSET:=zY hset;have HTD:=zY hTd;have HTV:=zY hTv;have HTL:=zY hTl;clear hb0 hset hTL hTd hTv hTl;have hpl:(p:Int)<65536:=by omega
 clear hp;go_enter Tryd.func98,Tryd.ntmps98;go_wp2_with fail;rw [HSET.out];obtain ⟨gt,hgt⟩:∃ x,x=w.heap.size:=⟨_,rfl⟩;obtain ⟨gx,hgx⟩:∃ x,x=w.heap.size+1:=⟨_,rfl⟩
 have hst0:RtSt w gt gx TL (rootX p 2 0) ((w.alloc (.cells (wordsV .i64 TL).toArray 3)).alloc (.cells (wordsV .i64 (digs 5 0)).toArray 3)):=by
  rw [hgt,hgx];exact ⟨(below_new _ _).alloc (by simp) _,(Blk.new _ _ _).alloc _,by have:=Blk.new (w.alloc (.cells (wordsV .i64 TL).toArray 3)) 3 (wordsV .i64 (digs 5 0)).toArray; exact (by simpa using this:Blk _ (w.heap.size+1) 3 (wordsV .i64 (digs 5 0)).toArray),by omega⟩
 rw [← hgx,← hgt];have HGT:=zY hgt;clear hgt hgx hmkT hmk5 dT fT
 go_loopw [7] (fun i wr=>∃ n:Nat,n≤69∧i=.int .i64 (68 - (n:Int))∧RtSt w gt gx TL (rootX p 2 n) wr) (fun i _=>(intOf i+1).toNat)
 case atStart=>exact ⟨0,by omega,rfl,hst0⟩
 case round =>
  obtain ⟨n,hn,rfl,hst⟩:=hrel;clear hst0
  by_cases hlt:n<69
  ·obtain ⟨b,hb⟩:∃ b:Nat,(68 - (n:Int))=(b:Int):=⟨68 - n,by omega⟩;rw [hb];have hbn:b+n=68:=by omega
   obtain ⟨X,hX⟩:∃ x,x=rootX p 2 n:=⟨_,rfl⟩;have hXl:=rootX_lt p 2 n hn;have hXd:=rootX_dvd p 2 n hn
   have hnext:rootX p 2 (n+1)=if p*65536^8<(X+2^b)^2 then X else X+2^b:=by
    rw [rootX,← hX,show 68 - n=b by omega]
   rw [← hX] at hst hXl hXd;rw [show 69 - n=b+1 by omega] at hXl hXd;obtain ⟨q,hq⟩:∃ q,q=b/16:=⟨_,rfl⟩;obtain ⟨r,hr⟩:∃ r,r=b%16:=⟨_,rfl⟩;have hq5:q<5:=by omega
   have hr16:r<16:=by omega
   have hX80:X+2^b<65536^5:=by
    have h2:2^(b+1)=2*2^b:=by rw [Nat.pow_succ,Nat.mul_comm]
    have h3:(2:Nat)^69<65536^5:=by decide
    omega
   obtain ⟨hda,hdl⟩:=dig_add (n:=5) (bit:=b) (X:=X) (by omega) (by omega) hXd;rw [← hq,← hr] at hda hdl;obtain ⟨X1,hX1⟩:∃ x,x=X+2^b:=⟨_,rfl⟩;obtain ⟨d0,hd0⟩:∃ x,x=(digs 5 X).getD q 0:=⟨_,rfl⟩;obtain ⟨D,hD⟩:∃ x,x=2^r:=⟨_,rfl⟩;rw [← hX1,← hd0,← hD] at hda;rw [← hd0,← hD] at hdl;rw [← hX1] at hnext hX80;have hset1:(wordsV .i64 (digs 5 X)).toArray.setIfInBounds q (.int .i64 ((d0+D:Nat):Int))=(wordsV .i64 (digs 5 X1)).toArray:=by rw [wordsV_set,hda]
   have hset2:(wordsV .i64 (digs 5 X1)).toArray.setIfInBounds q (.int .i64 (d0:Int))=(wordsV .i64 (digs 5 X)).toArray:=by
    rw [wordsV_set,← hda,List.set_set,hd0]
    congr 2
    rw [List.getD_eq_getElem?_getD,List.getElem?_eq_getElem (by rw [digs_length]; exact hq5),Option.getD_some,List.set_getElem_self]
   have hc1:(wordsV .i64 (digs 5 X))[q]?=some (.int .i64 (d0:Int)):=by rw [hd0]; exact wordsV_at (by rw [digs_length]; exact hq5)
   have hc2:(wordsV .i64 (digs 5 X1))[q]?=some (.int .i64 ((d0+D:Nat):Int)):=by
    rw [← hda,wordsV,List.getElem?_map,List.getElem?_set_self (by rw [digs_length]; exact hq5)]; rfl
   have hqb:(b:Int)/16=(q:Int):=by omega
   have hrb:(b:Int)%16=(r:Int):=by omega
   have hDl:D≤32768:=by rw [hD]; exact Nat.pow_le_pow_right (n:=2) (by decide) (show r≤15 by omega)
   have dx:=hst.x.cell q;rw [List.getElem?_toArray,hc1] at dx;have fx:=hst.x.free q;have hd0l:d0+D≤65535:=by omega
   have HX:=zY hX;have HNEXT:=zY hnext;have HX80:=zY hX80;have HX1:=zY hX1;have HSET1:=zY hset1;have HSET2:=zY hset2;have HC2:=zY hc2;have HD:=zY hD;have HST:=zY hst;have HB:=zY hb;have HBN:=zY hbn;have hb0:(0:Int)≤(b:Int):=by omega
   clear hb hbn hX hXl hXd hnext hq hr hX80 hda hdl hX1 hd0 hD hset1 hset2 hc1 hc2 hst hlt hn;go_wp2_with fail
   go_loop [8,9] (fun v i=>∃ j e:Nat,j≤r∧i=.int .i64 j∧e=2^j∧v=.int .i64 e) (fun _ i=>r - (intOf i).toNat)
   case atStart=>exact ⟨0,1,by omega,rfl,rfl,rfl⟩
   case round =>
    obtain ⟨j,e,hj,rfl,he,rfl⟩:=hrel
    by_cases hjr:j<r
    ·have hjr':(j:Int)<(r:Int):=by omega
     have hel:e≤16384:=by rw [he]; exact Nat.pow_le_pow_right (n:=2) (by decide) (show j≤14 by omega)
     have HE:=zY he;clear he;go_wp2_with fail;exact ⟨⟨j+1,2*e,by omega,by go_num,by rw [HE.out,Nat.pow_succ,Nat.mul_comm],by go_num⟩,by simp [intOf]; omega⟩
    ·obtain rfl:j=r:=by omega
     obtain rfl:e=D:=by rw [he,HD.out]
     clear he;go_wp2_with fail;obtain ⟨w2,hw2⟩:∃ x,x=wr.setCell ⟨gx,q,none⟩ (.int .i64 ((d0:Int)+(e:Int))):=⟨_,rfl⟩
     have hst2:RtSt w gt gx TL X1 w2:=by
      rw [hw2];refine HST.out.put (wrote_setCell_at _ _ _ _) ?_;have h:=blk_setCell_at (i:=q) HST.out.x (.int .i64 ((d0+e:Nat):Int));rw [HSET1.out] at h;exact h
     rw [← hw2];have hx2:=Rd.of_blk (B:=w2.heap.size) hst2.x hst2.x.lt;have hm:=mulA_any (digs 5 X1) (digs 5 X1) (digs_lt _ _) (digs_lt _ _) _ _ 5 5 _ _ w2 hx2 hx2 (digs_length _ _) (digs_length _ _) (Nat.le_refl _) (Nat.le_refl _) (Nat.le_refl _) (Nat.le_refl _);refine calls_then hm ?_;rintro e1 w3 ⟨g1,rfl,hg1,hb1,hbel1⟩;rw [dval_digs 5 X1 HX80.out] at hb1;have hst3:=hst2.next hbel1;clear hw2 hst2 hx2 hm hbel1 hg1 dx fx HSET1 HST;have HST3:=zY hst3;have HB1:=zY hb1;clear hst3 hb1;go_wp2_with fail;have hls:=less_any TL (digs 10 (X1*X1)) HTD.out (digs_lt _ _) (some ⟨gt,0,none⟩) (some ⟨g1,0,none⟩) 9 10 w3.heap.size w3.heap.size 9 10 w3 (Rd.of_blk HST3.out.t HST3.out.t.lt) (Rd.of_blk HB1.out HB1.out.lt) HTL.out (digs_length _ _) (by decide) (by decide) (Nat.le_refl _) (Nat.le_refl _);refine calls_then hls ?_;rintro e1 w4 ⟨rfl,rfl⟩;clear hls;have hpw:X1*X1<65536^10:=by have:=HX80.out; exact Nat.lt_of_lt_of_le (Nat.mul_lt_mul'' this this) (by decide)
     rw [HTV.out,dval_digs _ _ hpw,show X1*X1=X1^2 by simp [Nat.pow_succ]];clear hpw;have dx2:=HST3.out.x.cell q;rw [List.getElem?_toArray,HC2.out] at dx2;have fx2:=HST3.out.x.free q
     by_cases hmo:p*65536^8<X1^2
     ·rw [decide_eq_true hmo]
      have hfin:RtSt w gt gx TL (rootX p 2 (n+1)) (w3.setCell ⟨gx,q,none⟩ (.int .i64 (d0:Int))):=by
       rw [HNEXT.out,if_pos hmo];refine HST3.out.put (wrote_setCell_at _ _ _ _) ?_;have h:=blk_setCell_at (i:=q) HST3.out.x (.int .i64 (d0:Int));rw [HSET2.out] at h;exact h
      have HFIN:=zY hfin;clear hfin hmo;go_wp2_with fail;have:=HBN.out;exact ⟨⟨n+1,by omega,congrArg (Value.int .i64) (by omega),HFIN.out⟩,by simp [intOf]⟩
     ·rw [decide_eq_false hmo]
      have hfin:RtSt w gt gx TL (rootX p 2 (n+1)) w3:=by
       rw [HNEXT.out,if_neg hmo];exact HST3.out
      have HFIN:=zY hfin;clear hfin hmo;go_wp2_with fail;have:=HBN.out;exact ⟨⟨n+1,by omega,congrArg (Value.int .i64) (by omega),HFIN.out⟩,by simp [intOf]⟩
  ·obtain rfl:n=69:=by omega
   rw [show (68 - ((69:Nat):Int))=-1 from rfl];obtain ⟨X,hX⟩:∃ x,x=rootX p 2 69:=⟨_,rfl⟩;rw [← hX] at hst
   have hXl:X<65536^5:=by
    have:=rootX_lt p 2 69 (Nat.le_refl _);rw [← hX] at this;have h3:(2:Nat)^69<65536^5:=by decide
    omega
   have hgd:∀ i,(digs 5 X).getD i 0=X/65536^i%65536:=fun i=>by rw [getD_dig _ _ (digs_lt _ _),dval_digs 5 X hXl]
   have hws:∀ i,i<5→(wordsV .i64 (digs 5 X))[i]?=some (.int .i64 ((X/65536^i%65536:Nat):Int)):=fun i hi=>by rw [wordsV_at (by rw [digs_length]; exact hi),hgd]
   obtain ⟨x0,h0⟩:∃ x,x=X%65536:=⟨_,rfl⟩;obtain ⟨x1,h1⟩:∃ x,x=X/65536%65536:=⟨_,rfl⟩;obtain ⟨x2,h2⟩:∃ x,x=X/4294967296%65536:=⟨_,rfl⟩;obtain ⟨x3,h3⟩:∃ x,x=X/281474976710656%65536:=⟨_,rfl⟩;have E0:Hid ((wordsV .i64 (digs 5 X))[0]?=some (.int .i64 (x0:Int))):=zY (by rw [hws 0 (by decide),h0] <;> simp);have E1:Hid ((wordsV .i64 (digs 5 X))[1]?=some (.int .i64 (x1:Int))):=zY (by rw [hws 1 (by decide),h1] <;> simp);have E2:Hid ((wordsV .i64 (digs 5 X))[2]?=some (.int .i64 (x2:Int))):=zY (by rw [hws 2 (by decide),h2]);have E3:Hid ((wordsV .i64 (digs 5 X))[3]?=some (.int .i64 (x3:Int))):=zY (by rw [hws 3 (by decide),h3])
   have hv:x0+x1*65536+x2*4294967296+x3*281474976710656=rootN p 2:=by
    rw [rootN,← hX,h0,h1,h2,h3];omega
   have l0:(x0:Int)<65536:=by omega
   have l1:(x1:Int)<65536:=by omega
   have l2:(x2:Int)<65536:=by omega
   have l3:(x3:Int)<65536:=by omega
   have HV:=zY hv;have HC0:=hst.drew;clear hX hXl hgd hws h0 h1 h2 h3 hv hst hlt hn;go_wp2_with fail;refine wp_region_det (fun u=>RtSt w gt gx TL X u) (fun u=>RtSt w gt gx TL X u) [(0,some 67),(1,some 68),(2,some 69),(3,some 70),(4,some 71),(5,some 72),(6,some 73),(7,some 74),(8,some 75),(9,some 76),(10,some 77),(11,some 78),(12,some 79),(13,some 80),(14,some 81),(15,some 82),(16,some 83),(17,some 84),(18,some 85),(19,some 86),(20,some 87),(21,some 88),(22,some 4)] (by kernel_rfl) (by kernel_rfl) (by decide) (by kernel_rfl) (fun _=>rfl) HC0 ?_;apply DetL.next
   ·apply dP [];exact fun _=>rfl;rfl;rintro vals - w1 hC1 E hE;simp only [sP] at hE ⊢;go_wp2;exact .mk (hE _ hC1)
   apply DetL.next
   ·apply dP [(0,some 67)];exact fun _=>rfl;rfl;rintro vals ⟨-,f0⟩ w1 hC1 E hE;simp only [sP,f0] at hE ⊢;clear f0;go_wp2;exact .mk (hE _ hC1)
   apply DetL.next
   ·apply dP [(1,some 68)];exact fun _=>rfl;rfl;rintro vals ⟨⟨-,-⟩,f1⟩ w1 hC1 E hE;have d0:=hC1.x.cell 0;rw [List.getElem?_toArray,E0.out] at d0;simp only [sP,f1] at hE ⊢;clear f1;go_wp2;exact .mk (hE _ hC1)
   apply DetL.next
   ·apply dP [(2,some 69)];exact fun _=>rfl;rfl;intro vals vq w1 hC1 E hE;have f2:=vq.2;clear vq;simp only [sP,f2] at hE ⊢;clear f2;go_wp2;exact .mk (hE _ hC1)
   apply DetL.next
   ·apply dP [];exact fun _=>rfl;rfl;intro vals vq w1 hC1 E hE;clear vq;simp only [sP] at hE ⊢;go_wp2;exact .mk (hE _ hC1)
   apply DetL.next
   ·apply dP [(4,some 71)];exact fun _=>rfl;rfl;intro vals vq w1 hC1 E hE;have f4:=vq.2;clear vq;simp only [sP,f4] at hE ⊢;clear f4;go_wp2;exact .mk (hE _ hC1)
   apply DetL.next
   ·apply dP [(5,some 72)];exact fun _=>rfl;rfl;intro vals vq w1 hC1 E hE;have f5:=vq.2;clear vq;have d0:=hC1.x.cell 1;rw [List.getElem?_toArray,E1.out] at d0;simp only [sP,f5] at hE ⊢;clear f5;go_wp2;exact .mk (hE _ hC1)
   apply DetL.next
   ·apply dP [(6,some 73)];exact fun _=>rfl;rfl;intro vals vq w1 hC1 E hE;have f6:=vq.2;clear vq;simp only [sP,f6] at hE ⊢;clear f6;go_wp2;exact .mk (hE _ hC1)
   apply DetL.next
   ·apply dP [(7,some 74)];exact fun _=>rfl;rfl;intro vals vq w1 hC1 E hE;have f7:=vq.2;clear vq;simp only [sP,f7] at hE ⊢;clear f7;go_wp2;exact .mk (hE _ hC1)
   apply DetL.next
   ·apply dP [(3,some 70),(8,some 75)];exact fun _=>rfl;rfl;intro vals vq w1 hC1 E hE;have f3:=vq.1.1.1.1.1.2;have f8:=vq.2;clear vq;simp only [sP,f3,f8] at hE ⊢;clear f3 f8;go_wp2;exact .mk (hE _ hC1)
   apply DetL.next
   ·apply dP [];exact fun _=>rfl;rfl;intro vals vq w1 hC1 E hE;clear vq;simp only [sP] at hE ⊢;go_wp2;exact .mk (hE _ hC1)
   apply DetL.next
   ·apply dP [(10,some 77)];exact fun _=>rfl;rfl;intro vals vq w1 hC1 E hE;have f10:=vq.2;clear vq;simp only [sP,f10] at hE ⊢;clear f10;go_wp2;exact .mk (hE _ hC1)
   apply DetL.next
   ·apply dP [(11,some 78)];exact fun _=>rfl;rfl;intro vals vq w1 hC1 E hE;have f11:=vq.2;clear vq;have d0:=hC1.x.cell 2;rw [List.getElem?_toArray,E2.out] at d0;simp only [sP,f11] at hE ⊢;clear f11;go_wp2;exact .mk (hE _ hC1)
   apply DetL.next
   ·apply dP [(12,some 79)];exact fun _=>rfl;rfl;intro vals vq w1 hC1 E hE;have f12:=vq.2;clear vq;simp only [sP,f12] at hE ⊢;clear f12;go_wp2;exact .mk (hE _ hC1)
   apply DetL.next
   ·apply dP [(13,some 80)];exact fun _=>rfl;rfl;intro vals vq w1 hC1 E hE;have f13:=vq.2;clear vq;simp only [sP,f13] at hE ⊢;clear f13;go_wp2;exact .mk (hE _ hC1)
   apply DetL.next
   ·apply dP [(9,some 76),(14,some 81)];exact fun _=>rfl;rfl;intro vals vq w1 hC1 E hE;have f9:=vq.1.1.1.1.1.2;have f14:=vq.2;clear vq;simp only [sP,f9,f14] at hE ⊢;clear f9 f14;go_wp2;exact .mk (hE _ hC1)
   apply DetL.next
   ·apply dP [];exact fun _=>rfl;rfl;intro vals vq w1 hC1 E hE;clear vq;simp only [sP] at hE ⊢;go_wp2;exact .mk (hE _ hC1)
   apply DetL.next
   ·apply dP [(16,some 83)];exact fun _=>rfl;rfl;intro vals vq w1 hC1 E hE;have f16:=vq.2;clear vq;simp only [sP,f16] at hE ⊢;clear f16;go_wp2;exact .mk (hE _ hC1)
   apply DetL.next
   ·apply dP [(17,some 84)];exact fun _=>rfl;rfl;intro vals vq w1 hC1 E hE;have f17:=vq.2;clear vq;have d0:=hC1.x.cell 3;rw [List.getElem?_toArray,E3.out] at d0;simp only [sP,f17] at hE ⊢;clear f17;go_wp2;exact .mk (hE _ hC1)
   apply DetL.next
   ·apply dP [(18,some 85)];exact fun _=>rfl;rfl;intro vals vq w1 hC1 E hE;have f18:=vq.2;clear vq;simp only [sP,f18] at hE ⊢;clear f18;go_wp2;exact .mk (hE _ hC1)
   apply DetL.next
   ·apply dP [(19,some 86)];exact fun _=>rfl;rfl;intro vals vq w1 hC1 E hE;have f19:=vq.2;clear vq;simp only [sP,f19] at hE ⊢;clear f19;go_wp2;exact .mk (hE _ hC1)
   apply DetL.next
   ·apply dP [(15,some 82),(20,some 87)];exact fun _=>rfl;rfl;intro vals vq w1 hC1 E hE;have f15:=vq.1.1.1.1.1.2;have f20:=vq.2;clear vq;simp only [sP,f15,f20] at hE ⊢;clear f15 f20;go_wp2;exact .mk (hE _ hC1)
   apply DetL.last
   ·apply dP [(21,some 88),(0,some 67),(1,some 68),(2,some 69),(3,some 70),(4,some 71),(5,some 72),(6,some 73),(7,some 74),(8,some 75),(9,some 76),(10,some 77),(11,some 78),(12,some 79),(13,some 80),(14,some 81),(15,some 82),(16,some 83),(17,some 84),(18,some 85),(19,some 86),(20,some 87),(21,some 88)];exact fun _=>rfl;rfl;rintro vals ⟨⟨⟨⟨⟨⟨⟨⟨⟨⟨⟨⟨⟨⟨⟨⟨⟨⟨⟨⟨⟨⟨-,f0⟩,f1⟩,f2⟩,f3⟩,f4⟩,f5⟩,f6⟩,f7⟩,f8⟩,f9⟩,f10⟩,f11⟩,f12⟩,f13⟩,f14⟩,f15⟩,f16⟩,f17⟩,f18⟩,f19⟩,f20⟩,f21⟩ w1 hC1 E hE;simp only [sP,f0,f1,f2,f3,f4,f5,f6,f7,f8,f9,f10,f11,f12,f13,f14,f15,f16,f17,f18,f19,f20,f21] at hE ⊢;clear f0 f1 f2 f3 f4 f5 f6 f7 f8 f9 f10 f11 f12 f13 f14 f15 f16 f17 f18 f19 f20 f21;go_wp2;exact .mk (hE _ hC1)
   rintro vals ⟨⟨⟨⟨⟨⟨⟨⟨⟨⟨⟨⟨⟨⟨⟨⟨⟨⟨⟨⟨⟨⟨⟨-,f0⟩,f1⟩,f2⟩,f3⟩,f4⟩,f5⟩,f6⟩,f7⟩,f8⟩,f9⟩,f10⟩,f11⟩,f12⟩,f13⟩,f14⟩,f15⟩,f16⟩,f17⟩,f18⟩,f19⟩,f20⟩,f21⟩,f22⟩ w1 hC1;simp only [sP,f0,f1,f2,f3,f4,f5,f6,f7,f8,f9,f10,f11,f12,f13,f14,f15,f16,f17,f18,f19,f20,f21,f22];clear f0 f1 f2 f3 f4 f5 f6 f7 f8 f9 f10 f11 f12 f13 f14 f15 f16 f17 f18 f19 f20 f21 f22;clear HC0;go_wp2_with fail;go_ret;exact ⟨ret_int' (by rw [← HV.out]; omega),by rw [← HGT.out]; exact hC1.bel⟩
end Go.Proofs.YtdgheahbafnboaaDoor.Sh
/-
  Walk: the reference's Root, the 3-th.
-/
namespace Go.Proofs.YtdgheahbafnboaaDoor.Sh
set_option linter.unusedSimpArgs false
set_option linter.unusedVariables false
open Go.RowKit
set_option maxRecDepth 100000 in
set_option maxHeartbeats 4000000 in
theorem root3_any (p:Nat) (w:World) (hp:p<65536):Calls Tryd.prog 98 #[.int .i64 p,.int .i64 3] w fun e w'=>e=.returned (.int .u64 (rootN p 3:Nat))∧Below w.heap.size w w':=by
 have hmkT:∀ u:World,(Instr.makeSlice 48 (.int .i64 13) (.int .i64 13)).run Tryd.prog u=.ok (.slice (some ⟨u.heap.size,0,none⟩) 13 13) (u.alloc (.cells (wordsV .i64 (digs 13 0)).toArray 3)):=fun _=>by kernel_rfl
 have hmk5:∀ u:World,(Instr.makeSlice 48 (.int .i64 5) (.int .i64 5)).run Tryd.prog u=.ok (.slice (some ⟨u.heap.size,0,none⟩) 5 5) (u.alloc (.cells (wordsV .i64 (digs 5 0)).toArray 3)):=fun _=>by kernel_rfl
 have hb0:=Blk.new w 3 (wordsV .i64 (digs 13 0)).toArray;have dT:(w.alloc (.cells (wordsV .i64 (digs 13 0)).toArray 3)).cell? ⟨w.heap.size,12,none⟩=some (.int .i64 0):=hb0.cell 12;have fT:=hb0.free 12;have hset:(wordsV .i64 (digs 13 0)).set 12 (.int .i64 (p:Int))=wordsV .i64 ((digs 13 0).set 12 p):=by simp [wordsV,List.map_set]
 obtain ⟨TL,hTL⟩:∃ x,x=(digs 13 0).set 12 p:=⟨_,rfl⟩;have hTd:∀ d ∈ TL,d<65536:=by rw [hTL]; exact set_lt (digs_lt _ _) hp
 have hTv:dval TL=p*65536^12:=by
  have h:=dval_set (digs 13 0) 12 p (by rw [digs_length]; decide);rw [getD_dig _ _ (digs_lt _ _),dval_digs _ _ (by decide)] at h;rw [hTL]
  simpa using h
 have hTl:TL.length=13:=by rw [hTL,List.length_set,digs_length]
 rw [← hTL] at hset;have HSET:=zY hset;have HTD:=zY hTd;have HTV:=zY hTv;have HTL:=zY hTl;clear hb0 hset hTL hTd hTv hTl;have hpl:(p:Int)<65536:=by omega
 clear hp;go_enter Tryd.func98,Tryd.ntmps98;go_wp2_with fail;rw [HSET.out];obtain ⟨gt,hgt⟩:∃ x,x=w.heap.size:=⟨_,rfl⟩;obtain ⟨gx,hgx⟩:∃ x,x=w.heap.size+1:=⟨_,rfl⟩
 have hst0:RtSt w gt gx TL (rootX p 3 0) ((w.alloc (.cells (wordsV .i64 TL).toArray 3)).alloc (.cells (wordsV .i64 (digs 5 0)).toArray 3)):=by
  rw [hgt,hgx];exact ⟨(below_new _ _).alloc (by simp) _,(Blk.new _ _ _).alloc _,by have:=Blk.new (w.alloc (.cells (wordsV .i64 TL).toArray 3)) 3 (wordsV .i64 (digs 5 0)).toArray; exact (by simpa using this:Blk _ (w.heap.size+1) 3 (wordsV .i64 (digs 5 0)).toArray),by omega⟩
 rw [← hgx,← hgt];have HGT:=zY hgt;clear hgt hgx hmkT hmk5 dT fT
 go_loopw [7] (fun i wr=>∃ n:Nat,n≤69∧i=.int .i64 (68 - (n:Int))∧RtSt w gt gx TL (rootX p 3 n) wr) (fun i _=>(intOf i+1).toNat)
 case atStart=>exact ⟨0,by omega,rfl,hst0⟩
 case round =>
  obtain ⟨n,hn,rfl,hst⟩:=hrel;clear hst0
  by_cases hlt:n<69
  ·obtain ⟨b,hb⟩:∃ b:Nat,(68 - (n:Int))=(b:Int):=⟨68 - n,by omega⟩;rw [hb];have hbn:b+n=68:=by omega
   obtain ⟨X,hX⟩:∃ x,x=rootX p 3 n:=⟨_,rfl⟩;have hXl:=rootX_lt p 3 n hn;have hXd:=rootX_dvd p 3 n hn
   have hnext:rootX p 3 (n+1)=if p*65536^12<(X+2^b)^3 then X else X+2^b:=by
    rw [rootX,← hX,show 68 - n=b by omega]
   rw [← hX] at hst hXl hXd;rw [show 69 - n=b+1 by omega] at hXl hXd;obtain ⟨q,hq⟩:∃ q,q=b/16:=⟨_,rfl⟩;obtain ⟨r,hr⟩:∃ r,r=b%16:=⟨_,rfl⟩;have hq5:q<5:=by omega
   have hr16:r<16:=by omega
   have hX80:X+2^b<65536^5:=by
    have h2:2^(b+1)=2*2^b:=by rw [Nat.pow_succ,Nat.mul_comm]
    have h3:(2:Nat)^69<65536^5:=by decide
    omega
   obtain ⟨hda,hdl⟩:=dig_add (n:=5) (bit:=b) (X:=X) (by omega) (by omega) hXd;rw [← hq,← hr] at hda hdl;obtain ⟨X1,hX1⟩:∃ x,x=X+2^b:=⟨_,rfl⟩;obtain ⟨d0,hd0⟩:∃ x,x=(digs 5 X).getD q 0:=⟨_,rfl⟩;obtain ⟨D,hD⟩:∃ x,x=2^r:=⟨_,rfl⟩;rw [← hX1,← hd0,← hD] at hda;rw [← hd0,← hD] at hdl;rw [← hX1] at hnext hX80;have hset1:(wordsV .i64 (digs 5 X)).toArray.setIfInBounds q (.int .i64 ((d0+D:Nat):Int))=(wordsV .i64 (digs 5 X1)).toArray:=by rw [wordsV_set,hda]
   have hset2:(wordsV .i64 (digs 5 X1)).toArray.setIfInBounds q (.int .i64 (d0:Int))=(wordsV .i64 (digs 5 X)).toArray:=by
    rw [wordsV_set,← hda,List.set_set,hd0]
    congr 2
    rw [List.getD_eq_getElem?_getD,List.getElem?_eq_getElem (by rw [digs_length]; exact hq5),Option.getD_some,List.set_getElem_self]
   have hc1:(wordsV .i64 (digs 5 X))[q]?=some (.int .i64 (d0:Int)):=by rw [hd0]; exact wordsV_at (by rw [digs_length]; exact hq5)
   have hc2:(wordsV .i64 (digs 5 X1))[q]?=some (.int .i64 ((d0+D:Nat):Int)):=by
    rw [← hda,wordsV,List.getElem?_map,List.getElem?_set_self (by rw [digs_length]; exact hq5)]; rfl
   have hqb:(b:Int)/16=(q:Int):=by omega
   have hrb:(b:Int)%16=(r:Int):=by omega
   have hDl:D≤32768:=by rw [hD]; exact Nat.pow_le_pow_right (n:=2) (by decide) (show r≤15 by omega)
   have dx:=hst.x.cell q;rw [List.getElem?_toArray,hc1] at dx;have fx:=hst.x.free q;have hd0l:d0+D≤65535:=by omega
   have HX:=zY hX;have HNEXT:=zY hnext;have HX80:=zY hX80;have HX1:=zY hX1;have HSET1:=zY hset1;have HSET2:=zY hset2;have HC2:=zY hc2;have HD:=zY hD;have HST:=zY hst;have HB:=zY hb;have HBN:=zY hbn;have hb0:(0:Int)≤(b:Int):=by omega
   clear hb hbn hX hXl hXd hnext hq hr hX80 hda hdl hX1 hd0 hD hset1 hset2 hc1 hc2 hst hlt hn;go_wp2_with fail
   go_loop [8,9] (fun v i=>∃ j e:Nat,j≤r∧i=.int .i64 j∧e=2^j∧v=.int .i64 e) (fun _ i=>r - (intOf i).toNat)
   case atStart=>exact ⟨0,1,by omega,rfl,rfl,rfl⟩
   case round =>
    obtain ⟨j,e,hj,rfl,he,rfl⟩:=hrel
    by_cases hjr:j<r
    ·have hjr':(j:Int)<(r:Int):=by omega
     have hel:e≤16384:=by rw [he]; exact Nat.pow_le_pow_right (n:=2) (by decide) (show j≤14 by omega)
     have HE:=zY he;clear he;go_wp2_with fail;exact ⟨⟨j+1,2*e,by omega,by go_num,by rw [HE.out,Nat.pow_succ,Nat.mul_comm],by go_num⟩,by simp [intOf]; omega⟩
    ·obtain rfl:j=r:=by omega
     obtain rfl:e=D:=by rw [he,HD.out]
     clear he;go_wp2_with fail;obtain ⟨w2,hw2⟩:∃ x,x=wr.setCell ⟨gx,q,none⟩ (.int .i64 ((d0:Int)+(e:Int))):=⟨_,rfl⟩
     have hst2:RtSt w gt gx TL X1 w2:=by
      rw [hw2];refine HST.out.put (wrote_setCell_at _ _ _ _) ?_;have h:=blk_setCell_at (i:=q) HST.out.x (.int .i64 ((d0+e:Nat):Int));rw [HSET1.out] at h;exact h
     rw [← hw2];have hx2:=Rd.of_blk (B:=w2.heap.size) hst2.x hst2.x.lt;have hm:=mulA_any (digs 5 X1) (digs 5 X1) (digs_lt _ _) (digs_lt _ _) _ _ 5 5 _ _ w2 hx2 hx2 (digs_length _ _) (digs_length _ _) (Nat.le_refl _) (Nat.le_refl _) (Nat.le_refl _) (Nat.le_refl _);refine calls_then hm ?_;rintro e1 w3 ⟨g1,rfl,hg1,hb1,hbel1⟩;rw [dval_digs 5 X1 HX80.out] at hb1;have hst3:=hst2.next hbel1;clear hw2 hst2 hx2 hm hbel1 hg1 dx fx HSET1 HST;have HST3:=zY hst3;have HB1:=zY hb1;clear hst3 hb1;go_wp2_with fail;have hx3:=Rd.of_blk (B:=w3.heap.size) HST3.out.x HST3.out.x.lt;have hm:=mulB_any (digs 10 (X1*X1)) (digs 5 X1) (digs_lt _ _) (digs_lt _ _) _ _ 10 5 _ _ w3 (Rd.of_blk (B:=w3.heap.size) HB1.out HB1.out.lt) hx3 (digs_length _ _) (digs_length _ _) (Nat.le_refl _) (Nat.le_refl _) (Nat.le_refl _) (Nat.le_refl _);refine calls_then hm ?_;rintro e1 w5 ⟨g3,rfl,hg3,hb3,hbel3⟩;rw [dval_digs 5 X1 HX80.out,dval_digs 10 (X1*X1) (by have:=HX80.out; exact Nat.lt_of_lt_of_le (Nat.mul_lt_mul'' this this) (by decide))] at hb3;have hst3:=HST3.out.next hbel3;clear HST3 HB1 hx3 hm hbel3 hg3;obtain ⟨w3,rfl⟩:∃ x,x=w5:=⟨_,rfl⟩;obtain ⟨g1,rfl⟩:∃ x,x=g3:=⟨_,rfl⟩;have hb1:=hb3;clear hb3;have HST3:=zY hst3;have HB1:=zY hb1;clear hst3 hb1;go_wp2_with fail;have hls:=less_any TL (digs 15 (X1*X1*X1)) HTD.out (digs_lt _ _) (some ⟨gt,0,none⟩) (some ⟨g1,0,none⟩) 13 15 w3.heap.size w3.heap.size 13 15 w3 (Rd.of_blk HST3.out.t HST3.out.t.lt) (Rd.of_blk HB1.out HB1.out.lt) HTL.out (digs_length _ _) (by decide) (by decide) (Nat.le_refl _) (Nat.le_refl _);refine calls_then hls ?_;rintro e1 w4 ⟨rfl,rfl⟩;clear hls;have hpw:X1*X1*X1<65536^15:=by have:=HX80.out; exact Nat.lt_of_lt_of_le (Nat.mul_lt_mul'' (Nat.mul_lt_mul'' this this) this) (by decide)
     rw [HTV.out,dval_digs _ _ hpw,show X1*X1*X1=X1^3 by simp [Nat.pow_succ]];clear hpw;have dx2:=HST3.out.x.cell q;rw [List.getElem?_toArray,HC2.out] at dx2;have fx2:=HST3.out.x.free q
     by_cases hmo:p*65536^12<X1^3
     ·rw [decide_eq_true hmo]
      have hfin:RtSt w gt gx TL (rootX p 3 (n+1)) (w3.setCell ⟨gx,q,none⟩ (.int .i64 (d0:Int))):=by
       rw [HNEXT.out,if_pos hmo];refine HST3.out.put (wrote_setCell_at _ _ _ _) ?_;have h:=blk_setCell_at (i:=q) HST3.out.x (.int .i64 (d0:Int));rw [HSET2.out] at h;exact h
      have HFIN:=zY hfin;clear hfin hmo;go_wp2_with fail;have:=HBN.out;exact ⟨⟨n+1,by omega,congrArg (Value.int .i64) (by omega),HFIN.out⟩,by simp [intOf]⟩
     ·rw [decide_eq_false hmo]
      have hfin:RtSt w gt gx TL (rootX p 3 (n+1)) w3:=by
       rw [HNEXT.out,if_neg hmo];exact HST3.out
      have HFIN:=zY hfin;clear hfin hmo;go_wp2_with fail;have:=HBN.out;exact ⟨⟨n+1,by omega,congrArg (Value.int .i64) (by omega),HFIN.out⟩,by simp [intOf]⟩
  ·obtain rfl:n=69:=by omega
   rw [show (68 - ((69:Nat):Int))=-1 from rfl];obtain ⟨X,hX⟩:∃ x,x=rootX p 3 69:=⟨_,rfl⟩;rw [← hX] at hst
   have hXl:X<65536^5:=by
    have:=rootX_lt p 3 69 (Nat.le_refl _);rw [← hX] at this;have h3:(2:Nat)^69<65536^5:=by decide
    omega
   have hgd:∀ i,(digs 5 X).getD i 0=X/65536^i%65536:=fun i=>by rw [getD_dig _ _ (digs_lt _ _),dval_digs 5 X hXl]
   have hws:∀ i,i<5→(wordsV .i64 (digs 5 X))[i]?=some (.int .i64 ((X/65536^i%65536:Nat):Int)):=fun i hi=>by rw [wordsV_at (by rw [digs_length]; exact hi),hgd]
   obtain ⟨x0,h0⟩:∃ x,x=X%65536:=⟨_,rfl⟩;obtain ⟨x1,h1⟩:∃ x,x=X/65536%65536:=⟨_,rfl⟩;obtain ⟨x2,h2⟩:∃ x,x=X/4294967296%65536:=⟨_,rfl⟩;obtain ⟨x3,h3⟩:∃ x,x=X/281474976710656%65536:=⟨_,rfl⟩;have E0:Hid ((wordsV .i64 (digs 5 X))[0]?=some (.int .i64 (x0:Int))):=zY (by rw [hws 0 (by decide),h0] <;> simp);have E1:Hid ((wordsV .i64 (digs 5 X))[1]?=some (.int .i64 (x1:Int))):=zY (by rw [hws 1 (by decide),h1] <;> simp);have E2:Hid ((wordsV .i64 (digs 5 X))[2]?=some (.int .i64 (x2:Int))):=zY (by rw [hws 2 (by decide),h2]);have E3:Hid ((wordsV .i64 (digs 5 X))[3]?=some (.int .i64 (x3:Int))):=zY (by rw [hws 3 (by decide),h3])
   have hv:x0+x1*65536+x2*4294967296+x3*281474976710656=rootN p 3:=by
    rw [rootN,← hX,h0,h1,h2,h3];omega
   have l0:(x0:Int)<65536:=by omega
   have l1:(x1:Int)<65536:=by omega
   have l2:(x2:Int)<65536:=by omega
   have l3:(x3:Int)<65536:=by omega
   have HV:=zY hv;have HC0:=hst.drew;clear hX hXl hgd hws h0 h1 h2 h3 hv hst hlt hn;go_wp2_with fail;refine wp_region_det (fun u=>RtSt w gt gx TL X u) (fun u=>RtSt w gt gx TL X u) [(0,some 67),(1,some 68),(2,some 69),(3,some 70),(4,some 71),(5,some 72),(6,some 73),(7,some 74),(8,some 75),(9,some 76),(10,some 77),(11,some 78),(12,some 79),(13,some 80),(14,some 81),(15,some 82),(16,some 83),(17,some 84),(18,some 85),(19,some 86),(20,some 87),(21,some 88),(22,some 4)] (by kernel_rfl) (by kernel_rfl) (by decide) (by kernel_rfl) (fun _=>rfl) HC0 ?_;apply DetL.next
   ·apply dP [];exact fun _=>rfl;rfl;rintro vals - w1 hC1 E hE;simp only [sP] at hE ⊢;go_wp2;exact .mk (hE _ hC1)
   apply DetL.next
   ·apply dP [(0,some 67)];exact fun _=>rfl;rfl;rintro vals ⟨-,f0⟩ w1 hC1 E hE;simp only [sP,f0] at hE ⊢;clear f0;go_wp2;exact .mk (hE _ hC1)
   apply DetL.next
   ·apply dP [(1,some 68)];exact fun _=>rfl;rfl;rintro vals ⟨⟨-,-⟩,f1⟩ w1 hC1 E hE;have d0:=hC1.x.cell 0;rw [List.getElem?_toArray,E0.out] at d0;simp only [sP,f1] at hE ⊢;clear f1;go_wp2;exact .mk (hE _ hC1)
   apply DetL.next
   ·apply dP [(2,some 69)];exact fun _=>rfl;rfl;intro vals vq w1 hC1 E hE;have f2:=vq.2;clear vq;simp only [sP,f2] at hE ⊢;clear f2;go_wp2;exact .mk (hE _ hC1)
   apply DetL.next
   ·apply dP [];exact fun _=>rfl;rfl;intro vals vq w1 hC1 E hE;clear vq;simp only [sP] at hE ⊢;go_wp2;exact .mk (hE _ hC1)
   apply DetL.next
   ·apply dP [(4,some 71)];exact fun _=>rfl;rfl;intro vals vq w1 hC1 E hE;have f4:=vq.2;clear vq;simp only [sP,f4] at hE ⊢;clear f4;go_wp2;exact .mk (hE _ hC1)
   apply DetL.next
   ·apply dP [(5,some 72)];exact fun _=>rfl;rfl;intro vals vq w1 hC1 E hE;have f5:=vq.2;clear vq;have d0:=hC1.x.cell 1;rw [List.getElem?_toArray,E1.out] at d0;simp only [sP,f5] at hE ⊢;clear f5;go_wp2;exact .mk (hE _ hC1)
   apply DetL.next
   ·apply dP [(6,some 73)];exact fun _=>rfl;rfl;intro vals vq w1 hC1 E hE;have f6:=vq.2;clear vq;simp only [sP,f6] at hE ⊢;clear f6;go_wp2;exact .mk (hE _ hC1)
   apply DetL.next
   ·apply dP [(7,some 74)];exact fun _=>rfl;rfl;intro vals vq w1 hC1 E hE;have f7:=vq.2;clear vq;simp only [sP,f7] at hE ⊢;clear f7;go_wp2;exact .mk (hE _ hC1)
   apply DetL.next
   ·apply dP [(3,some 70),(8,some 75)];exact fun _=>rfl;rfl;intro vals vq w1 hC1 E hE;have f3:=vq.1.1.1.1.1.2;have f8:=vq.2;clear vq;simp only [sP,f3,f8] at hE ⊢;clear f3 f8;go_wp2;exact .mk (hE _ hC1)
   apply DetL.next
   ·apply dP [];exact fun _=>rfl;rfl;intro vals vq w1 hC1 E hE;clear vq;simp only [sP] at hE ⊢;go_wp2;exact .mk (hE _ hC1)
   apply DetL.next
   ·apply dP [(10,some 77)];exact fun _=>rfl;rfl;intro vals vq w1 hC1 E hE;have f10:=vq.2;clear vq;simp only [sP,f10] at hE ⊢;clear f10;go_wp2;exact .mk (hE _ hC1)
   apply DetL.next
   ·apply dP [(11,some 78)];exact fun _=>rfl;rfl;intro vals vq w1 hC1 E hE;have f11:=vq.2;clear vq;have d0:=hC1.x.cell 2;rw [List.getElem?_toArray,E2.out] at d0;simp only [sP,f11] at hE ⊢;clear f11;go_wp2;exact .mk (hE _ hC1)
   apply DetL.next
   ·apply dP [(12,some 79)];exact fun _=>rfl;rfl;intro vals vq w1 hC1 E hE;have f12:=vq.2;clear vq;simp only [sP,f12] at hE ⊢;clear f12;go_wp2;exact .mk (hE _ hC1)
   apply DetL.next
   ·apply dP [(13,some 80)];exact fun _=>rfl;rfl;intro vals vq w1 hC1 E hE;have f13:=vq.2;clear vq;simp only [sP,f13] at hE ⊢;clear f13;go_wp2;exact .mk (hE _ hC1)
   apply DetL.next
   ·apply dP [(9,some 76),(14,some 81)];exact fun _=>rfl;rfl;intro vals vq w1 hC1 E hE;have f9:=vq.1.1.1.1.1.2;have f14:=vq.2;clear vq;simp only [sP,f9,f14] at hE ⊢;clear f9 f14;go_wp2;exact .mk (hE _ hC1)
   apply DetL.next
   ·apply dP [];exact fun _=>rfl;rfl;intro vals vq w1 hC1 E hE;clear vq;simp only [sP] at hE ⊢;go_wp2;exact .mk (hE _ hC1)
   apply DetL.next
   ·apply dP [(16,some 83)];exact fun _=>rfl;rfl;intro vals vq w1 hC1 E hE;have f16:=vq.2;clear vq;simp only [sP,f16] at hE ⊢;clear f16;go_wp2;exact .mk (hE _ hC1)
   apply DetL.next
   ·apply dP [(17,some 84)];exact fun _=>rfl;rfl;intro vals vq w1 hC1 E hE;have f17:=vq.2;clear vq;have d0:=hC1.x.cell 3;rw [List.getElem?_toArray,E3.out] at d0;simp only [sP,f17] at hE ⊢;clear f17;go_wp2;exact .mk (hE _ hC1)
   apply DetL.next
   ·apply dP [(18,some 85)];exact fun _=>rfl;rfl;intro vals vq w1 hC1 E hE;have f18:=vq.2;clear vq;simp only [sP,f18] at hE ⊢;clear f18;go_wp2;exact .mk (hE _ hC1)
   apply DetL.next
   ·apply dP [(19,some 86)];exact fun _=>rfl;rfl;intro vals vq w1 hC1 E hE;have f19:=vq.2;clear vq;simp only [sP,f19] at hE ⊢;clear f19;go_wp2;exact .mk (hE _ hC1)
   apply DetL.next
   ·apply dP [(15,some 82),(20,some 87)];exact fun _=>rfl;rfl;intro vals vq w1 hC1 E hE;have f15:=vq.1.1.1.1.1.2;have f20:=vq.2;clear vq;simp only [sP,f15,f20] at hE ⊢;clear f15 f20;go_wp2;exact .mk (hE _ hC1)
   apply DetL.last
   ·apply dP [(21,some 88),(0,some 67),(1,some 68),(2,some 69),(3,some 70),(4,some 71),(5,some 72),(6,some 73),(7,some 74),(8,some 75),(9,some 76),(10,some 77),(11,some 78),(12,some 79),(13,some 80),(14,some 81),(15,some 82),(16,some 83),(17,some 84),(18,some 85),(19,some 86),(20,some 87),(21,some 88)];exact fun _=>rfl;rfl;rintro vals ⟨⟨⟨⟨⟨⟨⟨⟨⟨⟨⟨⟨⟨⟨⟨⟨⟨⟨⟨⟨⟨⟨-,f0⟩,f1⟩,f2⟩,f3⟩,f4⟩,f5⟩,f6⟩,f7⟩,f8⟩,f9⟩,f10⟩,f11⟩,f12⟩,f13⟩,f14⟩,f15⟩,f16⟩,f17⟩,f18⟩,f19⟩,f20⟩,f21⟩ w1 hC1 E hE;simp only [sP,f0,f1,f2,f3,f4,f5,f6,f7,f8,f9,f10,f11,f12,f13,f14,f15,f16,f17,f18,f19,f20,f21] at hE ⊢;clear f0 f1 f2 f3 f4 f5 f6 f7 f8 f9 f10 f11 f12 f13 f14 f15 f16 f17 f18 f19 f20 f21;go_wp2;exact .mk (hE _ hC1)
   rintro vals ⟨⟨⟨⟨⟨⟨⟨⟨⟨⟨⟨⟨⟨⟨⟨⟨⟨⟨⟨⟨⟨⟨⟨-,f0⟩,f1⟩,f2⟩,f3⟩,f4⟩,f5⟩,f6⟩,f7⟩,f8⟩,f9⟩,f10⟩,f11⟩,f12⟩,f13⟩,f14⟩,f15⟩,f16⟩,f17⟩,f18⟩,f19⟩,f20⟩,f21⟩,f22⟩ w1 hC1;simp only [sP,f0,f1,f2,f3,f4,f5,f6,f7,f8,f9,f10,f11,f12,f13,f14,f15,f16,f17,f18,f19,f20,f21,f22];clear f0 f1 f2 f3 f4 f5 f6 f7 f8 f9 f10 f11 f12 f13 f14 f15 f16 f17 f18 f19 f20 f21 f22;clear HC0;go_wp2_with fail;go_ret;exact ⟨ret_int' (by rw [← HV.out]; omega),by rw [← HGT.out]; exact hC1.bel⟩
end Go.Proofs.YtdgheahbafnboaaDoor.Sh
/-
  The state while the reference's Of makes its H.
-/
namespace Go.Proofs.YtdgheahbafnboaaDoor.Sh
set_option linter.unusedSimpArgs false
set_option linter.unusedVariables false
open Go.RowKit
theorem own_ne_own {w:World} {B1 B2 n1 n2 s1 s2:Nat} {e1 e2:TypeId} {v1 v2:Value} {x1 x2:List Value} (h1:OwnX w B1 e1 s1 v1 n1 x1) (h2:OwnX w B2 e2 s2 v2 n2 x2) (hne:e1≠e2):v1.ownBlock=none∨v1.ownBlock≠v2.ownBlock:=by
 rcases h1.2 with ⟨rfl,_⟩ | ⟨g,cap,cur,fz,rfl,_,hg,_⟩
 ·exact .inl rfl
 ·refine .inr fun e=>?_;have e2':v2.ownBlock=some g:=e.symm
  rcases h2.2 with ⟨rfl,_⟩ | ⟨g',cap',cur',fz',rfl,_,hg',_⟩
  ·simp [Value.ownBlock] at e2'
  ·simp [Value.ownBlock] at e2';subst e2';rw [hg] at hg';simp at hg';exact hne hg'.2.1
theorem slu_size:(Tryd.prog.info? 99).map (·.size)=some 1:=by kernel_rfl
structure OfG where
 g0:Nat
 gh:Nat
 ga:Nat
 gb:Nat
 gc:Nat
 gd:Nat
structure OfSt (w0:World) (G:OfG) (F:ShaF) (z:Array Value) (vP:Value) (cs:Array Value) (vK:Value) (kl:List Nat) (vF:Value) (fl:List Nat) (u:World):Prop where
 bel:Below G.g0 w0 u
 res:Blk u G.g0 101 z
 h:Blk u G.gh 101 cs
 a:Blk u G.ga 3 (tri F.s0).toArray
 b:Blk u G.gb 3 (tri F.s1).toArray
 c:Blk u G.gc 3 (tri F.t0).toArray
 d:Blk u G.gd 3 (tri F.t1).toArray
 p:OwnX u G.g0 3 1 vP 80 (wordsV .i64 primes80)
 k:OwnX u G.g0 36 1 vK kl.length (wordsV .u64 kl)
 f:OwnX u G.g0 36 1 vF fl.length (wordsV .u64 fl)
 ne:vF.ownBlock=none∨vF.ownBlock≠vK.ownBlock
 lt:G.g0<G.gh
section
variable {w0 u u':World} {G:OfG} {F:ShaF} {z cs cs':Array Value} {vP vK vF v':Value} {kl fl:List Nat}
theorem OfSt.next (h:OfSt w0 G F z vP cs vK kl vF fl u) (hb:Below u.heap.size u u'):OfSt w0 G F z vP cs vK kl vF fl u' :=
 ⟨h.bel.trans (hb.mono (by have:=h.res.lt; omega)),h.res.below hb h.res.lt,h.h.below hb h.h.lt,h.a.below hb h.a.lt,h.b.below hb h.b.lt,h.c.below hb h.c.lt,h.d.below hb h.d.lt,
  h.p.below hb (Nat.le_refl _),h.k.below hb (Nat.le_refl _),h.f.below hb (Nat.le_refl _),h.ne,h.lt⟩
theorem OfSt.drew (h:OfSt w0 G F z vP cs vK kl vF fl u):OfSt w0 G F z vP cs vK kl vF fl u.drew:=h.next (Below.refl _ _).drew
theorem OfSt.put (h:OfSt w0 G F z vP cs vK kl vF fl u) (hw:Wrote G.gh u u') (hb:Blk u' G.gh 101 cs') (hd:G.ga≠G.gh∧G.gb≠G.gh∧G.gc≠G.gh∧G.gd≠G.gh):OfSt w0 G F z vP cs' vK kl vF fl u' :=
 ⟨hw.below h.bel (Nat.le_of_lt h.lt) (by have:=h.res.lt; omega),hw.blk h.res (Nat.ne_of_lt h.lt),hb,hw.blk h.a hd.1,hw.blk h.b hd.2.1,hw.blk h.c hd.2.2.1,hw.blk h.d hd.2.2.2,
  hw.own h.p (own_ne_blk h.p h.h (by decide)),hw.own h.k (own_ne_blk h.k h.h (by decide)),hw.own h.f (own_ne_blk h.f h.h (by decide)),h.ne,h.lt⟩
theorem ne_some {g:Nat} {o:Option Nat} (h:o≠some g):some g≠o:=fun e=>h e.symm
theorem OfSt.appK {x:Nat} (h:OfSt w0 G F z vP cs vK kl vF fl u) (ho:OwnX u' G.g0 36 1 v' (kl.length+1) (wordsV .u64 kl++[.int .u64 (x:Int)])) (hg:u.grownBy u' vK.ownBlock) (hn:vF.ownBlock=none):OfSt w0 G F z vP cs v' (kl++[x]) vF fl u' :=
 ⟨h.bel.grown hg (by have:=h.res.lt; omega) (fun k hk=>(h.k.lt k hk).1),h.res.grown hg (ne_some (own_ne_blk h.k h.res (by decide))),h.h.grown hg (ne_some (own_ne_blk h.k h.h (by decide))),h.a.grown hg (ne_some (own_ne_blk h.k h.a (by decide))),h.b.grown hg (ne_some (own_ne_blk h.k h.b (by decide))),
  h.c.grown hg (ne_some (own_ne_blk h.k h.c (by decide))),h.d.grown hg (ne_some (own_ne_blk h.k h.d (by decide))),h.p.kept hg (own_ne_own h.p h.k (by decide)),by rw [List.length_append,wordsV_snoc]; exact ho,h.f.kept hg (.inl hn),.inl hn,h.lt⟩
theorem OfSt.appF {x:Nat} (h:OfSt w0 G F z vP cs vK kl vF fl u) (ho:OwnX u' G.g0 36 1 v' (fl.length+1) (wordsV .u64 fl++[.int .u64 (x:Int)])) (hg:u.grownBy u' vF.ownBlock) (hn:Next u vF v'):OfSt w0 G F z vP cs vK kl v' (fl++[x]) u':=by
 refine ⟨h.bel.grown hg (by have:=h.res.lt; omega) (fun k hk=>(h.f.lt k hk).1),h.res.grown hg (ne_some (own_ne_blk h.f h.res (by decide))),h.h.grown hg (ne_some (own_ne_blk h.f h.h (by decide))),h.a.grown hg (ne_some (own_ne_blk h.f h.a (by decide))),h.b.grown hg (ne_some (own_ne_blk h.f h.b (by decide))),
  h.c.grown hg (ne_some (own_ne_blk h.f h.c (by decide))),h.d.grown hg (ne_some (own_ne_blk h.f h.d (by decide))),h.p.kept hg (own_ne_own h.p h.f (by decide)),h.k.kept hg ?_,by rw [List.length_append,wordsV_snoc]; exact ho,?_,h.lt⟩
 ·rcases h.ne with h1 | h1
  ·rw [h1]
   cases vK.ownBlock with
   | none=>exact .inl rfl
   | some k=>exact .inr (by simp)
  ·exact .inr (Ne.symm h1)
 ·rcases hn with h1 | h1
  ·rw [h1]; exact h.ne
  ·cases ho2:v'.ownBlock with
   | none=>exact .inl rfl
   | some k =>
    have h2:=h1 k ho2;refine .inr fun e=>?_;have:=(h.k.lt k e.symm).2;omega
end
def OfPost (F:ShaF) (w:World) (e:Ending) (w':World):Prop :=
 ∃ p:HP,e=.returned (.agg (hv F p))∧HOk F p w' w'.heap.size∧Below w.heap.size w w'
theorem prime_lt (i:Nat) (h:i<80):primes80.getD i 0<65536:=by
 have hm:primes80.getD i 0 ∈ primes80:=by
  rw [List.getD_eq_getElem?_getD,List.getElem?_eq_getElem (show i<primes80.length from h)]; exact List.getElem_mem _
 have:=(List.all_eq_true.1 primes_lt) _ hm;rw [decide_eq_true_eq] at this;exact this.2
end Go.Proofs.YtdgheahbafnboaaDoor.Sh
/-
  The state while the reference makes a digest.
-/
namespace Go.Proofs.YtdgheahbafnboaaDoor.Sh
set_option linter.unusedSimpArgs false
set_option linter.unusedVariables false
open Go.RowKit
structure HsSt (w0:World) (gf:Nat) (F:ShaF) (p:HP) (dA:Option Addr) (data:List UInt8) (u:World):Prop where
 bel:Below gf w0 u
 h:Blk u gf 101 (hv F p)
 ok:HOk F p u gf
 rd:Rd u gf dA (bytesV data)
structure HsA (w0:World) (gf:Nat) (F:ShaF) (p:HP) (dA:Option Addr) (data:List UInt8) (v:Value) (xs:List UInt8) (u:World):Prop where
 st:HsSt w0 gf F p dA data u
 own:OwnX u (gf+1) 5 1 v xs.length (bytesV xs)
structure HsB (w0:World) (gf:Nat) (F:ShaF) (p:HP) (dA:Option Addr) (data:List UInt8) (v:Value) (xs:List UInt8) (A:Option Addr) (c:Nat) (V:S8) (u:World):Prop where
 a:HsA w0 gf F p dA data v xs u
 s:OwnX u (gf+1) 36 1 (.slice A 8 c) 8 (wordsV .u64 (s8L V))
section
variable {w0 u u':World} {gf:Nat} {F:ShaF} {p:HP} {dA A A':Option Addr} {data xs ys:List UInt8} {v v':Value} {c c':Nat} {V V':S8}
theorem HsSt.keep (h:HsSt w0 gf F p dA data u) (hb:Below (gf+1) u u'):HsSt w0 gf F p dA data u' :=
 ⟨h.bel.trans (hb.mono (by omega)),h.h.below hb (by omega),h.ok.below (hb.mono (by omega)),h.rd.below (hb.mono (by omega))⟩
theorem HsSt.next (h:HsSt w0 gf F p dA data u) (hb:Below u.heap.size u u'):HsSt w0 gf F p dA data u':=h.keep (hb.mono (by have:=h.h.lt; omega))
theorem HsSt.grow {e:TypeId} {s n:Nat} {v:Value} {zs:List Value} (h:HsSt w0 gf F p dA data u) (ho:OwnX u (gf+1) e s v n zs) (hg:u.grownBy u' v.ownBlock):HsSt w0 gf F p dA data u' :=
 h.keep (below_of_grown hg (by have:=h.h.lt; omega) (fun k hk=>(ho.lt k hk).1))
theorem HsA.next (h:HsA w0 gf F p dA data v xs u) (hb:Below u.heap.size u u'):HsA w0 gf F p dA data v xs u':=⟨h.st.next hb,h.own.below hb (Nat.le_refl _)⟩
theorem HsA.drew (h:HsA w0 gf F p dA data v xs u):HsA w0 gf F p dA data v xs u.drew:=h.next (Below.refl _ _).drew
theorem HsA.app (h:HsA w0 gf F p dA data v xs u) (hg:u.grownBy u' v.ownBlock) (ho:OwnX u' (gf+1) 5 1 v' ys.length (bytesV ys)):HsA w0 gf F p dA data v' ys u':=⟨h.st.grow h.own hg,ho⟩
theorem HsB.next (h:HsB w0 gf F p dA data v xs A c V u) (hb:Below u.heap.size u u'):HsB w0 gf F p dA data v xs A c V u':=⟨h.a.next hb,h.s.below hb (Nat.le_refl _)⟩
theorem HsB.drew (h:HsB w0 gf F p dA data v xs A c V u):HsB w0 gf F p dA data v xs A c V u.drew:=h.next (Below.refl _ _).drew
theorem HsB.app (h:HsB w0 gf F p dA data v xs A c V u) (hg:u.grownBy u' v.ownBlock) (ho:OwnX u' (gf+1) 5 1 v' ys.length (bytesV ys)):HsB w0 gf F p dA data v' ys A c V u' :=
 ⟨h.a.app hg ho,h.s.kept hg (own_ne_own h.s h.a.own (by decide))⟩
end
def zeroR (F:ShaF) (n:Nat):Nat:=(2*F.bits - (n+1+F.bits/4)%(2*F.bits))%(2*F.bits)
def lenB (F:ShaF) (n:Nat):List UInt8:=List.replicate (F.bits/4 - 8) 0++be8 (n*8) 8
theorem oneZ_len (data:List UInt8) (k:Nat):(oneZ data k).length=data.length+1+k:=oneZ_length data k
theorem padR32 (data:List UInt8) (_:data.length≤1000):oneZ data (zeroR F32 data.length)++lenB F32 data.length=padS F32 data:=by
 have h:zeroR F32 data.length=zeroN F32 data.length:=by simp only [zeroR,zeroN,F32]; omega
 simp [padS,lenB,oneZ,moreN,F32] at *;rw [h]
theorem padR64 (data:List UInt8) (_:data.length≤1000):oneZ data (zeroR F64 data.length)++lenB F64 data.length=padS F64 data:=by
 have h:zeroR F64 data.length+8=zeroN F64 data.length+moreN F64 data.length:=by
  by_cases hm:112≤data.length%128∧data.length%128<120
  ·have e:moreN F64 data.length=128:=if_pos (show _∧_∧_ from ⟨by decide,hm.1,hm.2⟩);rw [e]; simp only [zeroR,zeroN,F64]; omega
  ·have e:moreN F64 data.length=0:=if_neg (fun h=>hm ⟨h.2.1,h.2.2⟩);rw [e]; simp only [zeroR,zeroN,F64]; omega
 have h2:List.replicate (zeroR F64 data.length) (0:UInt8)++List.replicate 8 0=List.replicate (zeroN F64 data.length) 0++List.replicate (moreN F64 data.length) 0:=by
  rw [List.replicate_append_replicate,List.replicate_append_replicate,h]
 rw [padS,lenB,oneZ];simp only [List.append_assoc];rw [show F64.bits/4 - 8=8 from rfl,← List.append_assoc (List.replicate (zeroR F64 data.length) 0),h2];simp only [List.append_assoc]
theorem be8_get (n:Nat):∀ (k i:Nat),i<k→(be8 n k)[i]?=some (UInt8.ofNat (n/2^(56 - 8*i)))
 | k+1,i,h=>by
  rw [be8,List.getElem?_append,be8_length]
  split
  ·rename_i h2; exact be8_get n k i h2
  ·obtain rfl:i=k:=by omega
   simp
theorem lenB32_get (n i j:Nat) (h:i+j+1=8):(bytesV (lenB F32 n))[i]?=some (.int .u8 ((n*8/256^j%256:Nat):Int)):=by
 have e:lenB F32 n=be8 (n*8) 8:=rfl;rw [e,bytesV,List.getElem?_map,be8_get _ _ _ (by omega),show 56 - 8*i=8*j by omega,Nat.pow_mul];simp [byteV]
theorem lenB64_get (n i j:Nat) (hn:n≤1000) (h:i+j+1=16):(bytesV (lenB F64 n))[i]?=some (.int .u8 ((n*8/256^j%256:Nat):Int)):=by
 have e:lenB F64 n=List.replicate 8 0++be8 (n*8) 8:=rfl;rw [e,bytesV,List.getElem?_map,List.getElem?_append,List.length_replicate]
 split
 ·rename_i h8
  rw [List.getElem?_replicate,if_pos h8];have:n*8/256^j=0:=Nat.div_eq_of_lt (Nat.lt_of_lt_of_le (show n*8<256^8 by omega) (Nat.pow_le_pow_right (by decide) (by omega)));rw [this]; rfl
 ·rw [be8_get _ _ _ (by omega),show 56 - 8*(i - 8)=8*j by omega,Nat.pow_mul];simp [byteV]
theorem backC_set_app (e:Nat) (ws:List UInt8) (j i:Nat) (v:Value) (R:Array Value) (hw:ws.length=e) (hi:i+j+1=e) (hv:(bytesV ws)[i]?=some v):(backC e ws j++R).setIfInBounds i v=backC e ws (j+1)++R:=by
 rw [← backC_set e ws j i v hw hi hv];apply Array.ext';rw [Array.toList_setIfInBounds,Array.toList_append,Array.toList_append,Array.toList_setIfInBounds,List.set_append_left];rw [Array.length_toList,backC_size e ws j hw (by omega)]; omega
theorem backC_app_get (e:Nat) (ws:List UInt8) (j i:Nat) (R:Array Value) (hw:ws.length=e) (hi:i+j+1=e):∃ v,(backC e ws j++R)[i]?=some v:=by
 have h:=backC_size e ws j hw (by omega);refine ⟨_,Array.getElem?_eq_getElem (by rw [Array.size_append,h]; omega)⟩
theorem own_blk {w:World} {base e n c:Nat} {A:Option Addr} {xs:List Value} (h:w.ownsRow base e 1 (.slice A n c) n xs) (hn:0<n):∃ g R,A=some ⟨g,0,none⟩∧base≤g∧n≤c∧Blk w g e (xs.toArray++R):=by
 rcases h.2 with ⟨_,h0⟩ | ⟨g,cap,cur,hv,hb,hg,hnc,_,_,ht⟩
 ·omega
 ·injection hv with h1 _ h3
  subst h1; subst h3;refine ⟨g,(cur.toList.drop n).toArray,rfl,hb,hnc,?_⟩
  have:xs.toArray++(cur.toList.drop n).toArray=cur:=by
   apply Array.ext';rw [Array.toList_append,← ht,Nat.mul_one];simp
  rw [this]; exact hg
theorem _root_.Go.Proofs.YtdgheahbafnboaaDoor.Rd.of_blk_app {w:World} {g B:Nat} {t:TypeId} {l:List Value} {R:Array Value} (h:Blk w g t (l.toArray++R)) (hB:g<B):Rd w B (some ⟨g,0,none⟩) l:=fun i u hu=>by
 refine ⟨_,rfl,hB,?_⟩;have hadd:(⟨g,0,none⟩:Addr).add i=⟨g,i,none⟩:=by unfold Addr.add; split <;> simp_all
 have hlt:=(List.getElem?_eq_some_iff.1 hu).1;rw [hadd,h.cell i,Array.getElem?_append_left (by simpa using hlt)]
 simpa using hu
def HSumPost (F:ShaF) (m:Nat) (data:List UInt8) (w:World) (e:Ending) (w':World):Prop :=
 ∃ A c,e=.returned (.slice A m c)∧OwnX w' w.heap.size 5 1 (.slice A m c) m (bytesV (digS F data))∧Below w.heap.size w w'
end Go.Proofs.YtdgheahbafnboaaDoor.Sh
/-
  Walk: the reference's block, words of 64 bits.
-/
namespace Go.Proofs.YtdgheahbafnboaaDoor.Sh
set_option linter.unusedSimpArgs false
set_option linter.unusedVariables false
open Go.RowKit
set_option maxRecDepth 100000 in
set_option maxHeartbeats 4000000 in
theorem block64_any (p:HP) (S:S8) (blk:List UInt8) (bA sA:Option Addr) (bc sc B:Nat) (w:World) (hok:HOk F64 p w B) (hB:B≤w.heap.size) (hrb:Rd w B bA (bytesV blk)) (hrs:Rd w B sA (wordsV .u64 (s8L S)))
  (hbl:blk.length=128) (hbc:blk.length≤bc) (hsc:8≤sc) (hS:S.Lt (2^64)) :
  Calls Tryd.prog 99 #[.agg (hv F64 p),.slice sA 8 sc,.slice bA blk.length bc] w (BlockPost F64 S blk w):=by
 obtain ⟨W0,hW0⟩:∃ W0,W0=w.alloc (.cells (hv F64 p) 101):=⟨_,rfl⟩
 have hst:BkSt w w.heap.size F64 p bA blk sA S W0:=by
  have hb:=below_new w (.cells (hv F64 p) 101);rw [hW0]; exact ⟨hb,Blk.new _ _ _,(hok.mono hB).below hb,(hrb.mono hB).below hb,(hrs.mono hB).below hb⟩
 obtain ⟨sad,rfl,hz1,hz2⟩:=hrs.at_ (k:=0) (by simp [wordsV,s8L]);obtain ⟨bad,rfl,hz3,hz4⟩:=hrb.at_ (k:=0) (by rw [bytesV_length,hbl]; decide);clear hz1 hz2 hz3 hz4;have hst0:=hst;rw [hW0] at hst0;have HST:=zY hst0;have HBL:=zY hbl;have HS:=zY hS;have hbc2:128≤bc:=by omega
 rw [hbl];obtain ⟨hh,hhh⟩:∃ hh,hh=hv F64 p:=⟨_,rfl⟩;obtain ⟨gf,hgf⟩:∃ gf,gf=w.heap.size:=⟨_,rfl⟩;have c0:=hst.h.cell 0;have c1:=hst.h.cell 1;rw [hW0,← hgf] at c0 c1;simp only [hv,hC,List.getElem?_toArray,List.getElem?_cons_zero,List.getElem?_cons_succ] at c0 c1;rw [← hgf] at hst0;clear HST;have HST:=zY hst0;have HH:=zY hhh;have HGF:=zY hgf;clear hst hst0 hbl hS hok hB hrb hrs hbc hW0 hhh hgf W0 c0 c1;go_enter Tryd.func99,Tryd.ntmps99;go_wp2;rw [show w.heap.size=gf from HGF.out.symm];have hst0:=HST.out;have hown0:OwnX (w.alloc (.cells (hv F64 p) 101)) (gf+1) 36 1 (.slice none 0 0) 0 (wordsV .u64 (rowW F64 blk 0)):=OwnX.nil _ _ _ _;clear HST
 go_loopw [7,8] (fun v i wr=>∃ (t:Nat) (A:Option Addr) (c:Nat),t≤16∧i=.int .i64 t∧v=.slice A t c∧BkSt w gf F64 p (some bad) blk (some sad) S wr∧OwnX wr (gf+1) 36 1 (.slice A t c) t (wordsV .u64 (rowW F64 blk t))) (fun _ i _=>16 - (intOf i).toNat)
 case atStart=>exact ⟨0,none,0,by omega,rfl,rfl,hst0,hown0⟩
 case round =>
  obtain ⟨t,A,c,ht,rfl,rfl,hst,hown⟩:=hrel;clear hst0 hown0;have c0:=hst.h.cell 0;simp only [hv,hC,List.getElem?_toArray,List.getElem?_cons_zero,F64] at c0
  by_cases hlt:t<16
  ·have hlt':(t:Int)<16:=by omega
   obtain ⟨tE,htE⟩:∃ tE:Nat,tE=t*8:=⟨_,rfl⟩;have hq:(t:Int)*64/8=(tE:Int):=by omega
   obtain ⟨pc,hpc⟩:∃ x,x=(blk.drop tE).take 8:=⟨_,rfl⟩;have hpl:pc.length=8:=by rw [hpc]; simp; rw [HBL.out]; omega
   have hrp:∀ u,BkSt w gf F64 p (some bad) blk (some sad) S u→∀ j z,pc[j]?=some z→u.cell? (bad.add (tE+j))=some (.int .u8 (z.toNat:Int)):=fun u hu j z hz=>by
    refine hu.rb.val ?_;rw [hpc,List.getElem?_take] at hz
    split at hz
    ·rw [List.getElem?_drop] at hz;rw [bytesV,List.getElem?_map,hz]; rfl
    ·cases hz
   have HST:=zY hst;have HOWN:=zY hown;have HPC:=zY hpc;have HPL:=zY hpl;have HRP:=zY hrp;have HTE:=zY htE;have htE2:tE≤128 - 8:=by omega
   clear hst hown hpc hpl hrp htE;go_wp2_with fail;obtain ⟨wo,rfl⟩:∃ wo:World,wo=wr:=⟨_,rfl⟩
   go_loop [9,10] (fun v i=>∃ j:Nat,j≤8∧i=.int .i64 j∧v=.int .u64 (beN (pc.take j):Nat)) (fun _ i=>8 - (intOf i).toNat)
   case atStart=>exact ⟨0,by omega,rfl,rfl⟩
   case round =>
    obtain ⟨j,hj,rfl,rfl⟩:=hrel;obtain ⟨x,hx⟩:∃ x,x=beN (pc.take j):=⟨_,rfl⟩;rw [← hx]
    by_cases hjl:j<8
    ·have hjl':(j:Int)<8:=by omega
     have hpj:j<pc.length:=by rw [HPL.out]; exact hjl
     obtain ⟨z,hz⟩:∃ z,z=pc[j]:=⟨_,rfl⟩;have hcl:=HRP.out _ HST.out j z (by rw [hz]; exact List.getElem?_eq_getElem hpj);have hzl:=z.toNat_lt
     have hxl:x<256^(8 - 1):=by
      rw [hx];have h1:=beN_lt (pc.take j);have h2:(pc.take j).length≤j:=List.length_take_le _ _;exact Nat.lt_of_lt_of_le h1 (Nat.pow_le_pow_right (by omega) (by omega))
     have hs2:beN (pc.take (j+1))=x*256+z.toNat:=by
      rw [List.take_succ_eq_append_getElem hpj,beN_snoc,hx,hz]
     have hb1:(x:Int)*256+(z.toNat:Int)<18446744073709551616:=by omega
     have hb2:(x:Int)*256<18446744073709551616:=by omega
     obtain ⟨ix,hix⟩:∃ ix,ix=tE+j:=⟨_,rfl⟩;have hlx:tE+j<128:=by omega
     have HS2:=zY hs2;clear hx hz hs2 hpj hxl hix;go_wp2_with fail;exact ⟨⟨j+1,by omega,by go_num,by rw [HS2.out]; go_num⟩,by simp [intOf]; omega⟩
    ·have hge:¬ (j:Int)<8:=by omega
     obtain rfl:j=8:=by omega
     have hpc2:pieceN (F64.bits/8) blk t=x:=by rw [hx,List.take_of_length_le (by rw [HPL.out]; omega),HPC.out,HTE.out]; rfl
     have HX:=zY hpc2;clear hx hpc2;go_wp2_with (refine wpList_append_one sl_u64 rfl rfl HOWN.out rfl rfl rfl rfl (by unfold maxLen; omega) (by omega) (by have:=HST.out.h.lt; omega) ?_; intro A2 c2 w2 hown2 hg2 hn2; have HOWN2:=zY hown2; have HG2:=zY hg2; clear hown2 hg2 hn2);refine ⟨⟨t+1,A2,c2,by omega,by go_num,rfl,HST.out.grow HOWN.out HG2.out,?_⟩,by simp [intOf]; omega⟩;rw [rowW,if_pos hlt,HX.out,wordsV_snoc];exact HOWN2.out
  ·obtain rfl:t=16:=by omega
   have hsw:BkW w gf F64 p (some bad) blk (some sad) S (.slice A 16 c) (rowW F64 blk 16) wr:=⟨hst,by rw [rowW_length]; exact hown⟩;clear hst hown;go_wp2_with fail;rw [show ((16:Nat):Int)=16 from rfl];obtain ⟨wo,rfl⟩:∃ wo:World,wo=wr:=⟨_,rfl⟩
   go_loopw [7,11] (fun v i wr=>∃ (t:Nat) (A:Option Addr) (c:Nat),16≤t∧t≤80∧i=.int .i64 t∧v=.slice A t c∧BkW w gf F64 p (some bad) blk (some sad) S (.slice A t c) (rowW F64 blk t) wr) (fun _ i _=>80 - (intOf i).toNat)
   case atStart=>exact ⟨16,A,c,by omega,by omega,rfl,rfl,hsw⟩
   case round =>
    clear hsw;clear c0;obtain ⟨t,A,c,ht16,htM,rfl,rfl,hsw⟩:=hrel;have c1:=hsw.st.h.cell 1;simp only [hv,hC,List.getElem?_toArray,List.getElem?_cons_zero,List.getElem?_cons_succ,F64] at c1
    by_cases hlt:t<80
    ·have hlt':(t:Int)<80:=by omega
     obtain ⟨g,rfl,hgb,hgl⟩:=(show OwnX wr (gf+1) 36 1 (.slice A t c) t (wordsV .u64 (rowW F64 blk t)) by have:=hsw.own; rwa [rowW_length] at this).ptr (by omega)
     have hct:t≤c:=by
      have ho:OwnX wr (gf+1) 36 1 (.slice (some ⟨g,0,none⟩) t c) t (wordsV .u64 (rowW F64 blk t)):=by have:=hsw.own; rwa [rowW_length] at this
      exact ho.le_cap
     obtain ⟨l,hl⟩:∃ l,l=rowW F64 blk t:=⟨_,rfl⟩;have hlen:l.length=t:=by rw [hl]; exact rowW_length _ _ _
     have hlw:∀ i,l.getD i 0<2^64:=by rw [hl]; exact getD_lt (rowW_lt F64 (by decide) blk t) (by decide)
     rw [← hl] at hsw;obtain ⟨a16,h16⟩:∃ x,x=l.getD (t - 16) 0:=⟨_,rfl⟩;obtain ⟨a15,h15⟩:∃ x,x=l.getD (t - 15) 0:=⟨_,rfl⟩;obtain ⟨a7,h7⟩:∃ x,x=l.getD (t - 7) 0:=⟨_,rfl⟩;obtain ⟨a2,h2⟩:∃ x,x=l.getD (t - 2) 0:=⟨_,rfl⟩;obtain ⟨m1,hm1⟩:∃ x,x=allF F64 a15 F64.t0 true:=⟨_,rfl⟩;obtain ⟨m2,hm2⟩:∃ x,x=allF F64 a2 F64.t1 true:=⟨_,rfl⟩;obtain ⟨s1,hs1⟩:∃ x,x=(a16+m1)%2^64:=⟨_,rfl⟩;obtain ⟨s2,hs2⟩:∃ x,x=(s1+a7)%2^64:=⟨_,rfl⟩;obtain ⟨s3,hs3⟩:∃ x,x=(s2+m2)%2^64:=⟨_,rfl⟩;have W15:Hid (a15<2^64):=zY (by rw [h15]; exact hlw _);have W2:Hid (a2<2^64):=zY (by rw [h2]; exact hlw _);have hnw:nextW F64 l t=s3%2^64:=by rw [hs3,hs2,hs1,hm1,hm2,h16,h15,h7,h2]; exact next_64 _ _ _ _
     have hs3l:s3<18446744073709551616:=by rw [hs3]; exact Nat.mod_lt _ (by decide)
     have HL:=zY hl;have HLEN:=zY hlen;have H16:=zY h16;have H15:=zY h15;have H7:=zY h7;have H2:=zY h2;have HM1:=zY hm1;have HM2:=zY hm2;have HS1:=zY hs1;have HS2:=zY hs2;have HS3:=zY hs3;have HNW:=zY hnw;have HS3L:=zY hs3l;clear hl hlen hlw h16 h15 h7 h2 hm1 hm2 hs1 hs2 hs3 hnw hs3l;have hu:=Tryd.underlying101;have HC0:=hsw.drew;have HSW:=zY hsw;clear hsw;go_wp2_with fail;refine wp_region_det (fun u=>BkW w gf F64 p (some bad) blk (some sad) S (.slice (some ⟨g,0,none⟩) t c) l u) (fun u=>BkW w gf F64 p (some bad) blk (some sad) S (.slice (some ⟨g,0,none⟩) t c) l u) [(0,some 57),(1,some 58),(2,some 59),(3,some 60),(4,some 61),(5,some 62),(6,some 63),(7,some 64),(8,some 65),(9,some 66),(10,some 67),(11,some 68),(12,some 69),(13,some 70),(14,some 71),(15,some 72),(16,some 73),(17,some 74),(18,some 75),(19,some 76),(20,some 77),(21,some 78),(22,some 79),(23,some 80),(24,some 81),(25,some 82),(26,some 83),(27,some 84),(28,some 85),(29,some 86),(30,some 87),(31,some 12)] (by kernel_rfl) (by kernel_rfl) (by decide) (by kernel_rfl) (fun _=>rfl) HC0 ?_;apply DetL.next
     ·apply dP [];exact fun _=>rfl;rfl;rintro vals - w1 hC1 E hE;simp only [puts,act_put,act_put_none,List.setIfInBounds_toArray,List.set_cons_zero,List.set_cons_succ] at hE ⊢;go_wp2;exact .mk (hE _ hC1)
     apply DetL.next
     ·apply dP [];exact fun _=>rfl;rfl;rintro vals ⟨-,-⟩ w1 hC1 E hE;simp only [puts,act_put,act_put_none,List.setIfInBounds_toArray,List.set_cons_zero,List.set_cons_succ] at hE ⊢;go_wp2;exact .mk (hE _ hC1)
     apply DetL.next
     ·apply dP [(1,some 58)];exact fun _=>rfl;rfl;rintro vals ⟨⟨-,-⟩,f1⟩ w1 hC1 E hE;simp only [puts,act_put,act_put_none,List.setIfInBounds_toArray,List.set_cons_zero,List.set_cons_succ,f1] at hE ⊢;clear f1;go_wp2;exact .mk (hE _ hC1)
     apply DetL.next
     ·apply dP [(0,some 57),(2,some 59)];exact fun _=>rfl;rfl;rintro vals ⟨⟨⟨-,f0⟩,-⟩,f2⟩ w1 hC1 E hE;simp only [puts,act_put,act_put_none,List.setIfInBounds_toArray,List.set_cons_zero,List.set_cons_succ,f0,f2] at hE ⊢;clear f0 f2;go_wp2;exact .mk (hE _ hC1)
     apply DetL.next
     ·apply dP [(3,some 60)];exact fun _=>rfl;rfl;intro vals vq w1 hC1 E hE;have f3:=vq.2;clear vq;have d0:=hC1.at_ (i:=t - 16) HLEN.out (by omega);rw [← H16.out] at d0;simp only [puts,act_put,act_put_none,List.setIfInBounds_toArray,List.set_cons_zero,List.set_cons_succ,f3] at hE ⊢;clear f3;go_wp2;exact .mk (hE _ hC1)
     apply DetL.next
     ·apply dP [];exact fun _=>rfl;rfl;intro vals vq w1 hC1 E hE;clear vq;simp only [puts,act_put,act_put_none,List.setIfInBounds_toArray,List.set_cons_zero,List.set_cons_succ] at hE ⊢;refine wpList_get_box hC1.st.h rfl rfl rfl hu rfl h_size ?_;go_wp2_with fail;exact .mk (hE _ hC1)
     apply DetL.next
     ·apply dP [];exact fun _=>rfl;rfl;intro vals vq w1 hC1 E hE;clear vq;simp only [puts,act_put,act_put_none,List.setIfInBounds_toArray,List.set_cons_zero,List.set_cons_succ] at hE ⊢;go_wp2;exact .mk (hE _ hC1)
     apply DetL.next
     ·apply dP [];exact fun _=>rfl;rfl;intro vals vq w1 hC1 E hE;clear vq;simp only [puts,act_put,act_put_none,List.setIfInBounds_toArray,List.set_cons_zero,List.set_cons_succ] at hE ⊢;go_wp2;exact .mk (hE _ hC1)
     apply DetL.next
     ·apply dP [(7,some 64)];exact fun _=>rfl;rfl;intro vals vq w1 hC1 E hE;have f7:=vq.2;clear vq;simp only [puts,act_put,act_put_none,List.setIfInBounds_toArray,List.set_cons_zero,List.set_cons_succ,f7] at hE ⊢;clear f7;go_wp2;exact .mk (hE _ hC1)
     apply DetL.next
     ·apply dP [(6,some 63),(8,some 65)];exact fun _=>rfl;rfl;intro vals vq w1 hC1 E hE;have f6:=vq.1.1.2;have f8:=vq.2;clear vq;simp only [puts,act_put,act_put_none,List.setIfInBounds_toArray,List.set_cons_zero,List.set_cons_succ,f6,f8] at hE ⊢;clear f6 f8;go_wp2;exact .mk (hE _ hC1)
     apply DetL.next
     ·apply dP [(9,some 66)];exact fun _=>rfl;rfl;intro vals vq w1 hC1 E hE;have f9:=vq.2;clear vq;have d0:=hC1.at_ (i:=t - 15) HLEN.out (by omega);rw [← H15.out] at d0;simp only [puts,act_put,act_put_none,List.setIfInBounds_toArray,List.set_cons_zero,List.set_cons_succ,f9] at hE ⊢;clear f9;go_wp2;exact .mk (hE _ hC1)
     apply DetL.next
     ·apply dP [];exact fun _=>rfl;rfl;intro vals vq w1 hC1 E hE;clear vq;simp only [puts,act_put,act_put_none,List.setIfInBounds_toArray,List.set_cons_zero,List.set_cons_succ] at hE ⊢;go_wp2;exact .mk (hE _ hC1)
     apply DetL.next
     ·apply dP [(11,some 68)];exact fun _=>rfl;rfl;intro vals vq w1 hC1 E hE;have f11:=vq.2;clear vq;have d0:=hC1.st.h.cell 4;simp [hv,hC] at d0;simp only [puts,act_put,act_put_none,List.setIfInBounds_toArray,List.set_cons_zero,List.set_cons_succ,f11] at hE ⊢;clear f11;go_wp2;exact .mk (hE _ hC1)
     apply DetL.next
     ·apply dP [(5,some 62),(10,some 67),(12,some 69)];exact fun _=>rfl;rfl;intro vals vq w1 hC1 E hE;have f5:=vq.1.1.1.1.1.1.1.2;have f10:=vq.1.1.2;have f12:=vq.2;clear vq;simp only [puts,act_put,act_put_none,List.setIfInBounds_toArray,List.set_cons_zero,List.set_cons_succ,f5,f10,f12] at hE ⊢;clear f5 f10 f12;go_wp2_with fail;refine calls_then (mixed_any 64 80 _ _ _ _ _ _ _ (.inr rfl) a15 _ _ _ true W15.out (by decide) (by decide) (by decide) _ _ gf hC1.st.ok.c (by have:=hC1.st.h.lt; omega) hC1.st.ok.cc) ?_;rintro e w2 ⟨rfl,hb2⟩;rw [show allN 64 a15 _ _ _ true=m1 from HM1.out.symm];go_wp2_with fail;exact .mk (hE _ (hC1.next hb2))
     apply DetL.next
     ·apply dP [(4,some 61),(13,some 70)];exact fun _=>rfl;rfl;intro vals vq w1 hC1 E hE;have f4:=vq.1.1.1.1.1.1.1.1.1.2;have f13:=vq.2;clear vq;simp only [puts,act_put,act_put_none,List.setIfInBounds_toArray,List.set_cons_zero,List.set_cons_succ,f4,f13] at hE ⊢;clear f4 f13;go_wp2;rw [add2_64 a16 m1,← HS1.out];exact .mk (hE _ hC1)
     apply DetL.next
     ·apply dP [];exact fun _=>rfl;rfl;intro vals vq w1 hC1 E hE;clear vq;simp only [puts,act_put,act_put_none,List.setIfInBounds_toArray,List.set_cons_zero,List.set_cons_succ] at hE ⊢;go_wp2;exact .mk (hE _ hC1)
     apply DetL.next
     ·apply dP [];exact fun _=>rfl;rfl;intro vals vq w1 hC1 E hE;clear vq;simp only [puts,act_put,act_put_none,List.setIfInBounds_toArray,List.set_cons_zero,List.set_cons_succ] at hE ⊢;go_wp2;exact .mk (hE _ hC1)
     apply DetL.next
     ·apply dP [(16,some 73)];exact fun _=>rfl;rfl;intro vals vq w1 hC1 E hE;have f16:=vq.2;clear vq;simp only [puts,act_put,act_put_none,List.setIfInBounds_toArray,List.set_cons_zero,List.set_cons_succ,f16] at hE ⊢;clear f16;go_wp2;exact .mk (hE _ hC1)
     apply DetL.next
     ·apply dP [(15,some 72),(17,some 74)];exact fun _=>rfl;rfl;intro vals vq w1 hC1 E hE;have f15:=vq.1.1.2;have f17:=vq.2;clear vq;simp only [puts,act_put,act_put_none,List.setIfInBounds_toArray,List.set_cons_zero,List.set_cons_succ,f15,f17] at hE ⊢;clear f15 f17;go_wp2;exact .mk (hE _ hC1)
     apply DetL.next
     ·apply dP [(18,some 75)];exact fun _=>rfl;rfl;intro vals vq w1 hC1 E hE;have f18:=vq.2;clear vq;have d0:=hC1.at_ (i:=t - 7) HLEN.out (by omega);rw [← H7.out] at d0;simp only [puts,act_put,act_put_none,List.setIfInBounds_toArray,List.set_cons_zero,List.set_cons_succ,f18] at hE ⊢;clear f18;go_wp2;exact .mk (hE _ hC1)
     apply DetL.next
     ·apply dP [(14,some 71),(19,some 76)];exact fun _=>rfl;rfl;intro vals vq w1 hC1 E hE;have f14:=vq.1.1.1.1.1.2;have f19:=vq.2;clear vq;simp only [puts,act_put,act_put_none,List.setIfInBounds_toArray,List.set_cons_zero,List.set_cons_succ,f14,f19] at hE ⊢;clear f14 f19;go_wp2;rw [add2_64 s1 a7,← HS2.out];exact .mk (hE _ hC1)
     apply DetL.next
     ·apply dP [];exact fun _=>rfl;rfl;intro vals vq w1 hC1 E hE;clear vq;simp only [puts,act_put,act_put_none,List.setIfInBounds_toArray,List.set_cons_zero,List.set_cons_succ] at hE ⊢;refine wpList_get_box hC1.st.h rfl rfl rfl hu rfl h_size ?_;go_wp2_with fail;exact .mk (hE _ hC1)
     apply DetL.next
     ·apply dP [];exact fun _=>rfl;rfl;intro vals vq w1 hC1 E hE;clear vq;simp only [puts,act_put,act_put_none,List.setIfInBounds_toArray,List.set_cons_zero,List.set_cons_succ] at hE ⊢;go_wp2;exact .mk (hE _ hC1)
     apply DetL.next
     ·apply dP [];exact fun _=>rfl;rfl;intro vals vq w1 hC1 E hE;clear vq;simp only [puts,act_put,act_put_none,List.setIfInBounds_toArray,List.set_cons_zero,List.set_cons_succ] at hE ⊢;go_wp2;exact .mk (hE _ hC1)
     apply DetL.next
     ·apply dP [(23,some 80)];exact fun _=>rfl;rfl;intro vals vq w1 hC1 E hE;have f23:=vq.2;clear vq;simp only [puts,act_put,act_put_none,List.setIfInBounds_toArray,List.set_cons_zero,List.set_cons_succ,f23] at hE ⊢;clear f23;go_wp2;exact .mk (hE _ hC1)
     apply DetL.next
     ·apply dP [(22,some 79),(24,some 81)];exact fun _=>rfl;rfl;intro vals vq w1 hC1 E hE;have f22:=vq.1.1.2;have f24:=vq.2;clear vq;simp only [puts,act_put,act_put_none,List.setIfInBounds_toArray,List.set_cons_zero,List.set_cons_succ,f22,f24] at hE ⊢;clear f22 f24;go_wp2;exact .mk (hE _ hC1)
     apply DetL.next
     ·apply dP [(25,some 82)];exact fun _=>rfl;rfl;intro vals vq w1 hC1 E hE;have f25:=vq.2;clear vq;have d0:=hC1.at_ (i:=t - 2) HLEN.out (by omega);rw [← H2.out] at d0;simp only [puts,act_put,act_put_none,List.setIfInBounds_toArray,List.set_cons_zero,List.set_cons_succ,f25] at hE ⊢;clear f25;go_wp2;exact .mk (hE _ hC1)
     apply DetL.next
     ·apply dP [];exact fun _=>rfl;rfl;intro vals vq w1 hC1 E hE;clear vq;simp only [puts,act_put,act_put_none,List.setIfInBounds_toArray,List.set_cons_zero,List.set_cons_succ] at hE ⊢;go_wp2;exact .mk (hE _ hC1)
     apply DetL.next
     ·apply dP [(27,some 84)];exact fun _=>rfl;rfl;intro vals vq w1 hC1 E hE;have f27:=vq.2;clear vq;have d0:=hC1.st.h.cell 5;simp [hv,hC] at d0;simp only [puts,act_put,act_put_none,List.setIfInBounds_toArray,List.set_cons_zero,List.set_cons_succ,f27] at hE ⊢;clear f27;go_wp2;exact .mk (hE _ hC1)
     apply DetL.next
     ·apply dP [(21,some 78),(26,some 83),(28,some 85),(13,some 70)];exact fun _=>rfl;rfl;intro vals vq w1 hC1 E hE;have f13:=vq.1.1.1.1.1.1.1.1.1.1.1.1.1.1.1.2;have f21:=vq.1.1.1.1.1.1.1.2;have f26:=vq.1.1.2;have f28:=vq.2;clear vq;simp only [puts,act_put,act_put_none,List.setIfInBounds_toArray,List.set_cons_zero,List.set_cons_succ,f13,f21,f26,f28] at hE ⊢;clear f13 f21 f26 f28;go_wp2_with fail;refine calls_then (mixed_any 64 80 _ _ _ _ _ _ _ (.inr rfl) a2 _ _ _ true W2.out (by decide) (by decide) (by decide) _ _ gf hC1.st.ok.d (by have:=hC1.st.h.lt; omega) hC1.st.ok.cd) ?_;rintro e w2 ⟨rfl,hb2⟩;rw [show allN 64 a2 _ _ _ true=m2 from HM2.out.symm];go_wp2_with fail;exact .mk (hE _ (hC1.next hb2))
     apply DetL.next
     ·apply dP [(20,some 77),(29,some 86)];exact fun _=>rfl;rfl;intro vals vq w1 hC1 E hE;have f20:=vq.1.1.1.1.1.1.1.1.1.2;have f29:=vq.2;clear vq;simp only [puts,act_put,act_put_none,List.setIfInBounds_toArray,List.set_cons_zero,List.set_cons_succ,f20,f29] at hE ⊢;clear f20 f29;go_wp2;rw [add2_64 s2 m2,← HS3.out];exact .mk (hE _ hC1)
     apply DetL.last
     ·apply dP [(30,some 87),(29,some 86),(0,some 57),(1,some 58),(2,some 59),(3,some 60),(4,some 61),(5,some 62),(6,some 63),(7,some 64),(8,some 65),(9,some 66),(10,some 67),(11,some 68),(12,some 69),(13,some 70),(14,some 71),(15,some 72),(16,some 73),(17,some 74),(18,some 75),(19,some 76),(20,some 77),(21,some 78),(22,some 79),(23,some 80),(24,some 81),(25,some 82),(26,some 83),(27,some 84),(28,some 85),(29,some 86),(30,some 87)];exact fun _=>rfl;rfl;rintro vals ⟨⟨⟨⟨⟨⟨⟨⟨⟨⟨⟨⟨⟨⟨⟨⟨⟨⟨⟨⟨⟨⟨⟨⟨⟨⟨⟨⟨⟨⟨⟨-,f0⟩,f1⟩,f2⟩,f3⟩,f4⟩,f5⟩,f6⟩,f7⟩,f8⟩,f9⟩,f10⟩,f11⟩,f12⟩,f13⟩,f14⟩,f15⟩,f16⟩,f17⟩,f18⟩,f19⟩,f20⟩,f21⟩,f22⟩,f23⟩,f24⟩,f25⟩,f26⟩,f27⟩,f28⟩,f29⟩,f30⟩ w1 hC1 E hE;simp only [puts,act_put,act_put_none,List.setIfInBounds_toArray,List.set_cons_zero,List.set_cons_succ,f0,f1,f2,f3,f4,f5,f6,f7,f8,f9,f10,f11,f12,f13,f14,f15,f16,f17,f18,f19,f20,f21,f22,f23,f24,f25,f26,f27,f28,f29,f30] at hE ⊢;clear f0 f1 f2 f3 f4 f5 f6 f7 f8 f9 f10 f11 f12 f13 f14 f15 f16 f17 f18 f19 f20 f21 f22 f23 f24 f25 f26 f27 f28 f29 f30;go_wp2;exact .mk (hE _ hC1)
     rintro vals ⟨⟨⟨⟨⟨⟨⟨⟨⟨⟨⟨⟨⟨⟨⟨⟨⟨⟨⟨⟨⟨⟨⟨⟨⟨⟨⟨⟨⟨⟨⟨⟨-,f0⟩,f1⟩,f2⟩,f3⟩,f4⟩,f5⟩,f6⟩,f7⟩,f8⟩,f9⟩,f10⟩,f11⟩,f12⟩,f13⟩,f14⟩,f15⟩,f16⟩,f17⟩,f18⟩,f19⟩,f20⟩,f21⟩,f22⟩,f23⟩,f24⟩,f25⟩,f26⟩,f27⟩,f28⟩,f29⟩,f30⟩,f31⟩ w1 hC1;simp only [puts,act_put,act_put_none,List.setIfInBounds_toArray,List.set_cons_zero,List.set_cons_succ,f0,f1,f2,f3,f4,f5,f6,f7,f8,f9,f10,f11,f12,f13,f14,f15,f16,f17,f18,f19,f20,f21,f22,f23,f24,f25,f26,f27,f28,f29,f30,f31];clear f0 f1 f2 f3 f4 f5 f6 f7 f8 f9 f10 f11 f12 f13 f14 f15 f16 f17 f18 f19 f20 f21 f22 f23 f24 f25 f26 f27 f28 f29 f30 f31;clear HC0;have HC1:=zY hC1;clear hC1 HSW;go_wp2_with (refine wpList_get_box (x:=.tmp 3) HC1.out.st.h rfl rfl rfl hu rfl h_size ?_);obtain ⟨nv,hnv⟩:∃ x,x=s3%2^64:=⟨_,rfl⟩;refine calls_then (low_any 64 80 _ _ _ _ _ _ _ (.inr rfl) s3 HS3L.out) ?_;rintro e w2 ⟨rfl,hb2⟩;rw [← hnv];have hw2:=HC1.out.next hb2;have HO2:Hid (OwnX w2 (gf+1) 36 1 (.slice (some ⟨g,0,none⟩) t c) t (wordsV .u64 l)):=zY (by have:=hw2.own; rwa [HLEN.out] at this);have HW2:=zY hw2;have HNV:=zY hnv;clear hw2 hb2 hnv HC1;go_wp2_with (refine wpList_append_one sl_u64 rfl rfl HO2.out rfl rfl rfl rfl (by unfold maxLen; omega) (by omega) (by have:=HW2.out.st.h.lt; omega) ?_; intro A3 c3 w3 hown3 hg3 hn3; have HOWN3:=zY hown3; have HG3:=zY hg3; clear hown3 hg3 hn3);refine ⟨⟨t+1,A3,c3,by omega,by omega,by go_num,rfl,?_⟩,by simp [intOf]; omega⟩;have h:=HW2.out.app (v':=.slice A3 (t+1) c3) (x:=nv) (by rw [HLEN.out]; exact HOWN3.out) HG3.out;rw [rowW,if_neg (show ¬ t<16 by omega),← HL.out,HNW.out,← HNV.out];exact h
    ·obtain rfl:t=80:=by omega
     obtain ⟨g,rfl,hgb,hgl⟩:=(show OwnX wr (gf+1) 36 1 (.slice A 80 c) 80 (wordsV .u64 (rowW F64 blk 80)) by have:=hsw.own; rwa [rowW_length] at this).ptr (by omega)
     have hct:80≤c:=by
      have ho:OwnX wr (gf+1) 36 1 (.slice (some ⟨g,0,none⟩) 80 c) 80 (wordsV .u64 (rowW F64 blk 80)):=by have:=hsw.own; rwa [rowW_length] at this
      exact ho.le_cap
     obtain ⟨RW,hRW⟩:∃ x,x=rowW F64 blk 80:=⟨_,rfl⟩;have hlen:RW.length=80:=by rw [hRW]; exact rowW_length _ _ _
     have hlw:∀ i,RW.getD i 0<2^64:=by rw [hRW]; exact getD_lt (rowW_lt F64 (by decide) blk 80) (by decide)
     rw [← hRW] at hsw;have hwx:(wordsV .u64 (s8L S)).length=8:=rfl;have HSW:=zY hsw;have HLEN:=zY hlen;have HRW:=zY hRW;have HLW:=zY hlw;clear hsw hlen hRW hlw;go_wp2_with (refine wpList_append_rd (base:=gf+1) (n:=0) (v:=.slice none 0 0) (xs:=[]) (news:=wordsV .u64 (s8L S)) sl_u64 rfl rfl (OwnX.nil _ _ _ _) rfl rfl rfl HSW.out.st.rs (by intro u hu; simp [wordsV] at hu; obtain ⟨_,_,rfl⟩:=hu; rfl) (by unfold maxLen; omega) (by omega) (by have:=HSW.out.st.h.lt; omega) ?_; intro A4 c4 w4 hown4 hg4 hn4; have HOWN4:=zY hown4; have HG4:=zY hg4; clear hown4 hg4 hn4);obtain ⟨g2,rfl,hgb2,hgl2⟩:=(show OwnX w4 (gf+1) 36 1 (.slice A4 8 c4) 8 (wordsV .u64 (s8L S)) by simpa using HOWN4.out).ptr (by omega)
     have hsr:BkR w gf F64 p (some bad) blk (some sad) S (.slice (some ⟨g,0,none⟩) 80 c) RW g2 c4 (mixTo F64 RW S 0) w4:=by
      have hnx:=HSW.out.own;have hg5:=HG4.out;refine ⟨⟨HSW.out.st.keep (below_of_grown hg5 (by have:=HSW.out.st.h.lt; omega) (by intro k hk; simp [Value.ownBlock] at hk)),hnx.kept hg5 (.inr (by simp [Value.ownBlock]))⟩,?_⟩;show OwnX w4 (gf+1) 36 1 (.slice (some ⟨g2,0,none⟩) 8 c4) 8 (wordsV .u64 (s8L S))
      simpa using HOWN4.out
     have HSR:=zY hsr;clear hsr HOWN4 HG4 HSW c1 hgb hgl hgb2 hgl2;obtain ⟨wo2,rfl⟩:∃ wo2:World,wo2=w4:=⟨_,rfl⟩;go_wp2_with fail
     go_loopw [13,14] (fun v i wr=>∃ t g2 c2:Nat,t≤80∧i=.int .i64 t∧v=.slice (some ⟨g2,0,none⟩) 8 c2∧BkR w gf F64 p (some bad) blk (some sad) S (.slice (some ⟨g,0,none⟩) 80 c) RW g2 c2 (mixTo F64 RW S t) wr) (fun _ i _=>80 - (intOf i).toNat)
     case atStart=>exact ⟨0,g2,c4,by omega,rfl,rfl,HSR.out⟩
     case round =>
      obtain ⟨t,g2,c2,ht,rfl,rfl,hsr⟩:=hrel;have c1:=hsr.w.st.h.cell 1;simp only [hv,hC,List.getElem?_toArray,List.getElem?_cons_zero,List.getElem?_cons_succ,F64] at c1;have hc8:=hsr.le
      by_cases hlt:t<80
      ·have hlt':(t:Int)<80:=by omega
       obtain ⟨vv,hvv⟩:∃ x,x=mixTo F64 RW S t:=⟨_,rfl⟩;have hvl:vv.Lt (2^64):=by rw [hvv]; exact mixTo_lt HS.out t
       rw [← hvv] at hsr;have HVV:=zY hvv;obtain ⟨va,vb,vc,vd,ve,vf,vg,vh⟩:=vv;have HL8:=zY hvl;obtain ⟨wk,hwk⟩:∃ x,x=RW.getD t 0:=⟨_,rfl⟩;obtain ⟨kk,hkk⟩:∃ x,x=kN F64 t:=⟨_,rfl⟩;obtain ⟨big,hbig⟩:∃ x:Nat,x=18446744073709551615:=⟨_,rfl⟩;obtain ⟨on,hon⟩:∃ x,x=big%2^64:=⟨_,rfl⟩;obtain ⟨XA,hXA⟩:∃ x,x=allF F64 ve F64.s1 false:=⟨_,rfl⟩;obtain ⟨p1,hp1⟩:∃ x,x=(vh+XA)%2^64:=⟨_,rfl⟩;obtain ⟨af,haf⟩:∃ x,x=ve &&& vf:=⟨_,rfl⟩;obtain ⟨ne,hne⟩:∃ x,x=on ^^^ ve:=⟨_,rfl⟩;obtain ⟨ng,hng⟩:∃ x,x=ne &&& vg:=⟨_,rfl⟩;obtain ⟨ch,hch⟩:∃ x,x=af ^^^ ng:=⟨_,rfl⟩;obtain ⟨p2,hp2⟩:∃ x,x=(p1+ch)%2^64:=⟨_,rfl⟩;obtain ⟨p3,hp3⟩:∃ x,x=(p2+kk)%2^64:=⟨_,rfl⟩;obtain ⟨p4,hp4⟩:∃ x,x=(p3+wk)%2^64:=⟨_,rfl⟩;obtain ⟨xx,hxx⟩:∃ x,x=p4%2^64:=⟨_,rfl⟩;obtain ⟨YA,hYA⟩:∃ x,x=allF F64 va F64.s0 false:=⟨_,rfl⟩;obtain ⟨ab,hab⟩:∃ x,x=va &&& vb:=⟨_,rfl⟩;obtain ⟨ac,hac⟩:∃ x,x=va &&& vc:=⟨_,rfl⟩;obtain ⟨bc2,hbc2'⟩:∃ x,x=vb &&& vc:=⟨_,rfl⟩;obtain ⟨x1,hx1⟩:∃ x,x=ab ^^^ ac:=⟨_,rfl⟩;obtain ⟨mj,hmj⟩:∃ x,x=x1 ^^^ bc2:=⟨_,rfl⟩;obtain ⟨q1,hq1⟩:∃ x,x=(YA+mj)%2^64:=⟨_,rfl⟩;obtain ⟨yy,hyy⟩:∃ x,x=q1%2^64:=⟨_,rfl⟩;obtain ⟨z1,hz1⟩:∃ x,x=(xx+yy)%2^64:=⟨_,rfl⟩;obtain ⟨za,hza⟩:∃ x,x=z1%2^64:=⟨_,rfl⟩;obtain ⟨z2,hz2⟩:∃ x,x=(vd+xx)%2^64:=⟨_,rfl⟩;obtain ⟨ze,hze⟩:∃ x,x=z2%2^64:=⟨_,rfl⟩;have lon:on<2^64:=by rw [hon,hbig]; decide
       have l64:∀ z,z<2^64→z<2^64:=fun z hz=>Nat.lt_of_lt_of_le hz (by decide);have laf:af<2^64:=by rw [haf]; exact and_lt (l64 _ hvl.e)
       have lne:ne<2^64:=by rw [hne]; exact Nat.xor_lt_two_pow lon (l64 _ hvl.e)
       have lng:ng<2^64:=by rw [hng]; exact and_lt lne
       have lab:ab<2^64:=by rw [hab]; exact and_lt (l64 _ hvl.a)
       have lac:ac<2^64:=by rw [hac]; exact and_lt (l64 _ hvl.a)
       have lbc:bc2<2^64:=by rw [hbc2']; exact and_lt (l64 _ hvl.b)
       have lx1:x1<2^64:=by rw [hx1]; exact Nat.xor_lt_two_pow lab lac
       have hmx:mixX F64 ⟨va,vb,vc,vd,ve,vf,vg,vh⟩ kk wk=xx:=by
        rw [hxx,hp4,hp3,hp2,hp1,hch,hng,hne,hon,hbig,haf,hXA];rw [show 18446744073709551615%2^64=2^64 - 1 by decide,ones_xor 64 ve hvl.e];exact mixX_r64 _ _ _ _ _
       have hmy:mixY F64 ⟨va,vb,vc,vd,ve,vf,vg,vh⟩=yy:=by
        rw [hyy,hq1,hmj,hx1,hab,hac,hbc2',hYA];exact mod_r64 _ _
       have hstp:stepS F64 ⟨va,vb,vc,vd,ve,vf,vg,vh⟩ kk wk=⟨za,va,vb,vc,ze,ve,vf,vg⟩:=by
        have e1:(xx+yy)%2^64=za:=by rw [hza,hz1]; exact mod_r64 _ _
        have e2:(vd+xx)%2^64=ze:=by rw [hze,hz2]; exact mod_r64 _ _
        rw [stepS,hmx,hmy];show S8.mk ((xx+yy)%2^64) va vb vc ((vd+xx)%2^64) ve vf vg=_;rw [e1,e2]
       have hm1:mixTo F64 RW S (t+1)=⟨za,va,vb,vc,ze,ve,vf,vg⟩:=by rw [mixTo,← HVV.out,← hkk,← hwk]; exact hstp
       have HM1:=zY hm1;have LP4:Hid (p4<18446744073709551616):=zY (by rw [hp4]; exact Nat.mod_lt _ (by decide));have LQ1:Hid (q1<18446744073709551616):=zY (by rw [hq1]; exact Nat.mod_lt _ (by decide));have LZ1:Hid (z1<18446744073709551616):=zY (by rw [hz1]; exact Nat.mod_lt _ (by decide));have LZ2:Hid (z2<18446744073709551616):=zY (by rw [hz2]; exact Nat.mod_lt _ (by decide));have LON:=zY lon;have L64:=zY l64;have LAF:=zY laf;have LNE:=zY lne;have LNG:=zY lng;have LAB:=zY lab;have LAC:=zY lac;have LBC:=zY lbc;have LX1:=zY lx1;have HWK:=zY hwk;have HKK:=zY hkk;have HON:=zY hon;have HBIG:=zY hbig;have HXA:=zY hXA;have HP1:=zY hp1;have HAF:=zY haf;have HNE:=zY hne;have HNG:=zY hng;have HCH:=zY hch;have HP2:=zY hp2;have HP3:=zY hp3;have HP4:=zY hp4;have HXX:=zY hxx;have HYA:=zY hYA;have HAB:=zY hab;have HAC:=zY hac;have HBC:=zY hbc2';have HX1:=zY hx1;have HMJ:=zY hmj;have HQ1:=zY hq1;have HYY:=zY hyy;have HZ1:=zY hz1;have HZA:=zY hza;have HZ2:=zY hz2;have HZE:=zY hze;have hu:=Tryd.underlying101;have d4:=hsr.r.atN (i:=4) (v:=.int .u64 (ve:Int)) rfl;have d0:=hsr.r.atN (i:=0) (v:=.int .u64 (va:Int)) rfl;have HSR2:=zY hsr;clear hvv hvl hwk hkk hon hbig hXA hp1 haf hne hng hch hp2 hp3 hp4 hxx hYA hab hac hbc2' hx1 hmj hq1 hyy hz1 hza hz2 hze lon l64 laf lne lng lab lac lbc lx1 hmx hmy hstp hm1 hsr HSR;go_wp2_with (refine wpList_get_box (x:=.tmp 3) HSR2.out.w.st.h rfl rfl rfl hu rfl h_size ?_);have hlo:=low_any 64 80 (.slice (some p.a) 3 p.ca) (.slice (some p.b) 3 p.cb) (.slice (some p.c) 3 p.cc) (.slice (some p.d) 3 p.cd) (.slice (some p.k) 80 p.ck) (.slice (some p.f) 8 p.cf) wr (.inr rfl) big (by rw [HBIG.out]; decide);rw [← HON.out,show (big:Int)=18446744073709551615 by rw [HBIG.out]; rfl] at hlo;refine calls_then hlo ?_;rintro e w2 ⟨rfl,hb2⟩;have hsr2:=HSR2.out.next hb2;clear hlo hb2 HSR2 d4 d0;go_wp2_with fail;have HC0:=hsr2.drew;clear hsr2;refine wp_region_det (fun u=>BkR w gf F64 p (some bad) blk (some sad) S (.slice (some ⟨g,0,none⟩) 80 c) RW g2 c2 ⟨va,vb,vc,vd,ve,vf,vg,vh⟩ u) (fun u=>BkR w gf F64 p (some bad) blk (some sad) S (.slice (some ⟨g,0,none⟩) 80 c) RW g2 c2 ⟨va,vb,vc,vd,ve,vf,vg,vh⟩ u) [(0,some 111),(1,some 112),(2,some 113),(3,some 114),(4,some 115),(5,some 116),(6,some 117),(7,some 118),(8,some 119),(9,some 120),(10,some 121),(11,some 122),(12,some 123),(13,some 124),(14,some 125),(15,some 126),(16,some 127),(17,some 128),(18,some 129),(19,some 130),(20,some 131),(21,some 132),(22,some 133),(23,some 134),(24,some 135),(25,some 136),(26,some 137),(27,some 138),(28,some 139),(29,some 140),(30,some 141),(31,some 142),(32,some 143),(33,some 144),(34,some 145),(35,some 146),(36,some 18)] (by kernel_rfl) (by kernel_rfl) (by decide) (by kernel_rfl) (fun _=>rfl) HC0 ?_;apply DetL.next
       ·apply dP [];exact fun _=>rfl;rfl;rintro vals - w1 hC1 E hE;simp only [puts,act_put,act_put_none,List.setIfInBounds_toArray,List.set_cons_zero,List.set_cons_succ] at hE ⊢;refine wpList_get_box hC1.w.st.h rfl rfl rfl hu rfl h_size ?_;go_wp2_with fail;exact .mk (hE _ hC1)
       apply DetL.next
       ·apply dP [];exact fun _=>rfl;rfl;rintro vals ⟨-,-⟩ w1 hC1 E hE;simp only [puts,act_put,act_put_none,List.setIfInBounds_toArray,List.set_cons_zero,List.set_cons_succ] at hE ⊢;go_wp2;exact .mk (hE _ hC1)
       apply DetL.next
       ·apply dP [(1,some 112)];exact fun _=>rfl;rfl;rintro vals ⟨⟨-,-⟩,f1⟩ w1 hC1 E hE;simp only [puts,act_put,act_put_none,List.setIfInBounds_toArray,List.set_cons_zero,List.set_cons_succ,f1] at hE ⊢;clear f1;go_wp2;exact .mk (hE _ hC1)
       apply DetL.next
       ·apply dP [(2,some 113)];exact fun _=>rfl;rfl;intro vals vq w1 hC1 E hE;have f2:=vq.2;clear vq;have d0:=hC1.r.atN (i:=7) (v:=.int .u64 (vh:Int)) rfl;simp only [puts,act_put,act_put_none,List.setIfInBounds_toArray,List.set_cons_zero,List.set_cons_succ,f2] at hE ⊢;clear f2;go_wp2;exact .mk (hE _ hC1)
       apply DetL.next
       ·apply dP [];exact fun _=>rfl;rfl;intro vals vq w1 hC1 E hE;clear vq;simp only [puts,act_put,act_put_none,List.setIfInBounds_toArray,List.set_cons_zero,List.set_cons_succ] at hE ⊢;refine wpList_get_box hC1.w.st.h rfl rfl rfl hu rfl h_size ?_;go_wp2_with fail;exact .mk (hE _ hC1)
       apply DetL.next
       ·apply dP [];exact fun _=>rfl;rfl;intro vals vq w1 hC1 E hE;clear vq;simp only [puts,act_put,act_put_none,List.setIfInBounds_toArray,List.set_cons_zero,List.set_cons_succ] at hE ⊢;go_wp2;exact .mk (hE _ hC1)
       apply DetL.next
       ·apply dP [];exact fun _=>rfl;rfl;intro vals vq w1 hC1 E hE;clear vq;simp only [puts,act_put,act_put_none,List.setIfInBounds_toArray,List.set_cons_zero,List.set_cons_succ] at hE ⊢;go_wp2;exact .mk (hE _ hC1)
       apply DetL.next
       ·apply dP [(6,some 117)];exact fun _=>rfl;rfl;intro vals vq w1 hC1 E hE;have f6:=vq.2;clear vq;have d0:=hC1.w.st.h.cell 3;simp [hv,hC] at d0;simp only [puts,act_put,act_put_none,List.setIfInBounds_toArray,List.set_cons_zero,List.set_cons_succ,f6] at hE ⊢;clear f6;go_wp2;exact .mk (hE _ hC1)
       apply DetL.next
       ·apply dP [(4,some 115),(5,some 116),(7,some 118)];exact fun _=>rfl;rfl;intro vals vq w1 hC1 E hE;have f4:=vq.1.1.1.2;have f5:=vq.1.1.2;have f7:=vq.2;clear vq;simp only [puts,act_put,act_put_none,List.setIfInBounds_toArray,List.set_cons_zero,List.set_cons_succ,f4,f5,f7] at hE ⊢;clear f4 f5 f7;go_wp2_with fail;refine calls_then (mixed_any 64 80 _ _ _ _ _ _ _ (.inr rfl) ve _ _ _ false HL8.out.e (by decide) (by decide) (by decide) _ _ gf hC1.w.st.ok.b (by have:=hC1.w.st.h.lt; omega) hC1.w.st.ok.cb) ?_;rintro e w2 ⟨rfl,hb2⟩;rw [show allN 64 ve _ _ _ false=XA from HXA.out.symm];go_wp2_with fail;exact .mk (hE _ (hC1.next hb2))
       apply DetL.next
       ·apply dP [(3,some 114),(8,some 119)];exact fun _=>rfl;rfl;intro vals vq w1 hC1 E hE;have f3:=vq.1.1.1.1.1.2;have f8:=vq.2;clear vq;simp only [puts,act_put,act_put_none,List.setIfInBounds_toArray,List.set_cons_zero,List.set_cons_succ,f3,f8] at hE ⊢;clear f3 f8;go_wp2;rw [add2_64 vh XA,← HP1.out];exact .mk (hE _ hC1)
       apply DetL.next
       ·apply dP [];exact fun _=>rfl;rfl;intro vals vq w1 hC1 E hE;clear vq;simp only [puts,act_put,act_put_none,List.setIfInBounds_toArray,List.set_cons_zero,List.set_cons_succ] at hE ⊢;go_wp2;exact .mk (hE _ hC1)
       apply DetL.next
       ·apply dP [];exact fun _=>rfl;rfl;intro vals vq w1 hC1 E hE;clear vq;simp only [puts,act_put,act_put_none,List.setIfInBounds_toArray,List.set_cons_zero,List.set_cons_succ] at hE ⊢;go_wp2;exact .mk (hE _ hC1)
       apply DetL.next
       ·apply dP [(11,some 122)];exact fun _=>rfl;rfl;intro vals vq w1 hC1 E hE;have f11:=vq.2;clear vq;simp only [puts,act_put,act_put_none,List.setIfInBounds_toArray,List.set_cons_zero,List.set_cons_succ,f11] at hE ⊢;clear f11;go_wp2;exact .mk (hE _ hC1)
       apply DetL.next
       ·apply dP [(12,some 123)];exact fun _=>rfl;rfl;intro vals vq w1 hC1 E hE;have f12:=vq.2;clear vq;have d0:=hC1.r.atN (i:=5) (v:=.int .u64 (vf:Int)) rfl;simp only [puts,act_put,act_put_none,List.setIfInBounds_toArray,List.set_cons_zero,List.set_cons_succ,f12] at hE ⊢;clear f12;go_wp2;exact .mk (hE _ hC1)
       apply DetL.next
       ·apply dP [(10,some 121),(13,some 124)];exact fun _=>rfl;rfl;intro vals vq w1 hC1 E hE;have f10:=vq.1.1.1.2;have f13:=vq.2;clear vq;simp only [puts,act_put,act_put_none,List.setIfInBounds_toArray,List.set_cons_zero,List.set_cons_succ,f10,f13] at hE ⊢;clear f10 f13;go_wp2;rw [and64 ve vf (L64.out _ HL8.out.e) (L64.out _ HL8.out.f),← HAF.out];exact .mk (hE _ hC1)
       apply DetL.next
       ·apply dP [];exact fun _=>rfl;rfl;intro vals vq w1 hC1 E hE;clear vq;simp only [puts,act_put,act_put_none,List.setIfInBounds_toArray,List.set_cons_zero,List.set_cons_succ] at hE ⊢;go_wp2;exact .mk (hE _ hC1)
       apply DetL.next
       ·apply dP [];exact fun _=>rfl;rfl;intro vals vq w1 hC1 E hE;clear vq;simp only [puts,act_put,act_put_none,List.setIfInBounds_toArray,List.set_cons_zero,List.set_cons_succ] at hE ⊢;go_wp2;exact .mk (hE _ hC1)
       apply DetL.next
       ·apply dP [(15,some 126),(16,some 127)];exact fun _=>rfl;rfl;intro vals vq w1 hC1 E hE;have f15:=vq.1.2;have f16:=vq.2;clear vq;simp only [puts,act_put,act_put_none,List.setIfInBounds_toArray,List.set_cons_zero,List.set_cons_succ,f15,f16] at hE ⊢;clear f15 f16;go_wp2;rw [xor64 on ve LON.out (L64.out _ HL8.out.e),← HNE.out];exact .mk (hE _ hC1)
       apply DetL.next
       ·apply dP [];exact fun _=>rfl;rfl;intro vals vq w1 hC1 E hE;clear vq;simp only [puts,act_put,act_put_none,List.setIfInBounds_toArray,List.set_cons_zero,List.set_cons_succ] at hE ⊢;go_wp2;exact .mk (hE _ hC1)
       apply DetL.next
       ·apply dP [(18,some 129)];exact fun _=>rfl;rfl;intro vals vq w1 hC1 E hE;have f18:=vq.2;clear vq;simp only [puts,act_put,act_put_none,List.setIfInBounds_toArray,List.set_cons_zero,List.set_cons_succ,f18] at hE ⊢;clear f18;go_wp2;exact .mk (hE _ hC1)
       apply DetL.next
       ·apply dP [(19,some 130)];exact fun _=>rfl;rfl;intro vals vq w1 hC1 E hE;have f19:=vq.2;clear vq;have d0:=hC1.r.atN (i:=6) (v:=.int .u64 (vg:Int)) rfl;simp only [puts,act_put,act_put_none,List.setIfInBounds_toArray,List.set_cons_zero,List.set_cons_succ,f19] at hE ⊢;clear f19;go_wp2;exact .mk (hE _ hC1)
       apply DetL.next
       ·apply dP [(17,some 128),(20,some 131)];exact fun _=>rfl;rfl;intro vals vq w1 hC1 E hE;have f17:=vq.1.1.1.2;have f20:=vq.2;clear vq;simp only [puts,act_put,act_put_none,List.setIfInBounds_toArray,List.set_cons_zero,List.set_cons_succ,f17,f20] at hE ⊢;clear f17 f20;go_wp2;rw [and64 ne vg LNE.out (L64.out _ HL8.out.g),← HNG.out];exact .mk (hE _ hC1)
       apply DetL.next
       ·apply dP [(14,some 125),(21,some 132)];exact fun _=>rfl;rfl;intro vals vq w1 hC1 E hE;have f14:=vq.1.1.1.1.1.1.1.2;have f21:=vq.2;clear vq;simp only [puts,act_put,act_put_none,List.setIfInBounds_toArray,List.set_cons_zero,List.set_cons_succ,f14,f21] at hE ⊢;clear f14 f21;go_wp2;rw [xor64 af ng LAF.out LNG.out,← HCH.out];exact .mk (hE _ hC1)
       apply DetL.next
       ·apply dP [(9,some 120),(22,some 133)];exact fun _=>rfl;rfl;intro vals vq w1 hC1 E hE;have f9:=vq.1.1.1.1.1.1.1.1.1.1.1.1.1.2;have f22:=vq.2;clear vq;simp only [puts,act_put,act_put_none,List.setIfInBounds_toArray,List.set_cons_zero,List.set_cons_succ,f9,f22] at hE ⊢;clear f9 f22;go_wp2;rw [add2_64 p1 ch,← HP2.out];exact .mk (hE _ hC1)
       apply DetL.next
       ·apply dP [];exact fun _=>rfl;rfl;intro vals vq w1 hC1 E hE;clear vq;simp only [puts,act_put,act_put_none,List.setIfInBounds_toArray,List.set_cons_zero,List.set_cons_succ] at hE ⊢;go_wp2;exact .mk (hE _ hC1)
       apply DetL.next
       ·apply dP [(24,some 135)];exact fun _=>rfl;rfl;intro vals vq w1 hC1 E hE;have f24:=vq.2;clear vq;have d0:=hC1.w.st.h.cell 6;simp [hv,hC] at d0;simp only [puts,act_put,act_put_none,List.setIfInBounds_toArray,List.set_cons_zero,List.set_cons_succ,f24] at hE ⊢;clear f24;go_wp2;exact .mk (hE _ hC1)
       apply DetL.next
       ·apply dP [];exact fun _=>rfl;rfl;intro vals vq w1 hC1 E hE;clear vq;simp only [puts,act_put,act_put_none,List.setIfInBounds_toArray,List.set_cons_zero,List.set_cons_succ] at hE ⊢;go_wp2;exact .mk (hE _ hC1)
       apply DetL.next
       ·apply dP [(25,some 136),(26,some 137)];exact fun _=>rfl;rfl;intro vals vq w1 hC1 E hE;have f25:=vq.1.2;have f26:=vq.2;clear vq;have hck:=hC1.w.st.ok.ck;dsimp only [F64] at hck;simp only [puts,act_put,act_put_none,List.setIfInBounds_toArray,List.set_cons_zero,List.set_cons_succ,f25,f26] at hE ⊢;clear f25 f26;go_wp2;exact .mk (hE _ hC1)
       apply DetL.next
       ·apply dP [(27,some 138)];exact fun _=>rfl;rfl;intro vals vq w1 hC1 E hE;have f27:=vq.2;clear vq;have d0:=hC1.w.st.ok.k.val (k:=t) (v:=.int .u64 (kk:Int)) (by rw [HKK.out,wordsV,List.getElem?_map,kL_get _ _ hlt]; rfl);simp only [puts,act_put,act_put_none,List.setIfInBounds_toArray,List.set_cons_zero,List.set_cons_succ,f27] at hE ⊢;clear f27;go_wp2;exact .mk (hE _ hC1)
       apply DetL.next
       ·apply dP [(23,some 134),(28,some 139)];exact fun _=>rfl;rfl;intro vals vq w1 hC1 E hE;have f23:=vq.1.1.1.1.1.2;have f28:=vq.2;clear vq;simp only [puts,act_put,act_put_none,List.setIfInBounds_toArray,List.set_cons_zero,List.set_cons_succ,f23,f28] at hE ⊢;clear f23 f28;go_wp2;rw [add2_64 p2 kk,← HP3.out];exact .mk (hE _ hC1)
       apply DetL.next
       ·apply dP [];exact fun _=>rfl;rfl;intro vals vq w1 hC1 E hE;clear vq;simp only [puts,act_put,act_put_none,List.setIfInBounds_toArray,List.set_cons_zero,List.set_cons_succ] at hE ⊢;go_wp2;exact .mk (hE _ hC1)
       apply DetL.next
       ·apply dP [];exact fun _=>rfl;rfl;intro vals vq w1 hC1 E hE;clear vq;simp only [puts,act_put,act_put_none,List.setIfInBounds_toArray,List.set_cons_zero,List.set_cons_succ] at hE ⊢;go_wp2;exact .mk (hE _ hC1)
       apply DetL.next
       ·apply dP [(30,some 141),(31,some 142)];exact fun _=>rfl;rfl;intro vals vq w1 hC1 E hE;have f30:=vq.1.2;have f31:=vq.2;clear vq;simp only [puts,act_put,act_put_none,List.setIfInBounds_toArray,List.set_cons_zero,List.set_cons_succ,f30,f31] at hE ⊢;clear f30 f31;go_wp2;exact .mk (hE _ hC1)
       apply DetL.next
       ·apply dP [(32,some 143)];exact fun _=>rfl;rfl;intro vals vq w1 hC1 E hE;have f32:=vq.2;clear vq;have d0:=hC1.w.at_ (i:=t) HLEN.out hlt;rw [← HWK.out] at d0;simp only [puts,act_put,act_put_none,List.setIfInBounds_toArray,List.set_cons_zero,List.set_cons_succ,f32] at hE ⊢;clear f32;go_wp2;exact .mk (hE _ hC1)
       apply DetL.next
       ·apply dP [(29,some 140),(33,some 144)];exact fun _=>rfl;rfl;intro vals vq w1 hC1 E hE;have f29:=vq.1.1.1.1.2;have f33:=vq.2;clear vq;simp only [puts,act_put,act_put_none,List.setIfInBounds_toArray,List.set_cons_zero,List.set_cons_succ,f29,f33] at hE ⊢;clear f29 f33;go_wp2;rw [add2_64 p3 wk,← HP4.out];exact .mk (hE _ hC1)
       apply DetL.next
       ·apply dP [(0,some 111),(34,some 145),(8,some 119)];exact fun _=>rfl;rfl;intro vals vq w1 hC1 E hE;have f0:=vq.1.1.1.1.1.1.1.1.1.1.1.1.1.1.1.1.1.1.1.1.1.1.1.1.1.1.1.1.1.1.1.1.1.1.2;have f8:=vq.1.1.1.1.1.1.1.1.1.1.1.1.1.1.1.1.1.1.1.1.1.1.1.1.1.1.2;have f34:=vq.2;clear vq;simp only [puts,act_put,act_put_none,List.setIfInBounds_toArray,List.set_cons_zero,List.set_cons_succ,f0,f8,f34] at hE ⊢;clear f0 f8 f34;go_wp2_with fail;refine calls_then (low_any 64 80 _ _ _ _ _ _ _ (.inr rfl) p4 LP4.out) ?_;rintro e w2 ⟨rfl,hb2⟩;rw [← HXX.out];go_wp2_with fail;exact .mk (hE _ (hC1.next hb2))
       apply DetL.last
       ·apply dP [(35,some 146),(35,some 146),(0,some 111),(1,some 112),(2,some 113),(3,some 114),(4,some 115),(5,some 116),(6,some 117),(7,some 118),(8,some 119),(9,some 120),(10,some 121),(11,some 122),(12,some 123),(13,some 124),(14,some 125),(15,some 126),(16,some 127),(17,some 128),(18,some 129),(19,some 130),(20,some 131),(21,some 132),(22,some 133),(23,some 134),(24,some 135),(25,some 136),(26,some 137),(27,some 138),(28,some 139),(29,some 140),(30,some 141),(31,some 142),(32,some 143),(33,some 144),(34,some 145),(35,some 146)];exact fun _=>rfl;rfl;rintro vals ⟨⟨⟨⟨⟨⟨⟨⟨⟨⟨⟨⟨⟨⟨⟨⟨⟨⟨⟨⟨⟨⟨⟨⟨⟨⟨⟨⟨⟨⟨⟨⟨⟨⟨⟨⟨-,f0⟩,f1⟩,f2⟩,f3⟩,f4⟩,f5⟩,f6⟩,f7⟩,f8⟩,f9⟩,f10⟩,f11⟩,f12⟩,f13⟩,f14⟩,f15⟩,f16⟩,f17⟩,f18⟩,f19⟩,f20⟩,f21⟩,f22⟩,f23⟩,f24⟩,f25⟩,f26⟩,f27⟩,f28⟩,f29⟩,f30⟩,f31⟩,f32⟩,f33⟩,f34⟩,f35⟩ w1 hC1 E hE;simp only [puts,act_put,act_put_none,List.setIfInBounds_toArray,List.set_cons_zero,List.set_cons_succ,f0,f1,f2,f3,f4,f5,f6,f7,f8,f9,f10,f11,f12,f13,f14,f15,f16,f17,f18,f19,f20,f21,f22,f23,f24,f25,f26,f27,f28,f29,f30,f31,f32,f33,f34,f35] at hE ⊢;clear f0 f1 f2 f3 f4 f5 f6 f7 f8 f9 f10 f11 f12 f13 f14 f15 f16 f17 f18 f19 f20 f21 f22 f23 f24 f25 f26 f27 f28 f29 f30 f31 f32 f33 f34 f35;go_wp2;exact .mk (hE _ hC1)
       rintro vals ⟨⟨⟨⟨⟨⟨⟨⟨⟨⟨⟨⟨⟨⟨⟨⟨⟨⟨⟨⟨⟨⟨⟨⟨⟨⟨⟨⟨⟨⟨⟨⟨⟨⟨⟨⟨⟨-,f0⟩,f1⟩,f2⟩,f3⟩,f4⟩,f5⟩,f6⟩,f7⟩,f8⟩,f9⟩,f10⟩,f11⟩,f12⟩,f13⟩,f14⟩,f15⟩,f16⟩,f17⟩,f18⟩,f19⟩,f20⟩,f21⟩,f22⟩,f23⟩,f24⟩,f25⟩,f26⟩,f27⟩,f28⟩,f29⟩,f30⟩,f31⟩,f32⟩,f33⟩,f34⟩,f35⟩,f36⟩ w1 hC1;simp only [puts,act_put,act_put_none,List.setIfInBounds_toArray,List.set_cons_zero,List.set_cons_succ,f0,f1,f2,f3,f4,f5,f6,f7,f8,f9,f10,f11,f12,f13,f14,f15,f16,f17,f18,f19,f20,f21,f22,f23,f24,f25,f26,f27,f28,f29,f30,f31,f32,f33,f34,f35,f36];clear f0 f1 f2 f3 f4 f5 f6 f7 f8 f9 f10 f11 f12 f13 f14 f15 f16 f17 f18 f19 f20 f21 f22 f23 f24 f25 f26 f27 f28 f29 f30 f31 f32 f33 f34 f35 f36;clear HC0;go_wp2_with fail;have HC0:=hC1.drew;clear hC1;refine wp_region_det (fun u=>BkR w gf F64 p (some bad) blk (some sad) S (.slice (some ⟨g,0,none⟩) 80 c) RW g2 c2 ⟨va,vb,vc,vd,ve,vf,vg,vh⟩ u) (fun u=>BkR w gf F64 p (some bad) blk (some sad) S (.slice (some ⟨g,0,none⟩) 80 c) RW g2 c2 ⟨va,vb,vc,vd,ve,vf,vg,vh⟩ u) [(0,some 147),(1,some 148),(2,some 149),(3,some 150),(4,some 151),(5,some 152),(6,some 153),(7,some 154),(8,some 155),(9,some 156),(10,some 157),(11,some 158),(12,some 159),(13,some 160),(14,some 161),(15,some 162),(16,some 163),(17,some 164),(18,some 165),(19,some 166),(20,some 167),(21,some 168),(22,some 169),(23,some 170),(24,some 171),(25,some 172),(26,some 173),(27,some 19)] (by kernel_rfl) (by kernel_rfl) (by decide) (by kernel_rfl) (fun _=>rfl) HC0 ?_;apply DetL.next
       ·apply dP [];exact fun _=>rfl;rfl;rintro vals - w1 hC1 E hE;simp only [puts,act_put,act_put_none,List.setIfInBounds_toArray,List.set_cons_zero,List.set_cons_succ] at hE ⊢;refine wpList_get_box hC1.w.st.h rfl rfl rfl hu rfl h_size ?_;go_wp2_with fail;exact .mk (hE _ hC1)
       apply DetL.next
       ·apply dP [];exact fun _=>rfl;rfl;rintro vals ⟨-,-⟩ w1 hC1 E hE;simp only [puts,act_put,act_put_none,List.setIfInBounds_toArray,List.set_cons_zero,List.set_cons_succ] at hE ⊢;refine wpList_get_box hC1.w.st.h rfl rfl rfl hu rfl h_size ?_;go_wp2_with fail;exact .mk (hE _ hC1)
       apply DetL.next
       ·apply dP [];exact fun _=>rfl;rfl;intro vals vq w1 hC1 E hE;clear vq;simp only [puts,act_put,act_put_none,List.setIfInBounds_toArray,List.set_cons_zero,List.set_cons_succ] at hE ⊢;go_wp2;exact .mk (hE _ hC1)
       apply DetL.next
       ·apply dP [];exact fun _=>rfl;rfl;intro vals vq w1 hC1 E hE;clear vq;simp only [puts,act_put,act_put_none,List.setIfInBounds_toArray,List.set_cons_zero,List.set_cons_succ] at hE ⊢;go_wp2;exact .mk (hE _ hC1)
       apply DetL.next
       ·apply dP [(3,some 150)];exact fun _=>rfl;rfl;intro vals vq w1 hC1 E hE;have f3:=vq.2;clear vq;have d0:=hC1.w.st.h.cell 2;simp [hv,hC] at d0;simp only [puts,act_put,act_put_none,List.setIfInBounds_toArray,List.set_cons_zero,List.set_cons_succ,f3] at hE ⊢;clear f3;go_wp2;exact .mk (hE _ hC1)
       apply DetL.next
       ·apply dP [(1,some 148),(2,some 149),(4,some 151)];exact fun _=>rfl;rfl;rintro vals ⟨⟨⟨⟨⟨-,-⟩,f1⟩,f2⟩,-⟩,f4⟩ w1 hC1 E hE;simp only [puts,act_put,act_put_none,List.setIfInBounds_toArray,List.set_cons_zero,List.set_cons_succ,f1,f2,f4] at hE ⊢;clear f1 f2 f4;go_wp2_with fail;refine calls_then (mixed_any 64 80 _ _ _ _ _ _ _ (.inr rfl) va _ _ _ false HL8.out.a (by decide) (by decide) (by decide) _ _ gf hC1.w.st.ok.a (by have:=hC1.w.st.h.lt; omega) hC1.w.st.ok.ca) ?_;rintro e w2 ⟨rfl,hb2⟩;rw [show allN 64 va _ _ _ false=YA from HYA.out.symm];go_wp2_with fail;exact .mk (hE _ (hC1.next hb2))
       apply DetL.next
       ·apply dP [];exact fun _=>rfl;rfl;intro vals vq w1 hC1 E hE;clear vq;simp only [puts,act_put,act_put_none,List.setIfInBounds_toArray,List.set_cons_zero,List.set_cons_succ] at hE ⊢;go_wp2;exact .mk (hE _ hC1)
       apply DetL.next
       ·apply dP [];exact fun _=>rfl;rfl;intro vals vq w1 hC1 E hE;clear vq;simp only [puts,act_put,act_put_none,List.setIfInBounds_toArray,List.set_cons_zero,List.set_cons_succ] at hE ⊢;go_wp2;exact .mk (hE _ hC1)
       apply DetL.next
       ·apply dP [(7,some 154)];exact fun _=>rfl;rfl;intro vals vq w1 hC1 E hE;have f7:=vq.2;clear vq;simp only [puts,act_put,act_put_none,List.setIfInBounds_toArray,List.set_cons_zero,List.set_cons_succ,f7] at hE ⊢;clear f7;go_wp2;exact .mk (hE _ hC1)
       apply DetL.next
       ·apply dP [(8,some 155)];exact fun _=>rfl;rfl;intro vals vq w1 hC1 E hE;have f8:=vq.2;clear vq;have d0:=hC1.r.atN (i:=1) (v:=.int .u64 (vb:Int)) rfl;simp only [puts,act_put,act_put_none,List.setIfInBounds_toArray,List.set_cons_zero,List.set_cons_succ,f8] at hE ⊢;clear f8;go_wp2;exact .mk (hE _ hC1)
       apply DetL.next
       ·apply dP [(6,some 153),(9,some 156)];exact fun _=>rfl;rfl;intro vals vq w1 hC1 E hE;have f6:=vq.1.1.1.2;have f9:=vq.2;clear vq;simp only [puts,act_put,act_put_none,List.setIfInBounds_toArray,List.set_cons_zero,List.set_cons_succ,f6,f9] at hE ⊢;clear f6 f9;go_wp2;rw [and64 va vb (L64.out _ HL8.out.a) (L64.out _ HL8.out.b),← HAB.out];exact .mk (hE _ hC1)
       apply DetL.next
       ·apply dP [];exact fun _=>rfl;rfl;intro vals vq w1 hC1 E hE;clear vq;simp only [puts,act_put,act_put_none,List.setIfInBounds_toArray,List.set_cons_zero,List.set_cons_succ] at hE ⊢;go_wp2;exact .mk (hE _ hC1)
       apply DetL.next
       ·apply dP [];exact fun _=>rfl;rfl;intro vals vq w1 hC1 E hE;clear vq;simp only [puts,act_put,act_put_none,List.setIfInBounds_toArray,List.set_cons_zero,List.set_cons_succ] at hE ⊢;go_wp2;exact .mk (hE _ hC1)
       apply DetL.next
       ·apply dP [(12,some 159)];exact fun _=>rfl;rfl;intro vals vq w1 hC1 E hE;have f12:=vq.2;clear vq;simp only [puts,act_put,act_put_none,List.setIfInBounds_toArray,List.set_cons_zero,List.set_cons_succ,f12] at hE ⊢;clear f12;go_wp2;exact .mk (hE _ hC1)
       apply DetL.next
       ·apply dP [(13,some 160)];exact fun _=>rfl;rfl;intro vals vq w1 hC1 E hE;have f13:=vq.2;clear vq;have d0:=hC1.r.atN (i:=2) (v:=.int .u64 (vc:Int)) rfl;simp only [puts,act_put,act_put_none,List.setIfInBounds_toArray,List.set_cons_zero,List.set_cons_succ,f13] at hE ⊢;clear f13;go_wp2;exact .mk (hE _ hC1)
       apply DetL.next
       ·apply dP [(11,some 158),(14,some 161)];exact fun _=>rfl;rfl;intro vals vq w1 hC1 E hE;have f11:=vq.1.1.1.2;have f14:=vq.2;clear vq;simp only [puts,act_put,act_put_none,List.setIfInBounds_toArray,List.set_cons_zero,List.set_cons_succ,f11,f14] at hE ⊢;clear f11 f14;go_wp2;rw [and64 va vc (L64.out _ HL8.out.a) (L64.out _ HL8.out.c),← HAC.out];exact .mk (hE _ hC1)
       apply DetL.next
       ·apply dP [(10,some 157),(15,some 162)];exact fun _=>rfl;rfl;intro vals vq w1 hC1 E hE;have f10:=vq.1.1.1.1.1.2;have f15:=vq.2;clear vq;simp only [puts,act_put,act_put_none,List.setIfInBounds_toArray,List.set_cons_zero,List.set_cons_succ,f10,f15] at hE ⊢;clear f10 f15;go_wp2;rw [xor64 ab ac LAB.out LAC.out,← HX1.out];exact .mk (hE _ hC1)
       apply DetL.next
       ·apply dP [];exact fun _=>rfl;rfl;intro vals vq w1 hC1 E hE;clear vq;simp only [puts,act_put,act_put_none,List.setIfInBounds_toArray,List.set_cons_zero,List.set_cons_succ] at hE ⊢;go_wp2;exact .mk (hE _ hC1)
       apply DetL.next
       ·apply dP [(17,some 164)];exact fun _=>rfl;rfl;intro vals vq w1 hC1 E hE;have f17:=vq.2;clear vq;simp only [puts,act_put,act_put_none,List.setIfInBounds_toArray,List.set_cons_zero,List.set_cons_succ,f17] at hE ⊢;clear f17;go_wp2;exact .mk (hE _ hC1)
       apply DetL.next
       ·apply dP [(18,some 165)];exact fun _=>rfl;rfl;intro vals vq w1 hC1 E hE;have f18:=vq.2;clear vq;have d0:=hC1.r.atN (i:=1) (v:=.int .u64 (vb:Int)) rfl;simp only [puts,act_put,act_put_none,List.setIfInBounds_toArray,List.set_cons_zero,List.set_cons_succ,f18] at hE ⊢;clear f18;go_wp2;exact .mk (hE _ hC1)
       apply DetL.next
       ·apply dP [];exact fun _=>rfl;rfl;intro vals vq w1 hC1 E hE;clear vq;simp only [puts,act_put,act_put_none,List.setIfInBounds_toArray,List.set_cons_zero,List.set_cons_succ] at hE ⊢;go_wp2;exact .mk (hE _ hC1)
       apply DetL.next
       ·apply dP [(20,some 167)];exact fun _=>rfl;rfl;intro vals vq w1 hC1 E hE;have f20:=vq.2;clear vq;simp only [puts,act_put,act_put_none,List.setIfInBounds_toArray,List.set_cons_zero,List.set_cons_succ,f20] at hE ⊢;clear f20;go_wp2;exact .mk (hE _ hC1)
       apply DetL.next
       ·apply dP [(21,some 168)];exact fun _=>rfl;rfl;intro vals vq w1 hC1 E hE;have f21:=vq.2;clear vq;have d0:=hC1.r.atN (i:=2) (v:=.int .u64 (vc:Int)) rfl;simp only [puts,act_put,act_put_none,List.setIfInBounds_toArray,List.set_cons_zero,List.set_cons_succ,f21] at hE ⊢;clear f21;go_wp2;exact .mk (hE _ hC1)
       apply DetL.next
       ·apply dP [(19,some 166),(22,some 169)];exact fun _=>rfl;rfl;intro vals vq w1 hC1 E hE;have f19:=vq.1.1.1.2;have f22:=vq.2;clear vq;simp only [puts,act_put,act_put_none,List.setIfInBounds_toArray,List.set_cons_zero,List.set_cons_succ,f19,f22] at hE ⊢;clear f19 f22;go_wp2;rw [and64 vb vc (L64.out _ HL8.out.b) (L64.out _ HL8.out.c),← HBC.out];exact .mk (hE _ hC1)
       apply DetL.next
       ·apply dP [(16,some 163),(23,some 170)];exact fun _=>rfl;rfl;intro vals vq w1 hC1 E hE;have f16:=vq.1.1.1.1.1.1.1.2;have f23:=vq.2;clear vq;simp only [puts,act_put,act_put_none,List.setIfInBounds_toArray,List.set_cons_zero,List.set_cons_succ,f16,f23] at hE ⊢;clear f16 f23;go_wp2;rw [xor64 x1 bc2 LX1.out LBC.out,← HMJ.out];exact .mk (hE _ hC1)
       apply DetL.next
       ·apply dP [(5,some 152),(24,some 171)];exact fun _=>rfl;rfl;intro vals vq w1 hC1 E hE;have f5:=vq.1.1.1.1.1.1.1.1.1.1.1.1.1.1.1.1.1.1.1.2;have f24:=vq.2;clear vq;simp only [puts,act_put,act_put_none,List.setIfInBounds_toArray,List.set_cons_zero,List.set_cons_succ,f5,f24] at hE ⊢;clear f5 f24;go_wp2;rw [add2_64 YA mj,← HQ1.out];exact .mk (hE _ hC1)
       apply DetL.next
       ·apply dP [(0,some 147),(25,some 172),(5,some 152)];exact fun _=>rfl;rfl;intro vals vq w1 hC1 E hE;have f0:=vq.1.1.1.1.1.1.1.1.1.1.1.1.1.1.1.1.1.1.1.1.1.1.1.1.1.2;have f5:=vq.1.1.1.1.1.1.1.1.1.1.1.1.1.1.1.1.1.1.1.1.2;have f25:=vq.2;clear vq;simp only [puts,act_put,act_put_none,List.setIfInBounds_toArray,List.set_cons_zero,List.set_cons_succ,f0,f5,f25] at hE ⊢;clear f0 f5 f25;go_wp2_with fail;refine calls_then (low_any 64 80 _ _ _ _ _ _ _ (.inr rfl) q1 LQ1.out) ?_;rintro e w2 ⟨rfl,hb2⟩;rw [← HYY.out];go_wp2_with fail;exact .mk (hE _ (hC1.next hb2))
       apply DetL.last
       ·apply dP [(26,some 173),(26,some 173),(0,some 147),(1,some 148),(2,some 149),(3,some 150),(4,some 151),(5,some 152),(6,some 153),(7,some 154),(8,some 155),(9,some 156),(10,some 157),(11,some 158),(12,some 159),(13,some 160),(14,some 161),(15,some 162),(16,some 163),(17,some 164),(18,some 165),(19,some 166),(20,some 167),(21,some 168),(22,some 169),(23,some 170),(24,some 171),(25,some 172),(26,some 173)];exact fun _=>rfl;rfl;rintro vals ⟨⟨⟨⟨⟨⟨⟨⟨⟨⟨⟨⟨⟨⟨⟨⟨⟨⟨⟨⟨⟨⟨⟨⟨⟨⟨⟨-,f0⟩,f1⟩,f2⟩,f3⟩,f4⟩,f5⟩,f6⟩,f7⟩,f8⟩,f9⟩,f10⟩,f11⟩,f12⟩,f13⟩,f14⟩,f15⟩,f16⟩,f17⟩,f18⟩,f19⟩,f20⟩,f21⟩,f22⟩,f23⟩,f24⟩,f25⟩,f26⟩ w1 hC1 E hE;simp only [puts,act_put,act_put_none,List.setIfInBounds_toArray,List.set_cons_zero,List.set_cons_succ,f0,f1,f2,f3,f4,f5,f6,f7,f8,f9,f10,f11,f12,f13,f14,f15,f16,f17,f18,f19,f20,f21,f22,f23,f24,f25,f26] at hE ⊢;clear f0 f1 f2 f3 f4 f5 f6 f7 f8 f9 f10 f11 f12 f13 f14 f15 f16 f17 f18 f19 f20 f21 f22 f23 f24 f25 f26;go_wp2;exact .mk (hE _ hC1)
       rintro vals ⟨⟨⟨⟨⟨⟨⟨⟨⟨⟨⟨⟨⟨⟨⟨⟨⟨⟨⟨⟨⟨⟨⟨⟨⟨⟨⟨⟨-,f0⟩,f1⟩,f2⟩,f3⟩,f4⟩,f5⟩,f6⟩,f7⟩,f8⟩,f9⟩,f10⟩,f11⟩,f12⟩,f13⟩,f14⟩,f15⟩,f16⟩,f17⟩,f18⟩,f19⟩,f20⟩,f21⟩,f22⟩,f23⟩,f24⟩,f25⟩,f26⟩,f27⟩ w1 hC1;simp only [puts,act_put,act_put_none,List.setIfInBounds_toArray,List.set_cons_zero,List.set_cons_succ,f0,f1,f2,f3,f4,f5,f6,f7,f8,f9,f10,f11,f12,f13,f14,f15,f16,f17,f18,f19,f20,f21,f22,f23,f24,f25,f26,f27];clear f0 f1 f2 f3 f4 f5 f6 f7 f8 f9 f10 f11 f12 f13 f14 f15 f16 f17 f18 f19 f20 f21 f22 f23 f24 f25 f26 f27;clear HC0;go_wp2_with fail;have HC0:=hC1.drew;clear hC1;refine wp_region_tailq (fun u=>BkR w gf F64 p (some bad) blk (some sad) S (.slice (some ⟨g,0,none⟩) 80 c) RW g2 c2 ⟨va,vb,vc,vd,ve,vf,vg,vh⟩ u) (fun _=>false) 26 [(0,some 174),(1,some 175),(2,some 176),(3,some 177),(4,some 178),(5,some 179),(6,some 180),(7,some 181),(8,some 182),(9,some 183),(10,some 184),(11,some 185),(12,some 186),(13,some 187),(14,some 188),(15,some 189),(16,some 190),(17,some 191),(18,some 192),(19,some 193),(20,some 194),(21,some 195),(22,some 196),(23,some 197),(24,some 198),(25,some 199),(26,some 200),(27,some 13)] (by kernel_rfl) (by kernel_rfl) (by decide) (by kernel_rfl) (fun _=>rfl) HC0 ?_;apply DetQ.next
       ·apply dQ;apply dP [];exact fun _=>rfl;rfl;rintro vals - w1 hC1 E hE;simp only [puts,act_put,act_put_none,List.setIfInBounds_toArray,List.set_cons_zero,List.set_cons_succ] at hE ⊢;refine wpList_get_box hC1.w.st.h rfl rfl rfl hu rfl h_size ?_;go_wp2_with fail;exact .mk (hE _ hC1)
       apply DetQ.next
       ·apply dQ;apply dP [];exact fun _=>rfl;rfl;rintro vals ⟨-,-⟩ w1 hC1 E hE;simp only [puts,act_put,act_put_none,List.setIfInBounds_toArray,List.set_cons_zero,List.set_cons_succ] at hE ⊢;go_wp2;exact .mk (hE _ hC1)
       apply DetQ.next
       ·apply dQ;apply dP [];exact fun _=>rfl;rfl;intro vals vq w1 hC1 E hE;clear vq;simp only [puts,act_put,act_put_none,List.setIfInBounds_toArray,List.set_cons_zero,List.set_cons_succ] at hE ⊢;go_wp2;exact .mk (hE _ hC1)
       apply DetQ.next
       ·apply dQ;apply dP [(1,some 175),(2,some 176)];exact fun _=>rfl;rfl;rintro vals ⟨⟨⟨-,-⟩,f1⟩,f2⟩ w1 hC1 E hE;simp only [puts,act_put,act_put_none,List.setIfInBounds_toArray,List.set_cons_zero,List.set_cons_succ,f1,f2] at hE ⊢;clear f1 f2;go_wp2;rw [add2_64 xx yy,← HZ1.out];exact .mk (hE _ hC1)
       apply DetQ.next
       ·apply dQ;apply dP [(0,some 174),(3,some 177)];exact fun _=>rfl;rfl;rintro vals ⟨⟨⟨⟨-,f0⟩,-⟩,-⟩,f3⟩ w1 hC1 E hE;simp only [puts,act_put,act_put_none,List.setIfInBounds_toArray,List.set_cons_zero,List.set_cons_succ,f0,f3] at hE ⊢;clear f0 f3;go_wp2_with fail;refine calls_then (low_any 64 80 _ _ _ _ _ _ _ (.inr rfl) z1 LZ1.out) ?_;rintro e w2 ⟨rfl,hb2⟩;rw [← HZA.out];go_wp2_with fail;exact .mk (hE _ (hC1.next hb2))
       apply DetQ.next
       ·apply dQ;apply dP [];exact fun _=>rfl;rfl;intro vals vq w1 hC1 E hE;clear vq;simp only [puts,act_put,act_put_none,List.setIfInBounds_toArray,List.set_cons_zero,List.set_cons_succ] at hE ⊢;go_wp2;exact .mk (hE _ hC1)
       apply DetQ.next
       ·apply dQ;apply dP [];exact fun _=>rfl;rfl;intro vals vq w1 hC1 E hE;clear vq;simp only [puts,act_put,act_put_none,List.setIfInBounds_toArray,List.set_cons_zero,List.set_cons_succ] at hE ⊢;go_wp2;exact .mk (hE _ hC1)
       apply DetQ.next
       ·apply dQ;apply dP [(6,some 180)];exact fun _=>rfl;rfl;intro vals vq w1 hC1 E hE;have f6:=vq.2;clear vq;simp only [puts,act_put,act_put_none,List.setIfInBounds_toArray,List.set_cons_zero,List.set_cons_succ,f6] at hE ⊢;clear f6;go_wp2;exact .mk (hE _ hC1)
       apply DetQ.next
       ·apply dQ;apply dP [(7,some 181)];exact fun _=>rfl;rfl;intro vals vq w1 hC1 E hE;have f7:=vq.2;clear vq;have d0:=hC1.r.atN (i:=1) (v:=.int .u64 (vb:Int)) rfl;simp only [puts,act_put,act_put_none,List.setIfInBounds_toArray,List.set_cons_zero,List.set_cons_succ,f7] at hE ⊢;clear f7;go_wp2;exact .mk (hE _ hC1)
       apply DetQ.next
       ·apply dQ;apply dP [];exact fun _=>rfl;rfl;intro vals vq w1 hC1 E hE;clear vq;simp only [puts,act_put,act_put_none,List.setIfInBounds_toArray,List.set_cons_zero,List.set_cons_succ] at hE ⊢;go_wp2;exact .mk (hE _ hC1)
       apply DetQ.next
       ·apply dQ;apply dP [(9,some 183)];exact fun _=>rfl;rfl;intro vals vq w1 hC1 E hE;have f9:=vq.2;clear vq;simp only [puts,act_put,act_put_none,List.setIfInBounds_toArray,List.set_cons_zero,List.set_cons_succ,f9] at hE ⊢;clear f9;go_wp2;exact .mk (hE _ hC1)
       apply DetQ.next
       ·apply dQ;apply dP [(10,some 184)];exact fun _=>rfl;rfl;intro vals vq w1 hC1 E hE;have f10:=vq.2;clear vq;have d0:=hC1.r.atN (i:=2) (v:=.int .u64 (vc:Int)) rfl;simp only [puts,act_put,act_put_none,List.setIfInBounds_toArray,List.set_cons_zero,List.set_cons_succ,f10] at hE ⊢;clear f10;go_wp2;exact .mk (hE _ hC1)
       apply DetQ.next
       ·apply dQ;apply dP [];exact fun _=>rfl;rfl;intro vals vq w1 hC1 E hE;clear vq;simp only [puts,act_put,act_put_none,List.setIfInBounds_toArray,List.set_cons_zero,List.set_cons_succ] at hE ⊢;refine wpList_get_box hC1.w.st.h rfl rfl rfl hu rfl h_size ?_;go_wp2_with fail;exact .mk (hE _ hC1)
       apply DetQ.next
       ·apply dQ;apply dP [];exact fun _=>rfl;rfl;intro vals vq w1 hC1 E hE;clear vq;simp only [puts,act_put,act_put_none,List.setIfInBounds_toArray,List.set_cons_zero,List.set_cons_succ] at hE ⊢;go_wp2;exact .mk (hE _ hC1)
       apply DetQ.next
       ·apply dQ;apply dP [(13,some 187)];exact fun _=>rfl;rfl;intro vals vq w1 hC1 E hE;have f13:=vq.2;clear vq;simp only [puts,act_put,act_put_none,List.setIfInBounds_toArray,List.set_cons_zero,List.set_cons_succ,f13] at hE ⊢;clear f13;go_wp2;exact .mk (hE _ hC1)
       apply DetQ.next
       ·apply dQ;apply dP [(14,some 188)];exact fun _=>rfl;rfl;intro vals vq w1 hC1 E hE;have f14:=vq.2;clear vq;have d0:=hC1.r.atN (i:=3) (v:=.int .u64 (vd:Int)) rfl;simp only [puts,act_put,act_put_none,List.setIfInBounds_toArray,List.set_cons_zero,List.set_cons_succ,f14] at hE ⊢;clear f14;go_wp2;exact .mk (hE _ hC1)
       apply DetQ.next
       ·apply dQ;apply dP [];exact fun _=>rfl;rfl;intro vals vq w1 hC1 E hE;clear vq;simp only [puts,act_put,act_put_none,List.setIfInBounds_toArray,List.set_cons_zero,List.set_cons_succ] at hE ⊢;go_wp2;exact .mk (hE _ hC1)
       apply DetQ.next
       ·apply dQ;apply dP [(15,some 189),(16,some 190)];exact fun _=>rfl;rfl;intro vals vq w1 hC1 E hE;have f15:=vq.1.2;have f16:=vq.2;clear vq;simp only [puts,act_put,act_put_none,List.setIfInBounds_toArray,List.set_cons_zero,List.set_cons_succ,f15,f16] at hE ⊢;clear f15 f16;go_wp2;rw [add2_64 vd xx,← HZ2.out];exact .mk (hE _ hC1)
       apply DetQ.next
       ·apply dQ;apply dP [(12,some 186),(17,some 191),(4,some 178)];exact fun _=>rfl;rfl;intro vals vq w1 hC1 E hE;have f4:=vq.1.1.1.1.1.1.1.1.1.1.1.1.1.2;have f12:=vq.1.1.1.1.1.2;have f17:=vq.2;clear vq;simp only [puts,act_put,act_put_none,List.setIfInBounds_toArray,List.set_cons_zero,List.set_cons_succ,f4,f12,f17] at hE ⊢;clear f4 f12 f17;go_wp2_with fail;refine calls_then (low_any 64 80 _ _ _ _ _ _ _ (.inr rfl) z2 LZ2.out) ?_;rintro e w2 ⟨rfl,hb2⟩;rw [← HZE.out];go_wp2_with fail;exact .mk (hE _ (hC1.next hb2))
       apply DetQ.next
       ·apply dQ;apply dP [];exact fun _=>rfl;rfl;intro vals vq w1 hC1 E hE;clear vq;simp only [puts,act_put,act_put_none,List.setIfInBounds_toArray,List.set_cons_zero,List.set_cons_succ] at hE ⊢;go_wp2;exact .mk (hE _ hC1)
       apply DetQ.next
       ·apply dQ;apply dP [];exact fun _=>rfl;rfl;intro vals vq w1 hC1 E hE;clear vq;simp only [puts,act_put,act_put_none,List.setIfInBounds_toArray,List.set_cons_zero,List.set_cons_succ] at hE ⊢;go_wp2;exact .mk (hE _ hC1)
       apply DetQ.next
       ·apply dQ;apply dP [(20,some 194)];exact fun _=>rfl;rfl;intro vals vq w1 hC1 E hE;have f20:=vq.2;clear vq;simp only [puts,act_put,act_put_none,List.setIfInBounds_toArray,List.set_cons_zero,List.set_cons_succ,f20] at hE ⊢;clear f20;go_wp2;exact .mk (hE _ hC1)
       apply DetQ.next
       ·apply dQ;apply dP [(21,some 195)];exact fun _=>rfl;rfl;intro vals vq w1 hC1 E hE;have f21:=vq.2;clear vq;have d0:=hC1.r.atN (i:=5) (v:=.int .u64 (vf:Int)) rfl;simp only [puts,act_put,act_put_none,List.setIfInBounds_toArray,List.set_cons_zero,List.set_cons_succ,f21] at hE ⊢;clear f21;go_wp2;exact .mk (hE _ hC1)
       apply DetQ.next
       ·apply dQ;apply dP [];exact fun _=>rfl;rfl;intro vals vq w1 hC1 E hE;clear vq;simp only [puts,act_put,act_put_none,List.setIfInBounds_toArray,List.set_cons_zero,List.set_cons_succ] at hE ⊢;go_wp2;exact .mk (hE _ hC1)
       apply DetQ.next
       ·apply dQ;apply dP [(23,some 197)];exact fun _=>rfl;rfl;intro vals vq w1 hC1 E hE;have f23:=vq.2;clear vq;simp only [puts,act_put,act_put_none,List.setIfInBounds_toArray,List.set_cons_zero,List.set_cons_succ,f23] at hE ⊢;clear f23;go_wp2;exact .mk (hE _ hC1)
       apply DetQ.next
       ·apply dQ;apply dP [(24,some 198)];exact fun _=>rfl;rfl;intro vals vq w1 hC1 E hE;have f24:=vq.2;clear vq;have d0:=hC1.r.atN (i:=6) (v:=.int .u64 (vg:Int)) rfl;simp only [puts,act_put,act_put_none,List.setIfInBounds_toArray,List.set_cons_zero,List.set_cons_succ,f24] at hE ⊢;clear f24;go_wp2;exact .mk (hE _ hC1)
       apply DetQ.done;rintro vals ⟨⟨⟨⟨⟨⟨⟨⟨⟨⟨⟨⟨⟨⟨⟨⟨⟨⟨⟨⟨⟨⟨⟨⟨⟨⟨-,f0⟩,f1⟩,f2⟩,f3⟩,f4⟩,f5⟩,f6⟩,f7⟩,f8⟩,f9⟩,f10⟩,f11⟩,f12⟩,f13⟩,f14⟩,f15⟩,f16⟩,f17⟩,f18⟩,f19⟩,f20⟩,f21⟩,f22⟩,f23⟩,f24⟩,f25⟩ w1 hC1;refine tail_step [(4,some 178),(5,some 179),(8,some 182),(11,some 185),(18,some 192),(19,some 193),(22,some 196),(25,some 199)] (fun _=>rfl) rfl ?_;intro E hE;simp only [puts,act_put,act_put_none,List.setIfInBounds_toArray,List.set_cons_zero,List.set_cons_succ,f4,f5,f8,f11,f18,f19,f22,f25] at hE ⊢;go_wp2;refine .mk (hE _ _ ?_);clear hE E;generalize hval:upd _ 26 _=vals26;replace f0:=uP hval (by decide) f0;replace f1:=uP hval (by decide) f1;replace f2:=uP hval (by decide) f2;replace f3:=uP hval (by decide) f3;replace f4:=uP hval (by decide) f4;replace f5:=uP hval (by decide) f5;replace f6:=uP hval (by decide) f6;replace f7:=uP hval (by decide) f7;replace f8:=uP hval (by decide) f8;replace f9:=uP hval (by decide) f9;replace f10:=uP hval (by decide) f10;replace f11:=uP hval (by decide) f11;replace f12:=uP hval (by decide) f12;replace f13:=uP hval (by decide) f13;replace f14:=uP hval (by decide) f14;replace f15:=uP hval (by decide) f15;replace f16:=uP hval (by decide) f16;replace f17:=uP hval (by decide) f17;replace f18:=uP hval (by decide) f18;replace f19:=uP hval (by decide) f19;replace f20:=uP hval (by decide) f20;replace f21:=uP hval (by decide) f21;replace f22:=uP hval (by decide) f22;replace f23:=uP hval (by decide) f23;replace f24:=uP hval (by decide) f24;replace f25:=uP hval (by decide) f25;have f26:=(congrFun hval 26).symm.trans (upd_self _ _ _);clear hval;refine tail_step [(26,some 200),(18,some 192),(0,some 174),(1,some 175),(2,some 176),(3,some 177),(4,some 178),(5,some 179),(6,some 180),(7,some 181),(8,some 182),(9,some 183),(10,some 184),(11,some 185),(12,some 186),(13,some 187),(14,some 188),(15,some 189),(16,some 190),(17,some 191),(18,some 192),(19,some 193),(20,some 194),(21,some 195),(22,some 196),(23,some 197),(24,some 198),(25,some 199),(26,some 200)] (fun _=>rfl) rfl ?_;intro E hE;simp only [puts,act_put,act_put_none,List.setIfInBounds_toArray,List.set_cons_zero,List.set_cons_succ,f0,f1,f2,f3,f4,f5,f6,f7,f8,f9,f10,f11,f12,f13,f14,f15,f16,f17,f18,f19,f20,f21,f22,f23,f24,f25,f26] at hE ⊢;go_wp2;refine .mk (hE _ _ ?_);clear hE E;generalize hval:upd _ 27 _=vals27;replace f0:=uP hval (by decide) f0;replace f1:=uP hval (by decide) f1;replace f2:=uP hval (by decide) f2;replace f3:=uP hval (by decide) f3;replace f4:=uP hval (by decide) f4;replace f5:=uP hval (by decide) f5;replace f6:=uP hval (by decide) f6;replace f7:=uP hval (by decide) f7;replace f8:=uP hval (by decide) f8;replace f9:=uP hval (by decide) f9;replace f10:=uP hval (by decide) f10;replace f11:=uP hval (by decide) f11;replace f12:=uP hval (by decide) f12;replace f13:=uP hval (by decide) f13;replace f14:=uP hval (by decide) f14;replace f15:=uP hval (by decide) f15;replace f16:=uP hval (by decide) f16;replace f17:=uP hval (by decide) f17;replace f18:=uP hval (by decide) f18;replace f19:=uP hval (by decide) f19;replace f20:=uP hval (by decide) f20;replace f21:=uP hval (by decide) f21;replace f22:=uP hval (by decide) f22;replace f23:=uP hval (by decide) f23;replace f24:=uP hval (by decide) f24;replace f25:=uP hval (by decide) f25;replace f26:=uP hval (by decide) f26;have f27:=(congrFun hval 27).symm.trans (upd_self _ _ _);clear hval;refine tail_end ?_;simp only [puts,act_put,act_put_none,List.setIfInBounds_toArray,List.set_cons_zero,List.set_cons_succ,f0,f1,f2,f3,f4,f5,f6,f7,f8,f9,f10,f11,f12,f13,f14,f15,f16,f17,f18,f19,f20,f21,f22,f23,f24,f25,f26,f27];clear f0 f1 f2 f3 f4 f5 f6 f7 f8 f9 f10 f11 f12 f13 f14 f15 f16 f17 f18 f19 f20 f21 f22 f23 f24 f25 f26 f27;clear HC0;have hfin:BkR w gf F64 p (some bad) blk (some sad) S (.slice (some ⟨g,0,none⟩) 80 c) RW w1.heap.size 8 (mixTo F64 RW S (t+1)) _:=hC1.turn (V':=mixTo F64 RW S (t+1)) (fz:=(0,0));rw [HM1.out] at hfin;have HFIN:=zY hfin;clear hfin hC1;go_wp2_with fail;refine ⟨⟨t+1,w1.heap.size,8,by omega,by go_num,rfl,?_⟩,by simp [intOf]; omega⟩;rw [HM1.out]; exact HFIN.out
      ·obtain rfl:t=80:=by omega
       obtain ⟨R,hR⟩:∃ x,x=mixTo F64 RW S 80:=⟨_,rfl⟩;rw [← hR] at hsr;have ho:BkO w gf F64 p (some bad) blk (some sad) S (.slice (some ⟨g,0,none⟩) 80 c) RW g2 c2 R (.slice none 0 0) ((s8L (addS F64 S R)).take 0) wr:=⟨hsr,OwnX.nil _ _ _ _,.inl rfl⟩;have HR:=zY hR;have HO:=zY ho;clear hR ho hsr HSR;go_wp2_with fail;obtain ⟨wo3,rfl⟩:∃ wo3:World,wo3=wr:=⟨_,rfl⟩
       go_loopw [20,21] (fun v i wr=>∃ (k:Nat) (A5:Option Addr) (c5:Nat),k≤8∧i=.int .i64 k∧v=.slice A5 k c5∧BkO w gf F64 p (some bad) blk (some sad) S (.slice (some ⟨g,0,none⟩) 80 c) RW g2 c2 R (.slice A5 k c5) ((s8L (addS F64 S R)).take k) wr) (fun _ i _=>8 - (intOf i).toNat)
       case atStart=>exact ⟨0,none,0,by omega,rfl,rfl,HO.out⟩
       case round =>
        obtain ⟨k,A5,c5,hk,rfl,rfl,hbo⟩:=hrel
        by_cases hk8:k<8
        ·have hk8':(k:Int)<8:=by omega
         obtain ⟨rj,hrj⟩:∃ x,x=(s8L R).getD k 0:=⟨_,rfl⟩;obtain ⟨sj,hsj⟩:∃ x,x=(s8L S).getD k 0:=⟨_,rfl⟩;obtain ⟨s1,hs1⟩:∃ x,x=(rj+sj)%2^64:=⟨_,rfl⟩;obtain ⟨aj,haj⟩:∃ x,x=s1%2^64:=⟨_,rfl⟩;obtain ⟨XS,hXS⟩:∃ x,x=(s8L (addS F64 S R)).take k:=⟨_,rfl⟩;have hxl:XS.length=k:=by rw [hXS]; exact s8_take_len _ _ hk
         have hnx:(s8L (addS F64 S R)).take (k+1)=XS++[aj]:=by
          rw [s8_take _ _ hk8,addS_get _ _ _ _ hk8,hXS,haj,hs1,hrj,hsj];exact congrArg (fun z=>(s8L (addS F64 S R)).take k++[z]) (mod_r64 _ _)
         have ER:Hid ((wordsV .u64 (s8L R))[k]?=some (.int .u64 (rj:Int))):=zY (by rw [hrj]; exact wordsV_get _ _ _ (by show k<8; exact hk8));have ES:Hid ((wordsV .u64 (s8L S))[k]?=some (.int .u64 (sj:Int))):=zY (by rw [hsj]; exact wordsV_get _ _ _ (by show k<8; exact hk8));have LS1:Hid (s1<18446744073709551616):=zY (by rw [hs1]; exact Nat.mod_lt _ (by decide));rw [← hXS] at hbo;have HS1:=zY hs1;have HAJ:=zY haj;have HXL:=zY hxl;have HNX:=zY hnx;have hu:=Tryd.underlying101;have HC0:=hbo.drew;clear hrj hsj hs1 haj hXS hxl hnx hbo HO;go_wp2_with fail;refine wp_region_tailq (fun u=>BkO w gf F64 p (some bad) blk (some sad) S (.slice (some ⟨g,0,none⟩) 80 c) RW g2 c2 R (.slice A5 k c5) XS u) (fun i=>i == 0) 12 [(0,some 205),(1,some 206),(2,some 207),(3,some 208),(4,some 209),(5,some 210),(6,some 211),(7,some 212),(8,some 213),(9,some 214),(10,some 215),(11,some 216),(12,some 217),(13,some 218),(14,some 20)] (by kernel_rfl) (by kernel_rfl) (by decide) (by kernel_rfl) (fun _=>rfl) HC0 ?_;apply DetQ.next
         ·apply detStepQ_pure [];exact fun _=>rfl;rfl;rintro vals - w1 E hE;simp only [puts,act_put,act_put_none,List.setIfInBounds_toArray,List.set_cons_zero,List.set_cons_succ] at hE ⊢;go_wp2;exact .mk hE
         apply DetQ.next
         ·apply dQ;apply dP [];exact fun _=>rfl;rfl;rintro vals ⟨-,-⟩ w1 hC1 E hE;simp only [puts,act_put,act_put_none,List.setIfInBounds_toArray,List.set_cons_zero,List.set_cons_succ] at hE ⊢;refine wpList_get_box hC1.r.w.st.h rfl rfl rfl hu rfl h_size ?_;go_wp2_with fail;exact .mk (hE _ hC1)
         apply DetQ.next
         ·apply dQ;apply dP [];exact fun _=>rfl;rfl;intro vals vq w1 hC1 E hE;clear vq;simp only [puts,act_put,act_put_none,List.setIfInBounds_toArray,List.set_cons_zero,List.set_cons_succ] at hE ⊢;go_wp2;exact .mk (hE _ hC1)
         apply DetQ.next
         ·apply dQ;apply dP [];exact fun _=>rfl;rfl;intro vals vq w1 hC1 E hE;clear vq;simp only [puts,act_put,act_put_none,List.setIfInBounds_toArray,List.set_cons_zero,List.set_cons_succ] at hE ⊢;go_wp2;exact .mk (hE _ hC1)
         apply DetQ.next
         ·apply dQ;apply dP [(2,some 207),(3,some 208)];exact fun _=>rfl;rfl;rintro vals ⟨⟨⟨⟨-,-⟩,-⟩,f2⟩,f3⟩ w1 hC1 E hE;have hc8:=hC1.r.le;simp only [puts,act_put,act_put_none,List.setIfInBounds_toArray,List.set_cons_zero,List.set_cons_succ,f2,f3] at hE ⊢;clear f2 f3;go_wp2;exact .mk (hE _ hC1)
         apply DetQ.next
         ·apply dQ;apply dP [(4,some 209)];exact fun _=>rfl;rfl;intro vals vq w1 hC1 E hE;have f4:=vq.2;clear vq;have d0:=hC1.r.r.atN ER.out;simp only [puts,act_put,act_put_none,List.setIfInBounds_toArray,List.set_cons_zero,List.set_cons_succ,f4] at hE ⊢;clear f4;go_wp2;exact .mk (hE _ hC1)
         apply DetQ.next
         ·apply dQ;apply dP [];exact fun _=>rfl;rfl;intro vals vq w1 hC1 E hE;clear vq;simp only [puts,act_put,act_put_none,List.setIfInBounds_toArray,List.set_cons_zero,List.set_cons_succ] at hE ⊢;go_wp2;exact .mk (hE _ hC1)
         apply DetQ.next
         ·apply dQ;apply dP [];exact fun _=>rfl;rfl;intro vals vq w1 hC1 E hE;clear vq;simp only [puts,act_put,act_put_none,List.setIfInBounds_toArray,List.set_cons_zero,List.set_cons_succ] at hE ⊢;go_wp2;exact .mk (hE _ hC1)
         apply DetQ.next
         ·apply dQ;apply dP [(6,some 211),(7,some 212)];exact fun _=>rfl;rfl;intro vals vq w1 hC1 E hE;have f6:=vq.1.2;have f7:=vq.2;clear vq;simp only [puts,act_put,act_put_none,List.setIfInBounds_toArray,List.set_cons_zero,List.set_cons_succ,f6,f7] at hE ⊢;clear f6 f7;go_wp2;exact .mk (hE _ hC1)
         apply DetQ.next
         ·apply dQ;apply dP [(8,some 213)];exact fun _=>rfl;rfl;intro vals vq w1 hC1 E hE;have f8:=vq.2;clear vq;have d0:=hC1.r.w.st.rs.val ES.out;simp only [puts,act_put,act_put_none,List.setIfInBounds_toArray,List.set_cons_zero,List.set_cons_succ,f8] at hE ⊢;clear f8;go_wp2;exact .mk (hE _ hC1)
         apply DetQ.next
         ·apply dQ;apply dP [(5,some 210),(9,some 214)];exact fun _=>rfl;rfl;intro vals vq w1 hC1 E hE;have f5:=vq.1.1.1.1.2;have f9:=vq.2;clear vq;simp only [puts,act_put,act_put_none,List.setIfInBounds_toArray,List.set_cons_zero,List.set_cons_succ,f5,f9] at hE ⊢;clear f5 f9;go_wp2;rw [add2_64 rj sj,← HS1.out];exact .mk (hE _ hC1)
         apply DetQ.next
         ·apply dQ;apply dP [(1,some 206),(10,some 215)];exact fun _=>rfl;rfl;intro vals vq w1 hC1 E hE;have f1:=vq.1.1.1.1.1.1.1.1.1.2;have f10:=vq.2;clear vq;simp only [puts,act_put,act_put_none,List.setIfInBounds_toArray,List.set_cons_zero,List.set_cons_succ,f1,f10] at hE ⊢;clear f1 f10;go_wp2_with fail;refine calls_then (low_any 64 80 _ _ _ _ _ _ _ (.inr rfl) s1 LS1.out) ?_;rintro e w2 ⟨rfl,hb2⟩;rw [← HAJ.out];go_wp2_with fail;exact .mk (hE _ (hC1.next hb2))
         apply DetQ.done;rintro vals ⟨⟨⟨⟨⟨⟨⟨⟨⟨⟨⟨⟨-,f0⟩,f1⟩,f2⟩,f3⟩,f4⟩,f5⟩,f6⟩,f7⟩,f8⟩,f9⟩,f10⟩,f11⟩ w1 hC1;refine tail_step [(11,some 216)] (fun _=>rfl) rfl ?_;intro E hE;simp only [puts,act_put,act_put_none,List.setIfInBounds_toArray,List.set_cons_zero,List.set_cons_succ,f11] at hE ⊢;go_wp2;refine .mk (hE _ _ ?_);clear hE E;generalize hval:upd _ 12 _=vals12;replace f0:=uP hval (by decide) f0;replace f1:=uP hval (by decide) f1;replace f2:=uP hval (by decide) f2;replace f3:=uP hval (by decide) f3;replace f4:=uP hval (by decide) f4;replace f5:=uP hval (by decide) f5;replace f6:=uP hval (by decide) f6;replace f7:=uP hval (by decide) f7;replace f8:=uP hval (by decide) f8;replace f9:=uP hval (by decide) f9;replace f10:=uP hval (by decide) f10;replace f11:=uP hval (by decide) f11;have f12:=(congrFun hval 12).symm.trans (upd_self _ _ _);clear hval;refine tail_step [(0,some 205),(12,some 217),(11,some 216)] (fun _=>rfl) rfl ?_;intro E hE;simp only [puts,act_put,act_put_none,List.setIfInBounds_toArray,List.set_cons_zero,List.set_cons_succ,f0,f11,f12] at hE ⊢;refine wpList_append_one sl_u64 rfl rfl (show OwnX w1 (gf+1) 36 1 (.slice A5 k c5) k (wordsV .u64 XS) by have:=hC1.o; rwa [HXL.out] at this) rfl rfl rfl rfl (by unfold maxLen; omega) (by omega) (by have:=hC1.r.w.st.h.lt; omega) ?_;intro A6 c6 w6 hown6 hg6 hn6;have HOWN6:=zY hown6;have HG6:=zY hg6;have HN6:=zY hn6;clear hown6 hg6 hn6;go_wp2_with fail;refine .mk (hE _ _ ?_);clear hE E;generalize hval:upd _ 13 _=vals13;replace f0:=uP hval (by decide) f0;replace f1:=uP hval (by decide) f1;replace f2:=uP hval (by decide) f2;replace f3:=uP hval (by decide) f3;replace f4:=uP hval (by decide) f4;replace f5:=uP hval (by decide) f5;replace f6:=uP hval (by decide) f6;replace f7:=uP hval (by decide) f7;replace f8:=uP hval (by decide) f8;replace f9:=uP hval (by decide) f9;replace f10:=uP hval (by decide) f10;replace f11:=uP hval (by decide) f11;replace f12:=uP hval (by decide) f12;have f13:=(congrFun hval 13).symm.trans (upd_self _ _ _);clear hval;refine tail_step [(13,some 218),(13,some 218),(0,some 205),(1,some 206),(2,some 207),(3,some 208),(4,some 209),(5,some 210),(6,some 211),(7,some 212),(8,some 213),(9,some 214),(10,some 215),(11,some 216),(12,some 217),(13,some 218)] (fun _=>rfl) rfl ?_;intro E hE;simp only [puts,act_put,act_put_none,List.setIfInBounds_toArray,List.set_cons_zero,List.set_cons_succ,f0,f1,f2,f3,f4,f5,f6,f7,f8,f9,f10,f11,f12,f13] at hE ⊢;go_wp2;refine .mk (hE _ _ ?_);clear hE E;generalize hval:upd _ 14 _=vals14;replace f0:=uP hval (by decide) f0;replace f1:=uP hval (by decide) f1;replace f2:=uP hval (by decide) f2;replace f3:=uP hval (by decide) f3;replace f4:=uP hval (by decide) f4;replace f5:=uP hval (by decide) f5;replace f6:=uP hval (by decide) f6;replace f7:=uP hval (by decide) f7;replace f8:=uP hval (by decide) f8;replace f9:=uP hval (by decide) f9;replace f10:=uP hval (by decide) f10;replace f11:=uP hval (by decide) f11;replace f12:=uP hval (by decide) f12;replace f13:=uP hval (by decide) f13;have f14:=(congrFun hval 14).symm.trans (upd_self _ _ _);clear hval;refine tail_end ?_;simp only [puts,act_put,act_put_none,List.setIfInBounds_toArray,List.set_cons_zero,List.set_cons_succ,f0,f1,f2,f3,f4,f5,f6,f7,f8,f9,f10,f11,f12,f13,f14];clear f0 f1 f2 f3 f4 f5 f6 f7 f8 f9 f10 f11 f12 f13 f14;clear HC0;have hbo2:=hC1.app (o':=.slice A6 (k+1) c6) (y:=aj) (by rw [HXL.out]; exact HOWN6.out) HG6.out HN6.out;rw [← HNX.out] at hbo2;have HBO2:=zY hbo2;clear hbo2 hC1;go_wp2_with fail;exact ⟨⟨k+1,A6,c6,by omega,by go_num,rfl,HBO2.out⟩,by simp [intOf]; omega⟩
        ·obtain rfl:k=8:=by omega
         have HBO:=zY hbo;clear hbo HO;go_wp2_with fail;go_ret;refine ⟨A5,c5,rfl,?_,by rw [← HGF.out]; exact HBO.out.r.w.st.bel⟩;have h:=HBO.out.o;rw [s8_take_len _ _ (by omega)] at h;have hd:addS F64 S R=mixS F64 S blk:=by rw [mixS,HR.out,HRW.out]; rfl
         rw [← hd,← HGF.out];exact h.mono (by omega)
end Go.Proofs.YtdgheahbafnboaaDoor.Sh
/-
  Walk: the reference's Sum, words of 64 bits.
-/
namespace Go.Proofs.YtdgheahbafnboaaDoor.Sh
set_option linter.unusedSimpArgs false
set_option linter.unusedVariables false
open Go.RowKit
theorem zeroR64_ne (n k:Nat) (h:k<zeroR F64 n):((((n+1+k:Nat):Int)+16)%128 != 0)=true:=by
 simp only [zeroR,F64] at h;rw [bne_iff_ne];omega
theorem zeroR64_eq (n:Nat):((((n+1+zeroR F64 n:Nat):Int)+16)%128 != 0)=false:=by
 have h:zeroR F64 n=(2*64 - (n+1+64/4)%(2*64))%(2*64):=rfl;rw [bne_eq_false_iff_eq];omega
set_option maxRecDepth 100000 in
set_option maxHeartbeats 4000000 in
theorem hsum64_any (p:HP) (data:List UInt8) (A:Option Addr) (c B:Nat) (w:World) (hok:HOk F64 p w B) (hr:Rd w B A (bytesV data)) (hB:B≤w.heap.size) (hl:data.length≤1000) (hc:data.length≤c) :
  Calls Tryd.prog 77 #[.agg (hv F64 p),.slice A data.length c] w (HSumPost F64 64 data w):=by
 have hu:=Tryd.underlying101;obtain ⟨gf,hgf⟩:∃ x,x=w.heap.size:=⟨_,rfl⟩
 have hst0:HsA w gf F64 p A data (.slice none 0 0) [] (w.alloc (.cells (hv F64 p) 101)):=by
  have hb:=below_new w (.cells (hv F64 p) 101);rw [hgf];exact ⟨⟨hb,Blk.new _ _ _,(hok.mono hB).below hb,(hr.mono hB).below hb⟩,OwnX.nil _ _ _ _⟩
 have d0:=hst0.st.h.cell 0;simp [hv,hC,F64] at d0;have HST0:=zY hst0;have HGF:=zY hgf;have hl':(data.length:Int)≤1000:=by omega
 clear hst0 hok hr hB hgf;go_enter Tryd.func77,Tryd.ntmps77;have HOWN0:Hid (OwnX (w.alloc (.cells (hv F64 p) 101)) (gf+1) 5 1 (.slice none 0 0) 0 []):=zY HST0.out.own
 go_wp2_with (first
  | (refine wpList_append_rd (o:=⟨some 17,_,_,_,_,_⟩) sl_bytes rfl rfl HOWN0.out rfl rfl (by simp [bytesV]) HST0.out.st.rd (by intro u hu; simp [bytesV,byteV] at hu; obtain ⟨_,_,rfl⟩:=hu; rfl) (by unfold maxLen; omega) (by omega) (by have:=HST0.out.st.h.lt; omega) ?_; intro A1 c1 w1 hown1 hg1 hn1; have HOWN1:Hid (OwnX w1 (gf+1) 5 1 (.slice A1 data.length c1) data.length (bytesV data)):=zY (by simpa using hown1); have H1281:Hid (gf+1≤w1.heap.size):=zY (by have:=hg1.size; have:=HGF.out; simp at *; omega); have HG1:=zY hg1; clear hown1 hg1 hn1)
  | (refine wpList_append_one (o:=⟨some 20,_,_,_,_,_⟩) sl_bytes rfl rfl HOWN1.out rfl rfl rfl rfl (by unfold maxLen; omega) (by omega) H1281.out ?_; intro A2 c2 w2 hown2 hg2 hn2; have hs2:HsA w gf F64 p A data (.slice A2 (data.length+1) c2) (oneZ data 0) w2:=(HST0.out.app (ys:=data) HG1.out HOWN1.out).app hg2 (by rw [oneZ_length,oneZ_zero,bytesV_snoc]; exact hown2); have d2:=hs2.st.h.cell 0; simp [hv,hC,F64] at d2; rw [HGF.out] at d2; have HST2:=zY hs2; clear hs2 hown2 hg2 hn2))
 rw [show w.heap.size=gf from HGF.out.symm] at d2 ⊢;have hzl:zeroR F64 data.length<128:=Nat.mod_lt _ (by decide);clear HST0 HOWN0 HG1 HOWN1 H1281 d0 d2
 go_loopw [5] (fun v wr=>∃ (k n:Nat) (A3:Option Addr) (c3:Nat),k≤zeroR F64 data.length∧n=data.length+1+k∧v=.slice A3 n c3∧HsA w gf F64 p A data (.slice A3 n c3) (oneZ data k) wr) (fun v _=>data.length+1+zeroR F64 data.length - lenOf v)
 case atStart=>exact ⟨0,data.length+1,A2,c2,Nat.zero_le _,rfl,rfl,HST2.out⟩
 case round =>
  clear HST2;obtain ⟨k,n,A3,c3,hk,hn,rfl,hst⟩:=hrel;have hn2:n≤2000:=by omega
  have d0:=hst.st.h.cell 0;simp [hv,hC,F64] at d0
  by_cases hlt:k<zeroR F64 data.length
  ·have hne:((((n:Nat):Int)+16)%128 != 0)=true:=by rw [hn]; exact zeroR64_ne _ _ hlt
   have HO:Hid (OwnX wr (gf+1) 5 1 (.slice A3 n c3) n (bytesV (oneZ data k))):=zY (by have:=hst.own; rwa [oneZ_length,← hn] at this);have HN:=zY hn;have HST:=zY hst;clear hn hst;go_wp2_with (refine wpList_append_one (o:=⟨some 35,_,_,_,_,_⟩) sl_bytes rfl rfl HO.out rfl rfl rfl rfl (by unfold maxLen; omega) (by omega) (by have:=HST.out.st.h.lt; omega) ?_; intro A4 c4 w4 hown4 hg4 hn4; have HOWN4:=zY hown4; have HG4:=zY hg4; clear hown4 hg4 hn4);exact ⟨⟨k+1,n+1,A4,c4,hlt,by rw [HN.out]; omega,rfl,HST.out.app HG4.out (by rw [oneZ_length,oneZ_succ,bytesV_snoc,← Nat.add_assoc,← HN.out]; exact HOWN4.out)⟩,by simp only [lenOf]; have:=HN.out; omega⟩
  ·obtain rfl:k=zeroR F64 data.length:=by omega
   have hne:((((n:Nat):Int)+16)%128 != 0)=false:=by rw [hn]; exact zeroR64_eq _
   have HN:=zY hn;have HST:=zY hst;clear hn hst;go_wp2_with fail;clear hne;obtain ⟨W1,rfl⟩:∃ x:World,x=wr:=⟨_,rfl⟩;obtain ⟨gl0,hgl0⟩:∃ x,x=W1.heap.size:=⟨_,rfl⟩;have HGL:=zY hgl0;clear hgl0
   go_loopw [8,9] (fun v i wr=>∃ (k:Nat) (A4:Option Addr) (c4:Nat),k≤16∧i=.int .i64 k∧v=.slice A4 k c4∧Below gl0 W1 wr∧wr.ownsRow gl0 5 1 (.slice A4 k c4) k (bytesV (List.replicate k 0))∧gl0≤wr.heap.size) (fun _ i _=>16 - (intOf i).toNat)
   case atStart=>exact ⟨0,none,0,by omega,rfl,rfl,Below.refl _ _,World.ownsRow_nil _ _ _ _,by rw [HGL.out]; exact Nat.le_refl _⟩
   case round =>
    obtain ⟨k,A4,c4,hk,rfl,rfl,hb4,ho4,hl4⟩:=hrel
    by_cases hk8:k<16
    ·have hk8':(k:Int)<16:=by omega
     have HB4:=zY hb4;have HO4:=zY ho4;clear hb4 ho4;go_wp2_with (refine wpList_append_own1 sl_bytes rfl rfl HO4.out rfl rfl rfl rfl (by unfold maxLen; omega) (by omega) hl4 ?_; intro A5 c5 w5 hown5 hg5; have HOWN5:=zY hown5; have HG5:=zY hg5; clear hown5 hg5);refine ⟨⟨k+1,A5,c5,hk8,by go_num,rfl,HB4.out.grown HG5.out hl4 (fun k hk=>(own_lt HO4.out k hk).1),?_,by have:=HG5.out.size; omega⟩,by simp [intOf]; omega⟩;rw [List.replicate_succ',bytesV_snoc];exact HOWN5.out
    ·obtain rfl:k=16:=by omega
     obtain ⟨gl,R,rfl,hgl,hcl,hbk⟩:=own_blk ho4 (by decide);obtain ⟨ws,hws⟩:∃ ws,ws=lenB F64 data.length:=⟨_,rfl⟩;have hwl:ws.length=16:=by rw [hws,lenB,List.length_append,List.length_replicate,be8_length]; rfl
     have hbk0:Blk wr gl 5 (backC 16 ws 0++R):=by
      rw [backC_zero _ _ hwl];have e:bytesV (List.replicate 16 (0:UInt8))=List.replicate 16 (.int .u8 0):=by simp [bytesV,byteV]
      rw [e] at hbk;exact hbk
     have hget:∀ i j,i+j+1=16→(bytesV ws)[i]?=some (.int .u8 ((data.length*8/256^j%256:Nat):Int)):=fun i j h=>by rw [hws]; exact lenB64_get _ _ _ hl h
     have HWS:=zY hws;have HWL:=zY hwl;have HB4:=zY hb4;have HBK0:=zY hbk0;have HGET:=zY hget;clear hws hwl hb4 hbk hbk0 hget ho4;go_wp2_with fail;obtain ⟨wo2,rfl⟩:∃ x:World,x=wr:=⟨_,rfl⟩
     go_loopw [7,10] (fun v i wr=>∃ (j y:Nat),j≤16∧y=data.length*8/256^j∧v=.int .i64 y∧i=.int .i64 ((16:Int) - 1 - (j:Int))∧Below gl0 W1 wr∧Blk wr gl 5 (backC 16 ws j++R)) (fun _ i _=>(intOf i+1).toNat)
     case atStart=>exact ⟨0,data.length*8,by omega,by simp,by exact congrArg (Value.int .i64) (by omega),rfl,HB4.out,HBK0.out⟩
     case round =>
      clear HBK0;obtain ⟨j,y,hj,hy,rfl,rfl,hb5,hk5⟩:=hrel;have hyx:y≤data.length*8:=by rw [hy]; exact Nat.div_le_self _ _
      have hy64:(y:Int)≤8000:=by omega
      by_cases hlt2:j<16
      ·obtain ⟨ix,hix⟩:∃ ix:Nat,(16:Int) - 1 - (j:Int)=(ix:Int):=⟨16 - 1 - j,by omega⟩;have hix2:ix+j+1=16:=by omega
       have hval:=HGET.out ix j hix2;rw [← hy] at hval;have hset:=backC_set_app 16 ws j ix _ R HWL.out hix2 hval;obtain ⟨ov,hov⟩:=backC_app_get 16 ws j ix R HWL.out hix2;have hnx:data.length*8/256^(j+1)=y/256:=by rw [hy,Nat.pow_succ,← Nat.div_div_eq_div_mul]
       rw [hix];have dcell:=hk5.cell ix;rw [hov] at dcell;have dfree:=hk5.free ix;have hixl:(ix:Int)<16:=by omega
       have HSET:=zY hset;have HNX:=zY hnx;have HB5:=zY hb5;have HK5:=zY hk5;have HIX:=zY hix;clear hset hnx hb5 hk5 hix hix2 hval hy hov;go_wp2_with fail;refine ⟨⟨j+1,y/256,by omega,by rw [HNX.out],by go_num,by have:=HIX.out; exact congrArg (Value.int .i64) (by omega),(wrote_setCell_at _ _ _ _).below HB5.out hgl (by have:=HB5.out.size; rw [HGL.out]; omega),?_⟩,by simp [intOf]⟩;have h:=blk_setCell_at (i:=ix) HK5.out (.int .u8 ((y%256:Nat):Int));rw [HSET.out] at h;exact h
      ·obtain rfl:j=16:=by omega
       rw [backC_end] at hk5;have hall:HsA w gf F64 p A data (.slice A3 n c3) (oneZ data (zeroR F64 data.length)) wr:=HST.out.next (by rw [← HGL.out]; exact hb5);have HO5:Hid (OwnX wr (gf+1) 5 1 (.slice A3 n c3) n (bytesV (oneZ data (zeroR F64 data.length)))):=zY (by have:=hall.own; rwa [oneZ_length,← HN.out] at this);have hrl:Rd wr wr.heap.size (some ⟨gl,0,none⟩) (bytesV ws):=Rd.of_blk_app hk5 hk5.lt;have HRL:=zY hrl;have HALL0:=zY hall;clear hrl hall hk5 hb5 hy HST
       go_wp2_with (first
        | (refine wpList_append_rd (o:=⟨some 63,_,_,_,_,_⟩) (m:=16) sl_bytes rfl rfl HO5.out rfl rfl (by rw [bytesV_length,HWL.out]) HRL.out (by intro u hu; simp [bytesV,byteV] at hu; obtain ⟨_,_,rfl⟩:=hu; rfl) (by unfold maxLen; omega) (by omega) (by have:=HALL0.out.st.h.lt; omega) ?_; intro A5 c5 w5 hown5 hg5 hn5; have hall5:HsA w gf F64 p A data (.slice A5 (n+16) c5) (oneZ data (zeroR F64 data.length)++ws) w5:=HALL0.out.app hg5 (by rw [List.length_append,oneZ_length,HWL.out,← HN.out,bytesV_append]; exact hown5); have d7:=hall5.st.h.cell 7; simp [hv,hC,F64] at d7; have HALL5:=zY hall5; clear hall5 hown5 hg5 hn5)
        | (refine wpList_append_rd (o:=⟨some 67,_,_,_,_,_⟩) (base:=gf+1) (n:=0) (m:=8) (v:=.slice none 0 0) (xs:=[]) sl_u64 rfl rfl (OwnX.nil _ _ _ _) rfl rfl rfl HALL5.out.st.ok.f (by intro u hu; simp [wordsV] at hu; obtain ⟨_,_,rfl⟩:=hu; rfl) (by unfold maxLen; omega) (by omega) (by have:=HALL5.out.st.h.lt; omega) ?_; intro A6 c6 w6 hown6 hg6 hn6; have HOWN6:=zY hown6; have HG6:=zY hg6; clear hown6 hg6 hn6))
       obtain ⟨ALL,hALL⟩:∃ x,x=padS F64 data:=⟨_,rfl⟩;obtain ⟨m,hm⟩:∃ x,x=n+16:=⟨_,rfl⟩;rw [← hm];have hall:ALL=oneZ data (zeroR F64 data.length)++ws:=by rw [hALL,HWS.out]; exact (padR64 data hl).symm
       have hal:ALL.length=m:=by rw [hall,List.length_append,oneZ_length,HWL.out,← HN.out,hm]
       have hm4:m≤4000:=by omega
       have hsb:HsB w gf F64 p A data (.slice A5 m c5) ALL A6 c6 (runS F64 ALL 0) w6:=by
        have h5:=HALL5.out;rw [← hm,← hall] at h5;have hg6:=HG6.out;refine ⟨⟨h5.st.keep (below_of_grown hg6 (by have:=h5.st.h.lt; omega) (by intro k hk; simp [Value.ownBlock] at hk)),h5.own.kept hg6 ?_⟩,?_⟩
        ·cases h9:(Value.slice A5 m c5).ownBlock with
         | none=>exact .inl rfl
         | some k=>exact .inr (by simp [Value.ownBlock])
        ·show OwnX w6 (gf+1) 36 1 (.slice A6 8 c6) 8 (wordsV .u64 (s8L (startS F64)))
         simpa using HOWN6.out
       obtain ⟨nb,hnb⟩:∃ nb,m=nb*128:=⟨m/128,by have:=pad64_blocks data; rw [← hALL,hal] at this; omega⟩;have hcap:m≤c5∧c5≤9223372036854775807:=own_cap (show OwnX w6 (gf+1) 5 1 (.slice A5 m c5) m (bytesV ALL) by have:=hsb.a.own; rwa [hal] at this);obtain ⟨hcap1,hcap2⟩:=hcap;have HALL:=zY hALL;have HAL:=zY hal;have HSB:=zY hsb;have HNB:=zY hnb;clear hALL hm hall hal hsb hnb HALL5 HOWN6 HG6 HALL0 HO5 HRL d7 d0
       go_loopw [11,12] (fun v i wr=>∃ (j a:Nat) (A7:Option Addr) (c7:Nat),j≤nb∧a=j*128∧i=.int .i64 (a:Int)∧v=.slice A7 8 c7∧HsB w gf F64 p A data (.slice A5 m c5) ALL A7 c7 (runS F64 ALL j) wr) (fun _ i _=>m - (intOf i).toNat)
       case atStart=>exact ⟨0,0,A6,c6,by omega,rfl,rfl,rfl,HSB.out⟩
       case round =>
        clear HSB;obtain ⟨j,a,A7,c7,hj,ha,rfl,rfl,hsj⟩:=hrel
        by_cases hjn:j<nb
        ·have ham:a+128≤m:=by rw [HNB.out,ha]; omega
         have hlt3:a<m:=by omega
         have hle1:a+128≤c5:=by omega
         have hla:OwnX wr (gf+1) 5 1 (.slice A5 m c5) m (bytesV ALL):=by have:=hsj.a.own; rwa [HAL.out] at this
         obtain ⟨g5,hg5,_,_⟩:=hla.ptr (by omega);subst hg5;obtain ⟨bk,hbk⟩:∃ x,x=(ALL.drop a).take 128:=⟨_,rfl⟩;have hbl:bk.length=128:=by rw [hbk]; simp; rw [HAL.out]; omega
         obtain ⟨sj,hsj2⟩:∃ x,x=runS F64 ALL j:=⟨_,rfl⟩;have hsl:sj.Lt (2^64):=by rw [hsj2]; exact runS_lt F64 ALL j
         have hs1:runS F64 ALL (j+1)=mixS F64 sj bk:=by rw [hsj2,hbk,ha]; rfl
         rw [← hsj2] at hsj
         have HRB:Hid (∀ u,HsB w gf F64 p A data (.slice (some ⟨g5,0,none⟩) m c5) ALL A7 c7 sj u→Rd u u.heap.size (some ⟨g5,a,none⟩) (bytesV bk)):=zY fun u hu=>by
          have h1:OwnX u (gf+1) 5 1 (.slice (some ⟨g5,0,none⟩) m c5) m (bytesV ALL):=by have:=hu.a.own; rwa [HAL.out] at this
          have h2:=rd_take (rd_drop (Rd.of_own h1 (Nat.le_refl _)) a) 128;rw [Addr.add_lit,Nat.zero_add] at h2;rw [hbk,bytesV,List.map_take,List.map_drop];exact h2
         have HBL:=zY hbl;have HSL:=zY hsl;have HS1:=zY hs1;have HA:=zY ha;have d0:=hsj.a.st.h.cell 0;simp [hv,hC,F64] at d0;have HC0:=hsj.drew;have D0:=zY d0;have HSJ:=zY hsj;clear hbl hsl hs1 hbk hsj2 ha hla hsj d0;go_wp2_with fail;clear HSJ;refine wp_region_tailq (fun u=>HsB w gf F64 p A data (.slice (some ⟨g5,0,none⟩) m c5) ALL A7 c7 sj u) (fun _=>false) 10 [(0,some 77),(1,some 78),(2,some 79),(3,some 80),(4,some 81),(5,some 82),(6,some 83),(7,some 84),(8,some 85),(9,some 86),(10,some 87),(11,some 11)] (by kernel_rfl) (by kernel_rfl) (by decide) (by kernel_rfl) (fun _=>rfl) HC0 ?_;apply DetQ.next
         ·apply dQ;apply dP [];exact fun _=>rfl;rfl;rintro vals - w1 hC1 E hE;simp only [sP] at hE ⊢;refine wpList_get_box hC1.a.st.h rfl rfl rfl hu rfl h_size ?_;go_wp2_with fail;exact .mk (hE _ hC1)
         apply DetQ.next
         ·apply dQ;apply dP [];exact fun _=>rfl;rfl;rintro vals ⟨-,-⟩ w1 hC1 E hE;simp only [sP] at hE ⊢;go_wp2;exact .mk (hE _ hC1)
         apply DetQ.next
         ·apply dQ;apply dP [];exact fun _=>rfl;rfl;intro vals vq w1 hC1 E hE;clear vq;simp only [sP] at hE ⊢;go_wp2;exact .mk (hE _ hC1)
         apply DetQ.next
         ·apply dQ;apply dP [];exact fun _=>rfl;rfl;intro vals vq w1 hC1 E hE;clear vq;simp only [sP] at hE ⊢;go_wp2;exact .mk (hE _ hC1)
         apply DetQ.next
         ·apply dQ;apply dP [];exact fun _=>rfl;rfl;intro vals vq w1 hC1 E hE;clear vq;simp only [sP] at hE ⊢;go_wp2;exact .mk (hE _ hC1)
         apply DetQ.next
         ·apply dQ;apply dP [];exact fun _=>rfl;rfl;intro vals vq w1 hC1 E hE;clear vq;simp only [sP] at hE ⊢;go_wp2;exact .mk (hE _ hC1)
         apply DetQ.next
         ·apply dQ;apply dP [(5,some 82)];exact fun _=>rfl;rfl;intro vals vq w1 hC1 E hE;have f5:=vq.2;clear vq;have d0:=hC1.a.st.h.cell 0;simp [hv,hC,F64] at d0;simp only [sP,f5] at hE ⊢;clear f5;go_wp2;exact .mk (hE _ hC1)
         apply DetQ.next
         ·apply dQ;apply dP [(6,some 83)];exact fun _=>rfl;rfl;intro vals vq w1 hC1 E hE;have f6:=vq.2;clear vq;simp only [sP,f6] at hE ⊢;clear f6;go_wp2;exact .mk (hE _ hC1)
         apply DetQ.next
         ·apply dQ;apply dP [(4,some 81),(7,some 84)];exact fun _=>rfl;rfl;intro vals vq w1 hC1 E hE;have f4:=vq.1.1.1.2;have f7:=vq.2;clear vq;simp only [sP,f4,f7] at hE ⊢;clear f4 f7;go_wp2;exact .mk (hE _ hC1)
         apply DetQ.next
         ·apply dQ;apply dP [(2,some 79),(3,some 80),(8,some 85)];exact fun _=>rfl;rfl;intro vals vq w1 hC1 E hE;have f2:=vq.1.1.1.1.1.1.2;have f3:=vq.1.1.1.1.1.2;have f8:=vq.2;clear vq;simp only [sP,f2,f3,f8] at hE ⊢;clear f2 f3 f8;go_wp2;rw [show a+128 - a=128 by omega];exact .mk (hE _ hC1)
         apply DetQ.done;rintro vals ⟨⟨⟨⟨⟨⟨⟨⟨⟨⟨-,f0⟩,f1⟩,f2⟩,f3⟩,f4⟩,f5⟩,f6⟩,f7⟩,f8⟩,f9⟩ w1 hC1;refine tail_step [(0,some 77),(1,some 78),(9,some 86)] (fun _=>rfl) rfl ?_;intro E hE;simp only [sP,f0,f1,f9] at hE ⊢;go_wp2_with fail;have hmx:=block64_any p sj bk (some ⟨g5,a,none⟩) A7 (c5 - a) c7 w1.heap.size w1 (hC1.a.st.ok.mono (by have:=hC1.a.st.h.lt; omega)) (Nat.le_refl _) (HRB.out _ hC1) (Rd.of_own hC1.s (Nat.le_refl _)) HBL.out (by rw [HBL.out]; omega) hC1.s.le_cap HSL.out;rw [HBL.out] at hmx;refine calls_then hmx ?_;rintro e w2 ⟨A8,c8,rfl,hown8,hb8⟩;go_wp2_with fail;refine .mk (hE _ _ ?_);clear hE E;generalize hval:upd _ 10 _=vals10;replace f0:=uP hval (by decide) f0;replace f1:=uP hval (by decide) f1;replace f2:=uP hval (by decide) f2;replace f3:=uP hval (by decide) f3;replace f4:=uP hval (by decide) f4;replace f5:=uP hval (by decide) f5;replace f6:=uP hval (by decide) f6;replace f7:=uP hval (by decide) f7;replace f8:=uP hval (by decide) f8;replace f9:=uP hval (by decide) f9;have f10:=(congrFun hval 10).symm.trans (upd_self _ _ _);clear hval;refine tail_step [(10,some 87),(10,some 87),(0,some 77),(1,some 78),(2,some 79),(3,some 80),(4,some 81),(5,some 82),(6,some 83),(7,some 84),(8,some 85),(9,some 86),(10,some 87)] (fun _=>rfl) rfl ?_;intro E hE;simp only [sP,f0,f1,f2,f3,f4,f5,f6,f7,f8,f9,f10] at hE ⊢;go_wp2;refine .mk (hE _ _ ?_);clear hE E;generalize hval:upd _ 11 _=vals11;replace f0:=uP hval (by decide) f0;replace f1:=uP hval (by decide) f1;replace f2:=uP hval (by decide) f2;replace f3:=uP hval (by decide) f3;replace f4:=uP hval (by decide) f4;replace f5:=uP hval (by decide) f5;replace f6:=uP hval (by decide) f6;replace f7:=uP hval (by decide) f7;replace f8:=uP hval (by decide) f8;replace f9:=uP hval (by decide) f9;replace f10:=uP hval (by decide) f10;have f11:=(congrFun hval 11).symm.trans (upd_self _ _ _);clear hval;refine tail_end ?_;simp only [sP,f0,f1,f2,f3,f4,f5,f6,f7,f8,f9,f10,f11];clear f0 f1 f2 f3 f4 f5 f6 f7 f8 f9 f10 f11
         have hfin:HsB w gf F64 p A data (.slice (some ⟨g5,0,none⟩) m c5) ALL A8 c8 (runS F64 ALL (j+1)) w2:=by
          rw [HS1.out];exact ⟨hC1.a.next hb8,hown8.mono (by have:=hC1.a.st.h.lt; omega)⟩
         have d0:=hfin.a.st.h.cell 0;simp [hv,hC,F64] at d0;have HFIN:=zY hfin;clear hfin hC1 HC0 hown8 hb8;go_wp2_with fail;exact ⟨⟨j+1,a+128,A8,c8,hjn,by rw [HA.out]; omega,by go_num,rfl,HFIN.out⟩,by simp [intOf]; omega⟩
        ·obtain rfl:j=nb:=by omega
         have hge:¬ a<m:=by rw [HNB.out,ha]; omega
         obtain ⟨sv,hsv⟩:∃ x,x=runS F64 ALL j:=⟨_,rfl⟩;have hsl:sv.Lt (2^64):=by rw [hsv]; exact runS_lt F64 ALL j
         rw [← hsv] at hsj;obtain ⟨g7,rfl,_,_⟩:=hsj.s.ptr (by decide);have hc7:=hsj.s.le_cap;have hso:HsB w gf F64 p A data (.slice none 0 0) (outW 64 8 sv 0) (some ⟨g7,0,none⟩) c7 sv wr:=⟨⟨hsj.a.st,OwnX.nil _ _ _ _⟩,hsj.s⟩;have HSV:=zY hsv;have HSL:=zY hsl;have HSO:=zY hso;have HA:=zY ha;clear hsv hsl hso hsj ha;go_wp2_with fail;obtain ⟨wo5,rfl⟩:∃ x:World,x=wr:=⟨_,rfl⟩
         go_loopw [13,14] (fun v i wr=>∃ (k q:Nat) (A8:Option Addr) (c8:Nat),k≤8∧q=k*8∧i=.int .i64 k∧v=.slice A8 q c8∧HsB w gf F64 p A data (.slice A8 q c8) (outW 64 8 sv k) (some ⟨g7,0,none⟩) c7 sv wr) (fun _ i _=>8 - (intOf i).toNat)
         case atStart=>exact ⟨0,0,none,0,by omega,by omega,rfl,rfl,HSO.out⟩
         case round =>
          clear HSO;obtain ⟨k,q,A8,c8,hk,hq,rfl,rfl,hso⟩:=hrel
          by_cases hk8:k<8
          ·have hk8':(k:Int)<8:=by omega
           obtain ⟨x,hx⟩:∃ x,x=(s8L sv).getD k 0:=⟨_,rfl⟩;have hxl:x<2^64:=by rw [hx]; exact s8L_lt HSL.out (by decide) k
           have ex:(wordsV .u64 (s8L sv))[k]?=some (.int .u64 (x:Int)):=by rw [hx]; exact wordsV_get _ _ _ (show k<8 from hk8)
           have hol:(outW 64 8 sv k).length=q:=by rw [outW_length _ _ _ _ hk,hq]
           have hnx:outW 64 8 sv (k+1)=outW 64 8 sv k++wordB 64 x 8:=by rw [outW_succ _ _ _ _ hk8,hx]
           obtain ⟨XS,hXS⟩:∃ x,x=outW 64 8 sv k:=⟨_,rfl⟩;rw [← hXS] at hol hnx hso;have HXL:=zY hxl;have EX:=zY ex;have HOL:=zY hol;have HNX:=zY hnx;have HQ:=zY hq;have hq9:q≤64:=by omega
           have HC0:=hso.drew;clear hx hxl ex hol hnx hXS hq hso;go_wp2_with fail;refine wp_region_tail2 (fun u=>HsB w gf F64 p A data (.slice A8 q c8) XS (some ⟨g7,0,none⟩) c7 sv u) (fun i=>i == 0) 6 7 [(0,some 92),(1,some 93),(2,some 94),(3,some 95),(4,some 96),(5,some 97),(6,some 98),(7,some 99),(8,some 13)] (by kernel_rfl) (by kernel_rfl) (by decide) (by kernel_rfl) (fun _=>rfl) HC0 (fun _ _ hb h=>h.next hb) (by decide) ?_;apply DetR.next
           ·apply detStepR_pure [];exact fun _=>rfl;rfl;rintro vals - w1 hC1 E hE;simp only [sP] at hE ⊢;go_wp2;exact .mk hE
           apply DetR.next
           ·apply detStepR_of;apply dP [];exact fun _=>rfl;rfl;rintro vals ⟨-,-⟩ w1 hC1 E hE;simp only [sP] at hE ⊢;refine wpList_get_box hC1.a.st.h rfl rfl rfl hu rfl h_size ?_;go_wp2_with fail;exact .mk (hE _ hC1)
           apply DetR.next
           ·apply detStepR_of;apply dP [];exact fun _=>rfl;rfl;intro vals vq w1 hC1 E hE;clear vq;simp only [sP] at hE ⊢;go_wp2;exact .mk (hE _ hC1)
           apply DetR.next
           ·apply detStepR_of;apply dP [];exact fun _=>rfl;rfl;intro vals vq w1 hC1 E hE;clear vq;simp only [sP] at hE ⊢;go_wp2;exact .mk (hE _ hC1)
           apply DetR.next
           ·apply detStepR_of;apply dP [(2,some 94),(3,some 95)];exact fun _=>rfl;rfl;rintro vals ⟨⟨⟨⟨-,-⟩,-⟩,f2⟩,f3⟩ w1 hC1 E hE;simp only [sP,f2,f3] at hE ⊢;clear f2 f3;go_wp2;exact .mk (hE _ hC1)
           apply DetR.next
           ·apply detStepR_of;apply dP [(4,some 96)];exact fun _=>rfl;rfl;intro vals vq w1 hC1 E hE;have f4:=vq.2;clear vq;have d0:=hC1.s.atN EX.out;simp only [sP,f4] at hE ⊢;clear f4;go_wp2;exact .mk (hE _ hC1)
           apply DetR.done;rintro vals ⟨⟨⟨⟨⟨⟨-,f0⟩,f1⟩,f2⟩,f3⟩,f4⟩,f5⟩ w1 hC1;refine tail_step2 [(1,some 93),(5,some 97)] (fun _=>rfl) rfl ?_;intro E hE;simp only [sP,f1,f5] at hE ⊢;go_wp2_with fail;have hct:=bytes_any 64 80 (.slice (some p.a) 3 p.ca) (.slice (some p.b) 3 p.cb) (.slice (some p.c) 3 p.cc) (.slice (some p.d) 3 p.cd) (.slice (some p.k) 80 p.ck) (.slice (some p.f) 8 p.cf) w1 (.inr rfl) x HXL.out;refine calls_then hct ?_;rintro e w2 ⟨g9,he9,hg9,hb9,hbel9⟩;have he9':e=.returned (.slice (some ⟨g9,0,none⟩) 8 8):=he9;clear he9;subst he9';have hb9':Blk w2 g9 5 (bytesV (wordB 64 x 8)).toArray:=hb9;clear hb9;go_wp2_with fail;refine .mk (hE _ _ (fun _=>hbel9) ?_);clear hE E;generalize hval:upd _ 6 _=vals6;replace f0:=uP hval (by decide) f0;replace f1:=uP hval (by decide) f1;replace f2:=uP hval (by decide) f2;replace f3:=uP hval (by decide) f3;replace f4:=uP hval (by decide) f4;replace f5:=uP hval (by decide) f5;have f6:=(congrFun hval 6).symm.trans (upd_self _ _ _);clear hval;refine tail_step2 [(0,some 92),(6,some 98),(6,some 98)] (fun _=>rfl) rfl ?_;intro E hE;simp only [sP,f0,f6] at hE ⊢;refine wpList_append_rd (m:=8) sl_bytes rfl rfl (show OwnX w2 (gf+1) 5 1 (.slice A8 q c8) q (bytesV XS) by have:=(hC1.next hbel9).a.own; rwa [HOL.out] at this) rfl rfl (by rw [bytesV_length,wordB_length]) (Rd.of_blk hb9' hb9'.lt) (by intro u hu; simp [bytesV,byteV] at hu; obtain ⟨_,_,rfl⟩:=hu; rfl) (by unfold maxLen; omega) (by omega) (by have:=(hC1.next hbel9).a.st.h.lt; omega) ?_;intro A9 c9 w9 hown9 hg9' hn9;have hap:=(hC1.next hbel9).app (ys:=XS++wordB 64 x 8) hg9' (by rw [List.length_append,HOL.out,wordB_length,bytesV_append]; exact hown9);have HAP:=zY hap;clear hap hown9 hg9' hn9 hb9';go_wp2_with fail;refine .mk (hE _ _ (fun h=>absurd h (by decide)) ?_);clear hE E;generalize hval:upd _ 7 _=vals7;replace f0:=uP hval (by decide) f0;replace f1:=uP hval (by decide) f1;replace f2:=uP hval (by decide) f2;replace f3:=uP hval (by decide) f3;replace f4:=uP hval (by decide) f4;replace f5:=uP hval (by decide) f5;replace f6:=uP hval (by decide) f6;have f7:=(congrFun hval 7).symm.trans (upd_self _ _ _);clear hval;refine tail_step2 [(7,some 99),(7,some 99),(0,some 92),(1,some 93),(2,some 94),(3,some 95),(4,some 96),(5,some 97),(6,some 98),(7,some 99)] (fun _=>rfl) rfl ?_;intro E hE;simp only [sP,f0,f1,f2,f3,f4,f5,f6,f7] at hE ⊢;go_wp2;refine .mk (hE _ _ (fun h=>absurd h (by decide)) ?_);clear hE E;generalize hval:upd _ 8 _=vals8;replace f0:=uP hval (by decide) f0;replace f1:=uP hval (by decide) f1;replace f2:=uP hval (by decide) f2;replace f3:=uP hval (by decide) f3;replace f4:=uP hval (by decide) f4;replace f5:=uP hval (by decide) f5;replace f6:=uP hval (by decide) f6;replace f7:=uP hval (by decide) f7;have f8:=(congrFun hval 8).symm.trans (upd_self _ _ _);clear hval;refine tail_end2 ?_;simp only [sP,f0,f1,f2,f3,f4,f5,f6,f7,f8];clear f0 f1 f2 f3 f4 f5 f6 f7 f8;clear HC0 hC1 hbel9;go_wp2_with fail;refine ⟨⟨k+1,q+8,A9,c9,by omega,by rw [HQ.out]; omega,by go_num,rfl,?_⟩,by simp [intOf]; omega⟩;rw [HNX.out];exact HAP.out
          ·obtain rfl:k=8:=by omega
           obtain rfl:q=8*8:=hq;have HSO:=zY hso;clear hso;go_wp2_with fail;go_ret;refine ⟨A8,c8,rfl,?_,by rw [← HGF.out]; exact HSO.out.a.st.bel⟩;have h:=HSO.out.a.own;rw [outW_length _ _ _ _ (by omega)] at h
           have hd:outW 64 8 sv 8=digS F64 data:=by
            rw [HSV.out,digS,← HALL.out,HAL.out,HNB.out];show _=(s8L (runS F64 ALL (j*128/128))).flatMap _;rw [Nat.mul_div_cancel _ (by decide)];rfl
           rw [← hd,← HGF.out];exact h.mono (by omega)
end Go.Proofs.YtdgheahbafnboaaDoor.Sh
/-
  Walk: the reference's Sum, words of 64 bits; what comes may be written to.
-/
namespace Go.Proofs.YtdgheahbafnboaaDoor.Sh
set_option linter.unusedSimpArgs false
set_option linter.unusedVariables false
open Go.RowKit
theorem ownZ_below {w w':World} {base e s n:Nat} {v:Value} {xs:List Value} (h:OwnZ w base e s v n xs) (hb:Below w.heap.size w w'):OwnZ w' base e s v n xs:=by
 refine ⟨h.1,?_⟩
 rcases h.2 with h0 | ⟨g,cap,cur,h1,h2,h3,h4⟩
 ·exact .inl h0
 ·exact .inr ⟨g,cap,cur,h1,h2,(hb.block g (Array.getElem?_eq_some_iff.1 h3).1).trans h3,h4⟩
theorem ownZ_mono {w:World} {base base' e size n:Nat} {v:Value} {xs:List Value} (h:OwnZ w base e size v n xs) (hb:base'≤base):OwnZ w base' e size v n xs :=
 ⟨h.1,h.2.elim .inl fun ⟨g,cap,cur,hv,hg,r⟩=>.inr ⟨g,cap,cur,hv,Nat.le_trans hb hg,r⟩⟩
structure HsZ (w0:World) (gf:Nat) (F:ShaF) (p:HP) (dA:Option Addr) (data:List UInt8) (v:Value) (xs:List UInt8) (A:Option Addr) (c:Nat) (V:S8) (u:World):Prop where
 b:HsB w0 gf F p dA data v xs A c V u
 z:OwnZ u (gf+1) 5 1 v xs.length (bytesV xs)
section
variable {w0 u u':World} {gf:Nat} {F:ShaF} {p:HP} {dA A:Option Addr} {data xs ys:List UInt8} {v v':Value} {c:Nat} {V:S8}
theorem HsZ.next (h:HsZ w0 gf F p dA data v xs A c V u) (hb:Below u.heap.size u u'):HsZ w0 gf F p dA data v xs A c V u':=⟨h.b.next hb,ownZ_below h.z hb⟩
theorem HsZ.drew (h:HsZ w0 gf F p dA data v xs A c V u):HsZ w0 gf F p dA data v xs A c V u.drew:=h.next (Below.refl _ _).drew
theorem HsZ.app (h:HsZ w0 gf F p dA data v xs A c V u) (hg:u.grownBy u' v.ownBlock) (ho:OwnZ u' (gf+1) 5 1 v' ys.length (bytesV ys)) (hx:HsB w0 gf F p dA data v' ys A c V u'):HsZ w0 gf F p dA data v' ys A c V u':=⟨hx,ho⟩
end
def HSumPostZ (F:ShaF) (m:Nat) (data:List UInt8) (w:World) (e:Ending) (w':World):Prop :=
 ∃ A c,e=.returned (.slice A m c)∧OwnZ w' w.heap.size 5 1 (.slice A m c) m (bytesV (digS F data))∧Below w.heap.size w w'
set_option maxRecDepth 100000 in
set_option maxHeartbeats 4000000 in
theorem hsum64z_any (p:HP) (data:List UInt8) (A:Option Addr) (c B:Nat) (w:World) (hok:HOk F64 p w B) (hr:Rd w B A (bytesV data)) (hB:B≤w.heap.size) (hl:data.length≤1000) (hc:data.length≤c) :
  Calls Tryd.prog 77 #[.agg (hv F64 p),.slice A data.length c] w (HSumPostZ F64 64 data w):=by
 have hu:=Tryd.underlying101;obtain ⟨gf,hgf⟩:∃ x,x=w.heap.size:=⟨_,rfl⟩
 have hst0:HsA w gf F64 p A data (.slice none 0 0) [] (w.alloc (.cells (hv F64 p) 101)):=by
  have hb:=below_new w (.cells (hv F64 p) 101);rw [hgf];exact ⟨⟨hb,Blk.new _ _ _,(hok.mono hB).below hb,(hr.mono hB).below hb⟩,OwnX.nil _ _ _ _⟩
 have d0:=hst0.st.h.cell 0;simp [hv,hC,F64] at d0;have HST0:=zY hst0;have HGF:=zY hgf;have hl':(data.length:Int)≤1000:=by omega
 clear hst0 hok hr hB hgf;go_enter Tryd.func77,Tryd.ntmps77;have HOWN0:Hid (OwnX (w.alloc (.cells (hv F64 p) 101)) (gf+1) 5 1 (.slice none 0 0) 0 []):=zY HST0.out.own
 go_wp2_with (first
  | (refine wpList_append_rd (o:=⟨some 17,_,_,_,_,_⟩) sl_bytes rfl rfl HOWN0.out rfl rfl (by simp [bytesV]) HST0.out.st.rd (by intro u hu; simp [bytesV,byteV] at hu; obtain ⟨_,_,rfl⟩:=hu; rfl) (by unfold maxLen; omega) (by omega) (by have:=HST0.out.st.h.lt; omega) ?_; intro A1 c1 w1 hown1 hg1 hn1; have HOWN1:Hid (OwnX w1 (gf+1) 5 1 (.slice A1 data.length c1) data.length (bytesV data)):=zY (by simpa using hown1); have H1281:Hid (gf+1≤w1.heap.size):=zY (by have:=hg1.size; have:=HGF.out; simp at *; omega); have HG1:=zY hg1; clear hown1 hg1 hn1)
  | (refine wpList_append_one (o:=⟨some 20,_,_,_,_,_⟩) sl_bytes rfl rfl HOWN1.out rfl rfl rfl rfl (by unfold maxLen; omega) (by omega) H1281.out ?_; intro A2 c2 w2 hown2 hg2 hn2; have hs2:HsA w gf F64 p A data (.slice A2 (data.length+1) c2) (oneZ data 0) w2:=(HST0.out.app (ys:=data) HG1.out HOWN1.out).app hg2 (by rw [oneZ_length,oneZ_zero,bytesV_snoc]; exact hown2); have d2:=hs2.st.h.cell 0; simp [hv,hC,F64] at d2; rw [HGF.out] at d2; have HST2:=zY hs2; clear hs2 hown2 hg2 hn2))
 rw [show w.heap.size=gf from HGF.out.symm] at d2 ⊢;have hzl:zeroR F64 data.length<128:=Nat.mod_lt _ (by decide);clear HST0 HOWN0 HG1 HOWN1 H1281 d0 d2
 go_loopw [5] (fun v wr=>∃ (k n:Nat) (A3:Option Addr) (c3:Nat),k≤zeroR F64 data.length∧n=data.length+1+k∧v=.slice A3 n c3∧HsA w gf F64 p A data (.slice A3 n c3) (oneZ data k) wr) (fun v _=>data.length+1+zeroR F64 data.length - lenOf v)
 case atStart=>exact ⟨0,data.length+1,A2,c2,Nat.zero_le _,rfl,rfl,HST2.out⟩
 case round =>
  clear HST2;obtain ⟨k,n,A3,c3,hk,hn,rfl,hst⟩:=hrel;have hn2:n≤2000:=by omega
  have d0:=hst.st.h.cell 0;simp [hv,hC,F64] at d0
  by_cases hlt:k<zeroR F64 data.length
  ·have hne:((((n:Nat):Int)+16)%128 != 0)=true:=by rw [hn]; exact zeroR64_ne _ _ hlt
   have HO:Hid (OwnX wr (gf+1) 5 1 (.slice A3 n c3) n (bytesV (oneZ data k))):=zY (by have:=hst.own; rwa [oneZ_length,← hn] at this);have HN:=zY hn;have HST:=zY hst;clear hn hst;go_wp2_with (refine wpList_append_one (o:=⟨some 35,_,_,_,_,_⟩) sl_bytes rfl rfl HO.out rfl rfl rfl rfl (by unfold maxLen; omega) (by omega) (by have:=HST.out.st.h.lt; omega) ?_; intro A4 c4 w4 hown4 hg4 hn4; have HOWN4:=zY hown4; have HG4:=zY hg4; clear hown4 hg4 hn4);exact ⟨⟨k+1,n+1,A4,c4,hlt,by rw [HN.out]; omega,rfl,HST.out.app HG4.out (by rw [oneZ_length,oneZ_succ,bytesV_snoc,← Nat.add_assoc,← HN.out]; exact HOWN4.out)⟩,by simp only [lenOf]; have:=HN.out; omega⟩
  ·obtain rfl:k=zeroR F64 data.length:=by omega
   have hne:((((n:Nat):Int)+16)%128 != 0)=false:=by rw [hn]; exact zeroR64_eq _
   have HN:=zY hn;have HST:=zY hst;clear hn hst;go_wp2_with fail;clear hne;obtain ⟨W1,rfl⟩:∃ x:World,x=wr:=⟨_,rfl⟩;obtain ⟨gl0,hgl0⟩:∃ x,x=W1.heap.size:=⟨_,rfl⟩;have HGL:=zY hgl0;clear hgl0
   go_loopw [8,9] (fun v i wr=>∃ (k:Nat) (A4:Option Addr) (c4:Nat),k≤16∧i=.int .i64 k∧v=.slice A4 k c4∧Below gl0 W1 wr∧wr.ownsRow gl0 5 1 (.slice A4 k c4) k (bytesV (List.replicate k 0))∧gl0≤wr.heap.size) (fun _ i _=>16 - (intOf i).toNat)
   case atStart=>exact ⟨0,none,0,by omega,rfl,rfl,Below.refl _ _,World.ownsRow_nil _ _ _ _,by rw [HGL.out]; exact Nat.le_refl _⟩
   case round =>
    obtain ⟨k,A4,c4,hk,rfl,rfl,hb4,ho4,hl4⟩:=hrel
    by_cases hk8:k<16
    ·have hk8':(k:Int)<16:=by omega
     have HB4:=zY hb4;have HO4:=zY ho4;clear hb4 ho4;go_wp2_with (refine wpList_append_own1 sl_bytes rfl rfl HO4.out rfl rfl rfl rfl (by unfold maxLen; omega) (by omega) hl4 ?_; intro A5 c5 w5 hown5 hg5; have HOWN5:=zY hown5; have HG5:=zY hg5; clear hown5 hg5);refine ⟨⟨k+1,A5,c5,hk8,by go_num,rfl,HB4.out.grown HG5.out hl4 (fun k hk=>(own_lt HO4.out k hk).1),?_,by have:=HG5.out.size; omega⟩,by simp [intOf]; omega⟩;rw [List.replicate_succ',bytesV_snoc];exact HOWN5.out
    ·obtain rfl:k=16:=by omega
     obtain ⟨gl,R,rfl,hgl,hcl,hbk⟩:=own_blk ho4 (by decide);obtain ⟨ws,hws⟩:∃ ws,ws=lenB F64 data.length:=⟨_,rfl⟩;have hwl:ws.length=16:=by rw [hws,lenB,List.length_append,List.length_replicate,be8_length]; rfl
     have hbk0:Blk wr gl 5 (backC 16 ws 0++R):=by
      rw [backC_zero _ _ hwl];have e:bytesV (List.replicate 16 (0:UInt8))=List.replicate 16 (.int .u8 0):=by simp [bytesV,byteV]
      rw [e] at hbk;exact hbk
     have hget:∀ i j,i+j+1=16→(bytesV ws)[i]?=some (.int .u8 ((data.length*8/256^j%256:Nat):Int)):=fun i j h=>by rw [hws]; exact lenB64_get _ _ _ hl h
     have HWS:=zY hws;have HWL:=zY hwl;have HB4:=zY hb4;have HBK0:=zY hbk0;have HGET:=zY hget;clear hws hwl hb4 hbk hbk0 hget ho4;go_wp2_with fail;obtain ⟨wo2,rfl⟩:∃ x:World,x=wr:=⟨_,rfl⟩
     go_loopw [7,10] (fun v i wr=>∃ (j y:Nat),j≤16∧y=data.length*8/256^j∧v=.int .i64 y∧i=.int .i64 ((16:Int) - 1 - (j:Int))∧Below gl0 W1 wr∧Blk wr gl 5 (backC 16 ws j++R)) (fun _ i _=>(intOf i+1).toNat)
     case atStart=>exact ⟨0,data.length*8,by omega,by simp,by exact congrArg (Value.int .i64) (by omega),rfl,HB4.out,HBK0.out⟩
     case round =>
      clear HBK0;obtain ⟨j,y,hj,hy,rfl,rfl,hb5,hk5⟩:=hrel;have hyx:y≤data.length*8:=by rw [hy]; exact Nat.div_le_self _ _
      have hy64:(y:Int)≤8000:=by omega
      by_cases hlt2:j<16
      ·obtain ⟨ix,hix⟩:∃ ix:Nat,(16:Int) - 1 - (j:Int)=(ix:Int):=⟨16 - 1 - j,by omega⟩;have hix2:ix+j+1=16:=by omega
       have hval:=HGET.out ix j hix2;rw [← hy] at hval;have hset:=backC_set_app 16 ws j ix _ R HWL.out hix2 hval;obtain ⟨ov,hov⟩:=backC_app_get 16 ws j ix R HWL.out hix2;have hnx:data.length*8/256^(j+1)=y/256:=by rw [hy,Nat.pow_succ,← Nat.div_div_eq_div_mul]
       rw [hix];have dcell:=hk5.cell ix;rw [hov] at dcell;have dfree:=hk5.free ix;have hixl:(ix:Int)<16:=by omega
       have HSET:=zY hset;have HNX:=zY hnx;have HB5:=zY hb5;have HK5:=zY hk5;have HIX:=zY hix;clear hset hnx hb5 hk5 hix hix2 hval hy hov;go_wp2_with fail;refine ⟨⟨j+1,y/256,by omega,by rw [HNX.out],by go_num,by have:=HIX.out; exact congrArg (Value.int .i64) (by omega),(wrote_setCell_at _ _ _ _).below HB5.out hgl (by have:=HB5.out.size; rw [HGL.out]; omega),?_⟩,by simp [intOf]⟩;have h:=blk_setCell_at (i:=ix) HK5.out (.int .u8 ((y%256:Nat):Int));rw [HSET.out] at h;exact h
      ·obtain rfl:j=16:=by omega
       rw [backC_end] at hk5;have hall:HsA w gf F64 p A data (.slice A3 n c3) (oneZ data (zeroR F64 data.length)) wr:=HST.out.next (by rw [← HGL.out]; exact hb5);have HO5:Hid (OwnX wr (gf+1) 5 1 (.slice A3 n c3) n (bytesV (oneZ data (zeroR F64 data.length)))):=zY (by have:=hall.own; rwa [oneZ_length,← HN.out] at this);have hrl:Rd wr wr.heap.size (some ⟨gl,0,none⟩) (bytesV ws):=Rd.of_blk_app hk5 hk5.lt;have HRL:=zY hrl;have HALL0:=zY hall;clear hrl hall hk5 hb5 hy HST
       go_wp2_with (first
        | (refine wpList_append_rd (o:=⟨some 63,_,_,_,_,_⟩) (m:=16) sl_bytes rfl rfl HO5.out rfl rfl (by rw [bytesV_length,HWL.out]) HRL.out (by intro u hu; simp [bytesV,byteV] at hu; obtain ⟨_,_,rfl⟩:=hu; rfl) (by unfold maxLen; omega) (by omega) (by have:=HALL0.out.st.h.lt; omega) ?_; intro A5 c5 w5 hown5 hg5 hn5; have hall5:HsA w gf F64 p A data (.slice A5 (n+16) c5) (oneZ data (zeroR F64 data.length)++ws) w5:=HALL0.out.app hg5 (by rw [List.length_append,oneZ_length,HWL.out,← HN.out,bytesV_append]; exact hown5); have d7:=hall5.st.h.cell 7; simp [hv,hC,F64] at d7; have HALL5:=zY hall5; clear hall5 hown5 hg5 hn5)
        | (refine wpList_append_rd (o:=⟨some 67,_,_,_,_,_⟩) (base:=gf+1) (n:=0) (m:=8) (v:=.slice none 0 0) (xs:=[]) sl_u64 rfl rfl (OwnX.nil _ _ _ _) rfl rfl rfl HALL5.out.st.ok.f (by intro u hu; simp [wordsV] at hu; obtain ⟨_,_,rfl⟩:=hu; rfl) (by unfold maxLen; omega) (by omega) (by have:=HALL5.out.st.h.lt; omega) ?_; intro A6 c6 w6 hown6 hg6 hn6; have HOWN6:=zY hown6; have HG6:=zY hg6; clear hown6 hg6 hn6))
       obtain ⟨ALL,hALL⟩:∃ x,x=padS F64 data:=⟨_,rfl⟩;obtain ⟨m,hm⟩:∃ x,x=n+16:=⟨_,rfl⟩;rw [← hm];have hall:ALL=oneZ data (zeroR F64 data.length)++ws:=by rw [hALL,HWS.out]; exact (padR64 data hl).symm
       have hal:ALL.length=m:=by rw [hall,List.length_append,oneZ_length,HWL.out,← HN.out,hm]
       have hm4:m≤4000:=by omega
       have hsb:HsB w gf F64 p A data (.slice A5 m c5) ALL A6 c6 (runS F64 ALL 0) w6:=by
        have h5:=HALL5.out;rw [← hm,← hall] at h5;have hg6:=HG6.out;refine ⟨⟨h5.st.keep (below_of_grown hg6 (by have:=h5.st.h.lt; omega) (by intro k hk; simp [Value.ownBlock] at hk)),h5.own.kept hg6 ?_⟩,?_⟩
        ·cases h9:(Value.slice A5 m c5).ownBlock with
         | none=>exact .inl rfl
         | some k=>exact .inr (by simp [Value.ownBlock])
        ·show OwnX w6 (gf+1) 36 1 (.slice A6 8 c6) 8 (wordsV .u64 (s8L (startS F64)))
         simpa using HOWN6.out
       obtain ⟨nb,hnb⟩:∃ nb,m=nb*128:=⟨m/128,by have:=pad64_blocks data; rw [← hALL,hal] at this; omega⟩;have hcap:m≤c5∧c5≤9223372036854775807:=own_cap (show OwnX w6 (gf+1) 5 1 (.slice A5 m c5) m (bytesV ALL) by have:=hsb.a.own; rwa [hal] at this);obtain ⟨hcap1,hcap2⟩:=hcap;have HALL:=zY hALL;have HAL:=zY hal;have HSB:=zY hsb;have HNB:=zY hnb;clear hALL hm hall hal hsb hnb HALL5 HOWN6 HG6 HALL0 HO5 HRL d7 d0
       go_loopw [11,12] (fun v i wr=>∃ (j a:Nat) (A7:Option Addr) (c7:Nat),j≤nb∧a=j*128∧i=.int .i64 (a:Int)∧v=.slice A7 8 c7∧HsB w gf F64 p A data (.slice A5 m c5) ALL A7 c7 (runS F64 ALL j) wr) (fun _ i _=>m - (intOf i).toNat)
       case atStart=>exact ⟨0,0,A6,c6,by omega,rfl,rfl,rfl,HSB.out⟩
       case round =>
        clear HSB;obtain ⟨j,a,A7,c7,hj,ha,rfl,rfl,hsj⟩:=hrel
        by_cases hjn:j<nb
        ·have ham:a+128≤m:=by rw [HNB.out,ha]; omega
         have hlt3:a<m:=by omega
         have hle1:a+128≤c5:=by omega
         have hla:OwnX wr (gf+1) 5 1 (.slice A5 m c5) m (bytesV ALL):=by have:=hsj.a.own; rwa [HAL.out] at this
         obtain ⟨g5,hg5,_,_⟩:=hla.ptr (by omega);subst hg5;obtain ⟨bk,hbk⟩:∃ x,x=(ALL.drop a).take 128:=⟨_,rfl⟩;have hbl:bk.length=128:=by rw [hbk]; simp; rw [HAL.out]; omega
         obtain ⟨sj,hsj2⟩:∃ x,x=runS F64 ALL j:=⟨_,rfl⟩;have hsl:sj.Lt (2^64):=by rw [hsj2]; exact runS_lt F64 ALL j
         have hs1:runS F64 ALL (j+1)=mixS F64 sj bk:=by rw [hsj2,hbk,ha]; rfl
         rw [← hsj2] at hsj
         have HRB:Hid (∀ u,HsB w gf F64 p A data (.slice (some ⟨g5,0,none⟩) m c5) ALL A7 c7 sj u→Rd u u.heap.size (some ⟨g5,a,none⟩) (bytesV bk)):=zY fun u hu=>by
          have h1:OwnX u (gf+1) 5 1 (.slice (some ⟨g5,0,none⟩) m c5) m (bytesV ALL):=by have:=hu.a.own; rwa [HAL.out] at this
          have h2:=rd_take (rd_drop (Rd.of_own h1 (Nat.le_refl _)) a) 128;rw [Addr.add_lit,Nat.zero_add] at h2;rw [hbk,bytesV,List.map_take,List.map_drop];exact h2
         have HBL:=zY hbl;have HSL:=zY hsl;have HS1:=zY hs1;have HA:=zY ha;have d0:=hsj.a.st.h.cell 0;simp [hv,hC,F64] at d0;have HC0:=hsj.drew;have D0:=zY d0;have HSJ:=zY hsj;clear hbl hsl hs1 hbk hsj2 ha hla hsj d0;go_wp2_with fail;clear HSJ;refine wp_region_tailq (fun u=>HsB w gf F64 p A data (.slice (some ⟨g5,0,none⟩) m c5) ALL A7 c7 sj u) (fun _=>false) 10 [(0,some 77),(1,some 78),(2,some 79),(3,some 80),(4,some 81),(5,some 82),(6,some 83),(7,some 84),(8,some 85),(9,some 86),(10,some 87),(11,some 11)] (by kernel_rfl) (by kernel_rfl) (by decide) (by kernel_rfl) (fun _=>rfl) HC0 ?_;apply DetQ.next
         ·apply dQ;apply dP [];exact fun _=>rfl;rfl;rintro vals - w1 hC1 E hE;simp only [sP] at hE ⊢;refine wpList_get_box hC1.a.st.h rfl rfl rfl hu rfl h_size ?_;go_wp2_with fail;exact .mk (hE _ hC1)
         apply DetQ.next
         ·apply dQ;apply dP [];exact fun _=>rfl;rfl;rintro vals ⟨-,-⟩ w1 hC1 E hE;simp only [sP] at hE ⊢;go_wp2;exact .mk (hE _ hC1)
         apply DetQ.next
         ·apply dQ;apply dP [];exact fun _=>rfl;rfl;intro vals vq w1 hC1 E hE;clear vq;simp only [sP] at hE ⊢;go_wp2;exact .mk (hE _ hC1)
         apply DetQ.next
         ·apply dQ;apply dP [];exact fun _=>rfl;rfl;intro vals vq w1 hC1 E hE;clear vq;simp only [sP] at hE ⊢;go_wp2;exact .mk (hE _ hC1)
         apply DetQ.next
         ·apply dQ;apply dP [];exact fun _=>rfl;rfl;intro vals vq w1 hC1 E hE;clear vq;simp only [sP] at hE ⊢;go_wp2;exact .mk (hE _ hC1)
         apply DetQ.next
         ·apply dQ;apply dP [];exact fun _=>rfl;rfl;intro vals vq w1 hC1 E hE;clear vq;simp only [sP] at hE ⊢;go_wp2;exact .mk (hE _ hC1)
         apply DetQ.next
         ·apply dQ;apply dP [(5,some 82)];exact fun _=>rfl;rfl;intro vals vq w1 hC1 E hE;have f5:=vq.2;clear vq;have d0:=hC1.a.st.h.cell 0;simp [hv,hC,F64] at d0;simp only [sP,f5] at hE ⊢;clear f5;go_wp2;exact .mk (hE _ hC1)
         apply DetQ.next
         ·apply dQ;apply dP [(6,some 83)];exact fun _=>rfl;rfl;intro vals vq w1 hC1 E hE;have f6:=vq.2;clear vq;simp only [sP,f6] at hE ⊢;clear f6;go_wp2;exact .mk (hE _ hC1)
         apply DetQ.next
         ·apply dQ;apply dP [(4,some 81),(7,some 84)];exact fun _=>rfl;rfl;intro vals vq w1 hC1 E hE;have f4:=vq.1.1.1.2;have f7:=vq.2;clear vq;simp only [sP,f4,f7] at hE ⊢;clear f4 f7;go_wp2;exact .mk (hE _ hC1)
         apply DetQ.next
         ·apply dQ;apply dP [(2,some 79),(3,some 80),(8,some 85)];exact fun _=>rfl;rfl;intro vals vq w1 hC1 E hE;have f2:=vq.1.1.1.1.1.1.2;have f3:=vq.1.1.1.1.1.2;have f8:=vq.2;clear vq;simp only [sP,f2,f3,f8] at hE ⊢;clear f2 f3 f8;go_wp2;rw [show a+128 - a=128 by omega];exact .mk (hE _ hC1)
         apply DetQ.done;rintro vals ⟨⟨⟨⟨⟨⟨⟨⟨⟨⟨-,f0⟩,f1⟩,f2⟩,f3⟩,f4⟩,f5⟩,f6⟩,f7⟩,f8⟩,f9⟩ w1 hC1;refine tail_step [(0,some 77),(1,some 78),(9,some 86)] (fun _=>rfl) rfl ?_;intro E hE;simp only [sP,f0,f1,f9] at hE ⊢;go_wp2_with fail;have hmx:=block64_any p sj bk (some ⟨g5,a,none⟩) A7 (c5 - a) c7 w1.heap.size w1 (hC1.a.st.ok.mono (by have:=hC1.a.st.h.lt; omega)) (Nat.le_refl _) (HRB.out _ hC1) (Rd.of_own hC1.s (Nat.le_refl _)) HBL.out (by rw [HBL.out]; omega) hC1.s.le_cap HSL.out;rw [HBL.out] at hmx;refine calls_then hmx ?_;rintro e w2 ⟨A8,c8,rfl,hown8,hb8⟩;go_wp2_with fail;refine .mk (hE _ _ ?_);clear hE E;generalize hval:upd _ 10 _=vals10;replace f0:=uP hval (by decide) f0;replace f1:=uP hval (by decide) f1;replace f2:=uP hval (by decide) f2;replace f3:=uP hval (by decide) f3;replace f4:=uP hval (by decide) f4;replace f5:=uP hval (by decide) f5;replace f6:=uP hval (by decide) f6;replace f7:=uP hval (by decide) f7;replace f8:=uP hval (by decide) f8;replace f9:=uP hval (by decide) f9;have f10:=(congrFun hval 10).symm.trans (upd_self _ _ _);clear hval;refine tail_step [(10,some 87),(10,some 87),(0,some 77),(1,some 78),(2,some 79),(3,some 80),(4,some 81),(5,some 82),(6,some 83),(7,some 84),(8,some 85),(9,some 86),(10,some 87)] (fun _=>rfl) rfl ?_;intro E hE;simp only [sP,f0,f1,f2,f3,f4,f5,f6,f7,f8,f9,f10] at hE ⊢;go_wp2;refine .mk (hE _ _ ?_);clear hE E;generalize hval:upd _ 11 _=vals11;replace f0:=uP hval (by decide) f0;replace f1:=uP hval (by decide) f1;replace f2:=uP hval (by decide) f2;replace f3:=uP hval (by decide) f3;replace f4:=uP hval (by decide) f4;replace f5:=uP hval (by decide) f5;replace f6:=uP hval (by decide) f6;replace f7:=uP hval (by decide) f7;replace f8:=uP hval (by decide) f8;replace f9:=uP hval (by decide) f9;replace f10:=uP hval (by decide) f10;have f11:=(congrFun hval 11).symm.trans (upd_self _ _ _);clear hval;refine tail_end ?_;simp only [sP,f0,f1,f2,f3,f4,f5,f6,f7,f8,f9,f10,f11];clear f0 f1 f2 f3 f4 f5 f6 f7 f8 f9 f10 f11
         have hfin:HsB w gf F64 p A data (.slice (some ⟨g5,0,none⟩) m c5) ALL A8 c8 (runS F64 ALL (j+1)) w2:=by
          rw [HS1.out];exact ⟨hC1.a.next hb8,hown8.mono (by have:=hC1.a.st.h.lt; omega)⟩
         have d0:=hfin.a.st.h.cell 0;simp [hv,hC,F64] at d0;have HFIN:=zY hfin;clear hfin hC1 HC0 hown8 hb8;go_wp2_with fail;exact ⟨⟨j+1,a+128,A8,c8,hjn,by rw [HA.out]; omega,by go_num,rfl,HFIN.out⟩,by simp [intOf]; omega⟩
        ·obtain rfl:j=nb:=by omega
         have hge:¬ a<m:=by rw [HNB.out,ha]; omega
         obtain ⟨sv,hsv⟩:∃ x,x=runS F64 ALL j:=⟨_,rfl⟩;have hsl:sv.Lt (2^64):=by rw [hsv]; exact runS_lt F64 ALL j
         rw [← hsv] at hsj;obtain ⟨g7,rfl,_,_⟩:=hsj.s.ptr (by decide);have hc7:=hsj.s.le_cap;have hso:HsZ w gf F64 p A data (.slice none 0 0) (outW 64 8 sv 0) (some ⟨g7,0,none⟩) c7 sv wr:=⟨⟨⟨hsj.a.st,OwnX.nil _ _ _ _⟩,hsj.s⟩,OwnZ.nil _ _ _ _⟩;have HSV:=zY hsv;have HSL:=zY hsl;have HSO:=zY hso;have HA:=zY ha;clear hsv hsl hso hsj ha;go_wp2_with fail;obtain ⟨wo5,rfl⟩:∃ x:World,x=wr:=⟨_,rfl⟩
         go_loopw [13,14] (fun v i wr=>∃ (k q:Nat) (A8:Option Addr) (c8:Nat),k≤8∧q=k*8∧i=.int .i64 k∧v=.slice A8 q c8∧HsZ w gf F64 p A data (.slice A8 q c8) (outW 64 8 sv k) (some ⟨g7,0,none⟩) c7 sv wr) (fun _ i _=>8 - (intOf i).toNat)
         case atStart=>exact ⟨0,0,none,0,by omega,by omega,rfl,rfl,HSO.out⟩
         case round =>
          clear HSO;obtain ⟨k,q,A8,c8,hk,hq,rfl,rfl,hso⟩:=hrel
          by_cases hk8:k<8
          ·have hk8':(k:Int)<8:=by omega
           obtain ⟨x,hx⟩:∃ x,x=(s8L sv).getD k 0:=⟨_,rfl⟩;have hxl:x<2^64:=by rw [hx]; exact s8L_lt HSL.out (by decide) k
           have ex:(wordsV .u64 (s8L sv))[k]?=some (.int .u64 (x:Int)):=by rw [hx]; exact wordsV_get _ _ _ (show k<8 from hk8)
           have hol:(outW 64 8 sv k).length=q:=by rw [outW_length _ _ _ _ hk,hq]
           have hnx:outW 64 8 sv (k+1)=outW 64 8 sv k++wordB 64 x 8:=by rw [outW_succ _ _ _ _ hk8,hx]
           obtain ⟨XS,hXS⟩:∃ x,x=outW 64 8 sv k:=⟨_,rfl⟩;rw [← hXS] at hol hnx hso;have HXL:=zY hxl;have EX:=zY ex;have HOL:=zY hol;have HNX:=zY hnx;have HQ:=zY hq;have hq9:q≤64:=by omega
           have HC0:=hso.drew;clear hx hxl ex hol hnx hXS hq hso;go_wp2_with fail;refine wp_region_tail2 (fun u=>HsZ w gf F64 p A data (.slice A8 q c8) XS (some ⟨g7,0,none⟩) c7 sv u) (fun i=>i == 0) 6 7 [(0,some 92),(1,some 93),(2,some 94),(3,some 95),(4,some 96),(5,some 97),(6,some 98),(7,some 99),(8,some 13)] (by kernel_rfl) (by kernel_rfl) (by decide) (by kernel_rfl) (fun _=>rfl) HC0 (fun _ _ hb h=>h.next hb) (by decide) ?_;apply DetR.next
           ·apply detStepR_pure [];exact fun _=>rfl;rfl;rintro vals - w1 hC1 E hE;simp only [sP] at hE ⊢;go_wp2;exact .mk hE
           apply DetR.next
           ·apply detStepR_of;apply dP [];exact fun _=>rfl;rfl;rintro vals ⟨-,-⟩ w1 hC1 E hE;simp only [sP] at hE ⊢;refine wpList_get_box hC1.b.a.st.h rfl rfl rfl hu rfl h_size ?_;go_wp2_with fail;exact .mk (hE _ hC1)
           apply DetR.next
           ·apply detStepR_of;apply dP [];exact fun _=>rfl;rfl;intro vals vq w1 hC1 E hE;clear vq;simp only [sP] at hE ⊢;go_wp2;exact .mk (hE _ hC1)
           apply DetR.next
           ·apply detStepR_of;apply dP [];exact fun _=>rfl;rfl;intro vals vq w1 hC1 E hE;clear vq;simp only [sP] at hE ⊢;go_wp2;exact .mk (hE _ hC1)
           apply DetR.next
           ·apply detStepR_of;apply dP [(2,some 94),(3,some 95)];exact fun _=>rfl;rfl;rintro vals ⟨⟨⟨⟨-,-⟩,-⟩,f2⟩,f3⟩ w1 hC1 E hE;simp only [sP,f2,f3] at hE ⊢;clear f2 f3;go_wp2;exact .mk (hE _ hC1)
           apply DetR.next
           ·apply detStepR_of;apply dP [(4,some 96)];exact fun _=>rfl;rfl;intro vals vq w1 hC1 E hE;have f4:=vq.2;clear vq;have d0:=hC1.b.s.atN EX.out;simp only [sP,f4] at hE ⊢;clear f4;go_wp2;exact .mk (hE _ hC1)
           apply DetR.done;rintro vals ⟨⟨⟨⟨⟨⟨-,f0⟩,f1⟩,f2⟩,f3⟩,f4⟩,f5⟩ w1 hC1;refine tail_step2 [(1,some 93),(5,some 97)] (fun _=>rfl) rfl ?_;intro E hE;simp only [sP,f1,f5] at hE ⊢;go_wp2_with fail;have hct:=bytes_any 64 80 (.slice (some p.a) 3 p.ca) (.slice (some p.b) 3 p.cb) (.slice (some p.c) 3 p.cc) (.slice (some p.d) 3 p.cd) (.slice (some p.k) 80 p.ck) (.slice (some p.f) 8 p.cf) w1 (.inr rfl) x HXL.out;refine calls_then hct ?_;rintro e w2 ⟨g9,he9,hg9,hb9,hbel9⟩;have he9':e=.returned (.slice (some ⟨g9,0,none⟩) 8 8):=he9;clear he9;subst he9';have hb9':Blk w2 g9 5 (bytesV (wordB 64 x 8)).toArray:=hb9;clear hb9;go_wp2_with fail;refine .mk (hE _ _ (fun _=>hbel9) ?_);clear hE E;generalize hval:upd _ 6 _=vals6;replace f0:=uP hval (by decide) f0;replace f1:=uP hval (by decide) f1;replace f2:=uP hval (by decide) f2;replace f3:=uP hval (by decide) f3;replace f4:=uP hval (by decide) f4;replace f5:=uP hval (by decide) f5;have f6:=(congrFun hval 6).symm.trans (upd_self _ _ _);clear hval;refine tail_step2 [(0,some 92),(6,some 98),(6,some 98)] (fun _=>rfl) rfl ?_;intro E hE;simp only [sP,f0,f6] at hE ⊢;refine wpList_append_rdZ (m:=8) sl_bytes rfl rfl (show OwnZ w2 (gf+1) 5 1 (.slice A8 q c8) q (bytesV XS) by have:=(hC1.next hbel9).z; rwa [HOL.out] at this) rfl rfl (by rw [bytesV_length,wordB_length]) (by decide) (Rd.of_blk hb9' hb9'.lt) (by intro u hu; simp [bytesV,byteV] at hu; obtain ⟨_,_,rfl⟩:=hu; rfl) (by unfold maxLen; omega) (by omega) (by have:=(hC1.next hbel9).b.a.st.h.lt; omega) ?_;intro A9 c9 w9 hown9 hg9';have hz9:OwnZ w9 (gf+1) 5 1 (.slice A9 (q+8) c9) (XS++wordB 64 x 8).length (bytesV (XS++wordB 64 x 8)):=by rw [List.length_append,HOL.out,wordB_length,bytesV_append]; exact hown9
           have hap:=(hC1.next hbel9).app (ys:=XS++wordB 64 x 8) hg9' hz9 ((hC1.next hbel9).b.app hg9' hz9.x);have HAP:=zY hap;clear hap hown9 hg9' hz9 hb9';go_wp2_with fail;refine .mk (hE _ _ (fun h=>absurd h (by decide)) ?_);clear hE E;generalize hval:upd _ 7 _=vals7;replace f0:=uP hval (by decide) f0;replace f1:=uP hval (by decide) f1;replace f2:=uP hval (by decide) f2;replace f3:=uP hval (by decide) f3;replace f4:=uP hval (by decide) f4;replace f5:=uP hval (by decide) f5;replace f6:=uP hval (by decide) f6;have f7:=(congrFun hval 7).symm.trans (upd_self _ _ _);clear hval;refine tail_step2 [(7,some 99),(7,some 99),(0,some 92),(1,some 93),(2,some 94),(3,some 95),(4,some 96),(5,some 97),(6,some 98),(7,some 99)] (fun _=>rfl) rfl ?_;intro E hE;simp only [sP,f0,f1,f2,f3,f4,f5,f6,f7] at hE ⊢;go_wp2;refine .mk (hE _ _ (fun h=>absurd h (by decide)) ?_);clear hE E;generalize hval:upd _ 8 _=vals8;replace f0:=uP hval (by decide) f0;replace f1:=uP hval (by decide) f1;replace f2:=uP hval (by decide) f2;replace f3:=uP hval (by decide) f3;replace f4:=uP hval (by decide) f4;replace f5:=uP hval (by decide) f5;replace f6:=uP hval (by decide) f6;replace f7:=uP hval (by decide) f7;have f8:=(congrFun hval 8).symm.trans (upd_self _ _ _);clear hval;refine tail_end2 ?_;simp only [sP,f0,f1,f2,f3,f4,f5,f6,f7,f8];clear f0 f1 f2 f3 f4 f5 f6 f7 f8;clear HC0 hC1 hbel9;go_wp2_with fail;refine ⟨⟨k+1,q+8,A9,c9,by omega,by rw [HQ.out]; omega,by go_num,rfl,?_⟩,by simp [intOf]; omega⟩;rw [HNX.out];exact HAP.out
          ·obtain rfl:k=8:=by omega
           obtain rfl:q=8*8:=hq;have HSO:=zY hso;clear hso;go_wp2_with fail;go_ret;refine ⟨A8,c8,rfl,?_,by rw [← HGF.out]; exact HSO.out.b.a.st.bel⟩;have h:=HSO.out.z;rw [outW_length _ _ _ _ (by omega)] at h
           have hd:outW 64 8 sv 8=digS F64 data:=by
            rw [HSV.out,digS,← HALL.out,HAL.out,HNB.out];show _=(s8L (runS F64 ALL (j*128/128))).flatMap _;rw [Nat.mul_div_cancel _ (by decide)];rfl
           rw [← hd,← HGF.out];exact ownZ_mono h (by omega)
end Go.Proofs.YtdgheahbafnboaaDoor.Sh
/-
  Plain: what the reference's Of of both kinds share.
-/
namespace Go.Proofs.YtdgheahbafnboaaDoor.Sh
set_option linter.unusedSimpArgs false
set_option linter.unusedVariables false
open Go.RowKit
theorem Blk.newAt {w:World} {n:Nat} {t:TypeId} {cs:Array Value} (h:w.heap.size=n):Blk (w.alloc (.cells cs t)) n t cs:=h▸Blk.new w t cs
def zH:Array Value:=#[.int .i64 0,.int .i64 0,.slice none 0 0,.slice none 0 0,.slice none 0 0,.slice none 0 0,.slice none 0 0,.slice none 0 0]
theorem kL_take (F:ShaF) (n:Nat) (h:n<F.many):(kL F).take (n+1)=(kL F).take n++[stepsN.getD n 0/2^(64 - F.bits)%2^F.bits]:=by
 have hl:n<(kL F).length:=by rw [kL_length]; exact h
 rw [List.take_succ_eq_append_getElem hl];have:=kL_get F n h;rw [List.getElem?_eq_getElem hl] at this;rw [Option.some.inj this];rfl
theorem start_take (F:ShaF) (n:Nat) (h:n<8):(s8L (startS F)).take (n+1)=(s8L (startS F)).take n++[firstN.getD n 0/2^(64 - F.bits)%2^F.bits]:=by
 rw [s8_take _ _ h,startS_at _ _ h]
def csV (bits many ga gb gc gd:Nat) (vK vF:Value):Array Value:=hC bits many (.slice (some ⟨ga,0,none⟩) 3 3) (.slice (some ⟨gb,0,none⟩) 3 3) (.slice (some ⟨gc,0,none⟩) 3 3) (.slice (some ⟨gd,0,none⟩) 3 3) vK vF
end Go.Proofs.YtdgheahbafnboaaDoor.Sh
