/-
  Joined texts: Eql Sis Rep Crt Es Cre Et Rrp Eb Svf Rnd.
-/
import Derived.Laws.CopyOwn
import Derived.Test.YtdgheahbafnboaaDoorJ1
import Derived.Test.YtdgheahbafnboaaDoorJ2
import Derived.Test.YtdgheahbafnboaaDoorJ4
import Derived.Test.YtdgheahbafnboaaDoorJ3
/-
  Walk: sha's Equal.
-/
namespace Go.Proofs.YtdgheahbafnboaaDoor
set_option linter.unusedSimpArgs false
set_option linter.unusedVariables false
open Go.RowKit
structure EqSt (w0:World) (A1 A2:Option Addr) (l1 l2:List UInt8) (u:World):Prop where
 bel:Below w0.heap.size w0 u
 r1:Rd u w0.heap.size A1 (bytesV l1)
 r2:Rd u w0.heap.size A2 (bytesV l2)
theorem EqSt.drew {w0 u:World} {A1 A2:Option Addr} {l1 l2:List UInt8} (h:EqSt w0 A1 A2 l1 l2 u):EqSt w0 A1 A2 l1 l2 u.drew :=
 ⟨h.bel.drew,h.r1.below (Below.refl _ _).drew,h.r2.below (Below.refl _ _).drew⟩
theorem take_eq_iff {l1 l2:List UInt8} {k:Nat} (h1:k<l1.length) (h2:k<l2.length):l1.take (k+1)=l2.take (k+1)↔l1.take k=l2.take k∧l1[k]=l2[k]:=by
 rw [List.take_succ_eq_append_getElem h1,List.take_succ_eq_append_getElem h2]
 constructor
 ·intro h;have:=List.append_inj h (by rw [List.length_take,List.length_take]; omega);exact ⟨this.1,by simpa using this.2⟩
 ·rintro ⟨e1,e2⟩;rw [e1,e2]
theorem xor_zero (p q:Nat):p ^^^ q=0↔p=q:=by
 constructor
 ·intro h;apply Nat.eq_of_testBit_eq;intro i;have:=congrArg (·.testBit i) h
  simpa [Nat.testBit_xor] using this
 ·rintro rfl;exact Nat.xor_self _
theorem step_zero (x p q:Nat):(x ||| (p ^^^ q))=0↔x=0∧p=q:=by
 rw [Nat.or_eq_zero_iff,xor_zero]
set_option maxRecDepth 100000 in
set_option maxHeartbeats 1000000 in
theorem bequal_any (l1 l2:List UInt8) (A1 A2:Option Addr) (c1 c2:Nat) (w:World) (h1:Rd w w.heap.size A1 (bytesV l1)) (h2:Rd w w.heap.size A2 (bytesV l2)) (hc1:l1.length≤c1) (hc2:l2.length≤c2) (hl1:l1.length≤1000) :
  Calls Tryd.prog 33 #[.slice A1 l1.length c1,.slice A2 l2.length c2] w fun e w'=>e=.returned (.bool (decide (l1=l2)))∧Below w.heap.size w w':=by
 by_cases hlen:l1.length=l2.length
 ·have hst0:EqSt w A1 A2 l1 l2 w:=⟨Below.refl _ _,h1,h2⟩;obtain ⟨n,hn⟩:∃ n,n=l1.length:=⟨_,rfl⟩;rw [← hlen,← hn];have hn2:l2.length=n:=by omega
  have hn1:n≤1000:=by omega
  have HST0:=zY hst0;have HN:=zY hn;have HN2:=zY hn2;rw [← hn] at hc1;rw [hn2] at hc2;clear h1 h2 hlen hst0 hn hn2 hl1;go_enter Tryd.func33,Tryd.ntmps33;go_wp2_with fail
  go_loopw [5,14] (fun v i wr=>∃ k x:Nat,k≤n∧i=.int .i64 k∧v=.int .u8 x∧x<256∧(x=0↔l1.take k=l2.take k)∧EqSt w A1 A2 l1 l2 wr) (fun _ i _=>n - (intOf i).toNat)
  case atStart=>exact ⟨0,0,Nat.zero_le _,rfl,rfl,by decide,by simp,HST0.out⟩
  case round =>
   clear HST0;obtain ⟨k,x,hk,rfl,rfl,hx,hiff,hst⟩:=hrel
   by_cases hlt:k<n
   ·have hlt':(k:Int)<(n:Int):=by omega
    have hk1:k<l1.length:=by rw [← HN.out]; exact hlt
    have hk2:k<l2.length:=by rw [HN2.out]; exact hlt
    obtain ⟨ad1,rfl,hz1,hz2⟩:=hst.r1.at_ (k:=k) (by rw [bytesV_length]; exact hk1);obtain ⟨ad2,rfl,hz3,hz4⟩:=hst.r2.at_ (k:=k) (by rw [bytesV_length]; exact hk2);obtain ⟨p,hp⟩:∃ p,p=(l1[k]).toNat:=⟨_,rfl⟩;obtain ⟨q,hq⟩:∃ q,q=(l2[k]).toNat:=⟨_,rfl⟩;have hpl:p<256:=by rw [hp]; exact (l1[k]).toNat_lt
    have hql:q<256:=by rw [hq]; exact (l2[k]).toNat_lt
    have e1:(bytesV l1)[k]?=some (.int .u8 (p:Int)):=by rw [bytesV,List.getElem?_map,List.getElem?_eq_getElem hk1,hp]; rfl
    have e2:(bytesV l2)[k]?=some (.int .u8 (q:Int)):=by rw [bytesV,List.getElem?_map,List.getElem?_eq_getElem hk2,hq]; rfl
    obtain ⟨pq,hpq⟩:∃ z,z=p ^^^ q:=⟨_,rfl⟩;obtain ⟨xn,hxn⟩:∃ z,z=x ||| pq:=⟨_,rfl⟩;have hpql:pq<256:=by rw [hpq]; exact Nat.xor_lt_two_pow (n:=8) hpl hql
    have hxnl:xn<256:=by rw [hxn]; exact Nat.or_lt_two_pow (n:=8) hx hpql
    have hin:xn=0↔l1.take (k+1)=l2.take (k+1):=by
     rw [hxn,hpq,step_zero,take_eq_iff hk1 hk2,hiff,hp,hq];exact and_congr_right fun _=>UInt8.toNat_inj
    have E1:=zY e1;have E2:=zY e2;have HPL:=zY hpl;have HQL:=zY hql;have HX:=zY hx;have HPQL:=zY hpql;have HPQ:=zY hpq;have HXN:=zY hxn;have HXNL:=zY hxnl;have HIN:=zY hin;have HC0:=hst.drew;clear hz1 hz2 hz3 hz4 hp hq hpl hql e1 e2 hpq hxn hpql hxnl hin hx hiff hst hk1 hk2;go_wp2_with fail;refine wp_region_det (fun u=>EqSt w (some ad1) (some ad2) l1 l2 u) (fun u=>EqSt w (some ad1) (some ad2) l1 l2 u) [(0,some 17),(1,some 18),(2,some 19),(3,some 20),(4,some 21),(5,some 22),(6,some 23),(7,some 24),(8,some 25),(9,some 26),(10,some 27),(11,some 5)] (by kernel_rfl) (by kernel_rfl) (by decide) (by kernel_rfl) (fun _=>rfl) HC0 ?_;apply DetL.next
    ·apply dP [];exact fun _=>rfl;rfl;rintro vals - w1 hC1 E hE;simp only [sP] at hE ⊢;go_wp2;exact .mk (hE _ hC1)
    apply DetL.next
    ·apply dP [];exact fun _=>rfl;rfl;rintro vals ⟨-,-⟩ w1 hC1 E hE;simp only [sP] at hE ⊢;go_wp2;exact .mk (hE _ hC1)
    apply DetL.next
    ·apply dP [];exact fun _=>rfl;rfl;intro vals vq w1 hC1 E hE;clear vq;simp only [sP] at hE ⊢;go_wp2;exact .mk (hE _ hC1)
    apply DetL.next
    ·apply dP [(1,some 18),(2,some 19)];exact fun _=>rfl;rfl;rintro vals ⟨⟨⟨-,-⟩,f1⟩,f2⟩ w1 hC1 E hE;simp only [sP,f1,f2] at hE ⊢;clear f1 f2;go_wp2;exact .mk (hE _ hC1)
    apply DetL.next
    ·apply dP [(3,some 20)];exact fun _=>rfl;rfl;intro vals vq w1 hC1 E hE;have f3:=vq.2;clear vq;have d0:=hC1.r1.val E1.out;simp only [sP,f3] at hE ⊢;clear f3;go_wp2;exact .mk (hE _ hC1)
    apply DetL.next
    ·apply dP [];exact fun _=>rfl;rfl;intro vals vq w1 hC1 E hE;clear vq;simp only [sP] at hE ⊢;go_wp2;exact .mk (hE _ hC1)
    apply DetL.next
    ·apply dP [];exact fun _=>rfl;rfl;intro vals vq w1 hC1 E hE;clear vq;simp only [sP] at hE ⊢;go_wp2;exact .mk (hE _ hC1)
    apply DetL.next
    ·apply dP [(5,some 22),(6,some 23)];exact fun _=>rfl;rfl;intro vals vq w1 hC1 E hE;have f5:=vq.1.2;have f6:=vq.2;clear vq;simp only [sP,f5,f6] at hE ⊢;clear f5 f6;go_wp2;exact .mk (hE _ hC1)
    apply DetL.next
    ·apply dP [(7,some 24)];exact fun _=>rfl;rfl;intro vals vq w1 hC1 E hE;have f7:=vq.2;clear vq;have d0:=hC1.r2.val E2.out;simp only [sP,f7] at hE ⊢;clear f7;go_wp2;exact .mk (hE _ hC1)
    apply DetL.next
    ·apply dP [(4,some 21),(8,some 25)];exact fun _=>rfl;rfl;intro vals vq w1 hC1 E hE;have f4:=vq.1.1.1.1.2;have f8:=vq.2;clear vq;simp only [sP,f4,f8] at hE ⊢;clear f4 f8;go_wp2;rw [xor8 p q HPL.out HQL.out,← HPQ.out];exact .mk (hE _ hC1)
    apply DetL.next
    ·apply dP [(0,some 17),(9,some 26)];exact fun _=>rfl;rfl;intro vals vq w1 hC1 E hE;have f0:=vq.1.1.1.1.1.1.1.1.1.2;have f9:=vq.2;clear vq;simp only [sP,f0,f9] at hE ⊢;clear f0 f9;go_wp2;rw [or8 x pq HX.out HPQL.out,← HXN.out];exact .mk (hE _ hC1)
    apply DetL.last
    ·apply dP [(10,some 27),(0,some 17),(1,some 18),(2,some 19),(3,some 20),(4,some 21),(5,some 22),(6,some 23),(7,some 24),(8,some 25),(9,some 26),(10,some 27)];exact fun _=>rfl;rfl;rintro vals ⟨⟨⟨⟨⟨⟨⟨⟨⟨⟨⟨-,f0⟩,f1⟩,f2⟩,f3⟩,f4⟩,f5⟩,f6⟩,f7⟩,f8⟩,f9⟩,f10⟩ w1 hC1 E hE;simp only [sP,f0,f1,f2,f3,f4,f5,f6,f7,f8,f9,f10] at hE ⊢;clear f0 f1 f2 f3 f4 f5 f6 f7 f8 f9 f10;go_wp2;exact .mk (hE _ hC1)
    rintro vals ⟨⟨⟨⟨⟨⟨⟨⟨⟨⟨⟨⟨-,f0⟩,f1⟩,f2⟩,f3⟩,f4⟩,f5⟩,f6⟩,f7⟩,f8⟩,f9⟩,f10⟩,f11⟩ w1 hC1;simp only [sP,f0,f1,f2,f3,f4,f5,f6,f7,f8,f9,f10,f11];clear f0 f1 f2 f3 f4 f5 f6 f7 f8 f9 f10 f11;clear HC0;have HC1:=zY hC1;clear hC1;go_wp2_with fail;exact ⟨⟨k+1,xn,by omega,by go_num,rfl,HXNL.out,HIN.out,HC1.out⟩,by simp [intOf]; omega⟩
   ·obtain rfl:k=n:=by omega
    rw [List.take_of_length_le (by rw [HN.out]; exact Nat.le_refl _),List.take_of_length_le (by rw [HN2.out]; exact Nat.le_refl _)] at hiff;have HIFF:=zY hiff;have HST:=zY hst;clear hiff hst;go_wp2_with fail;go_ret;refine ⟨ret_bool ?_,HST.out.bel⟩;rw [Bool.eq_iff_iff];have:=HIFF.out;simp;exact this
 ·have hne:((l1.length:Int) != (l2.length:Int))=true:=by rw [bne_iff_ne]; omega
  have hd:decide (l1=l2)=false:=decide_eq_false (fun e=>hlen (by rw [e]));rw [hd];have hne2:¬ l1.length=l2.length:=hlen;clear h1 h2 hlen hd;go_enter Tryd.func33,Tryd.ntmps33;go_wp2;go_ret;exact ⟨rfl,Below.refl _ _⟩
end Go.Proofs.YtdgheahbafnboaaDoor
/-
  Walk: the scalar's Is.
-/
namespace Go.Proofs.YtdgheahbafnboaaDoor
set_option linter.unusedSimpArgs false
set_option linter.unusedVariables false
open Go.RowKit
theorem is_same (b:List UInt8) (h:b.length=32):(bsN (digN 32 (leV (digs b)%LN)) == b)=decide (leV (digs b)<LN):=by
 rw [Bool.eq_iff_iff,beq_iff_eq,decide_eq_true_iff]
 constructor
 ·intro h1;have h2:=digs_bsN (digN_dg 32 (leV (digs b)%LN));rw [h1] at h2;rw [h2,digN_val _ _ (Nat.lt_of_lt_of_le (Nat.mod_lt _ ln_pos) (by decide))];exact Nat.mod_lt _ ln_pos
 ·intro h1;apply digs_inj;rw [digs_bsN (digN_dg _ _),Nat.mod_eq_of_lt h1];exact (digN_eq (digs_dg b) (by rw [digs,List.length_map,h]) rfl).symm
def isB (b:List UInt8):Bool:=decide (b.length=32) && decide (leV (digs b)<LN)
set_option maxRecDepth 100000 in
set_option maxHeartbeats 4000000 in
theorem scl_is (b:List UInt8) (A:Option Addr) (c:Nat) (w:World) (hr:Rd w w.heap.size A (bytesV b)) (hl:b.length≤1000000) :
  Calls Tryd.prog 30 #[.slice A b.length c] w (BoolPost (isB b) w):=by
 by_cases h32:b.length=32
 ·rw [isB,decide_eq_true h32,Bool.true_and,h32];obtain ⟨R,hR⟩:∃ R,R=bsN (digN 32 (leV (digs b)%LN)):=⟨_,rfl⟩;have hRl:R.length=32:=by rw [hR,bsN,List.length_map,digN_length]
  have hsame:=is_same b h32;rw [← hR] at hsame
  have hC:∀ u,Below w.heap.size w u→Calls Tryd.prog 20 #[.slice A 32 c] u (fun e w'=>∃ o,e=.returned (.slice (some ⟨o,0,none⟩) 32 32)∧Blk w' o 5 (bytesV R).toArray∧Below u.heap.size u w'):=fun u hu=>by
   have h:=scl_reduce (digs b) (digs_dg b) A c u (by rw [bnV_digs']; exact (hr.below hu).mono hu.size) (by rw [digs,List.length_map]; exact hl);rw [show (digs b).length=32 by rw [digs,List.length_map,h32],List.take_of_length_le (by rw [digs,List.length_map,h32]; decide)] at h;refine Calls.mono h fun e w' hq=>?_;obtain ⟨o,he,_,hb,hbel⟩:=hq;refine ⟨o,he,?_,hbel⟩;rw [hR,← bnV_bsN (digN_dg _ _)];exact hb
  rw [← hsame];have HC:=zY hC;have HRL:=zY hRl;have HR:=zY hr;have HL:=zY h32;clear hC hRl hr hl h32 hsame hR;go_enter Tryd.func30,Tryd.ntmps30;go_wp2_with fail;have HC0:Below w.heap.size w w.drew:=(Below.refl _ _).drew
  refine wp_region_list (fun u=>Below w.heap.size w u) (fun | false=>(fun _=>True) | true=>(fun _=>True)) (fun | false,_=>false | true,_=>false)
   [fun z _=>z 0=.slice A 32 c,
    fun z _=>z 1=.int .i64 32,
    fun z _=>z 2=.bool true,
    fun z _=>z 3=.bool true,
    fun z _=>z 4=.slice A 32 c,
    fun z u=>∃ o2,z 5=.slice (some ⟨o2,0,none⟩) 32 32∧Blk u o2 5 (bytesV R).toArray,
    fun z _=>z 6=.string ⟨R.toArray⟩,
    fun z _=>z 7=.slice A 32 c,
    fun z _=>z 8=.string ⟨b.toArray⟩,
    fun z _=>z 9=.bool (R == b),
    fun z _=>z 10=.bool (R == b),
    fun z _=>z 11=.bool (R == b)]
   [Eq,Eq,Eq,Eq,Eq,fun u u'=>Below u.heap.size u u',Eq,Eq,Eq,Eq,Eq,Eq]
   (fun _ _=>false) [(0,some 3),(1,some 4),(2,some 5),(3,some 6),(4,some 7),(5,some 8),(6,some 9),(7,some 10),(8,some 11),(9,some 12),(10,some 13),(11,some 2)] (by kernel_rfl) (by kernel_rfl) rfl (fun _=>rfl) ?_ ?_ ?_ ?_ ?_ ?_
  ·exact HC0
  ·intro m; cases m; exact trivial; exact trivial
  ·intro m; cases m
   ·refine ⟨?_,?_,?_,?_,?_,.inr (fun _ _ _ h=>h),?_,?_,?_,?_,?_,?_,trivial⟩ <;> exact .inr fun _ _ h h0=>h▸h0
   ·refine ⟨?_,?_,?_,?_,?_,.inr (fun _ _ _ h=>h),?_,?_,?_,?_,?_,?_,trivial⟩ <;> exact .inr fun _ _ h h0=>h▸h0
  ·refine ⟨⟨.inl rfl,?_,?_,?_,?_,.inr (.inr (.inr (fun _ _ _ _ h h0=>by cases h; exact h0))),?_,?_,?_,?_,?_,?_,trivial⟩,⟨?_,.inl rfl,?_,?_,?_,?_,?_,?_,?_,?_,?_,?_,trivial⟩,⟨?_,?_,.inl rfl,?_,?_,?_,?_,?_,?_,?_,?_,?_,trivial⟩,⟨?_,?_,?_,.inl rfl,?_,?_,?_,?_,?_,?_,?_,?_,trivial⟩,⟨?_,?_,?_,?_,.inl rfl,?_,?_,?_,?_,?_,?_,?_,trivial⟩,⟨?_,?_,?_,?_,?_,.inl rfl,?_,?_,?_,?_,?_,?_,trivial⟩,⟨?_,?_,?_,?_,?_,.inr (.inr (.inr (fun _ _ _ _ h h0=>by cases h; exact h0))),.inl rfl,?_,?_,?_,?_,?_,trivial⟩,⟨?_,?_,?_,?_,?_,.inr (.inr (.inr (fun _ _ _ _ h h0=>by cases h; exact h0))),?_,.inl rfl,?_,?_,?_,?_,trivial⟩,⟨?_,?_,?_,?_,?_,.inr (.inr (.inr (fun _ _ _ _ h h0=>by cases h; exact h0))),?_,?_,.inl rfl,?_,?_,?_,trivial⟩,⟨?_,?_,?_,?_,?_,.inr (.inr (.inr (fun _ _ _ _ h h0=>by cases h; exact h0))),?_,?_,?_,.inl rfl,?_,?_,trivial⟩,⟨?_,?_,?_,?_,?_,.inr (.inr (.inr (fun _ _ _ _ h h0=>by cases h; exact h0))),?_,?_,?_,?_,.inl rfl,?_,trivial⟩,⟨?_,?_,?_,?_,?_,.inr (.inr (.inr (fun _ _ _ _ h h0=>by cases h; exact h0))),?_,?_,?_,?_,?_,.inl rfl,trivial⟩,trivial⟩ <;> first | exact .inr (.inr (.inl rfl)) | exact .inr (.inr (.inr fun _ _ _ _ _ h=>h))
  ·refine ⟨?_,?_,?_,?_,?_,?_,?_,?_,?_,?_,?_,?_,trivial⟩
   ·refine step_plain [] (fun _=>rfl) rfl ?_;intro w1 vals hC1 hi0 hf E hE;clear hi0;clear hf;simp only [sP] at hE ⊢;go_wp2;exact .mk (hE _ _ rfl hC1 rfl)
   ·refine step_plain [(0,some 3)] (fun _=>rfl) rfl ?_;intro w1 vals hC1 hi0 hf E hE;clear hi0;have f0:vals 0=.slice A 32 c:=hf 0 rfl
    try dsimp only at f0
    clear hf;simp only [sP,f0] at hE ⊢;clear f0;go_wp2;exact .mk (hE _ _ rfl hC1 rfl)
   ·refine step_plain [(1,some 4)] (fun _=>rfl) rfl ?_;intro w1 vals hC1 hi0 hf E hE;clear hi0;have f1:vals 1=.int .i64 32:=hf 1 rfl
    try dsimp only at f1
    clear hf;simp only [sP,f1] at hE ⊢;clear f1;go_wp2;exact .mk (hE _ _ rfl hC1 rfl)
   ·refine step_plain [(2,some 5)] (fun _=>rfl) rfl ?_;intro w1 vals hC1 hi0 hf E hE;clear hi0;have f2:vals 2=.bool true:=hf 2 rfl
    try dsimp only at f2
    clear hf;simp only [sP,f2] at hE ⊢;clear f2;go_wp2;exact .mk (hE _ _ rfl hC1 rfl)
   ·refine step_guard [(3,some 6)] (fun _=>rfl) 3 6 true rfl rfl ?_ ?_
    ·intro w1 vals hC1 hi0 hf hy E hE;dsimp only at hE ⊢;clear hi0;have f3:vals 3=.bool true:=hf 3 rfl
     try dsimp only at f3
     clear hf;clear hy;simp only [sP,f3] at hE ⊢;clear f3;go_wp2;exact .mk (hE _ _ rfl hC1 rfl)
    ·intro w1 vals hC1 hi0 hf hy;clear hi0;have f3:vals 3=.bool true:=hf 3 rfl
     try dsimp only at f3
     clear hf;exact absurd (by simp only [sP,f3]; rfl) hy
   ·refine step_guard [(4,some 7),(3,some 6),(3,some 6)] (fun _=>rfl) 3 6 true rfl rfl ?_ ?_
    ·intro w1 vals hC1 hi0 hf hy E hE;dsimp only at hE ⊢;clear hi0;have f3:vals 3=.bool true:=hf 3 rfl;have f4:vals 4=.slice A 32 c:=hf 4 rfl
     try dsimp only at f3 f4
     clear hf;clear hy;simp only [sP,f3,f4] at hE ⊢;clear f3 f4;go_wp2_with fail;refine calls_then (HC.out _ hC1) ?_;rintro e w2 ⟨o2,rfl,hblk,hb2⟩;go_wp2_with fail;exact .mk (hE _ _ ⟨o2,rfl,hblk⟩ (hC1.trans (hb2.mono hC1.size)) hb2)
    ·intro w1 vals hC1 hi0 hf hy;clear hi0;have f3:vals 3=.bool true:=hf 3 rfl;have f4:vals 4=.slice A 32 c:=hf 4 rfl
     try dsimp only at f3 f4
     clear hf;exact absurd (by simp only [sP,f3]; rfl) hy
   ·refine step_guard [(5,some 8),(3,some 6)] (fun _=>rfl) 3 6 true rfl rfl ?_ ?_
    ·intro w1 vals hC1 hi0 hf hy E hE;dsimp only at hE ⊢;clear hi0;have f3:vals 3=.bool true:=hf 3 rfl;have f5:(fun z u=>∃ o2,z 5=.slice (some ⟨o2,0,none⟩) 32 32∧Blk u o2 5 (bytesV R).toArray) vals w1:=hf 5 rfl
     try dsimp only at f3 f5
     clear hf;clear hy;obtain ⟨o2,hx,hblk⟩:=f5;simp only [sP,f3,hx] at hE ⊢;clear f3;clear hx;refine wpList_str_of (l:=R) (Rd.of_blk hblk hblk.lt) Tryd.underlying22 Tryd.underlying5 Tryd.underlying9 rfl rfl (by rw [HRL.out]; rfl) ?_;go_wp2_with fail;exact .mk (hE _ _ rfl hC1 rfl)
    ·intro w1 vals hC1 hi0 hf hy;clear hi0;have f3:vals 3=.bool true:=hf 3 rfl;have f5:(fun z u=>∃ o2,z 5=.slice (some ⟨o2,0,none⟩) 32 32∧Blk u o2 5 (bytesV R).toArray) vals w1:=hf 5 rfl
     try dsimp only at f3 f5
     clear hf;exact absurd (by simp only [sP,f3]; rfl) hy
   ·refine step_guard [(3,some 6)] (fun _=>rfl) 3 6 true rfl rfl ?_ ?_
    ·intro w1 vals hC1 hi0 hf hy E hE;dsimp only at hE ⊢;clear hi0;have f3:vals 3=.bool true:=hf 3 rfl
     try dsimp only at f3
     clear hf;clear hy;simp only [sP,f3] at hE ⊢;clear f3;go_wp2;exact .mk (hE _ _ rfl hC1 rfl)
    ·intro w1 vals hC1 hi0 hf hy;clear hi0;have f3:vals 3=.bool true:=hf 3 rfl
     try dsimp only at f3
     clear hf;exact absurd (by simp only [sP,f3]; rfl) hy
   ·refine step_guard [(7,some 10),(3,some 6)] (fun _=>rfl) 3 6 true rfl rfl ?_ ?_
    ·intro w1 vals hC1 hi0 hf hy E hE;dsimp only at hE ⊢;clear hi0;have f3:vals 3=.bool true:=hf 3 rfl;have f7:vals 7=.slice A 32 c:=hf 7 rfl
     try dsimp only at f3 f7
     clear hf;clear hy;simp only [sP,f3,f7] at hE ⊢;clear f3 f7;refine wpList_str_of (l:=b) (HR.out.below hC1) Tryd.underlying22 Tryd.underlying5 Tryd.underlying9 rfl rfl (by rw [HL.out]; rfl) ?_;go_wp2_with fail;exact .mk (hE _ _ rfl hC1 rfl)
    ·intro w1 vals hC1 hi0 hf hy;clear hi0;have f3:vals 3=.bool true:=hf 3 rfl;have f7:vals 7=.slice A 32 c:=hf 7 rfl
     try dsimp only at f3 f7
     clear hf;exact absurd (by simp only [sP,f3]; rfl) hy
   ·refine step_guard [(6,some 9),(8,some 11),(3,some 6)] (fun _=>rfl) 3 6 true rfl rfl ?_ ?_
    ·intro w1 vals hC1 hi0 hf hy E hE;dsimp only at hE ⊢;clear hi0;have f3:vals 3=.bool true:=hf 3 rfl;have f6:vals 6=.string ⟨R.toArray⟩:=hf 6 rfl;have f8:vals 8=.string ⟨b.toArray⟩:=hf 8 rfl
     try dsimp only at f3 f6 f8
     clear hf;clear hy;simp only [sP,f3,f6,f8] at hE ⊢;clear f3 f6 f8;go_wp2;exact .mk (hE _ _ rfl hC1 rfl)
    ·intro w1 vals hC1 hi0 hf hy;clear hi0;have f3:vals 3=.bool true:=hf 3 rfl;have f6:vals 6=.string ⟨R.toArray⟩:=hf 6 rfl;have f8:vals 8=.string ⟨b.toArray⟩:=hf 8 rfl
     try dsimp only at f3 f6 f8
     clear hf;exact absurd (by simp only [sP,f3]; rfl) hy
   ·refine step_plain [(3,some 6),(9,some 12)] (fun _=>rfl) rfl ?_;intro w1 vals hC1 hi0 hf E hE;clear hi0;have f3:vals 3=.bool true:=hf 3 rfl;have f9:vals 9=.bool (R == b):=hf 9 rfl
    try dsimp only at f3 f9
    clear hf;simp only [sP,f3,f9] at hE ⊢;clear f3 f9;go_wp2;exact .mk (hE _ _ rfl hC1 rfl)
   ·refine step_plain [(10,some 13),(5,some 8),(0,some 3),(1,some 4),(2,some 5),(3,some 6),(4,some 7),(5,some 8),(6,some 9),(7,some 10),(8,some 11),(9,some 12),(10,some 13)] (fun _=>rfl) rfl ?_;intro w1 vals hC1 hi0 hf E hE;clear hi0;have f0:vals 0=.slice A 32 c:=hf 0 rfl;have f1:vals 1=.int .i64 32:=hf 1 rfl;have f2:vals 2=.bool true:=hf 2 rfl;have f3:vals 3=.bool true:=hf 3 rfl;have f4:vals 4=.slice A 32 c:=hf 4 rfl;have f5:(fun z u=>∃ o2,z 5=.slice (some ⟨o2,0,none⟩) 32 32∧Blk u o2 5 (bytesV R).toArray) vals w1:=hf 5 rfl;have f6:vals 6=.string ⟨R.toArray⟩:=hf 6 rfl;have f7:vals 7=.slice A 32 c:=hf 7 rfl;have f8:vals 8=.string ⟨b.toArray⟩:=hf 8 rfl;have f9:vals 9=.bool (R == b):=hf 9 rfl;have f10:vals 10=.bool (R == b):=hf 10 rfl
    try dsimp only at f0 f1 f2 f3 f4 f5 f6 f7 f8 f9 f10
    clear hf;simp only [sP,f0,f1,f2,f3,f4,f6,f7,f8,f9,f10] at hE ⊢;clear f0 f1 f2 f3 f4 f6 f7 f8 f9 f10;go_wp2;exact .mk (hE _ _ rfl hC1 rfl)
  intro w1 vals hC1 hf;have f0:vals 0=.slice A 32 c:=hf 0 (by decide) rfl;have f1:vals 1=.int .i64 32:=hf 1 (by decide) rfl;have f2:vals 2=.bool true:=hf 2 (by decide) rfl;have f3:vals 3=.bool true:=hf 3 (by decide) rfl;have f4:vals 4=.slice A 32 c:=hf 4 (by decide) rfl;have f5:(fun z u=>∃ o2,z 5=.slice (some ⟨o2,0,none⟩) 32 32∧Blk u o2 5 (bytesV R).toArray) vals w1:=hf 5 (by decide) rfl;have f6:vals 6=.string ⟨R.toArray⟩:=hf 6 (by decide) rfl;have f7:vals 7=.slice A 32 c:=hf 7 (by decide) rfl;have f8:vals 8=.string ⟨b.toArray⟩:=hf 8 (by decide) rfl;have f9:vals 9=.bool (R == b):=hf 9 (by decide) rfl;have f10:vals 10=.bool (R == b):=hf 10 (by decide) rfl;have f11:vals 11=.bool (R == b):=hf 11 (by decide) rfl
  try dsimp only at f0 f1 f2 f3 f4 f5 f6 f7 f8 f9 f10 f11
  clear hf;simp only [sP,f0,f1,f2,f3,f4,f6,f7,f8,f9,f10,f11];clear f0 f1 f2 f3 f4 f6 f7 f8 f9 f10 f11;generalize vals 5=x5 at *;clear HC0 f5;go_wp2_with fail;go_ret;exact ⟨rfl,hC1⟩
 ·rw [isB,decide_eq_false h32,Bool.false_and];obtain ⟨n,hn⟩:∃ n,n=b.length:=⟨_,rfl⟩;have hn32:((n:Int) == 32)=false:=by rw [beq_eq_false_iff_ne]; omega
  rw [← hn];clear hn h32 hr;go_enter Tryd.func30,Tryd.ntmps30;go_wp2_with fail;have HC0:Below w.heap.size w w.drew:=(Below.refl _ _).drew;refine wp_region_det (fun u=>Below w.heap.size w u) (fun u=>Below w.heap.size w u) [(0,some 3),(1,some 4),(2,some 5),(3,some 6),(4,some 7),(5,some 8),(6,some 9),(7,some 10),(8,some 11),(9,some 12),(10,some 13),(11,some 2)] (by kernel_rfl) (by kernel_rfl) (by decide) (by kernel_rfl) (fun _=>rfl) HC0 ?_;apply DetL.next
  ·apply dP [];exact fun _=>rfl;rfl;rintro vals - w1 hC1 E hE;simp only [sP] at hE ⊢;go_wp2;exact .mk (hE _ hC1)
  apply DetL.next
  ·apply dP [(0,some 3)];exact fun _=>rfl;rfl;rintro vals ⟨-,f0⟩ w1 hC1 E hE;simp only [sP,f0] at hE ⊢;clear f0;go_wp2;exact .mk (hE _ hC1)
  apply DetL.next
  ·apply dP [(1,some 4)];exact fun _=>rfl;rfl;rintro vals ⟨⟨-,-⟩,f1⟩ w1 hC1 E hE;simp only [sP,f1] at hE ⊢;clear f1;go_wp2;exact .mk (hE _ hC1)
  apply DetL.next
  ·apply dP [(2,some 5)];exact fun _=>rfl;rfl;intro vals vq w1 hC1 E hE;have f2:=vq.2;clear vq;simp only [sP,f2] at hE ⊢;clear f2;go_wp2;exact .mk (hE _ hC1)
  apply DetL.next (v:=undef)
  ·refine detStep_no [(3,some 6)] (fun _=>rfl) 3 6 true rfl rfl ?_ (fun _ h=>h);rintro vals ⟨⟨⟨⟨-,-⟩,-⟩,-⟩,f3⟩;simp only [sP,f3];rfl
  apply DetL.next (v:=undef)
  ·refine detStep_no [(4,some 7),(3,some 6),(3,some 6)] (fun _=>rfl) 3 6 true rfl rfl ?_ (fun _ h=>h);rintro vals ⟨⟨⟨⟨⟨-,-⟩,-⟩,-⟩,f3⟩,f4⟩;simp only [sP,f3,f4];rfl
  apply DetL.next (v:=undef)
  ·refine detStep_no [(5,some 8),(3,some 6)] (fun _=>rfl) 3 6 true rfl rfl ?_ (fun _ h=>h);rintro vals ⟨⟨⟨⟨⟨⟨-,-⟩,-⟩,-⟩,f3⟩,-⟩,f5⟩;simp only [sP,f3,f5];rfl
  apply DetL.next (v:=undef)
  ·refine detStep_no [(3,some 6)] (fun _=>rfl) 3 6 true rfl rfl ?_ (fun _ h=>h);rintro vals ⟨⟨⟨⟨⟨⟨⟨-,-⟩,-⟩,-⟩,f3⟩,-⟩,-⟩,-⟩;simp only [sP,f3];rfl
  apply DetL.next (v:=undef)
  ·refine detStep_no [(7,some 10),(3,some 6)] (fun _=>rfl) 3 6 true rfl rfl ?_ (fun _ h=>h);rintro vals ⟨⟨⟨⟨⟨⟨⟨⟨-,-⟩,-⟩,-⟩,f3⟩,-⟩,-⟩,-⟩,f7⟩;simp only [sP,f3,f7];rfl
  apply DetL.next (v:=undef)
  ·refine detStep_no [(6,some 9),(8,some 11),(3,some 6)] (fun _=>rfl) 3 6 true rfl rfl ?_ (fun _ h=>h);rintro vals ⟨⟨⟨⟨⟨⟨⟨⟨⟨-,-⟩,-⟩,-⟩,f3⟩,-⟩,-⟩,f6⟩,-⟩,f8⟩;simp only [sP,f3,f6,f8];rfl
  apply DetL.next
  ·apply dP [(3,some 6),(9,some 12)];exact fun _=>rfl;rfl;intro vals vq w1 hC1 E hE;have f3:=vq.1.1.1.1.1.1.2;have f9:=vq.2;clear vq;simp only [sP,f3,f9] at hE ⊢;clear f3 f9;go_wp2;exact .mk (hE _ hC1)
  apply DetL.last
  ·apply dP [(10,some 13),(5,some 8),(0,some 3),(1,some 4),(2,some 5),(3,some 6),(4,some 7),(5,some 8),(6,some 9),(7,some 10),(8,some 11),(9,some 12),(10,some 13)];exact fun _=>rfl;rfl;rintro vals ⟨⟨⟨⟨⟨⟨⟨⟨⟨⟨⟨-,f0⟩,f1⟩,f2⟩,f3⟩,f4⟩,f5⟩,f6⟩,f7⟩,f8⟩,f9⟩,f10⟩ w1 hC1 E hE;simp only [sP,f0,f1,f2,f3,f4,f5,f6,f7,f8,f9,f10] at hE ⊢;clear f0 f1 f2 f3 f4 f5 f6 f7 f8 f9 f10;go_wp2;exact .mk (hE _ hC1)
  rintro vals ⟨⟨⟨⟨⟨⟨⟨⟨⟨⟨⟨⟨-,f0⟩,f1⟩,f2⟩,f3⟩,f4⟩,f5⟩,f6⟩,f7⟩,f8⟩,f9⟩,f10⟩,f11⟩ w1 hC1;simp only [sP,f0,f1,f2,f3,f4,f5,f6,f7,f8,f9,f10,f11];clear f0 f1 f2 f3 f4 f5 f6 f7 f8 f9 f10 f11;clear HC0;go_wp2_with fail;go_ret;exact ⟨rfl,hC1⟩
end Go.Proofs.YtdgheahbafnboaaDoor
/-
  Walk: slices.Repeat of one byte 255, 32 times.
-/
namespace Go.Proofs.YtdgheahbafnboaaDoor
set_option linter.unusedSimpArgs false
set_option linter.unusedVariables false
open Go.RowKit
set_option maxRecDepth 100000 in
theorem bmul_any (x y:Nat) (hx:x<18446744073709551616) (hy:y<18446744073709551616) (w:World) :
  Calls Tryd.prog 101 #[.int .u64 x,.int .u64 y] w fun e w'=>e=.returned (.tuple #[.int .u64 ((x*y/18446744073709551616:Nat):Int),.int .u64 ((x*y%18446744073709551616:Nat):Int)])∧w'=w:=by
 have HM:=zY (mul64_any x y hx hy w);generalize x*y/18446744073709551616=hi at *;generalize x*y%18446744073709551616=lo at *;clear hx hy;go_enter Tryd.func101,Tryd.ntmps101;go_wp2_with fail;refine calls_then HM.out ?_;rintro e w1 ⟨rfl,rfl⟩;go_wp2_with fail;go_ret2;exact ⟨rfl,rfl⟩
def RepPost (w:World) (e:Ending) (w':World):Prop :=
 ∃ o,e=.returned (.slice (some ⟨o,0,none⟩) 32 32)∧w.heap.size≤o∧Blk w' o 5 (bnV (fillL 32)).toArray∧Below w.heap.size w w'
theorem rep_step:∀ n,n=1∨n=2∨n=4∨n=8∨n=16→splice (bnV (fillL n)) n (bnV (List.replicate n 255))=bnV (fillL (n+n))∧splice (bnV (fillL (n+n))) n (bnV (List.replicate n 255))=bnV (fillL (n+n)):=by
 rintro n (rfl | rfl | rfl | rfl | rfl) <;> exact ⟨rfl,rfl⟩
theorem rep_first:splice (bnV (fillL 0)) 0 (bnV [255])=bnV (fillL 1):=rfl
theorem rep_src:∀ n,n=1∨n=2∨n=4∨n=8∨n=16→∀ (j:Nat) (v:Value),(bnV (List.replicate n 255))[j]?=some v→(bnV (fillL n))[j]?=some v∧(bnV (fillL (n+n)))[j]?=some v:=by
 intro n hn j v h
 have hlt:j<n:=by
  have:=(List.getElem?_eq_some_iff.1 h).1
  simpa [bnV] using this
 have h1:v=.int .u8 ((255:Nat):Int):=by
  simp only [bnV,List.map_replicate,List.getElem?_replicate] at h;rw [if_pos hlt] at h;exact (Option.some.inj h).symm
 have h2:∀ m,n≤m→(bnV (fillL m))[j]?=some v:=fun m hm=>by
  rw [bnV,fillL,List.map_append,List.getElem?_append_left (by simp; omega),List.map_replicate,List.getElem?_replicate,if_pos (by omega),h1]
 exact ⟨h2 n (Nat.le_refl _),h2 (n+n) (by omega)⟩
theorem rep_one (n:Nat):∀ v ∈ bnV (List.replicate n 255),v.oneCell'=true:=by
 intro v h;simp only [bnV,List.mem_map] at h;obtain ⟨m,_,rfl⟩:=h;rfl
theorem rep_len (n:Nat):(bnV (List.replicate n 255)).length=n:=by simp [bnV]
theorem fill_length (k:Nat) (h:k≤32):(bnV (fillL k)).length=32:=by rw [bnV,List.length_map,fill_len k (by omega)]
theorem byte_size1:(Tryd.prog.info? 5).map (·.size)=some 1:=by kernel_rfl
theorem add0 (o j:Nat):(⟨o,0,none⟩:Addr).add j=⟨o,j,none⟩:=by unfold Addr.add; split <;> simp_all
structure RepS (w0:World) (o k:Nat) (u:World):Prop where
 bel:Below w0.heap.size w0 u
 out:Blk u o 5 (bnV (fillL k)).toArray∨Blk u o 5 (bnV (fillL (k+k))).toArray
set_option maxRecDepth 100000 in
set_option maxHeartbeats 4000000 in
theorem repeat_any (ad:Addr) (w:World) (hb:ad.block<w.heap.size) (hcell:w.cell? ad=some (.int .u8 255)) :
  Calls Tryd.prog 89 #[.slice (some ad) 1 1,.int .i64 32] w (RepPost w):=by
 have hus:=Tryd.underlying22;have hmk:∀ u:World,(Instr.makeSlice 22 (.int .i64 32) (.int .i64 32)).run Tryd.prog u=.ok (.slice (some ⟨u.heap.size,0,none⟩) 32 32) (u.alloc (.cells (bnV (fillL 0)).toArray 5)):=fun _=>by kernel_rfl
 have HM:=zY (show ∀ u,Calls Tryd.prog 101 #[.int .u64 1,.int .u64 32] u (fun e w'=>e=.returned (.tuple #[.int .u64 0,.int .u64 32])∧w'=u) from fun u=>bmul_any 1 32 (by decide) (by decide) u);have HC:=zY hcell;have HLB:=zY hb;clear hcell hb;go_enter Tryd.func89,Tryd.ntmps89;go_wp2_with fail;refine calls_then (HM.out _) ?_;rintro e W0 ⟨rfl,rfl⟩;have hb0:=below_new W0 (.cells (bnV (fillL 0)).toArray 5);have HN:=zY (Blk.new W0 5 (bnV (fillL 0)).toArray);have hc0:(W0.alloc (.cells (bnV (fillL 0)).toArray 5)).cell? ad=some (.int .u8 255):=(hb0.cell HLB.out).trans HC.out;have HB0:=zY hb0;have HC0:=zY hc0;clear hb0 hc0
 go_wp2_with (refine wpList_copy_splice (P:=Tryd.prog) rfl (.tmp 31) (.tmp 32) _ _ rfl 5 hus byte_size1 _ _ _ _ _ _ rfl rfl W0.heap.size 0 (bnV (fillL 0)) 5 HN.out (bnV [255]) rfl (fun _=>⟨rfl,ad,rfl,fun j v hj=>by
   match j with
   | 0=>injection hj with hj; rw [← hj]; exact HC0.out
   | j+1=>cases hj⟩) (by decide) (rep_one 1) W0.heap.size W0 HB0.out (Nat.le_refl _) ?_; intro w2 hq hb2; have HQ:=zY (show Blk w2 W0.heap.size 5 (bnV (fillL 1)).toArray from hq.out); have HB2:=zY hb2; clear hq hb2)
 clear HM hmk HC HC0 HN HB0;rw [show ((bnV [255]).length:Int)=((1:Nat):Int) from rfl];generalize ho:W0.heap.size=o at HQ ⊢;have HO:=zY ho;clear ho
 go_loopw [8] (fun i wr=>∃ k:Nat,((k=1∨k=2∨k=4∨k=8∨k=16)∨k=32)∧i=.int .i64 k∧Blk wr o 5 (bnV (fillL k)).toArray∧Below W0.heap.size W0 wr) (fun i _=>32 - (intOf i).toNat)
 case atStart=>exact ⟨1,.inl (.inl rfl),rfl,HQ.out,HB2.out⟩
 case round =>
  clear HQ HB2;obtain ⟨n,hn,rfl,hq,hb⟩:=hrel;have HQ:=zY hq;have HB:=zY hb;clear hq hb
  rcases hn with hn | rfl
  ·have h1:(n:Int)<32:=by omega
   have h2:(n:Int)≤32:=by omega
   have h3:(1:Int)≤n:=by omega
   have h4:(n:Int)≤16:=by omega
   have HN:=zY hn;clear hn;go_wp2_with fail;have HC0:RepS W0 o n wr.drew:=⟨HB.out.drew,.inl HQ.out⟩
   refine wp_region_list (fun u=>RepS W0 o n u) (fun | false=>(fun _=>True) | true=>(fun _=>True)) (fun | false,_=>false | true,_=>false)
    [fun z _=>z 0=.int .i64 (n:Int),
     fun z _=>z 1=.slice (some ⟨o,0,none⟩) 32 32,
     fun z _=>z 2=.int .i64 (n:Int),
     fun z _=>z 3=.slice (some ⟨o,n,none⟩) (32 - n) (32 - n),
     fun z _=>z 4=.slice (some ⟨o,0,none⟩) 32 32,
     fun z _=>z 5=.int .i64 (n:Int),
     fun z _=>z 6=.slice (some ⟨o,0,none⟩) n 32,
     fun z u=>(fun v u=>v=.int .i64 (n:Int)∧Blk u o 5 (bnV (fillL (n+n))).toArray) (z 7) u,
     fun z _=>z 8=.int .i64 ((n:Int)+n),
     fun z _=>z 9=.int .i64 ((n:Int)+n)]
    [Eq,Eq,Eq,Eq,Eq,Eq,Eq,fun u u'=>True,Eq,Eq]
    (fun _ _=>false) [(0,some 38),(1,some 39),(2,some 40),(3,some 41),(4,some 42),(5,some 43),(6,some 44),(7,some 45),(8,some 46),(9,some 8)] (by kernel_rfl) (by kernel_rfl) rfl (fun _=>rfl) ?_ ?_ ?_ ?_ ?_ ?_
   ·exact HC0
   ·intro m; cases m; exact trivial; exact trivial
   ·intro m; cases m
    ·refine ⟨?_,?_,?_,?_,?_,?_,?_,.inr (fun _ _ _ h=>h),?_,?_,trivial⟩ <;> exact .inr fun _ _ h h0=>h▸h0
    ·refine ⟨?_,?_,?_,?_,?_,?_,?_,.inr (fun _ _ _ h=>h),?_,?_,trivial⟩ <;> exact .inr fun _ _ h h0=>h▸h0
   ·refine ⟨⟨.inl rfl,?_,?_,?_,?_,?_,?_,.inr (.inr (.inr (fun _ _ _ _ h h0=>by cases h; exact h0))),?_,?_,trivial⟩,⟨?_,.inl rfl,?_,?_,?_,?_,?_,?_,?_,?_,trivial⟩,⟨?_,?_,.inl rfl,?_,?_,?_,?_,?_,?_,?_,trivial⟩,⟨?_,?_,?_,.inl rfl,?_,?_,?_,?_,?_,?_,trivial⟩,⟨?_,?_,?_,?_,.inl rfl,?_,?_,?_,?_,?_,trivial⟩,⟨?_,?_,?_,?_,?_,.inl rfl,?_,?_,?_,?_,trivial⟩,⟨?_,?_,?_,?_,?_,?_,.inl rfl,?_,?_,?_,trivial⟩,⟨?_,?_,?_,?_,?_,?_,?_,.inl rfl,?_,?_,trivial⟩,⟨?_,?_,?_,?_,?_,?_,?_,.inr (.inr (.inr (fun _ _ _ _ h h0=>by cases h; exact h0))),.inl rfl,?_,trivial⟩,⟨?_,?_,?_,?_,?_,?_,?_,.inr (.inr (.inr (fun _ _ _ _ h h0=>by cases h; exact h0))),?_,.inl rfl,trivial⟩,trivial⟩ <;> first | exact .inr (.inr (.inl rfl)) | exact .inr (.inr (.inr fun _ _ _ _ _ h=>h))
   ·refine ⟨?_,?_,?_,?_,?_,?_,?_,?_,?_,?_,trivial⟩
    ·refine step_plain [] (fun _=>rfl) rfl ?_;intro w1 vals hC1 hi0 hf E hE;clear hi0;clear hf;simp only [sP] at hE ⊢;go_wp2;exact .mk (hE _ _ rfl hC1 rfl)
    ·refine step_plain [] (fun _=>rfl) rfl ?_;intro w1 vals hC1 hi0 hf E hE;clear hi0;clear hf;simp only [sP] at hE ⊢;go_wp2;exact .mk (hE _ _ rfl hC1 rfl)
    ·refine step_plain [] (fun _=>rfl) rfl ?_;intro w1 vals hC1 hi0 hf E hE;clear hi0;clear hf;simp only [sP] at hE ⊢;go_wp2;exact .mk (hE _ _ rfl hC1 rfl)
    ·refine step_plain [(1,some 39),(2,some 40)] (fun _=>rfl) rfl ?_;intro w1 vals hC1 hi0 hf E hE;clear hi0;have f1:vals 1=.slice (some ⟨o,0,none⟩) 32 32:=hf 1 rfl;have f2:vals 2=.int .i64 (n:Int):=hf 2 rfl
     try dsimp only at f1 f2
     clear hf;simp only [sP,f1,f2] at hE ⊢;clear f1 f2;go_wp2;exact .mk (hE _ _ rfl hC1 rfl)
    ·refine step_plain [] (fun _=>rfl) rfl ?_;intro w1 vals hC1 hi0 hf E hE;clear hi0;clear hf;simp only [sP] at hE ⊢;go_wp2;exact .mk (hE _ _ rfl hC1 rfl)
    ·refine step_plain [] (fun _=>rfl) rfl ?_;intro w1 vals hC1 hi0 hf E hE;clear hi0;clear hf;simp only [sP] at hE ⊢;go_wp2;exact .mk (hE _ _ rfl hC1 rfl)
    ·refine step_plain [(4,some 42),(5,some 43)] (fun _=>rfl) rfl ?_;intro w1 vals hC1 hi0 hf E hE;clear hi0;have f4:vals 4=.slice (some ⟨o,0,none⟩) 32 32:=hf 4 rfl;have f5:vals 5=.int .i64 (n:Int):=hf 5 rfl
     try dsimp only at f4 f5
     clear hf;simp only [sP,f4,f5] at hE ⊢;clear f4 f5;go_wp2;exact .mk (hE _ _ rfl hC1 rfl)
    ·refine step_plain [(3,some 41),(6,some 44)] (fun _=>rfl) rfl ?_;intro w1 vals hC1 hi0 hf E hE;clear hi0;have f3:vals 3=.slice (some ⟨o,n,none⟩) (32 - n) (32 - n):=hf 3 rfl;have f6:vals 6=.slice (some ⟨o,0,none⟩) n 32:=hf 6 rfl
     try dsimp only at f3 f6
     clear hf;have hN:=HN.out;have hrep:=rep_step n hN;have hsrc:=rep_src n hN;have hm:n≤32 - n:=by omega
     simp only [sP,f3,f6] at hE ⊢;clear f3 f6
     rcases hC1.out with hq | hq
     ·refine wpList_copy_splice (P:=Tryd.prog) rfl (.tmp 41) (.tmp 44) _ _ rfl 5 hus byte_size1 _ _ _ _ _ _ rfl rfl o n (bnV (fillL n)) 5 hq (bnV (List.replicate n 255)) (by rw [rep_len]; exact (Nat.min_eq_left hm).symm) (fun _=>⟨rfl,_,rfl,fun j v hj=>by rw [add0,hq.cell j,List.getElem?_toArray]; exact (hsrc j v hj).1⟩) (by rw [rep_len,fill_length _ (by omega)]; omega) (rep_one n) W0.heap.size W0 hC1.bel (Nat.le_of_eq HO.out) ?_;intro w2 hq2 hb2;rw [hrep.1] at hq2;have HB2:=zY hb2;clear hb2;go_wp2_with fail;exact .mk (hE _ _ ⟨congrArg (fun (k:Nat)=>Value.int .i64 (k:Int)) (rep_len n),hq2.out⟩ ⟨HB2.out,.inr hq2.out⟩ trivial)
     ·refine wpList_copy_splice (P:=Tryd.prog) rfl (.tmp 41) (.tmp 44) _ _ rfl 5 hus byte_size1 _ _ _ _ _ _ rfl rfl o n (bnV (fillL (n+n))) 5 hq (bnV (List.replicate n 255)) (by rw [rep_len]; exact (Nat.min_eq_left hm).symm) (fun _=>⟨rfl,_,rfl,fun j v hj=>by rw [add0,hq.cell j,List.getElem?_toArray]; exact (hsrc j v hj).2⟩) (by rw [rep_len,fill_length _ (by omega)]; omega) (rep_one n) W0.heap.size W0 hC1.bel (Nat.le_of_eq HO.out) ?_;intro w2 hq2 hb2;rw [hrep.2] at hq2;have HB2:=zY hb2;clear hb2;go_wp2_with fail;exact .mk (hE _ _ ⟨congrArg (fun (k:Nat)=>Value.int .i64 (k:Int)) (rep_len n),hq2.out⟩ ⟨HB2.out,.inr hq2.out⟩ trivial)
    ·refine step_plain [(0,some 38),(7,some 45)] (fun _=>rfl) rfl ?_;intro w1 vals hC1 hi0 hf E hE;clear hi0;have f0:vals 0=.int .i64 (n:Int):=hf 0 rfl;have f7:(fun v u=>v=.int .i64 (n:Int)∧Blk u o 5 (bnV (fillL (n+n))).toArray) (vals 7) w1:=hf 7 rfl
     try dsimp only at f0 f7
     clear hf;obtain ⟨hx,hbk⟩:=f7;simp only [sP,f0,hx] at hE ⊢;clear f0;clear hx;go_wp2;exact .mk (hE _ _ rfl hC1 rfl)
    ·refine step_plain [(8,some 46),(7,some 45),(0,some 38),(1,some 39),(2,some 40),(3,some 41),(4,some 42),(5,some 43),(6,some 44),(7,some 45),(8,some 46)] (fun _=>rfl) rfl ?_;intro w1 vals hC1 hi0 hf E hE;clear hi0;have f0:vals 0=.int .i64 (n:Int):=hf 0 rfl;have f1:vals 1=.slice (some ⟨o,0,none⟩) 32 32:=hf 1 rfl;have f2:vals 2=.int .i64 (n:Int):=hf 2 rfl;have f3:vals 3=.slice (some ⟨o,n,none⟩) (32 - n) (32 - n):=hf 3 rfl;have f4:vals 4=.slice (some ⟨o,0,none⟩) 32 32:=hf 4 rfl;have f5:vals 5=.int .i64 (n:Int):=hf 5 rfl;have f6:vals 6=.slice (some ⟨o,0,none⟩) n 32:=hf 6 rfl;have f7:(fun v u=>v=.int .i64 (n:Int)∧Blk u o 5 (bnV (fillL (n+n))).toArray) (vals 7) w1:=hf 7 rfl;have f8:vals 8=.int .i64 ((n:Int)+n):=hf 8 rfl
     try dsimp only at f0 f1 f2 f3 f4 f5 f6 f7 f8
     clear hf;simp only [sP,f0,f1,f2,f3,f4,f5,f6,f8] at hE ⊢;clear f0 f1 f2 f3 f4 f5 f6 f8;go_wp2;exact .mk (hE _ _ rfl hC1 rfl)
   intro w1 vals hC1 hf;have f0:vals 0=.int .i64 (n:Int):=hf 0 (by decide) rfl;have f1:vals 1=.slice (some ⟨o,0,none⟩) 32 32:=hf 1 (by decide) rfl;have f2:vals 2=.int .i64 (n:Int):=hf 2 (by decide) rfl;have f3:vals 3=.slice (some ⟨o,n,none⟩) (32 - n) (32 - n):=hf 3 (by decide) rfl;have f4:vals 4=.slice (some ⟨o,0,none⟩) 32 32:=hf 4 (by decide) rfl;have f5:vals 5=.int .i64 (n:Int):=hf 5 (by decide) rfl;have f6:vals 6=.slice (some ⟨o,0,none⟩) n 32:=hf 6 (by decide) rfl;have f7:(fun v u=>v=.int .i64 (n:Int)∧Blk u o 5 (bnV (fillL (n+n))).toArray) (vals 7) w1:=hf 7 (by decide) rfl;have f8:vals 8=.int .i64 ((n:Int)+n):=hf 8 (by decide) rfl;have f9:vals 9=.int .i64 ((n:Int)+n):=hf 9 (by decide) rfl
   try dsimp only at f0 f1 f2 f3 f4 f5 f6 f7 f8 f9
   clear hf;simp only [sP,f0,f1,f2,f3,f4,f5,f6,f8,f9];clear f0 f1 f2 f3 f4 f5 f6 f8 f9;generalize vals 7=x7 at *;obtain ⟨_,hbk⟩:=f7;have HBK:=zY hbk;have HBL:=zY hC1.bel;clear hbk hC1 HC0;go_wp2_with fail;refine ⟨⟨n+n,?_,by go_num,HBK.out,HBL.out⟩,by simp [intOf]; omega⟩;have:=HN.out;omega
  ·go_wp2_with fail;go_ret;exact ⟨o,rfl,Nat.le_of_eq HO.out,HQ.out,HB.out⟩
end Go.Proofs.YtdgheahbafnboaaDoor
/-
  Walk: curve's root.
-/
namespace Go.Proofs.YtdgheahbafnboaaDoor
set_option linter.unusedSimpArgs false
set_option linter.unusedVariables false
open Go.RowKit
def e0L:List Nat:=253 :: (List.replicate 30 255++[15])
theorem e0L_end:((fillL 32).set 0 253).set 31 15=e0L:=by decide
theorem e0L_dg:Dg e0L:=by unfold Dg; decide
def e0B:List UInt8:=e0L.map UInt8.ofNat
theorem e0B_v:bytesV e0B=bnV e0L:=by rfl
theorem e0B_l:(e0B.take 64).map UInt8.toNat=e0L:=by decide
theorem e0B_len:e0B.length=32:=by decide
def crV3 (v:E5):E5:=mulE (mulE v v) v
def crX (u v:E5):E5:=mulE (mulE u (crV3 v)) (pwL (mulE (mulE (mulE u (crV3 v)) (crV3 v)) v) e0L 32)
def crH (u v:E5):E5:=mulE (mulE v (crX u v)) (crX u v)
def rootB1 (u v:E5):Bool:=eqB (crH u v) u
def rootB2 (u v:E5):Bool:=eqB (crH u v) (subE zE u)
def rootE (u v:E5):E5:=if rootB1 u v then crX u v else if rootB2 u v then mulE (crX u v) turnE else zE
def rootB (u v:E5):Bool:=if rootB1 u v then true else rootB2 u v
theorem crV3_ok {v:E5} (hv:v.Ok):(crV3 v).Ok:=mul_ok (mul_ok hv hv) hv
theorem crX_ok {u v:E5} (hu:u.Ok) (hv:v.Ok):(crX u v).Ok:=mul_ok (mul_ok hu (crV3_ok hv)) (pwL_ok (mul_ok (mul_ok (mul_ok hu (crV3_ok hv)) (crV3_ok hv)) hv) _ _)
theorem rootE_ok {u v:E5} (hu:u.Ok) (hv:v.Ok):(rootE u v).Ok:=by
 unfold rootE
 split
 ·exact crX_ok hu hv
 ·split
  ·exact mul_ok (crX_ok hu hv) turnE_ok
  ·exact zE_ok
def CRootPost (x:E5) (b:Bool) (w:World) (e:Ending) (w':World):Prop:=e=.returned (.tuple #[.agg (eV x),.bool b])∧Below w.heap.size w w'
set_option maxRecDepth 100000 in
set_option maxHeartbeats 8000000 in
theorem croot_any (m n:E5) (w:World) (hku:m.Ok) (hkv:n.Ok):Calls Tryd.prog 63 #[.agg (eV m),.agg (eV n)] w (CRootPost (rootE m n) (rootB m n) w):=by
 have hu:=Tryd.underlying39;have hp:=Tryd.underlying41;have KU:=zY hku;have KV:=zY hkv;obtain ⟨w0,hw0⟩:∃ w0,w0=((w.alloc (.cells (eV m) 39)).alloc (.cells (eV n) 39)).alloc (.cells (eV zE) 39):=⟨_,rfl⟩
 have hst:Cs [.box w.heap.size 39 (eV m),.box (w.heap.size+1) 39 (eV n),.box (w.heap.size+1+1) 39 (eV zE)] w w0:=by
  rw [hw0];exact ⟨⟨((Blk.new _ _ _).alloc _).alloc _,(Blk.newAt (by simp)).alloc _,Blk.newAt (by simp),trivial⟩,((below_new _ _).alloc (by simp) _).alloc (by simp; try omega) _⟩
 have HLR:=zY (show w.heap.size≤w.heap.size+1+1 by omega);obtain ⟨X,hX⟩:∃ X,X=turnE:=⟨_,rfl⟩;have CT:=zY (show ∀ u,Calls Tryd.prog 90 #[] u (ElemPost X u) from fun u=>by rw [hX]; exact turn_any u);have KX:=zY (show X.Ok by rw [hX]; exact turnE_ok);obtain ⟨RE,hRE⟩:∃ x,x=rootE m n:=⟨_,rfl⟩;obtain ⟨RB,hRB⟩:∃ x,x=rootB m n:=⟨_,rfl⟩
 have hres:∀ v3 x h b1 b2,v3=mulE (mulE n n) n→x=mulE (mulE m v3) (pwL (mulE (mulE (mulE m v3) v3) n) e0L 32)→h=mulE (mulE n x) x→b1=eqB h m→b2=eqB h (subE zE m) →
   RE=(if b1 then x else if b2 then mulE x X else zE)∧RB=(if b1 then true else b2):=by
  rintro v3 x h b1 b2 e1 e2 e3 e4 e5;rw [hRE,hRB,hX,e4,e5,e3,e2,e1];exact ⟨rfl,rfl⟩
 rw [← hRE,← hRB];have HRES:=zY hres;clear hku hkv hX hRE hRB hres;have HW:=zY hw0;have HST0:=zY hst;clear hw0 hst;go_enter Tryd.func63,Tryd.ntmps63;go_wp2_with fail;show Calls Tryd.prog _ #[.slice (some ⟨w.heap.size+1+1+1,0,none⟩) 1 1,.int .i64 32] ((((w.alloc (.cells (eV m) _)).alloc (.cells (eV n) _)).alloc (.cells (eV zE) _)).alloc (.cells #[.int .u8 255] _)) _;rw [← HW.out];have hs3:w.heap.size+1+1+1=w0.heap.size:=by rw [HW.out]; simp
 rw [hs3];refine calls_then (repeat_any ⟨w0.heap.size,0,none⟩ _ (by simp) ((Blk.new w0 _ #[.int .u8 255]).cell 0)) ?_;rintro e w1 ⟨o,rfl,hlo,hblk,hb1⟩;have hlo':w0.heap.size≤o:=by simp at hlo; omega
 have hb0:Below w0.heap.size w0 w1:=(below_new w0 (.cells #[.int .u8 255] 5)).trans (hb1.mono (by simp));have HQ1:=zY hblk;have HBW:=zY hb0;have HLO:=zY hlo';clear hlo hblk hb1 hlo' hb0 hs3
 go_wp2_with (first
  | (refine wpList_put_cell (x:=.tmp 14) (i:=0) (v:=.int .u8 253) HQ1.out rfl rfl rfl rfl u8_size (by rw [bnV_len,fill_len 32 (by omega)]; decide) rfl ?_; intro w2 hb2 hw2; have HQ2:=zY (show Blk w2 o 5 (bnV ((fillL 32).set 0 253)).toArray by rw [show (Value.int IntKind.u8 253)=.int .u8 ((253:Nat):Int) from rfl,bnV_set] at hb2; exact hb2); have HB2:=zY (hw2.below HBW.out HLO.out HBW.out.size); clear hb2 hw2 HBW)
  | (refine wpList_put_cell (x:=.tmp 15) (i:=31) (v:=.int .u8 15) HQ2.out rfl rfl rfl rfl u8_size (by rw [bnV_len,List.length_set,fill_len 32 (by omega)]; decide) rfl ?_; intro w3 hb3 hw3; have HQ3:=zY (show Blk w3 o 5 (bnV e0L).toArray by rw [show (Value.int IntKind.u8 15)=.int .u8 ((15:Nat):Int) from rfl,bnV_set,e0L_end] at hb3; exact hb3); have HB3:=zY (hw3.below HB2.out HLO.out HB2.out.size); clear hb3 hw3 HB2))
 obtain ⟨OA,hOA⟩:∃ A:Option Addr,A=some ⟨o,0,none⟩:=⟨_,rfl⟩;have hrd:=Rd.of_blk HQ3.out HQ3.out.lt;rw [← e0B_v,← hOA] at hrd;have HST3:=zY (show Cs [.rd OA (bytesV e0B),.box w.heap.size 39 (eV m),.box (w.heap.size+1) 39 (eV n),.box (w.heap.size+1+1) 39 (eV zE)] w w3 from ⟨⟨hrd,(HST0.out.next HB3.out).1⟩,(HST0.out.next HB3.out).2⟩);rw [← hOA];clear hrd hOA HQ1 HQ2 HQ3 HB3 HST0 HLO
 have CPW:=zY (show ∀ x (u:World),E5.Ok x→Rd u u.heap.size OA (bytesV e0B)→Calls Tryd.prog 69 #[.agg (eV x),.slice OA 32 32] u (ElemPost (pwL x e0L 32) u) from fun x u hx hr=>by
  have h:=pow_any x hx e0B OA 32 u hr (by rw [e0B_len]; decide) (by rw [e0B_len]; decide);rw [e0B_l,e0B_len] at h;exact h)
 generalize w.heap.size+1+1=r at *;generalize w.heap.size+1=gv at *;generalize hgu:w.heap.size=gu at HST3 ⊢;clear HW hgu;have HC0:Below w3.heap.size w3 w3.drew:=(Below.refl _ _).drew
 refine wp_region_list (fun u=>Below w3.heap.size w3 u) (fun | false=>(fun _=>True) | true=>(fun _=>True)) (fun | false,_=>false | true,_=>false)
  [fun z _=>z 0=.agg (eV (n)),
   fun z _=>z 1=.agg (eV (n)),
   fun z _=>z 2=.agg (eV (mulE (n) (n))),
   fun z _=>z 3=.agg (eV (n)),
   fun z _=>z 4=.agg (eV (mulE (mulE (n) (n)) (n))),
   fun z u=>(NewBox w3.heap.size 39 (eV zE)) (z 5) u,
   fun z u=>NewBox w3.heap.size 39 (eV (mulE (mulE (n) (n)) (n))) (z 5) u]
  [Eq,Eq,fun u u'=>Below u.heap.size u u',Eq,fun u u'=>Below u.heap.size u u',fun u u'=>Below u.heap.size u u',fun _ _=>True]
  (fun i k=>(i == 6 && k == 5)) [(0,some 16),(1,some 17),(2,some 18),(3,some 19),(4,some 20),(5,some 7),(6,none)] (by kernel_rfl) (by kernel_rfl) rfl (fun _=>rfl) ?_ ?_ ?_ ?_ ?_ ?_
 ·exact HC0
 ·intro m; cases m; exact trivial; exact trivial
 ·intro m; cases m
  ·exact ⟨.inr (fun _ _ h h0=>h▸h0),.inr (fun _ _ h h0=>h▸h0),.inr (fun _ _ _ h=>h),.inr (fun _ _ h h0=>h▸h0),.inr (fun _ _ _ h=>h),.inr (fun _ _ _ h=>h),.inr (fun _ _ _ h=>h),trivial⟩
  ·exact ⟨.inr (fun _ _ h h0=>h▸h0),.inr (fun _ _ h h0=>h▸h0),.inr (fun _ _ _ h=>h),.inr (fun _ _ h h0=>h▸h0),.inr (fun _ _ _ h=>h),.inr (fun _ _ _ h=>h),.inr (fun _ _ _ h=>h),trivial⟩
 ·refine ⟨⟨.inl rfl,?_,?_,?_,?_,.inr (.inr (.inr (fun _ _ _ _ h h0=>by cases h; exact h0))),?_,trivial⟩,⟨?_,.inl rfl,?_,?_,?_,.inr (.inr (.inr (fun _ _ _ _ h h0=>by cases h; exact h0))),?_,trivial⟩,⟨?_,?_,.inl rfl,?_,?_,.inr (.inr (.inr (fun _ _ _ _ h h0=>h0.next h))),?_,trivial⟩,⟨?_,?_,?_,.inl rfl,?_,.inr (.inr (.inr (fun _ _ _ _ h h0=>by cases h; exact h0))),?_,trivial⟩,⟨?_,?_,?_,?_,.inl rfl,.inr (.inr (.inr (fun _ _ _ _ h h0=>h0.next h))),?_,trivial⟩,⟨?_,?_,?_,?_,?_,.inl rfl,?_,trivial⟩,⟨?_,?_,?_,?_,?_,.inr (.inl rfl),.inl rfl,trivial⟩,trivial⟩ <;> first | exact .inr (.inr (.inl rfl)) | exact .inr (.inr (.inr fun _ _ _ _ _ h=>h))
 ·refine ⟨?_,?_,?_,?_,?_,?_,?_,trivial⟩
  ·refine step_plain [] (fun _=>rfl) rfl ?_;intro w1 vals hC1 hi0 hf E hE;clear hi0;clear hf;have hs:=HST3.out.next hC1;simp only [sP] at hE ⊢;refine wpList_get_box (hs.1.2.2.1) rfl rfl rfl hu rfl elem_size ?_;go_wp2_with fail;exact .mk (hE _ _ rfl hC1 rfl)
  ·refine step_plain [] (fun _=>rfl) rfl ?_;intro w1 vals hC1 hi0 hf E hE;clear hi0;clear hf;have hs:=HST3.out.next hC1;simp only [sP] at hE ⊢;refine wpList_get_box (hs.1.2.2.1) rfl rfl rfl hu rfl elem_size ?_;go_wp2_with fail;exact .mk (hE _ _ rfl hC1 rfl)
  ·refine step_plain [(0,some 16),(1,some 17)] (fun _=>rfl) rfl ?_;intro w1 vals hC1 hi0 hf E hE;clear hi0;have f0:vals 0=.agg (eV (n)):=hf 0 rfl;have f1:vals 1=.agg (eV (n)):=hf 1 rfl
   try dsimp only at f0 f1
   clear hf;simp only [sP,f0,f1] at hE ⊢;clear f0 f1;go_wp2_with fail;refine calls_then (mul_c _ _ _ (KV.out) (KV.out)) ?_;rintro e w2 ⟨rfl,hb2⟩;go_wp2_with fail;exact .mk (hE _ _ rfl (hC1.trans (hb2.mono hC1.size)) hb2)
  ·refine step_plain [] (fun _=>rfl) rfl ?_;intro w1 vals hC1 hi0 hf E hE;clear hi0;clear hf;have hs:=HST3.out.next hC1;simp only [sP] at hE ⊢;refine wpList_get_box (hs.1.2.2.1) rfl rfl rfl hu rfl elem_size ?_;go_wp2_with fail;exact .mk (hE _ _ rfl hC1 rfl)
  ·refine step_plain [(2,some 18),(3,some 19),(2,some 18)] (fun _=>rfl) rfl ?_;intro w1 vals hC1 hi0 hf E hE;clear hi0;have f2:vals 2=.agg (eV (mulE (n) (n))):=hf 2 rfl;have f3:vals 3=.agg (eV (n)):=hf 3 rfl
   try dsimp only at f2 f3
   clear hf;simp only [sP,f2,f3] at hE ⊢;clear f2 f3;go_wp2_with fail;refine calls_then (mul_c _ _ _ (mul_ok (KV.out) (KV.out)) (KV.out)) ?_;rintro e w2 ⟨rfl,hb2⟩;go_wp2_with fail;exact .mk (hE _ _ rfl (hC1.trans (hb2.mono hC1.size)) hb2)
  ·refine step_plain [] (fun _=>rfl) rfl ?_;intro w1 vals hC1 hi0 hf E hE;clear hi0;clear hf;simp only [sP] at hE ⊢;go_wp2;exact .mk (hE _ _ (NewBox.of hC1.size) (hC1.alloc hC1.size _) (below_new _ _))
  ·refine step_plain [(5,some 7),(4,some 20),(4,some 20),(0,some 16),(1,some 17),(2,some 18),(3,some 19),(4,some 20),(5,some 7)] (fun _=>rfl) rfl ?_;intro w1 vals hC1 hi0 hf E hE;clear hi0;have f0:vals 0=.agg (eV (n)):=hf 0 rfl;have f1:vals 1=.agg (eV (n)):=hf 1 rfl;have f2:vals 2=.agg (eV (mulE (n) (n))):=hf 2 rfl;have f3:vals 3=.agg (eV (n)):=hf 3 rfl;have f4:vals 4=.agg (eV (mulE (mulE (n) (n)) (n))):=hf 4 rfl;have f5:(NewBox w3.heap.size 39 (eV zE)) (vals 5) w1:=hf 5 rfl
   try dsimp only at f0 f1 f2 f3 f4 f5
   clear hf;obtain ⟨o,hx,ho,hblk⟩:=f5;have hx':=hx;simp only [sP,f0,f1,f2,f3,f4,hx] at hE ⊢;clear f0 f1 f2 f3 f4;clear hx;refine wpList_put_box (cells:=eV (mulE (mulE (n) (n)) (n))) hblk rfl rfl rfl rfl elem_size rfl (by simp [eV,ptV,wV,limbs,Value.oneCell']) ?_;intro w2 hb2 hw2;go_wp2_with fail;exact .mk (hE undef _ ⟨o,hx',ho,hb2⟩ (hw2.below hC1 ho hC1.size) trivial)
 intro w1 vals hC1 hf;have f0:vals 0=.agg (eV (n)):=hf 0 (by decide) rfl;have f1:vals 1=.agg (eV (n)):=hf 1 (by decide) rfl;have f2:vals 2=.agg (eV (mulE (n) (n))):=hf 2 (by decide) rfl;have f3:vals 3=.agg (eV (n)):=hf 3 (by decide) rfl;have f4:vals 4=.agg (eV (mulE (mulE (n) (n)) (n))):=hf 4 (by decide) rfl;have f6:(fun z u=>NewBox w3.heap.size 39 (eV (mulE (mulE (n) (n)) (n))) (z 5) u) vals w1:=hf 6 (by decide) rfl
 try dsimp only at f0 f1 f2 f3 f4 f6
 clear hf;simp only [sP,f0,f1,f2,f3,f4];clear f0 f1 f2 f3 f4;generalize vals 5=x5 at *;obtain ⟨o1,rfl,hlo1,hblk1⟩:=f6;obtain ⟨c,hc⟩:∃ x,x=mulE (mulE (n) (n)) (n):=⟨_,rfl⟩;rw [← hc] at hblk1;have Kc:=zY (show c.Ok by rw [hc]; exact mul_ok (mul_ok (KV.out) (KV.out)) (KV.out));have Ec:=zY hc;have HST1:=zY (show Cs (.box o1 39 (eV c) :: [.rd OA (bytesV e0B),.box gu 39 (eV m),.box gv 39 (eV n),.box r 39 (eV zE)]) w w1 from ⟨⟨hblk1,(HST3.out.next hC1).1⟩,(HST3.out.next hC1).2⟩);clear hC1 HC0 HST3 hblk1 hlo1 hc;obtain ⟨v1,rfl⟩:∃ x,x=w1:=⟨_,rfl⟩;go_wp2_with fail;have HC0:Below v1.heap.size v1 v1.drew:=(Below.refl _ _).drew
 refine wp_region_list (fun u=>Below v1.heap.size v1 u) (fun | false=>(fun _=>True) | true=>(fun _=>True)) (fun | false,_=>false | true,_=>false)
  [fun z _=>z 0=.agg (eV (m)),
   fun z _=>z 1=.agg (eV (c)),
   fun z _=>z 2=.agg (eV (mulE (m) (c))),
   fun z _=>z 3=.agg (eV (m)),
   fun z _=>z 4=.agg (eV (c)),
   fun z _=>z 5=.agg (eV (mulE (m) (c))),
   fun z _=>z 6=.agg (eV (c)),
   fun z _=>z 7=.agg (eV (mulE (mulE (m) (c)) (c))),
   fun z _=>z 8=.agg (eV (n)),
   fun z _=>z 9=.agg (eV (mulE (mulE (mulE (m) (c)) (c)) (n))),
   fun z _=>z 10=.slice OA 32 32,
   fun z _=>z 11=.agg (eV (pwL (mulE (mulE (mulE (m) (c)) (c)) (n)) e0L 32)),
   fun z _=>z 12=.agg (eV (mulE (mulE (m) (c)) (pwL (mulE (mulE (mulE (m) (c)) (c)) (n)) e0L 32))),
   fun z u=>(NewBox v1.heap.size 39 (eV zE)) (z 13) u,
   fun z u=>NewBox v1.heap.size 39 (eV (mulE (mulE (m) (c)) (pwL (mulE (mulE (mulE (m) (c)) (c)) (n)) e0L 32))) (z 13) u]
  [Eq,Eq,fun u u'=>Below u.heap.size u u',Eq,Eq,fun u u'=>Below u.heap.size u u',Eq,fun u u'=>Below u.heap.size u u',Eq,fun u u'=>Below u.heap.size u u',Eq,fun u u'=>Below u.heap.size u u',fun u u'=>Below u.heap.size u u',fun u u'=>Below u.heap.size u u',fun _ _=>True]
  (fun i k=>(i == 14 && k == 13)) [(0,some 21),(1,some 22),(2,some 23),(3,some 24),(4,some 25),(5,some 26),(6,some 27),(7,some 28),(8,some 29),(9,some 30),(10,some 31),(11,some 32),(12,some 33),(13,some 8),(14,none)] (by kernel_rfl) (by kernel_rfl) rfl (fun _=>rfl) ?_ ?_ ?_ ?_ ?_ ?_
 ·exact HC0
 ·intro m; cases m; exact trivial; exact trivial
 ·intro m; cases m
  ·refine ⟨?_,?_,.inr (fun _ _ _ h=>h),?_,?_,.inr (fun _ _ _ h=>h),?_,.inr (fun _ _ _ h=>h),?_,.inr (fun _ _ _ h=>h),?_,.inr (fun _ _ _ h=>h),.inr (fun _ _ _ h=>h),.inr (fun _ _ _ h=>h),.inr (fun _ _ _ h=>h),trivial⟩ <;> exact .inr fun _ _ h h0=>h▸h0
  ·refine ⟨?_,?_,.inr (fun _ _ _ h=>h),?_,?_,.inr (fun _ _ _ h=>h),?_,.inr (fun _ _ _ h=>h),?_,.inr (fun _ _ _ h=>h),?_,.inr (fun _ _ _ h=>h),.inr (fun _ _ _ h=>h),.inr (fun _ _ _ h=>h),.inr (fun _ _ _ h=>h),trivial⟩ <;> exact .inr fun _ _ h h0=>h▸h0
 ·refine ⟨⟨.inl rfl,?_,?_,?_,?_,?_,?_,?_,?_,?_,?_,?_,?_,.inr (.inr (.inr (fun _ _ _ _ h h0=>by cases h; exact h0))),?_,trivial⟩,⟨?_,.inl rfl,?_,?_,?_,?_,?_,?_,?_,?_,?_,?_,?_,.inr (.inr (.inr (fun _ _ _ _ h h0=>by cases h; exact h0))),?_,trivial⟩,⟨?_,?_,.inl rfl,?_,?_,?_,?_,?_,?_,?_,?_,?_,?_,.inr (.inr (.inr (fun _ _ _ _ h h0=>h0.next h))),?_,trivial⟩,⟨?_,?_,?_,.inl rfl,?_,?_,?_,?_,?_,?_,?_,?_,?_,.inr (.inr (.inr (fun _ _ _ _ h h0=>by cases h; exact h0))),?_,trivial⟩,⟨?_,?_,?_,?_,.inl rfl,?_,?_,?_,?_,?_,?_,?_,?_,.inr (.inr (.inr (fun _ _ _ _ h h0=>by cases h; exact h0))),?_,trivial⟩,⟨?_,?_,?_,?_,?_,.inl rfl,?_,?_,?_,?_,?_,?_,?_,.inr (.inr (.inr (fun _ _ _ _ h h0=>h0.next h))),?_,trivial⟩,⟨?_,?_,?_,?_,?_,?_,.inl rfl,?_,?_,?_,?_,?_,?_,.inr (.inr (.inr (fun _ _ _ _ h h0=>by cases h; exact h0))),?_,trivial⟩,⟨?_,?_,?_,?_,?_,?_,?_,.inl rfl,?_,?_,?_,?_,?_,.inr (.inr (.inr (fun _ _ _ _ h h0=>h0.next h))),?_,trivial⟩,⟨?_,?_,?_,?_,?_,?_,?_,?_,.inl rfl,?_,?_,?_,?_,.inr (.inr (.inr (fun _ _ _ _ h h0=>by cases h; exact h0))),?_,trivial⟩,⟨?_,?_,?_,?_,?_,?_,?_,?_,?_,.inl rfl,?_,?_,?_,.inr (.inr (.inr (fun _ _ _ _ h h0=>h0.next h))),?_,trivial⟩,⟨?_,?_,?_,?_,?_,?_,?_,?_,?_,?_,.inl rfl,?_,?_,.inr (.inr (.inr (fun _ _ _ _ h h0=>by cases h; exact h0))),?_,trivial⟩,⟨?_,?_,?_,?_,?_,?_,?_,?_,?_,?_,?_,.inl rfl,?_,.inr (.inr (.inr (fun _ _ _ _ h h0=>h0.next h))),?_,trivial⟩,⟨?_,?_,?_,?_,?_,?_,?_,?_,?_,?_,?_,?_,.inl rfl,.inr (.inr (.inr (fun _ _ _ _ h h0=>h0.next h))),?_,trivial⟩,⟨?_,?_,?_,?_,?_,?_,?_,?_,?_,?_,?_,?_,?_,.inl rfl,?_,trivial⟩,⟨?_,?_,?_,?_,?_,?_,?_,?_,?_,?_,?_,?_,?_,.inr (.inl rfl),.inl rfl,trivial⟩,trivial⟩ <;> first | exact .inr (.inr (.inl rfl)) | exact .inr (.inr (.inr fun _ _ _ _ _ h=>h))
 ·refine ⟨?_,?_,?_,?_,?_,?_,?_,?_,?_,?_,?_,?_,?_,?_,?_,trivial⟩
  ·refine step_plain [] (fun _=>rfl) rfl ?_;intro w1 vals hC1 hi0 hf E hE;clear hi0;clear hf;have hs:=HST1.out.next hC1;simp only [sP] at hE ⊢;refine wpList_get_box (hs.1.2.2.1) rfl rfl rfl hu rfl elem_size ?_;go_wp2_with fail;exact .mk (hE _ _ rfl hC1 rfl)
  ·refine step_plain [] (fun _=>rfl) rfl ?_;intro w1 vals hC1 hi0 hf E hE;clear hi0;clear hf;have hs:=HST1.out.next hC1;simp only [sP] at hE ⊢;refine wpList_get_box (hs.1.1) rfl rfl rfl hu rfl elem_size ?_;go_wp2_with fail;exact .mk (hE _ _ rfl hC1 rfl)
  ·refine step_plain [(0,some 21),(1,some 22)] (fun _=>rfl) rfl ?_;intro w1 vals hC1 hi0 hf E hE;clear hi0;have f0:vals 0=.agg (eV (m)):=hf 0 rfl;have f1:vals 1=.agg (eV (c)):=hf 1 rfl
   try dsimp only at f0 f1
   clear hf;simp only [sP,f0,f1] at hE ⊢;clear f0 f1;go_wp2_with fail;refine calls_then (mul_c _ _ _ (KU.out) (Kc.out)) ?_;rintro e w2 ⟨rfl,hb2⟩;go_wp2_with fail;exact .mk (hE _ _ rfl (hC1.trans (hb2.mono hC1.size)) hb2)
  ·refine step_plain [] (fun _=>rfl) rfl ?_;intro w1 vals hC1 hi0 hf E hE;clear hi0;clear hf;have hs:=HST1.out.next hC1;simp only [sP] at hE ⊢;refine wpList_get_box (hs.1.2.2.1) rfl rfl rfl hu rfl elem_size ?_;go_wp2_with fail;exact .mk (hE _ _ rfl hC1 rfl)
  ·refine step_plain [] (fun _=>rfl) rfl ?_;intro w1 vals hC1 hi0 hf E hE;clear hi0;clear hf;have hs:=HST1.out.next hC1;simp only [sP] at hE ⊢;refine wpList_get_box (hs.1.1) rfl rfl rfl hu rfl elem_size ?_;go_wp2_with fail;exact .mk (hE _ _ rfl hC1 rfl)
  ·refine step_plain [(3,some 24),(4,some 25),(2,some 23)] (fun _=>rfl) rfl ?_;intro w1 vals hC1 hi0 hf E hE;clear hi0;have f2:vals 2=.agg (eV (mulE (m) (c))):=hf 2 rfl;have f3:vals 3=.agg (eV (m)):=hf 3 rfl;have f4:vals 4=.agg (eV (c)):=hf 4 rfl
   try dsimp only at f2 f3 f4
   clear hf;simp only [sP,f2,f3,f4] at hE ⊢;clear f2 f3 f4;go_wp2_with fail;refine calls_then (mul_c _ _ _ (KU.out) (Kc.out)) ?_;rintro e w2 ⟨rfl,hb2⟩;go_wp2_with fail;exact .mk (hE _ _ rfl (hC1.trans (hb2.mono hC1.size)) hb2)
  ·refine step_plain [] (fun _=>rfl) rfl ?_;intro w1 vals hC1 hi0 hf E hE;clear hi0;clear hf;have hs:=HST1.out.next hC1;simp only [sP] at hE ⊢;refine wpList_get_box (hs.1.1) rfl rfl rfl hu rfl elem_size ?_;go_wp2_with fail;exact .mk (hE _ _ rfl hC1 rfl)
  ·refine step_plain [(5,some 26),(6,some 27),(5,some 26)] (fun _=>rfl) rfl ?_;intro w1 vals hC1 hi0 hf E hE;clear hi0;have f5:vals 5=.agg (eV (mulE (m) (c))):=hf 5 rfl;have f6:vals 6=.agg (eV (c)):=hf 6 rfl
   try dsimp only at f5 f6
   clear hf;simp only [sP,f5,f6] at hE ⊢;clear f5 f6;go_wp2_with fail;refine calls_then (mul_c _ _ _ (mul_ok (KU.out) (Kc.out)) (Kc.out)) ?_;rintro e w2 ⟨rfl,hb2⟩;go_wp2_with fail;exact .mk (hE _ _ rfl (hC1.trans (hb2.mono hC1.size)) hb2)
  ·refine step_plain [] (fun _=>rfl) rfl ?_;intro w1 vals hC1 hi0 hf E hE;clear hi0;clear hf;have hs:=HST1.out.next hC1;simp only [sP] at hE ⊢;refine wpList_get_box (hs.1.2.2.2.1) rfl rfl rfl hu rfl elem_size ?_;go_wp2_with fail;exact .mk (hE _ _ rfl hC1 rfl)
  ·refine step_plain [(7,some 28),(8,some 29),(7,some 28)] (fun _=>rfl) rfl ?_;intro w1 vals hC1 hi0 hf E hE;clear hi0;have f7:vals 7=.agg (eV (mulE (mulE (m) (c)) (c))):=hf 7 rfl;have f8:vals 8=.agg (eV (n)):=hf 8 rfl
   try dsimp only at f7 f8
   clear hf;simp only [sP,f7,f8] at hE ⊢;clear f7 f8;go_wp2_with fail;refine calls_then (mul_c _ _ _ (mul_ok (mul_ok (KU.out) (Kc.out)) (Kc.out)) (KV.out)) ?_;rintro e w2 ⟨rfl,hb2⟩;go_wp2_with fail;exact .mk (hE _ _ rfl (hC1.trans (hb2.mono hC1.size)) hb2)
  ·refine step_plain [] (fun _=>rfl) rfl ?_;intro w1 vals hC1 hi0 hf E hE;clear hi0;clear hf;simp only [sP] at hE ⊢;go_wp2;exact .mk (hE _ _ rfl hC1 rfl)
  ·refine step_plain [(9,some 30),(10,some 31),(9,some 30)] (fun _=>rfl) rfl ?_;intro w1 vals hC1 hi0 hf E hE;clear hi0;have f9:vals 9=.agg (eV (mulE (mulE (mulE (m) (c)) (c)) (n))):=hf 9 rfl;have f10:vals 10=.slice OA 32 32:=hf 10 rfl
   try dsimp only at f9 f10
   clear hf;have hs:=HST1.out.next hC1;simp only [sP,f9,f10] at hE ⊢;clear f9 f10;go_wp2_with fail;refine calls_then (CPW.out _ _ (mul_ok (mul_ok (mul_ok (KU.out) (Kc.out)) (Kc.out)) (KV.out)) (hs.1.2.1)) ?_;rintro e w2 ⟨rfl,hb2⟩;go_wp2_with fail;exact .mk (hE _ _ rfl (hC1.trans (hb2.mono hC1.size)) hb2)
  ·refine step_plain [(2,some 23),(11,some 32),(11,some 32)] (fun _=>rfl) rfl ?_;intro w1 vals hC1 hi0 hf E hE;clear hi0;have f2:vals 2=.agg (eV (mulE (m) (c))):=hf 2 rfl;have f11:vals 11=.agg (eV (pwL (mulE (mulE (mulE (m) (c)) (c)) (n)) e0L 32)):=hf 11 rfl
   try dsimp only at f2 f11
   clear hf;simp only [sP,f2,f11] at hE ⊢;clear f2 f11;go_wp2_with fail;refine calls_then (mul_c _ _ _ (mul_ok (KU.out) (Kc.out)) (pwL_ok (mul_ok (mul_ok (mul_ok (KU.out) (Kc.out)) (Kc.out)) (KV.out)) _ _)) ?_;rintro e w2 ⟨rfl,hb2⟩;go_wp2_with fail;exact .mk (hE _ _ rfl (hC1.trans (hb2.mono hC1.size)) hb2)
  ·refine step_plain [] (fun _=>rfl) rfl ?_;intro w1 vals hC1 hi0 hf E hE;clear hi0;clear hf;simp only [sP] at hE ⊢;go_wp2;exact .mk (hE _ _ (NewBox.of hC1.size) (hC1.alloc hC1.size _) (below_new _ _))
  ·refine step_plain [(13,some 8),(12,some 33),(12,some 33),(0,some 21),(1,some 22),(2,some 23),(3,some 24),(4,some 25),(5,some 26),(6,some 27),(7,some 28),(8,some 29),(9,some 30),(10,some 31),(11,some 32),(12,some 33),(13,some 8)] (fun _=>rfl) rfl ?_;intro w1 vals hC1 hi0 hf E hE;clear hi0;have f0:vals 0=.agg (eV (m)):=hf 0 rfl;have f1:vals 1=.agg (eV (c)):=hf 1 rfl;have f2:vals 2=.agg (eV (mulE (m) (c))):=hf 2 rfl;have f3:vals 3=.agg (eV (m)):=hf 3 rfl;have f4:vals 4=.agg (eV (c)):=hf 4 rfl;have f5:vals 5=.agg (eV (mulE (m) (c))):=hf 5 rfl;have f6:vals 6=.agg (eV (c)):=hf 6 rfl;have f7:vals 7=.agg (eV (mulE (mulE (m) (c)) (c))):=hf 7 rfl;have f8:vals 8=.agg (eV (n)):=hf 8 rfl;have f9:vals 9=.agg (eV (mulE (mulE (mulE (m) (c)) (c)) (n))):=hf 9 rfl;have f10:vals 10=.slice OA 32 32:=hf 10 rfl;have f11:vals 11=.agg (eV (pwL (mulE (mulE (mulE (m) (c)) (c)) (n)) e0L 32)):=hf 11 rfl;have f12:vals 12=.agg (eV (mulE (mulE (m) (c)) (pwL (mulE (mulE (mulE (m) (c)) (c)) (n)) e0L 32))):=hf 12 rfl;have f13:(NewBox v1.heap.size 39 (eV zE)) (vals 13) w1:=hf 13 rfl
   try dsimp only at f0 f1 f2 f3 f4 f5 f6 f7 f8 f9 f10 f11 f12 f13
   clear hf;obtain ⟨o,hx,ho,hblk⟩:=f13;have hx':=hx;simp only [sP,f0,f1,f2,f3,f4,f5,f6,f7,f8,f9,f10,f11,f12,hx] at hE ⊢;clear f0 f1 f2 f3 f4 f5 f6 f7 f8 f9 f10 f11 f12;clear hx;refine wpList_put_box (cells:=eV (mulE (mulE (m) (c)) (pwL (mulE (mulE (mulE (m) (c)) (c)) (n)) e0L 32))) hblk rfl rfl rfl rfl elem_size rfl (by simp [eV,ptV,wV,limbs,Value.oneCell']) ?_;intro w2 hb2 hw2;go_wp2_with fail;exact .mk (hE undef _ ⟨o,hx',ho,hb2⟩ (hw2.below hC1 ho hC1.size) trivial)
 intro w1 vals hC1 hf;have f0:vals 0=.agg (eV (m)):=hf 0 (by decide) rfl;have f1:vals 1=.agg (eV (c)):=hf 1 (by decide) rfl;have f2:vals 2=.agg (eV (mulE (m) (c))):=hf 2 (by decide) rfl;have f3:vals 3=.agg (eV (m)):=hf 3 (by decide) rfl;have f4:vals 4=.agg (eV (c)):=hf 4 (by decide) rfl;have f5:vals 5=.agg (eV (mulE (m) (c))):=hf 5 (by decide) rfl;have f6:vals 6=.agg (eV (c)):=hf 6 (by decide) rfl;have f7:vals 7=.agg (eV (mulE (mulE (m) (c)) (c))):=hf 7 (by decide) rfl;have f8:vals 8=.agg (eV (n)):=hf 8 (by decide) rfl;have f9:vals 9=.agg (eV (mulE (mulE (mulE (m) (c)) (c)) (n))):=hf 9 (by decide) rfl;have f10:vals 10=.slice OA 32 32:=hf 10 (by decide) rfl;have f11:vals 11=.agg (eV (pwL (mulE (mulE (mulE (m) (c)) (c)) (n)) e0L 32)):=hf 11 (by decide) rfl;have f12:vals 12=.agg (eV (mulE (mulE (m) (c)) (pwL (mulE (mulE (mulE (m) (c)) (c)) (n)) e0L 32))):=hf 12 (by decide) rfl;have f14:(fun z u=>NewBox v1.heap.size 39 (eV (mulE (mulE (m) (c)) (pwL (mulE (mulE (mulE (m) (c)) (c)) (n)) e0L 32))) (z 13) u) vals w1:=hf 14 (by decide) rfl
 try dsimp only at f0 f1 f2 f3 f4 f5 f6 f7 f8 f9 f10 f11 f12 f14
 clear hf;simp only [sP,f0,f1,f2,f3,f4,f5,f6,f7,f8,f9,f10,f11,f12];clear f0 f1 f2 f3 f4 f5 f6 f7 f8 f9 f10 f11 f12;generalize vals 13=x13 at *;obtain ⟨o2,rfl,hlo2,hblk2⟩:=f14;obtain ⟨t,ht⟩:∃ x,x=mulE (mulE (m) (c)) (pwL (mulE (mulE (mulE (m) (c)) (c)) (n)) e0L 32):=⟨_,rfl⟩;rw [← ht] at hblk2;have Kt:=zY (show t.Ok by rw [ht]; exact mul_ok (mul_ok (KU.out) (Kc.out)) (pwL_ok (mul_ok (mul_ok (mul_ok (KU.out) (Kc.out)) (Kc.out)) (KV.out)) _ _));have Et:=zY ht;have HST2:=zY (show Cs (.box o2 39 (eV t) :: [.box o1 39 (eV c),.rd OA (bytesV e0B),.box gu 39 (eV m),.box gv 39 (eV n),.box r 39 (eV zE)]) w w1 from ⟨⟨hblk2,(HST1.out.next hC1).1⟩,(HST1.out.next hC1).2⟩);clear hC1 HC0 HST1 hblk2 hlo2 ht;obtain ⟨v2,rfl⟩:∃ x,x=w1:=⟨_,rfl⟩;go_wp2_with fail;have HC0:Below v2.heap.size v2 v2.drew:=(Below.refl _ _).drew
 refine wp_region_list (fun u=>Below v2.heap.size v2 u) (fun | false=>(fun _=>True) | true=>(fun _=>True)) (fun | false,_=>false | true,_=>false)
  [fun z _=>z 0=.agg (eV (n)),
   fun z _=>z 1=.agg (eV (t)),
   fun z _=>z 2=.agg (eV (mulE (n) (t))),
   fun z _=>z 3=.agg (eV (t)),
   fun z _=>z 4=.agg (eV (mulE (mulE (n) (t)) (t))),
   fun z u=>(NewBox v2.heap.size 39 (eV zE)) (z 5) u,
   fun z u=>NewBox v2.heap.size 39 (eV (mulE (mulE (n) (t)) (t))) (z 5) u]
  [Eq,Eq,fun u u'=>Below u.heap.size u u',Eq,fun u u'=>Below u.heap.size u u',fun u u'=>Below u.heap.size u u',fun _ _=>True]
  (fun i k=>(i == 6 && k == 5)) [(0,some 34),(1,some 35),(2,some 36),(3,some 37),(4,some 38),(5,some 9),(6,none)] (by kernel_rfl) (by kernel_rfl) rfl (fun _=>rfl) ?_ ?_ ?_ ?_ ?_ ?_
 ·exact HC0
 ·intro m; cases m; exact trivial; exact trivial
 ·intro m; cases m
  ·exact ⟨.inr (fun _ _ h h0=>h▸h0),.inr (fun _ _ h h0=>h▸h0),.inr (fun _ _ _ h=>h),.inr (fun _ _ h h0=>h▸h0),.inr (fun _ _ _ h=>h),.inr (fun _ _ _ h=>h),.inr (fun _ _ _ h=>h),trivial⟩
  ·exact ⟨.inr (fun _ _ h h0=>h▸h0),.inr (fun _ _ h h0=>h▸h0),.inr (fun _ _ _ h=>h),.inr (fun _ _ h h0=>h▸h0),.inr (fun _ _ _ h=>h),.inr (fun _ _ _ h=>h),.inr (fun _ _ _ h=>h),trivial⟩
 ·refine ⟨⟨.inl rfl,?_,?_,?_,?_,.inr (.inr (.inr (fun _ _ _ _ h h0=>by cases h; exact h0))),?_,trivial⟩,⟨?_,.inl rfl,?_,?_,?_,.inr (.inr (.inr (fun _ _ _ _ h h0=>by cases h; exact h0))),?_,trivial⟩,⟨?_,?_,.inl rfl,?_,?_,.inr (.inr (.inr (fun _ _ _ _ h h0=>h0.next h))),?_,trivial⟩,⟨?_,?_,?_,.inl rfl,?_,.inr (.inr (.inr (fun _ _ _ _ h h0=>by cases h; exact h0))),?_,trivial⟩,⟨?_,?_,?_,?_,.inl rfl,.inr (.inr (.inr (fun _ _ _ _ h h0=>h0.next h))),?_,trivial⟩,⟨?_,?_,?_,?_,?_,.inl rfl,?_,trivial⟩,⟨?_,?_,?_,?_,?_,.inr (.inl rfl),.inl rfl,trivial⟩,trivial⟩ <;> first | exact .inr (.inr (.inl rfl)) | exact .inr (.inr (.inr fun _ _ _ _ _ h=>h))
 ·refine ⟨?_,?_,?_,?_,?_,?_,?_,trivial⟩
  ·refine step_plain [] (fun _=>rfl) rfl ?_;intro w1 vals hC1 hi0 hf E hE;clear hi0;clear hf;have hs:=HST2.out.next hC1;simp only [sP] at hE ⊢;refine wpList_get_box (hs.1.2.2.2.2.1) rfl rfl rfl hu rfl elem_size ?_;go_wp2_with fail;exact .mk (hE _ _ rfl hC1 rfl)
  ·refine step_plain [] (fun _=>rfl) rfl ?_;intro w1 vals hC1 hi0 hf E hE;clear hi0;clear hf;have hs:=HST2.out.next hC1;simp only [sP] at hE ⊢;refine wpList_get_box (hs.1.1) rfl rfl rfl hu rfl elem_size ?_;go_wp2_with fail;exact .mk (hE _ _ rfl hC1 rfl)
  ·refine step_plain [(0,some 34),(1,some 35)] (fun _=>rfl) rfl ?_;intro w1 vals hC1 hi0 hf E hE;clear hi0;have f0:vals 0=.agg (eV (n)):=hf 0 rfl;have f1:vals 1=.agg (eV (t)):=hf 1 rfl
   try dsimp only at f0 f1
   clear hf;simp only [sP,f0,f1] at hE ⊢;clear f0 f1;go_wp2_with fail;refine calls_then (mul_c _ _ _ (KV.out) (Kt.out)) ?_;rintro e w2 ⟨rfl,hb2⟩;go_wp2_with fail;exact .mk (hE _ _ rfl (hC1.trans (hb2.mono hC1.size)) hb2)
  ·refine step_plain [] (fun _=>rfl) rfl ?_;intro w1 vals hC1 hi0 hf E hE;clear hi0;clear hf;have hs:=HST2.out.next hC1;simp only [sP] at hE ⊢;refine wpList_get_box (hs.1.1) rfl rfl rfl hu rfl elem_size ?_;go_wp2_with fail;exact .mk (hE _ _ rfl hC1 rfl)
  ·refine step_plain [(2,some 36),(3,some 37),(2,some 36)] (fun _=>rfl) rfl ?_;intro w1 vals hC1 hi0 hf E hE;clear hi0;have f2:vals 2=.agg (eV (mulE (n) (t))):=hf 2 rfl;have f3:vals 3=.agg (eV (t)):=hf 3 rfl
   try dsimp only at f2 f3
   clear hf;simp only [sP,f2,f3] at hE ⊢;clear f2 f3;go_wp2_with fail;refine calls_then (mul_c _ _ _ (mul_ok (KV.out) (Kt.out)) (Kt.out)) ?_;rintro e w2 ⟨rfl,hb2⟩;go_wp2_with fail;exact .mk (hE _ _ rfl (hC1.trans (hb2.mono hC1.size)) hb2)
  ·refine step_plain [] (fun _=>rfl) rfl ?_;intro w1 vals hC1 hi0 hf E hE;clear hi0;clear hf;simp only [sP] at hE ⊢;go_wp2;exact .mk (hE _ _ (NewBox.of hC1.size) (hC1.alloc hC1.size _) (below_new _ _))
  ·refine step_plain [(5,some 9),(4,some 38),(4,some 38),(0,some 34),(1,some 35),(2,some 36),(3,some 37),(4,some 38),(5,some 9)] (fun _=>rfl) rfl ?_;intro w1 vals hC1 hi0 hf E hE;clear hi0;have f0:vals 0=.agg (eV (n)):=hf 0 rfl;have f1:vals 1=.agg (eV (t)):=hf 1 rfl;have f2:vals 2=.agg (eV (mulE (n) (t))):=hf 2 rfl;have f3:vals 3=.agg (eV (t)):=hf 3 rfl;have f4:vals 4=.agg (eV (mulE (mulE (n) (t)) (t))):=hf 4 rfl;have f5:(NewBox v2.heap.size 39 (eV zE)) (vals 5) w1:=hf 5 rfl
   try dsimp only at f0 f1 f2 f3 f4 f5
   clear hf;obtain ⟨o,hx,ho,hblk⟩:=f5;have hx':=hx;simp only [sP,f0,f1,f2,f3,f4,hx] at hE ⊢;clear f0 f1 f2 f3 f4;clear hx;refine wpList_put_box (cells:=eV (mulE (mulE (n) (t)) (t))) hblk rfl rfl rfl rfl elem_size rfl (by simp [eV,ptV,wV,limbs,Value.oneCell']) ?_;intro w2 hb2 hw2;go_wp2_with fail;exact .mk (hE undef _ ⟨o,hx',ho,hb2⟩ (hw2.below hC1 ho hC1.size) trivial)
 intro w1 vals hC1 hf;have f0:vals 0=.agg (eV (n)):=hf 0 (by decide) rfl;have f1:vals 1=.agg (eV (t)):=hf 1 (by decide) rfl;have f2:vals 2=.agg (eV (mulE (n) (t))):=hf 2 (by decide) rfl;have f3:vals 3=.agg (eV (t)):=hf 3 (by decide) rfl;have f4:vals 4=.agg (eV (mulE (mulE (n) (t)) (t))):=hf 4 (by decide) rfl;have f6:(fun z u=>NewBox v2.heap.size 39 (eV (mulE (mulE (n) (t)) (t))) (z 5) u) vals w1:=hf 6 (by decide) rfl
 try dsimp only at f0 f1 f2 f3 f4 f6
 clear hf;simp only [sP,f0,f1,f2,f3,f4];clear f0 f1 f2 f3 f4;generalize vals 5=x5 at *;obtain ⟨o3,rfl,hlo3,hblk3⟩:=f6;obtain ⟨h,hh⟩:∃ x,x=mulE (mulE (n) (t)) (t):=⟨_,rfl⟩;rw [← hh] at hblk3;have Kh:=zY (show h.Ok by rw [hh]; exact mul_ok (mul_ok (KV.out) (Kt.out)) (Kt.out));have Eh:=zY hh;have HST3:=zY (show Cs (.box o3 39 (eV h) :: [.box o2 39 (eV t),.box o1 39 (eV c),.rd OA (bytesV e0B),.box gu 39 (eV m),.box gv 39 (eV n),.box r 39 (eV zE)]) w w1 from ⟨⟨hblk3,(HST2.out.next hC1).1⟩,(HST2.out.next hC1).2⟩);clear hC1 HC0 HST2 hblk3 hlo3 hh;obtain ⟨v3,rfl⟩:∃ x,x=w1:=⟨_,rfl⟩;obtain ⟨b1,hb1⟩:∃ b,b=eqB h m:=⟨_,rfl⟩;obtain ⟨b2,hb2⟩:∃ b,b=eqB h (subE zE m):=⟨_,rfl⟩;have hre:=HRES.out c t h b1 b2 Ec.out Et.out Eh.out hb1 hb2;have CE1:=zY (show ∀ u,Calls Tryd.prog 66 #[.agg (eV h),.agg (eV m)] u (BoolPost b1 u) from fun u=>by rw [hb1]; exact equal_c _ _ _ Kh.out KU.out);have CE2:=zY (show ∀ u,Calls Tryd.prog 66 #[.agg (eV h),.agg (eV (subE zE m))] u (BoolPost b2 u) from fun u=>by rw [hb2]; exact equal_c _ _ _ Kh.out (sub_ok zE_ok KU.out));have HRE:=zY hre;clear hb1 hb2 hre HRES Ec Et Eh CPW;go_wp2_with (first | (refine wpList_get_box (x:=.tmp 9) (HST3.out.1.1) rfl rfl rfl hu rfl elem_size ?_) | (refine wpList_get_box (x:=.tmp 2) (HST3.out.1.2.2.2.2.1) rfl rfl rfl hu rfl elem_size ?_));refine calls_then (CE1.out _) ?_;rintro e y1 ⟨rfl,hb⟩;have HSTa:=zY (HST3.out.next hb);clear hb HST3
 cases b1
 ·go_wp2_with fail;have HC0:=HSTa.out.drew;clear HSTa;refine wp_region_det (fun u=>Cs [.box o3 39 (eV h),.box o2 39 (eV t),.box o1 39 (eV c),.rd OA (bytesV e0B),.box gu 39 (eV m),.box gv 39 (eV n),.box r 39 (eV zE)] w u) (fun u=>Cs [.box o3 39 (eV h),.box o2 39 (eV t),.box o1 39 (eV c),.rd OA (bytesV e0B),.box gu 39 (eV m),.box gv 39 (eV n),.box r 39 (eV zE)] w u) [(0,some 45),(1,some 46),(2,some 47),(3,some 48),(4,some 49),(5,some 44)] (by kernel_rfl) (by kernel_rfl) (by decide) (by kernel_rfl) (fun _=>rfl) HC0 ?_;apply DetL.next
  ·apply dP [];exact fun _=>rfl;rfl;rintro vals - w1 hC1 E hE;have hs:=hC1;simp only [sP] at hE ⊢;refine wpList_get_box (hs.1.1) rfl rfl rfl hu rfl elem_size ?_;go_wp2_with fail;exact .mk (hE _ hC1)
  apply DetL.next
  ·apply dP [];exact fun _=>rfl;rfl;rintro vals ⟨-,-⟩ w1 hC1 E hE;simp only [sP] at hE ⊢;go_wp2;exact .mk (hE _ hC1)
  apply DetL.next
  ·apply dP [];exact fun _=>rfl;rfl;intro vals vq w1 hC1 E hE;clear vq;have hs:=hC1;simp only [sP] at hE ⊢;refine wpList_get_box (hs.1.2.2.2.2.1) rfl rfl rfl hu rfl elem_size ?_;go_wp2_with fail;exact .mk (hE _ hC1)
  apply DetL.next
  ·apply dP [(1,some 46),(2,some 47)];exact fun _=>rfl;rfl;rintro vals ⟨⟨⟨-,-⟩,f1⟩,f2⟩ w1 hC1 E hE;simp only [sP,f1,f2] at hE ⊢;clear f1 f2;go_wp2_with fail;refine calls_then (sub_z _ (KU.out) _) ?_;rintro e w2 ⟨rfl,hb2⟩;go_wp2_with fail;exact .mk (hE _ (hC1.next hb2))
  apply DetL.next
  ·apply dP [(0,some 45),(3,some 48),(3,some 48)];exact fun _=>rfl;rfl;rintro vals ⟨⟨⟨⟨-,f0⟩,-⟩,-⟩,f3⟩ w1 hC1 E hE;simp only [sP,f0,f3] at hE ⊢;clear f0 f3;go_wp2_with fail;refine calls_then (CE2.out _) ?_;rintro e w2 ⟨rfl,hb2⟩;go_wp2_with fail;exact .mk (hE _ (hC1.next hb2))
  apply DetL.last
  ·apply dP [(4,some 49),(4,some 49)];exact fun _=>rfl;rfl;intro vals vq w1 hC1 E hE;have f4:=vq.2;clear vq;simp only [sP,f4] at hE ⊢;clear f4;go_wp2;exact .mk (hE _ hC1)
  rintro vals ⟨⟨⟨⟨⟨⟨-,f0⟩,f1⟩,f2⟩,f3⟩,f4⟩,f5⟩ w1 hC1;simp only [sP,f0,f1,f2,f3,f4,f5];clear f0 f1 f2 f3 f4 f5;clear HC0;have HSTb:=zY hC1;clear hC1
  cases b2
  ·go_wp2_with (refine wpList_put_box (x:=.tmp 4) (cells:=eV zE) (HSTb.out.1.2.2.2.2.2.2.1) rfl rfl rfl rfl elem_size rfl (by simp [eV,ptV,wV,limbs,Value.oneCell']) ?_; intro y9 hb9 hw9; have HR9:=zY hb9; have HW9:=zY hw9; clear hb9 hw9);refine bodyPost_ret (results_box_tmp (P:=Tryd.prog) rfl rfl HR9.out hu rfl elem_size) rfl ⟨?_,HW9.out.below HSTb.out.2 HLR.out HSTb.out.2.size⟩;rw [HRE.out.1,HRE.out.2];rfl
  ·go_wp2_with fail;have HC0:=HSTb.out.drew;clear HSTb;refine wp_region_tailq (fun u=>Cs [.box o3 39 (eV h),.box o2 39 (eV t),.box o1 39 (eV c),.rd OA (bytesV e0B),.box gu 39 (eV m),.box gv 39 (eV n),.box r 39 (eV zE)] w u) (fun _=>false) 3 [(0,some 50),(1,some 51),(2,some 52),(3,none),(4,some 5)] (by kernel_rfl) (by kernel_rfl) (by decide) (by kernel_rfl) (fun _=>rfl) HC0 ?_;apply DetQ.next
   ·apply dQ;apply dP [];exact fun _=>rfl;rfl;rintro vals - w1 hC1 E hE;simp only [sP] at hE ⊢;refine wpList_get_box (hC1.1.2.1) rfl rfl rfl hu rfl elem_size ?_;go_wp2_with fail;exact .mk (hE _ hC1)
   apply DetQ.next
   ·apply dQ;apply dP [];exact fun _=>rfl;rfl;rintro vals ⟨-,-⟩ w1 hC1 E hE;simp only [sP] at hE ⊢;go_wp2_with fail;refine calls_then (CT.out _) ?_;rintro e w2 ⟨rfl,hb2⟩;go_wp2_with fail;exact .mk (hE _ (hC1.next hb2))
   apply DetQ.next
   ·apply dQ;apply dP [(0,some 50),(1,some 51),(1,some 51)];exact fun _=>rfl;rfl;rintro vals ⟨⟨-,f0⟩,f1⟩ w1 hC1 E hE;simp only [sP,f0,f1] at hE ⊢;clear f0 f1;go_wp2_with fail;refine calls_then (mul_c t X _ Kt.out KX.out) ?_;rintro e w2 ⟨rfl,hb2⟩;go_wp2_with fail;exact .mk (hE _ (hC1.next hb2))
   apply DetQ.done;rintro vals ⟨⟨⟨-,f0⟩,f1⟩,f2⟩ w1 hC1;refine tail_step [(2,some 52),(2,some 52),(0,some 50),(1,some 51),(2,some 52)] (fun _=>rfl) rfl ?_;intro E hE;simp only [sP,f0,f1,f2] at hE ⊢;refine wpList_put_box (x:=.tmp 4) (cells:=eV (mulE t X)) (hC1.1.2.2.2.2.2.2.1) rfl rfl rfl rfl elem_size rfl (by simp [eV,ptV,wV,limbs,Value.oneCell']) ?_;intro y9 hb9 hw9;have HR9:=zY hb9;have HW9:=zY hw9;clear hb9 hw9;go_wp2_with fail;refine .mk (hE undef _ ?_);clear hE E;generalize hval:upd _ 3 _=vals3;replace f0:=uP hval (by decide) f0;replace f1:=uP hval (by decide) f1;replace f2:=uP hval (by decide) f2;have f3:=(congrFun hval 3).symm.trans (upd_self _ _ _);clear hval;refine tail_step [(3,none),(0,some 50),(1,some 51),(2,some 52),(3,none)] (fun _=>rfl) rfl ?_;intro E hE;simp only [sP,f0,f1,f2,f3] at hE ⊢;go_wp2;refine .mk (hE _ _ ?_);clear hE E;generalize hval:upd _ 4 _=vals4;replace f0:=uP hval (by decide) f0;replace f1:=uP hval (by decide) f1;replace f2:=uP hval (by decide) f2;replace f3:=uP hval (by decide) f3;have f4:=(congrFun hval 4).symm.trans (upd_self _ _ _);clear hval;refine tail_end ?_;simp only [sP,f0,f1,f2,f3,f4];clear f0 f1 f2 f3 f4;have HSTc:=zY hC1;clear hC1 HC0;go_wp2_with fail;refine bodyPost_ret (results_box_tmp (P:=Tryd.prog) rfl rfl HR9.out hu rfl elem_size) rfl ⟨?_,HW9.out.below HSTc.out.2 HLR.out HSTc.out.2.size⟩;rw [HRE.out.1,HRE.out.2];rfl
 ·go_wp2_with (first | (refine wpList_get_box (x:=.tmp 8) (HSTa.out.1.2.1) rfl rfl rfl hu rfl elem_size ?_) | (refine wpList_put_box (x:=.tmp 4) (cells:=eV t) (HSTa.out.1.2.2.2.2.2.2.1) rfl rfl rfl rfl elem_size rfl (by simp [eV,ptV,wV,limbs,Value.oneCell']) ?_; intro y9 hb9 hw9; have HR9:=zY hb9; have HW9:=zY hw9; clear hb9 hw9));refine bodyPost_ret (results_box_tmp (P:=Tryd.prog) rfl rfl HR9.out hu rfl elem_size) rfl ⟨?_,HW9.out.below HSTa.out.2 HLR.out HSTa.out.2.size⟩;rw [HRE.out.1,HRE.out.2];rfl
end Go.Proofs.YtdgheahbafnboaaDoor
/-
  Plain: what the two roots are.
-/
namespace Go.Proofs.YtdgheahbafnboaaDoor
set_option linter.unusedSimpArgs false
set_option linter.unusedVariables false
open Go.RowKit
theorem turn_val:turnE.val=rootN:=known_val (by decide) (by decide) (by decide)
theorem root_sq:fn rootN*fn rootN=-1:=by decide
theorem fv_turn:fv turnE*fv turnE=-1:=by
 have h:fv turnE=fn rootN:=by rw [fv,turn_val]
 rw [h]; exact root_sq
theorem fv_pwL (x:E5) {l:List Nat} (hd:Dg l) (hl:l.length=32):fv (pwL x l 32)=pw (fv x) (leV l):=by
 have h:=pwL_val x l hd 32 (by rw [hl]; exact Nat.le_refl _);rw [hl,Nat.sub_self,List.drop_zero] at h;rw [fv,fv,← fn_pow];exact fn_eq.2 h
theorem eqB_fv {x y:E5} (hx:x.Ok) (hy:y.Ok):eqB x y=true↔fv x=fv y:=by
 rw [eqB,eqE hx.big hy.big,decide_eq_true_iff,fv,fv,fn_eq]
theorem k0_eq:leV e0L+leV e0L+1=kQ:=by decide
theorem e0L_len:e0L.length=32:=by decide
theorem fv_crV3 (v:E5):fv (crV3 v)=fv v*fv v*fv v:=by rw [crV3,fv_mul,fv_mul]
theorem fv_crX (u v:E5):fv (crX u v)=fv u*(fv v*fv v*fv v)*pw (fv u*(fv v*fv v*fv v)*(fv v*fv v*fv v)*fv v) (leV e0L):=by
 rw [crX,fv_mul,fv_mul,fv_pwL _ e0L_dg e0L_len,fv_mul,fv_mul,fv_mul,fv_crV3]
theorem fv_crH (u v:E5):fv (crH u v)=fv v*fv (crX u v)*fv (crX u v):=by rw [crH,fv_mul,fv_mul]
theorem crH_eq (u v:E5):fv (crH u v)=fv u*pw (fv u*(fv v*fv v*fv v)*(fv v*fv v*fv v)*fv v) kQ:=by
 rw [fv_crH,fv_crX,g_pow,← k0_eq,pw_add,pw_add,pw_one]
theorem croot_yes {u v:E5} (hu:u.Ok) (hv:v.Ok) (h:rootB u v=true):fv v*(fv (rootE u v)*fv (rootE u v))=fv u:=by
 have okX:=crX_ok hu hv;have okH:(crH u v).Ok:=mul_ok (mul_ok hv okX) okX
 by_cases h1:rootB1 u v=true
 ·have e:rootE u v=crX u v:=by rw [rootE,if_pos h1]
  rw [e];have h2:=(eqB_fv okH hu).1 h1;rw [fv_crH] at h2;exact g_h1 root_sq h2
 ·have h2:rootB2 u v=true:=by rwa [rootB,if_neg h1] at h
  have e:rootE u v=mulE (crX u v) turnE:=by rw [rootE,if_neg h1,if_pos h2]
  have h3:=(eqB_fv okH (sub_ok zE_ok hu)).1 h2;rw [fv_crH,fv_sub hu,fv_z] at h3;rw [e,fv_mul];exact g_h2 fv_turn h3
theorem v8_ne {z v:FP} (hz:z≠0) (hv:v≠0):z*(v*v*v*v)≠0:=Ed.mul_ne FF hz (Ed.mul_ne FF (Ed.mul_ne FF (Ed.mul_ne FF hv hv) hv) hv)
theorem croot_no {u v:E5} (hu:u.Ok) (hv:v.Ok) (h:rootB u v=false) (hv0:fv v≠0) (z:FP):fv v*(z*z)≠fv u:=by
 intro hz;have okX:=crX_ok hu hv;have okH:(crH u v).Ok:=mul_ok (mul_ok hv okX) okX;have b1:¬ rootB1 u v=true:=fun h1=>by rw [rootB,if_pos h1] at h; exact absurd h (by decide)
 have b2:¬ rootB2 u v=true:=fun h2=>by rw [rootB,if_neg b1,h2] at h; exact absurd h (by decide)
 have e1:fv (crH u v)≠fv u:=fun e=>b1 ((eqB_fv okH hu).2 e);have e2:fv (crH u v)≠0 - fv u:=fun e=>b2 ((eqB_fv okH (sub_ok zE_ok hu)).2 (by rw [fv_sub hu,fv_z]; exact e));rw [crH_eq,g_sq hz] at e1 e2
 by_cases h0:z=0
 ·apply e1;have hu0:fv u=0:=by rw [← hz,h0,g_mz,g_mz]
  rw [hu0,g_zm]
 ·have hw:=pw_quarter (v8_ne h0 hv0);rw [Nat.mul_comm,pw_pw,show (2:Nat)=1+1 from rfl,pw_add,pw_one] at hw
  rcases hw with hw | hw
  ·rw [hw,g_mul1] at e1; exact e1 rfl
  ·rw [hw,g_mulm] at e2; exact e2 rfl
theorem k1_eq:leV e1L*2=kQ+1:=by decide
theorem k2_eq:leV e2L=kQ:=by decide
theorem two_half:2^(kQ*2)%PN=PN - 1:=by
 have h:kQ*2=leV halfL:=by decide
 rw [h,← pm_eq]
 decide
theorem neg_one:fn (PN - 1)=-1:=by decide
theorem q_sq {q:Nat} (hq:q=2^leV e2L%PN):fn q*fn q=-1:=by
 have h:=two_half;rw [k2_eq] at hq;generalize kQ=k at *;rw [hq,fn_mod,fn_pow,← pw_one (pw (fn 2) k),← pw_add,← pw_pw,← fn_pow];rw [show k*(1+1)=k*2 from rfl,← fn_mod,h];exact neg_one
theorem fn_sq {a y:Nat} (ha:a<PN):decide (y*y%PN=a)=true↔fn y*fn y=fn a:=by
 rw [decide_eq_true_iff,← fn_mul,fn_eq,Nat.mod_eq_of_lt ha]
theorem nroot_yes {a x q:Nat} (ha:a<PN) (h:rtB a x q=true):fn (rtV a x q)*fn (rtV a x q)=fn a:=by
 by_cases h1:decide (x*x%PN=a)=true
 ·rw [rtV,if_pos h1];exact (fn_sq ha).1 h1
 ·rw [rtB,if_neg h1] at h;rw [rtV,if_neg h1];exact (fn_sq ha).1 h
theorem x_sq {a x:Nat} (hx:x=a^leV e1L%PN):fn x*fn x=fn a*pw (fn a) kQ:=by
 have e:pw (fn a) (leV e1L*2)=pw (fn a) (kQ+1):=by rw [k1_eq]
 rw [pw_pw,pw_add,pw_one,show (2:Nat)=1+1 from rfl,pw_add,pw_one,← fn_pow,← fn_mod (a^leV e1L),← hx] at e;rw [e,Fin.mul_comm]
theorem nroot_no {a x q:Nat} (ha:a<PN) (hx:x=a^leV e1L%PN) (hq:q=2^leV e2L%PN) (h:rtB a x q=false) (z:FP):z*z≠fn a:=by
 intro hz;have b1:¬ decide (x*x%PN=a)=true:=fun h1=>by rw [rtB,if_pos h1] at h; exact absurd h (by decide)
 have b2:¬ decide (x*q%PN*(x*q%PN)%PN=a)=true:=fun h2=>by rw [rtB,if_neg b1,h2] at h; exact absurd h (by decide)
 rw [fn_sq ha] at b1 b2;rw [fn_mod,fn_mul] at b2;have e:=x_sq hx
 by_cases h0:z=0
 ·apply b1;have hu0:fn a=0:=by rw [← hz,h0,g_mz]
  rw [e,hu0,g_zm]
 ·have hw:=pw_quarter h0;rw [Nat.mul_comm,pw_pw,show (2:Nat)=1+1 from rfl,pw_add,pw_one,hz] at hw
  rcases hw with hw | hw
  ·rw [hw,g_mul1] at e; exact b1 e
  ·rw [hw] at e; exact b2 (g_neg2 (q_sq hq) e)
end Go.Proofs.YtdgheahbafnboaaDoor
/-
  Walk: curve's Read.
-/
namespace Go.Proofs.YtdgheahbafnboaaDoor
set_option linter.unusedSimpArgs false
set_option linter.unusedVariables false
open Go.RowKit
def crdB (b:List UInt8):List UInt8:=(rdL b).map UInt8.ofNat
theorem crdB_digs (b:List UInt8):digs (crdB b)=rdL b:=digs_ofNat _ (rdL_dg b)
theorem crdB_v (b:List UInt8):bytesV (crdB b)=bnV (rdL b):=by rw [← bnV_digs,crdB_digs]
theorem and8_127 (l:Nat) (h:l<256):bits .and .u8 (l:Int) 127=((l%128:Nat):Int):=by
 show IntKind.u8.wrap ((BitVec.ofInt 8 (l:Int) &&& BitVec.ofInt 8 (127:Int)).toNat:Int)=_;have e1:(BitVec.ofInt 8 (127:Int)).toNat=127:=by decide
 rw [BitVec.toNat_and,BitVec.ofInt_natCast,BitVec.toNat_ofNat,e1,Nat.mod_eq_of_lt (show l<2^8 from h),IntKind.wrap_u8];have h2:l &&& 127=l%128:=Nat.and_two_pow_sub_one_eq_mod l 7;rw [h2];omega
def crdU (E:E5):E5:=subE (mulE E E) (intE 1)
def crdV (E D:E5):E5:=addE (mulE (mulE E E) D) (intE 1)
def oddE (X:E5):Bool:=decide (X.val%PN%2=1)
def crdR (E D:E5) (odd:Bool):Pt4 × Nat :=
 if rootB (crdU E) (crdV E D) then
  if oddE (rootE (crdU E) (crdV E D))=odd then (ofP (rootE (crdU E) (crdV E D)) E,0)
  else if eqB (rootE (crdU E) (crdV E D)) zE then (zP,2) else (ofP (subE zE (rootE (crdU E) (crdV E D))) E,0)
 else (zP,2)
def crd (b:List UInt8):Pt4 × Nat :=
 if b.length=32 then (if yOf b<PN then crdR (ofN (yOf b)) dE (oddOf b) else (zP,2)) else (zP,2)
def CReadPost (r:Pt4 × Nat) (w:World) (e:Ending) (w':World):Prop:=e=.returned (.tuple #[.agg (ptV r.1),.int .i64 (r.2:Int)])∧Below w.heap.size w w'
theorem crdB_len {b:List UInt8} (h:b.length=32):(crdB b).length=32:=by rw [crdB,List.length_map,rdL,List.length_set,digs,List.length_map,h]
theorem mayR_crd {b:List UInt8} (h:b.length=32):mayR (crdB b)=decide (yOf b<PN):=by
 rw [mayR,crdB_len h,crdB_digs];exact decide_eq_decide.mpr ⟨fun h=>h.2,fun h=>⟨rfl,h⟩⟩
set_option maxRecDepth 100000 in
set_option maxHeartbeats 4000000 in
theorem cread_any (b:List UInt8) (A:Option Addr) (c:Nat) (w:World) (hr:Rd w w.heap.size A (bytesV b)) (hc:b.length≤c) (hmax:b.length≤1000) :
  Calls Tryd.prog 29 #[.slice A b.length c] w (CReadPost (crd b) w):=by
 have hu:=Tryd.underlying39;have hp:=Tryd.underlying41;obtain ⟨n,hn⟩:∃ n,n=b.length:=⟨_,rfl⟩;have HB:=zY (below_new w (.cells (ptV zP) 41));have HP:=zY (Blk.new w 41 (ptV zP));obtain ⟨R,hR⟩:∃ R,R=crd b:=⟨_,rfl⟩;rw [← hR]
 by_cases h32:b.length=32
 ·have hR2:R=if yOf b<PN then crdR (ofN (yOf b)) dE (oddOf b) else (zP,2):=by rw [hR,crd,if_pos h32]
  rw [h32];rw [h32] at hc;obtain ⟨D,hD⟩:∃ D,D=dE:=⟨_,rfl⟩;obtain ⟨L,hL⟩:∃ L,L=digs b:=⟨_,rfl⟩;have hLl:L.length=32:=by rw [hL,digs,List.length_map,h32]
  obtain ⟨d,hd⟩:∃ d,d=L.getD 31 0:=⟨_,rfl⟩;have hd256:d<256:=by rw [hd,hL]; exact dg_getD (digs_lt b) 31
  obtain ⟨M,hM⟩:∃ M,M=rdL b:=⟨_,rfl⟩;have hMs:L.set 31 (d%128)=M:=by rw [hM,hd,hL]; rfl
  obtain ⟨q,hq⟩:∃ q,q=crdB b:=⟨_,rfl⟩;have hqv:bytesV q=bnV M:=by rw [hq,hM]; exact crdB_v b
  have hql:q.length=32:=by rw [hq]; exact crdB_len h32
  obtain ⟨may,hmay⟩:∃ m,m=decide (yOf b<PN):=⟨_,rfl⟩;have hmq:mayR q=may:=by rw [hq,hmay]; exact mayR_crd h32
  have hE:may=true→readE q=ofN (yOf b):=fun h=>by rw [readE,hmq,h,if_pos rfl,hq,crdB_digs]; rfl
  have hF:readF q=if may then 0 else 2:=by rw [readF,hmq]
  obtain ⟨F,hFF⟩:∃ F,F=readF q:=⟨_,rfl⟩;have hF2:F=if may then 0 else 2:=by rw [hFF,hF]
  obtain ⟨E,hEE⟩:∃ E,E=readE q:=⟨_,rfl⟩
  have okE:E.Ok:=by
   rw [hEE,readE]
   split
   ·exact ofN_ok _
   ·exact zE_ok
  obtain ⟨od,hod⟩:∃ o,o=oddOf b:=⟨_,rfl⟩;have hod2:od=decide (128≤d):=by rw [hod,hd,hL]; rfl
  have hR3:R=if may then crdR E D od else (zP,2):=by
   rw [hR2,hod,hD]
   by_cases h:yOf b<PN
   ·have hm:may=true:=by rw [hmay]; exact decide_eq_true h
    rw [if_pos h,hm,if_pos rfl,hEE,hE hm]
   ·rw [if_neg h,hmay,decide_eq_false h]; rfl
  have CRD:=zY (show ∀ u A c,32≤c→Rd u u.heap.size A (bytesV q)→Calls Tryd.prog 62 #[.slice A 32 c] u (fun e w'=>e=.returned (.tuple #[.agg (eV E),.int .i64 F])∧Below u.heap.size u w') from fun u A c hc hr=>by
   have h:=read_any q A c u hr (by rw [hql]; exact hc) (by rw [hql]; decide);rw [hql] at h;rw [hEE,hFF];exact h)
  have CCL:=zY (show ∀ u,Rd u u.heap.size A (bytesV b)→Calls Tryd.prog 61 #[.slice A 32 c] u (OwnPostZ 5 32 (bnV L) u) from fun u h=>by
   have h2:=clone_any b h32 A c u h;rw [← bnV_digs,← hL] at h2;exact h2)
  have KD:=zY (show D.Ok by rw [hD]; exact dE_ok);have CD:=zY (show ∀ u,Calls Tryd.prog 37 #[] u (ElemPost D u) from fun u=>by rw [hD]; exact d_any u);obtain ⟨I,hI⟩:∃ x,x=intE 1:=⟨_,rfl⟩;have okI:I.Ok:=by rw [hI]; exact one_ok
  obtain ⟨Y2,hY2⟩:∃ x,x=mulE E E:=⟨_,rfl⟩;have okY2:Y2.Ok:=by rw [hY2]; exact mul_ok okE okE
  obtain ⟨U,hU⟩:∃ x,x=subE Y2 I:=⟨_,rfl⟩;have okU:U.Ok:=by rw [hU]; exact sub_ok okY2 okI
  obtain ⟨DY,hDY⟩:∃ x,x=mulE Y2 D:=⟨_,rfl⟩;have okDY:DY.Ok:=by rw [hDY]; exact mul_ok okY2 KD.out
  obtain ⟨V,hV⟩:∃ x,x=addE DY I:=⟨_,rfl⟩;have okV:V.Ok:=by rw [hV]; exact add_ok okDY okI
  obtain ⟨X,hX⟩:∃ x,x=rootE U V:=⟨_,rfl⟩;have okX:X.Ok:=by rw [hX]; exact rootE_ok okU okV
  obtain ⟨ok,hok⟩:∃ x,x=rootB U V:=⟨_,rfl⟩;obtain ⟨ob,hob⟩:∃ x,x=oddE X:=⟨_,rfl⟩;obtain ⟨zb,hzb⟩:∃ x,x=eqB X zE:=⟨_,rfl⟩;obtain ⟨NX,hNX⟩:∃ x,x=subE zE X:=⟨_,rfl⟩;have okNX:NX.Ok:=by rw [hNX]; exact sub_ok zE_ok okX
  obtain ⟨Q1,hQ1⟩:∃ x,x=ofP X E:=⟨_,rfl⟩;obtain ⟨Q2,hQ2⟩:∃ x,x=ofP NX E:=⟨_,rfl⟩
  have hRR:crdR E D od=if ok then (if ob=od then (Q1,0) else if zb then (zP,2) else (Q2,0)) else (zP,2):=by
   rw [crdR,hQ2,hQ1,hNX,hzb,hob,hok,hX,hV,hU,hDY,hY2,hI];rfl
  have CI:=zY (show ∀ u,Calls Tryd.prog 65 #[.int .i64 1] u (ElemPost I u) from fun u=>by rw [hI]; exact int1_c u);have CY2:=zY (show ∀ u,Calls Tryd.prog 41 #[.agg (eV E),.agg (eV E)] u (ElemPost Y2 u) from fun u=>by rw [hY2]; exact mul_c _ _ _ okE okE);have CU:=zY (show ∀ u,Calls Tryd.prog 64 #[.agg (eV Y2),.agg (eV I)] u (ElemPost U u) from fun u=>by rw [hU]; exact sub_c _ _ _ okY2 okI);have CDY:=zY (show ∀ u,Calls Tryd.prog 41 #[.agg (eV Y2),.agg (eV D)] u (ElemPost DY u) from fun u=>by rw [hDY]; exact mul_c _ _ _ okY2 KD.out);have CV:=zY (show ∀ u,Calls Tryd.prog 38 #[.agg (eV DY),.agg (eV I)] u (ElemPost V u) from fun u=>by rw [hV]; exact add_c _ _ _ okDY okI);have CRT:=zY (show ∀ u,Calls Tryd.prog 63 #[.agg (eV U),.agg (eV V)] u (CRootPost X ok u) from fun u=>by rw [hX,hok]; exact croot_any _ _ _ okU okV);have COD:=zY (show ∀ u,Calls Tryd.prog 43 #[.agg (eV X)] u (BoolPost ob u) from fun u=>by rw [hob]; exact odd_c X okX u);have CZB:=zY (show ∀ u,Calls Tryd.prog 66 #[.agg (eV X),.agg (eV zE)] u (BoolPost zb u) from fun u=>by rw [hzb]; exact equal_c _ _ _ okX zE_ok);have CNX:=zY (show ∀ u,Calls Tryd.prog 64 #[.agg #[.int .u64 0,.int .u64 0,.int .u64 0,.int .u64 0,.int .u64 0],.agg (eV X)] u (ElemPost NX u) from fun u=>by rw [hNX]; exact sub_z _ okX _);have CO1:=zY (show ∀ u,Calls Tryd.prog 35 #[.agg (eV X),.agg (eV E)] u (PtPost Q1 u) from fun u=>by rw [hQ1]; exact pof_any _ _ okX okE u);have CO2:=zY (show ∀ u,Calls Tryd.prog 35 #[.agg (eV NX),.agg (eV E)] u (PtPost Q2 u) from fun u=>by rw [hQ2]; exact pof_any _ _ okNX okE u);have HRR:=zY hRR;have HF:=zY hF2;clear hI okI hY2 okY2 hU okU hDY okDY hV okV hX okX hok hob hzb hNX okNX hQ1 hQ2 hRR hF2;have HA:=zY (rd_next hr HB.out);have HR:=zY hR3;have KE:=zY okE;have HMS:=zY hMs;have HQV:=zY hqv;have HLL:=zY hLl;have HDD:=zY hd;have hand:=and8_127 d hd256
  have hge:(od=true∧(d:Int)/128=1)∨(od=false∧(d:Int)/128=0):=by
   rw [hod2]
   by_cases h:128≤d
   ·left; exact ⟨decide_eq_true h,by omega⟩
   ·right; exact ⟨decide_eq_false h,by omega⟩
  clear hR hR2 hR3 hr hc hmax hn h32 hD hL hLl hd hM hMs hq hqv hql hmay hmq hE hF hFF hEE okE hod hod2;go_enter Tryd.func29,Tryd.ntmps29;go_wp2_with fail;refine calls_then (CCL.out _ HA.out) ?_;rintro e w1 ⟨A1,c1,rfl,hown,hb1⟩;obtain ⟨g1,ys,rfl,hg1,hc1,hblk⟩:=hown.blk (by decide);have HP1:=zY (HP.out.below hb1 HP.out.lt);have HB1:=zY (HB.out.trans (hb1.mono HB.out.size));have HG1:=zY (Nat.le_trans HB.out.size hg1);have HNE:=zY (show w.heap.size≠g1 from Nat.ne_of_lt (Nat.lt_of_lt_of_le HP.out.lt hg1));have HQ:=zY hblk;have HC1:=zY hc1;clear hown hb1 hg1 hc1 hblk HP HA HB;have hb2:(d:Int)<256:=by omega
  have dl:=HQ.out.cell 31
  rw [show (bnV L++ys).toArray[31]?=some (.int .u8 (d:Int)) by
   rw [List.getElem?_toArray,List.getElem?_append_left (by rw [bnVl,HLL.out]; decide),← List.getElem?_toArray,bnV_get (by rw [HLL.out]; decide),HDD.out]] at dl
  have hfr:=HQ.out.free 31
  rcases hge with ⟨rfl,hge⟩ | ⟨rfl,hge⟩
  ·go_wp2_with (refine wpList_put_cell (x:=.tmp 26) (i:=31) (v:=.int .u8 ((d%128:Nat):Int)) HQ.out rfl rfl rfl rfl u8_size (by rw [List.size_toArray,List.length_append,bnVl,HLL.out]; omega) rfl ?_; intro w5 hb5 hw5; have HB5:=zY hb5; have HW5:=zY hw5; clear hb5 hw5);have hq:=HB5.out;rw [set_front (by rw [bnVl,HLL.out]; decide),show (bnV L).set 31 (.int .u8 ((d%128:Nat):Int))=bnV (L.set 31 (d%128)) by simp [bnV,List.map_set],HMS.out,← HQV.out] at hq;have HM5:=zY (Rd.of_blk hq hq.lt).front;have HP5:=zY (HW5.out.blk HP1.out HNE.out);have HBB:=zY (HW5.out.below HB1.out HG1.out HB1.out.size);clear hq dl hfr HB5 HW5 HQ HP1 HB1 hand hge hb2 hd256 HMS HQV HLL HDD HNE HG1;refine calls_then (CRD.out _ _ _ HC1.out HM5.out) ?_;rintro e w6 ⟨rfl,hb⟩;have HST0:=zY (show Cs [.box w.heap.size 41 (ptV zP)] w w6 from ⟨⟨HP5.out.below hb HP5.out.lt,trivial⟩,HBB.out.trans (hb.mono HBB.out.size)⟩);clear hb HM5 HBB HP5;generalize hg0:w.heap.size=g0 at HST0 ⊢;have HG0:=zY hg0;clear hg0
   cases may
   ·obtain rfl:F=2:=HF.out;go_wp2_with (first | (refine wpList_put_box (x:=.tmp 6) (cells:=eV E) (Blk.new _ _ _) rfl rfl rfl rfl elem_size rfl (by simp [eV,wV,limbs,Value.oneCell']) ?_; intro w7 hb hw; have hk:=box_low hw; have HST1:=zY (show Cs [.box w6.heap.size 39 (eV E),.box g0 41 (ptV zP)] w w7 from ⟨⟨hb,(HST0.out.next hk).1⟩,(HST0.out.next hk).2⟩); clear hb hw hk HST0) | (refine wpList_put_box (x:=.tmp 2) (cells:=ptV zP) (HST1.out.1.2.1) rfl rfl rfl rfl point_size rfl (by simp [ptV,zP,wV,limbs,Value.oneCell']) ?_; intro w9 hb9 hw9; have HR9:=zY hb9; have HW9:=zY hw9; clear hb9 hw9));refine bodyPost_ret (results_box_tmp (P:=Tryd.prog) rfl rfl HR9.out hp rfl point_size) rfl ?_;have eR:R=(zP,2):=by simpa [HRR.out] using HR.out
    rw [eR];exact ⟨rfl,HW9.out.below HST1.out.2 (Nat.le_of_eq HG0.out) HST1.out.2.size⟩
   ·obtain rfl:F=0:=HF.out;go_wp2_with (first | (refine wpList_put_box (x:=.tmp 6) (cells:=eV E) (Blk.new _ _ _) rfl rfl rfl rfl elem_size rfl (by simp [eV,wV,limbs,Value.oneCell']) ?_; intro w7 hb hw; have hk:=box_low hw; have HST1:=zY (show Cs [.box w6.heap.size 39 (eV E),.box g0 41 (ptV zP)] w w7 from ⟨⟨hb,(HST0.out.next hk).1⟩,(HST0.out.next hk).2⟩); clear hb hw hk HST0) | (refine wpList_get_box (x:=.tmp 6) (HST1.out.1.1) rfl rfl rfl hu rfl elem_size ?_));generalize w6.heap.size=g6 at *;refine calls_then (CY2.out _) ?_;rintro e w8 ⟨rfl,hb⟩;have HST2:=zY (HST1.out.next hb);clear hb HST1;go_wp2_with (refine wpList_put_box (x:=.tmp 8) (cells:=eV Y2) (Blk.new _ _ _) rfl rfl rfl rfl elem_size rfl (by simp [eV,wV,limbs,Value.oneCell']) ?_; intro v9 hb hw; have hk:=box_low hw; have HST3:=zY (show Cs [.box w8.heap.size 39 (eV Y2),.box g6 39 (eV E),.box g0 41 (ptV zP)] w v9 from ⟨⟨hb,(HST2.out.next hk).1⟩,(HST2.out.next hk).2⟩); clear hb hw hk HST2);generalize w8.heap.size=g8 at *;have HC0:Below v9.heap.size v9 v9.drew:=(Below.refl _ _).drew
    refine wp_region_list (fun u=>Below v9.heap.size v9 u) (fun | false=>(fun _=>True) | true=>(fun _=>True)) (fun | false,_=>false | true,_=>false)
     [fun z _=>z 0=.agg (eV Y2),
      fun z _=>z 1=.agg (eV I),
      fun z _=>z 2=.agg (eV U),
      fun z _=>z 3=.agg (eV Y2),
      fun z _=>z 4=.agg (eV D),
      fun z _=>z 5=.agg (eV DY),
      fun z _=>z 6=.agg (eV I),
      fun z _=>z 7=.agg (eV V),
      fun z _=>z 8=.tuple #[.agg (eV X),.bool ok],
      fun z _=>z 9=.tuple #[.agg (eV X),.bool ok],
      fun z _=>z 10=.agg (eV X),
      fun z _=>z 11=.bool ok,
      fun z u=>(NewBox v9.heap.size 39 (eV zE)) (z 12) u,
      fun z u=>NewBox v9.heap.size 39 (eV X) (z 12) u,
      fun z _=>z 14=.bool ok]
     [Eq,fun u u'=>Below u.heap.size u u',fun u u'=>Below u.heap.size u u',Eq,fun u u'=>Below u.heap.size u u',fun u u'=>Below u.heap.size u u',fun u u'=>Below u.heap.size u u',fun u u'=>Below u.heap.size u u',fun u u'=>Below u.heap.size u u',Eq,Eq,Eq,fun u u'=>Below u.heap.size u u',fun _ _=>True,Eq]
     (fun i k=>(i == 13 && k == 12)) [(0,some 40),(1,some 41),(2,some 42),(3,some 43),(4,some 44),(5,some 45),(6,some 46),(7,some 47),(8,some 48),(9,some 39),(10,some 49),(11,some 50),(12,some 9),(13,none),(14,some 10)] (by kernel_rfl) (by kernel_rfl) rfl (fun _=>rfl) ?_ ?_ ?_ ?_ ?_ ?_
    ·exact HC0
    ·intro m; cases m; exact trivial; exact trivial
    ·intro m; cases m
     ·refine ⟨?_,.inr (fun _ _ _ h=>h),.inr (fun _ _ _ h=>h),?_,.inr (fun _ _ _ h=>h),.inr (fun _ _ _ h=>h),.inr (fun _ _ _ h=>h),.inr (fun _ _ _ h=>h),.inr (fun _ _ _ h=>h),?_,?_,?_,.inr (fun _ _ _ h=>h),.inr (fun _ _ _ h=>h),?_,trivial⟩ <;> exact .inr fun _ _ h h0=>h▸h0
     ·refine ⟨?_,.inr (fun _ _ _ h=>h),.inr (fun _ _ _ h=>h),?_,.inr (fun _ _ _ h=>h),.inr (fun _ _ _ h=>h),.inr (fun _ _ _ h=>h),.inr (fun _ _ _ h=>h),.inr (fun _ _ _ h=>h),?_,?_,?_,.inr (fun _ _ _ h=>h),.inr (fun _ _ _ h=>h),?_,trivial⟩ <;> exact .inr fun _ _ h h0=>h▸h0
    ·refine ⟨⟨.inl rfl,?_,?_,?_,?_,?_,?_,?_,?_,?_,?_,?_,.inr (.inr (.inr (fun _ _ _ _ h h0=>by cases h; exact h0))),?_,?_,trivial⟩,⟨?_,.inl rfl,?_,?_,?_,?_,?_,?_,?_,?_,?_,?_,.inr (.inr (.inr (fun _ _ _ _ h h0=>h0.next h))),?_,?_,trivial⟩,⟨?_,?_,.inl rfl,?_,?_,?_,?_,?_,?_,?_,?_,?_,.inr (.inr (.inr (fun _ _ _ _ h h0=>h0.next h))),?_,?_,trivial⟩,⟨?_,?_,?_,.inl rfl,?_,?_,?_,?_,?_,?_,?_,?_,.inr (.inr (.inr (fun _ _ _ _ h h0=>by cases h; exact h0))),?_,?_,trivial⟩,⟨?_,?_,?_,?_,.inl rfl,?_,?_,?_,?_,?_,?_,?_,.inr (.inr (.inr (fun _ _ _ _ h h0=>h0.next h))),?_,?_,trivial⟩,⟨?_,?_,?_,?_,?_,.inl rfl,?_,?_,?_,?_,?_,?_,.inr (.inr (.inr (fun _ _ _ _ h h0=>h0.next h))),?_,?_,trivial⟩,⟨?_,?_,?_,?_,?_,?_,.inl rfl,?_,?_,?_,?_,?_,.inr (.inr (.inr (fun _ _ _ _ h h0=>h0.next h))),?_,?_,trivial⟩,⟨?_,?_,?_,?_,?_,?_,?_,.inl rfl,?_,?_,?_,?_,.inr (.inr (.inr (fun _ _ _ _ h h0=>h0.next h))),?_,?_,trivial⟩,⟨?_,?_,?_,?_,?_,?_,?_,?_,.inl rfl,?_,?_,?_,.inr (.inr (.inr (fun _ _ _ _ h h0=>h0.next h))),?_,?_,trivial⟩,⟨?_,?_,?_,?_,?_,?_,?_,?_,?_,.inl rfl,?_,?_,.inr (.inr (.inr (fun _ _ _ _ h h0=>by cases h; exact h0))),?_,?_,trivial⟩,⟨?_,?_,?_,?_,?_,?_,?_,?_,?_,?_,.inl rfl,?_,.inr (.inr (.inr (fun _ _ _ _ h h0=>by cases h; exact h0))),?_,?_,trivial⟩,⟨?_,?_,?_,?_,?_,?_,?_,?_,?_,?_,?_,.inl rfl,.inr (.inr (.inr (fun _ _ _ _ h h0=>by cases h; exact h0))),.inr (.inr (.inr (fun _ _ _ _ h h0=>by cases h; exact h0))),?_,trivial⟩,⟨?_,?_,?_,?_,?_,?_,?_,?_,?_,?_,?_,?_,.inl rfl,?_,?_,trivial⟩,⟨?_,?_,?_,?_,?_,?_,?_,?_,?_,?_,?_,?_,.inr (.inl rfl),.inl rfl,?_,trivial⟩,⟨?_,?_,?_,?_,?_,?_,?_,?_,?_,?_,?_,?_,.inr (.inr (.inr (fun _ _ _ _ h h0=>by cases h; exact h0))),.inr (.inr (.inr (fun _ _ _ _ h h0=>by cases h; exact h0))),.inl rfl,trivial⟩,trivial⟩ <;> first | exact .inr (.inr (.inl rfl)) | exact .inr (.inr (.inr fun _ _ _ _ _ h=>h))
    ·refine ⟨?_,?_,?_,?_,?_,?_,?_,?_,?_,?_,?_,?_,?_,?_,?_,trivial⟩
     ·refine step_plain [] (fun _=>rfl) rfl ?_;intro w1 vals hC1 hi0 hf E hE;clear hi0;clear hf;have hs:=HST3.out.next hC1;simp only [sP] at hE ⊢;refine wpList_get_box (hs.1.1) rfl rfl rfl hu rfl elem_size ?_;go_wp2_with fail;exact .mk (hE _ _ rfl hC1 rfl)
     ·refine step_plain [] (fun _=>rfl) rfl ?_;intro w1 vals hC1 hi0 hf E hE;clear hi0;clear hf;simp only [sP] at hE ⊢;go_wp2_with fail;refine calls_then (CI.out _) ?_;rintro e w2 ⟨rfl,hb2⟩;go_wp2_with fail;exact .mk (hE _ _ rfl (hC1.trans (hb2.mono hC1.size)) hb2)
     ·refine step_plain [(0,some 40),(1,some 41),(1,some 41)] (fun _=>rfl) rfl ?_;intro w1 vals hC1 hi0 hf E hE;clear hi0;have f0:vals 0=.agg (eV Y2):=hf 0 rfl;have f1:vals 1=.agg (eV I):=hf 1 rfl
      try dsimp only at f0 f1
      clear hf;simp only [sP,f0,f1] at hE ⊢;clear f0 f1;go_wp2_with fail;refine calls_then (CU.out _) ?_;rintro e w2 ⟨rfl,hb2⟩;go_wp2_with fail;exact .mk (hE _ _ rfl (hC1.trans (hb2.mono hC1.size)) hb2)
     ·refine step_plain [] (fun _=>rfl) rfl ?_;intro w1 vals hC1 hi0 hf E hE;clear hi0;clear hf;have hs:=HST3.out.next hC1;simp only [sP] at hE ⊢;refine wpList_get_box (hs.1.1) rfl rfl rfl hu rfl elem_size ?_;go_wp2_with fail;exact .mk (hE _ _ rfl hC1 rfl)
     ·refine step_plain [(2,some 42)] (fun _=>rfl) rfl ?_;intro w1 vals hC1 hi0 hf E hE;clear hi0;have f2:vals 2=.agg (eV U):=hf 2 rfl
      try dsimp only at f2
      clear hf;simp only [sP,f2] at hE ⊢;clear f2;go_wp2_with fail;refine calls_then (CD.out _) ?_;rintro e w2 ⟨rfl,hb2⟩;go_wp2_with fail;exact .mk (hE _ _ rfl (hC1.trans (hb2.mono hC1.size)) hb2)
     ·refine step_plain [(3,some 43),(4,some 44),(4,some 44)] (fun _=>rfl) rfl ?_;intro w1 vals hC1 hi0 hf E hE;clear hi0;have f3:vals 3=.agg (eV Y2):=hf 3 rfl;have f4:vals 4=.agg (eV D):=hf 4 rfl
      try dsimp only at f3 f4
      clear hf;simp only [sP,f3,f4] at hE ⊢;clear f3 f4;go_wp2_with fail;refine calls_then (CDY.out _) ?_;rintro e w2 ⟨rfl,hb2⟩;go_wp2_with fail;exact .mk (hE _ _ rfl (hC1.trans (hb2.mono hC1.size)) hb2)
     ·refine step_plain [(5,some 45)] (fun _=>rfl) rfl ?_;intro w1 vals hC1 hi0 hf E hE;clear hi0;have f5:vals 5=.agg (eV DY):=hf 5 rfl
      try dsimp only at f5
      clear hf;simp only [sP,f5] at hE ⊢;clear f5;go_wp2_with fail;refine calls_then (CI.out _) ?_;rintro e w2 ⟨rfl,hb2⟩;go_wp2_with fail;exact .mk (hE _ _ rfl (hC1.trans (hb2.mono hC1.size)) hb2)
     ·refine step_plain [(5,some 45),(6,some 46),(6,some 46)] (fun _=>rfl) rfl ?_;intro w1 vals hC1 hi0 hf E hE;clear hi0;have f5:vals 5=.agg (eV DY):=hf 5 rfl;have f6:vals 6=.agg (eV I):=hf 6 rfl
      try dsimp only at f5 f6
      clear hf;simp only [sP,f5,f6] at hE ⊢;clear f5 f6;go_wp2_with fail;refine calls_then (CV.out _) ?_;rintro e w2 ⟨rfl,hb2⟩;go_wp2_with fail;exact .mk (hE _ _ rfl (hC1.trans (hb2.mono hC1.size)) hb2)
     ·refine step_plain [(2,some 42),(7,some 47),(7,some 47)] (fun _=>rfl) rfl ?_;intro w1 vals hC1 hi0 hf E hE;clear hi0;have f2:vals 2=.agg (eV U):=hf 2 rfl;have f7:vals 7=.agg (eV V):=hf 7 rfl
      try dsimp only at f2 f7
      clear hf;simp only [sP,f2,f7] at hE ⊢;clear f2 f7;go_wp2_with fail;refine calls_then (CRT.out _) ?_;rintro e w2 ⟨rfl,hb2⟩;go_wp2_with fail;exact .mk (hE _ _ rfl (hC1.trans (hb2.mono hC1.size)) hb2)
     ·refine step_plain [(8,some 48)] (fun _=>rfl) rfl ?_;intro w1 vals hC1 hi0 hf E hE;clear hi0;have f8:vals 8=.tuple #[.agg (eV X),.bool ok]:=hf 8 rfl
      try dsimp only at f8
      clear hf;simp only [sP,f8] at hE ⊢;clear f8;go_wp2;exact .mk (hE _ _ rfl hC1 rfl)
     ·refine step_plain [(9,some 39)] (fun _=>rfl) rfl ?_;intro w1 vals hC1 hi0 hf E hE;clear hi0;have f9:vals 9=.tuple #[.agg (eV X),.bool ok]:=hf 9 rfl
      try dsimp only at f9
      clear hf;simp only [sP,f9] at hE ⊢;clear f9;go_wp2;exact .mk (hE _ _ rfl hC1 rfl)
     ·refine step_plain [(9,some 39)] (fun _=>rfl) rfl ?_;intro w1 vals hC1 hi0 hf E hE;clear hi0;have f9:vals 9=.tuple #[.agg (eV X),.bool ok]:=hf 9 rfl
      try dsimp only at f9
      clear hf;simp only [sP,f9] at hE ⊢;clear f9;go_wp2;exact .mk (hE _ _ rfl hC1 rfl)
     ·refine step_plain [] (fun _=>rfl) rfl ?_;intro w1 vals hC1 hi0 hf E hE;clear hi0;clear hf;simp only [sP] at hE ⊢;go_wp2;exact .mk (hE _ _ (NewBox.of hC1.size) (hC1.alloc hC1.size _) (below_new _ _))
     ·refine step_plain [(12,some 9),(10,some 49),(8,some 48),(0,some 40),(1,some 41),(2,some 42),(3,some 43),(4,some 44),(5,some 45),(6,some 46),(7,some 47),(8,some 48),(9,some 39),(10,some 49),(12,some 9)] (fun _=>rfl) rfl ?_;intro w1 vals hC1 hi0 hf E hE;clear hi0;have f0:vals 0=.agg (eV Y2):=hf 0 rfl;have f1:vals 1=.agg (eV I):=hf 1 rfl;have f2:vals 2=.agg (eV U):=hf 2 rfl;have f3:vals 3=.agg (eV Y2):=hf 3 rfl;have f4:vals 4=.agg (eV D):=hf 4 rfl;have f5:vals 5=.agg (eV DY):=hf 5 rfl;have f6:vals 6=.agg (eV I):=hf 6 rfl;have f7:vals 7=.agg (eV V):=hf 7 rfl;have f8:vals 8=.tuple #[.agg (eV X),.bool ok]:=hf 8 rfl;have f9:vals 9=.tuple #[.agg (eV X),.bool ok]:=hf 9 rfl;have f10:vals 10=.agg (eV X):=hf 10 rfl;have f12:(NewBox v9.heap.size 39 (eV zE)) (vals 12) w1:=hf 12 rfl
      try dsimp only at f0 f1 f2 f3 f4 f5 f6 f7 f8 f9 f10 f12
      clear hf;obtain ⟨o,hx,ho,hblk⟩:=f12;have hx':=hx;simp only [sP,f0,f1,f2,f3,f4,f5,f6,f7,f8,f9,f10,hx] at hE ⊢;clear f0 f1 f2 f3 f4 f5 f6 f7 f8 f9 f10;clear hx;refine wpList_put_box (cells:=eV X) hblk rfl rfl rfl rfl elem_size rfl (by simp [eV,wV,limbs,Value.oneCell']) ?_;intro w2 hb2 hw2;go_wp2_with fail;exact .mk (hE undef _ ⟨o,hx',ho,hb2⟩ (hw2.below hC1 ho hC1.size) trivial)
     ·refine step_plain [(11,some 50),(13,none),(0,some 40),(1,some 41),(2,some 42),(3,some 43),(4,some 44),(5,some 45),(6,some 46),(7,some 47),(8,some 48),(9,some 39),(10,some 49),(11,some 50),(12,some 9),(13,none)] (fun _=>rfl) rfl ?_;intro w1 vals hC1 hi0 hf E hE;clear hi0;have f0:vals 0=.agg (eV Y2):=hf 0 rfl;have f1:vals 1=.agg (eV I):=hf 1 rfl;have f2:vals 2=.agg (eV U):=hf 2 rfl;have f3:vals 3=.agg (eV Y2):=hf 3 rfl;have f4:vals 4=.agg (eV D):=hf 4 rfl;have f5:vals 5=.agg (eV DY):=hf 5 rfl;have f6:vals 6=.agg (eV I):=hf 6 rfl;have f7:vals 7=.agg (eV V):=hf 7 rfl;have f8:vals 8=.tuple #[.agg (eV X),.bool ok]:=hf 8 rfl;have f9:vals 9=.tuple #[.agg (eV X),.bool ok]:=hf 9 rfl;have f10:vals 10=.agg (eV X):=hf 10 rfl;have f11:vals 11=.bool ok:=hf 11 rfl;have f13:(fun z u=>NewBox v9.heap.size 39 (eV X) (z 12) u) vals w1:=hf 13 rfl
      try dsimp only at f0 f1 f2 f3 f4 f5 f6 f7 f8 f9 f10 f11 f13
      clear hf;simp only [sP,f0,f1,f2,f3,f4,f5,f6,f7,f8,f9,f10,f11] at hE ⊢;clear f0 f1 f2 f3 f4 f5 f6 f7 f8 f9 f10 f11;go_wp2;exact .mk (hE _ _ rfl hC1 rfl)
    intro w1 vals hC1 hf;have f0:vals 0=.agg (eV Y2):=hf 0 (by decide) rfl;have f1:vals 1=.agg (eV I):=hf 1 (by decide) rfl;have f2:vals 2=.agg (eV U):=hf 2 (by decide) rfl;have f3:vals 3=.agg (eV Y2):=hf 3 (by decide) rfl;have f4:vals 4=.agg (eV D):=hf 4 (by decide) rfl;have f5:vals 5=.agg (eV DY):=hf 5 (by decide) rfl;have f6:vals 6=.agg (eV I):=hf 6 (by decide) rfl;have f7:vals 7=.agg (eV V):=hf 7 (by decide) rfl;have f8:vals 8=.tuple #[.agg (eV X),.bool ok]:=hf 8 (by decide) rfl;have f9:vals 9=.tuple #[.agg (eV X),.bool ok]:=hf 9 (by decide) rfl;have f10:vals 10=.agg (eV X):=hf 10 (by decide) rfl;have f11:vals 11=.bool ok:=hf 11 (by decide) rfl;have f13:(fun z u=>NewBox v9.heap.size 39 (eV X) (z 12) u) vals w1:=hf 13 (by decide) rfl;have f14:vals 14=.bool ok:=hf 14 (by decide) rfl
    try dsimp only at f0 f1 f2 f3 f4 f5 f6 f7 f8 f9 f10 f11 f13 f14
    clear hf;simp only [sP,f0,f1,f2,f3,f4,f5,f6,f7,f8,f9,f10,f11,f14];clear f0 f1 f2 f3 f4 f5 f6 f7 f8 f9 f10 f11 f14;generalize vals 12=x12 at *;obtain ⟨o9,rfl,hlo,hblk⟩:=f13;have HST4:=zY (show Cs [.box o9 39 (eV X),.box g8 39 (eV Y2),.box g6 39 (eV E),.box g0 41 (ptV zP)] w w1 from ⟨⟨hblk,(HST3.out.next hC1).1⟩,(HST3.out.next hC1).2⟩);clear hC1 HC0 hblk hlo HST3;obtain ⟨y1,rfl⟩:∃ x,x=w1:=⟨_,rfl⟩
    cases ok
    ·go_wp2_with (refine wpList_put_box (x:=.tmp 2) (cells:=ptV zP) (HST4.out.1.2.2.2.1) rfl rfl rfl rfl point_size rfl (by simp [ptV,zP,wV,limbs,Value.oneCell']) ?_; intro w9 hb9 hw9; have HR9:=zY hb9; have HW9:=zY hw9; clear hb9 hw9);refine bodyPost_ret (results_box_tmp (P:=Tryd.prog) rfl rfl HR9.out hp rfl point_size) rfl ?_;have eR:R=(zP,2):=by simpa [HRR.out] using HR.out
     rw [eR];exact ⟨rfl,HW9.out.below HST4.out.2 (Nat.le_of_eq HG0.out) HST4.out.2.size⟩
    ·go_wp2_with (refine wpList_get_box (x:=.tmp 9) (HST4.out.1.1) rfl rfl rfl hu rfl elem_size ?_);refine calls_then (COD.out _) ?_;rintro e w10 ⟨rfl,hb⟩;have HST5:=zY (HST4.out.next hb);clear hb HST4
     cases ob
     ·go_wp2_with (refine wpList_get_box (x:=.tmp 9) (HST5.out.1.1) rfl rfl rfl hu rfl elem_size ?_);refine calls_then (CZB.out _) ?_;rintro e w11 ⟨rfl,hb⟩;have HST6:=zY (HST5.out.next hb);clear hb HST5
      cases zb
      ·go_wp2_with fail;have HC0:=HST6.out.drew;clear HST6;refine wp_region_tailq (fun u=>Cs [.box o9 39 (eV X),.box g8 39 (eV Y2),.box g6 39 (eV E),.box g0 41 (ptV zP)] w u) (fun _=>false) 5 [(0,some 68),(1,some 69),(2,some 70),(3,some 71),(4,some 72),(5,none),(6,some 3)] (by kernel_rfl) (by kernel_rfl) (by decide) (by kernel_rfl) (fun _=>rfl) HC0 ?_;apply DetQ.next
       ·apply dQ;apply dP [];exact fun _=>rfl;rfl;rintro vals - w1 hC1 E hE;simp only [sP] at hE ⊢;go_wp2;exact .mk (hE _ hC1)
       apply DetQ.next
       ·apply dQ;apply dP [];exact fun _=>rfl;rfl;rintro vals ⟨-,-⟩ w1 hC1 E hE;simp only [sP] at hE ⊢;refine wpList_get_box (hC1.1.1) rfl rfl rfl hu rfl elem_size ?_;go_wp2_with fail;exact .mk (hE _ hC1)
       apply DetQ.next
       ·apply dQ;apply dP [(0,some 68),(1,some 69)];exact fun _=>rfl;rfl;rintro vals ⟨⟨-,f0⟩,f1⟩ w1 hC1 E hE;simp only [sP,f0,f1] at hE ⊢;clear f0 f1;go_wp2_with fail;refine calls_then (CNX.out _) ?_;rintro e w2 ⟨rfl,hb2⟩;go_wp2_with fail;exact .mk (hE _ (hC1.next hb2))
       apply DetQ.next
       ·apply dQ;apply dP [];exact fun _=>rfl;rfl;intro vals vq w1 hC1 E hE;clear vq;simp only [sP] at hE ⊢;refine wpList_get_box (hC1.1.2.2.1) rfl rfl rfl hu rfl elem_size ?_;go_wp2_with fail;exact .mk (hE _ hC1)
       apply DetQ.next
       ·apply dQ;apply dP [(2,some 70),(3,some 71),(2,some 70)];exact fun _=>rfl;rfl;rintro vals ⟨⟨⟨⟨-,-⟩,-⟩,f2⟩,f3⟩ w1 hC1 E hE;simp only [sP,f2,f3] at hE ⊢;clear f2 f3;go_wp2_with fail;refine calls_then (CO2.out _) ?_;rintro e w2 ⟨rfl,hb2⟩;go_wp2_with fail;exact .mk (hE _ (hC1.next hb2))
       apply DetQ.done;rintro vals ⟨⟨⟨⟨⟨-,f0⟩,f1⟩,f2⟩,f3⟩,f4⟩ w1 hC1;refine tail_step [(4,some 72),(4,some 72),(0,some 68),(1,some 69),(2,some 70),(3,some 71),(4,some 72)] (fun _=>rfl) rfl ?_;intro E hE;simp only [sP,f0,f1,f2,f3,f4] at hE ⊢;refine wpList_put_box (x:=.tmp 2) (cells:=ptV Q2) (hC1.1.2.2.2.1) rfl rfl rfl rfl point_size rfl (by simp [ptV,wV,limbs,Value.oneCell']) ?_;intro y9 hb9 hw9;have HR9:=zY hb9;have HW9:=zY hw9;clear hb9 hw9;go_wp2_with fail;refine .mk (hE undef _ ?_);clear hE E;generalize hval:upd _ 5 _=vals5;replace f0:=uP hval (by decide) f0;replace f1:=uP hval (by decide) f1;replace f2:=uP hval (by decide) f2;replace f3:=uP hval (by decide) f3;replace f4:=uP hval (by decide) f4;have f5:=(congrFun hval 5).symm.trans (upd_self _ _ _);clear hval;refine tail_step [(5,none),(0,some 68),(1,some 69),(2,some 70),(3,some 71),(4,some 72),(5,none)] (fun _=>rfl) rfl ?_;intro E hE;simp only [sP,f0,f1,f2,f3,f4,f5] at hE ⊢;go_wp2;refine .mk (hE _ _ ?_);clear hE E;generalize hval:upd _ 6 _=vals6;replace f0:=uP hval (by decide) f0;replace f1:=uP hval (by decide) f1;replace f2:=uP hval (by decide) f2;replace f3:=uP hval (by decide) f3;replace f4:=uP hval (by decide) f4;replace f5:=uP hval (by decide) f5;have f6:=(congrFun hval 6).symm.trans (upd_self _ _ _);clear hval;refine tail_end ?_;simp only [sP,f0,f1,f2,f3,f4,f5,f6];clear f0 f1 f2 f3 f4 f5 f6;have HST7:=zY hC1;clear hC1 HC0;go_wp2_with fail;refine bodyPost_ret (results_box_tmp (P:=Tryd.prog) rfl rfl HR9.out hp rfl point_size) rfl ?_;have eR:R=(Q2,0):=by simpa [HRR.out] using HR.out
       rw [eR];exact ⟨rfl,HW9.out.below HST7.out.2 (Nat.le_of_eq HG0.out) HST7.out.2.size⟩
      ·go_wp2_with (refine wpList_put_box (x:=.tmp 2) (cells:=ptV zP) (HST6.out.1.2.2.2.1) rfl rfl rfl rfl point_size rfl (by simp [ptV,zP,wV,limbs,Value.oneCell']) ?_; intro w9 hb9 hw9; have HR9:=zY hb9; have HW9:=zY hw9; clear hb9 hw9);refine bodyPost_ret (results_box_tmp (P:=Tryd.prog) rfl rfl HR9.out hp rfl point_size) rfl ?_;have eR:R=(zP,2):=by simpa [HRR.out] using HR.out
       rw [eR];exact ⟨rfl,HW9.out.below HST6.out.2 (Nat.le_of_eq HG0.out) HST6.out.2.size⟩
     ·go_wp2_with (first | (refine wpList_get_box (x:=.tmp 9) (HST5.out.1.1) rfl rfl rfl hu rfl elem_size ?_) | (refine wpList_get_box (x:=.tmp 6) (HST5.out.1.2.2.1) rfl rfl rfl hu rfl elem_size ?_));refine calls_then (CO1.out _) ?_;rintro e w11 ⟨rfl,hb⟩;have HST6:=zY (HST5.out.next hb);clear hb HST5;go_wp2_with (refine wpList_put_box (x:=.tmp 2) (cells:=ptV Q1) (HST6.out.1.2.2.2.1) rfl rfl rfl rfl point_size rfl (by simp [ptV,wV,limbs,Value.oneCell']) ?_; intro w9 hb9 hw9; have HR9:=zY hb9; have HW9:=zY hw9; clear hb9 hw9);refine bodyPost_ret (results_box_tmp (P:=Tryd.prog) rfl rfl HR9.out hp rfl point_size) rfl ?_;have eR:R=(Q1,0):=by simpa [HRR.out] using HR.out
      rw [eR];exact ⟨rfl,HW9.out.below HST6.out.2 (Nat.le_of_eq HG0.out) HST6.out.2.size⟩
  ·go_wp2_with (refine wpList_put_cell (x:=.tmp 26) (i:=31) (v:=.int .u8 ((d%128:Nat):Int)) HQ.out rfl rfl rfl rfl u8_size (by rw [List.size_toArray,List.length_append,bnVl,HLL.out]; omega) rfl ?_; intro w5 hb5 hw5; have HB5:=zY hb5; have HW5:=zY hw5; clear hb5 hw5);have hq:=HB5.out;rw [set_front (by rw [bnVl,HLL.out]; decide),show (bnV L).set 31 (.int .u8 ((d%128:Nat):Int))=bnV (L.set 31 (d%128)) by simp [bnV,List.map_set],HMS.out,← HQV.out] at hq;have HM5:=zY (Rd.of_blk hq hq.lt).front;have HP5:=zY (HW5.out.blk HP1.out HNE.out);have HBB:=zY (HW5.out.below HB1.out HG1.out HB1.out.size);clear hq dl hfr HB5 HW5 HQ HP1 HB1 hand hge hb2 hd256 HMS HQV HLL HDD HNE HG1;refine calls_then (CRD.out _ _ _ HC1.out HM5.out) ?_;rintro e w6 ⟨rfl,hb⟩;have HST0:=zY (show Cs [.box w.heap.size 41 (ptV zP)] w w6 from ⟨⟨HP5.out.below hb HP5.out.lt,trivial⟩,HBB.out.trans (hb.mono HBB.out.size)⟩);clear hb HM5 HBB HP5;generalize hg0:w.heap.size=g0 at HST0 ⊢;have HG0:=zY hg0;clear hg0
   cases may
   ·obtain rfl:F=2:=HF.out;go_wp2_with (first | (refine wpList_put_box (x:=.tmp 6) (cells:=eV E) (Blk.new _ _ _) rfl rfl rfl rfl elem_size rfl (by simp [eV,wV,limbs,Value.oneCell']) ?_; intro w7 hb hw; have hk:=box_low hw; have HST1:=zY (show Cs [.box w6.heap.size 39 (eV E),.box g0 41 (ptV zP)] w w7 from ⟨⟨hb,(HST0.out.next hk).1⟩,(HST0.out.next hk).2⟩); clear hb hw hk HST0) | (refine wpList_put_box (x:=.tmp 2) (cells:=ptV zP) (HST1.out.1.2.1) rfl rfl rfl rfl point_size rfl (by simp [ptV,zP,wV,limbs,Value.oneCell']) ?_; intro w9 hb9 hw9; have HR9:=zY hb9; have HW9:=zY hw9; clear hb9 hw9));refine bodyPost_ret (results_box_tmp (P:=Tryd.prog) rfl rfl HR9.out hp rfl point_size) rfl ?_;have eR:R=(zP,2):=by simpa [HRR.out] using HR.out
    rw [eR];exact ⟨rfl,HW9.out.below HST1.out.2 (Nat.le_of_eq HG0.out) HST1.out.2.size⟩
   ·obtain rfl:F=0:=HF.out;go_wp2_with (first | (refine wpList_put_box (x:=.tmp 6) (cells:=eV E) (Blk.new _ _ _) rfl rfl rfl rfl elem_size rfl (by simp [eV,wV,limbs,Value.oneCell']) ?_; intro w7 hb hw; have hk:=box_low hw; have HST1:=zY (show Cs [.box w6.heap.size 39 (eV E),.box g0 41 (ptV zP)] w w7 from ⟨⟨hb,(HST0.out.next hk).1⟩,(HST0.out.next hk).2⟩); clear hb hw hk HST0) | (refine wpList_get_box (x:=.tmp 6) (HST1.out.1.1) rfl rfl rfl hu rfl elem_size ?_));generalize w6.heap.size=g6 at *;refine calls_then (CY2.out _) ?_;rintro e w8 ⟨rfl,hb⟩;have HST2:=zY (HST1.out.next hb);clear hb HST1;go_wp2_with (refine wpList_put_box (x:=.tmp 8) (cells:=eV Y2) (Blk.new _ _ _) rfl rfl rfl rfl elem_size rfl (by simp [eV,wV,limbs,Value.oneCell']) ?_; intro v9 hb hw; have hk:=box_low hw; have HST3:=zY (show Cs [.box w8.heap.size 39 (eV Y2),.box g6 39 (eV E),.box g0 41 (ptV zP)] w v9 from ⟨⟨hb,(HST2.out.next hk).1⟩,(HST2.out.next hk).2⟩); clear hb hw hk HST2);generalize w8.heap.size=g8 at *;have HC0:Below v9.heap.size v9 v9.drew:=(Below.refl _ _).drew
    refine wp_region_list (fun u=>Below v9.heap.size v9 u) (fun | false=>(fun _=>True) | true=>(fun _=>True)) (fun | false,_=>false | true,_=>false)
     [fun z _=>z 0=.agg (eV Y2),
      fun z _=>z 1=.agg (eV I),
      fun z _=>z 2=.agg (eV U),
      fun z _=>z 3=.agg (eV Y2),
      fun z _=>z 4=.agg (eV D),
      fun z _=>z 5=.agg (eV DY),
      fun z _=>z 6=.agg (eV I),
      fun z _=>z 7=.agg (eV V),
      fun z _=>z 8=.tuple #[.agg (eV X),.bool ok],
      fun z _=>z 9=.tuple #[.agg (eV X),.bool ok],
      fun z _=>z 10=.agg (eV X),
      fun z _=>z 11=.bool ok,
      fun z u=>(NewBox v9.heap.size 39 (eV zE)) (z 12) u,
      fun z u=>NewBox v9.heap.size 39 (eV X) (z 12) u,
      fun z _=>z 14=.bool ok]
     [Eq,fun u u'=>Below u.heap.size u u',fun u u'=>Below u.heap.size u u',Eq,fun u u'=>Below u.heap.size u u',fun u u'=>Below u.heap.size u u',fun u u'=>Below u.heap.size u u',fun u u'=>Below u.heap.size u u',fun u u'=>Below u.heap.size u u',Eq,Eq,Eq,fun u u'=>Below u.heap.size u u',fun _ _=>True,Eq]
     (fun i k=>(i == 13 && k == 12)) [(0,some 40),(1,some 41),(2,some 42),(3,some 43),(4,some 44),(5,some 45),(6,some 46),(7,some 47),(8,some 48),(9,some 39),(10,some 49),(11,some 50),(12,some 9),(13,none),(14,some 10)] (by kernel_rfl) (by kernel_rfl) rfl (fun _=>rfl) ?_ ?_ ?_ ?_ ?_ ?_
    ·exact HC0
    ·intro m; cases m; exact trivial; exact trivial
    ·intro m; cases m
     ·refine ⟨?_,.inr (fun _ _ _ h=>h),.inr (fun _ _ _ h=>h),?_,.inr (fun _ _ _ h=>h),.inr (fun _ _ _ h=>h),.inr (fun _ _ _ h=>h),.inr (fun _ _ _ h=>h),.inr (fun _ _ _ h=>h),?_,?_,?_,.inr (fun _ _ _ h=>h),.inr (fun _ _ _ h=>h),?_,trivial⟩ <;> exact .inr fun _ _ h h0=>h▸h0
     ·refine ⟨?_,.inr (fun _ _ _ h=>h),.inr (fun _ _ _ h=>h),?_,.inr (fun _ _ _ h=>h),.inr (fun _ _ _ h=>h),.inr (fun _ _ _ h=>h),.inr (fun _ _ _ h=>h),.inr (fun _ _ _ h=>h),?_,?_,?_,.inr (fun _ _ _ h=>h),.inr (fun _ _ _ h=>h),?_,trivial⟩ <;> exact .inr fun _ _ h h0=>h▸h0
    ·refine ⟨⟨.inl rfl,?_,?_,?_,?_,?_,?_,?_,?_,?_,?_,?_,.inr (.inr (.inr (fun _ _ _ _ h h0=>by cases h; exact h0))),?_,?_,trivial⟩,⟨?_,.inl rfl,?_,?_,?_,?_,?_,?_,?_,?_,?_,?_,.inr (.inr (.inr (fun _ _ _ _ h h0=>h0.next h))),?_,?_,trivial⟩,⟨?_,?_,.inl rfl,?_,?_,?_,?_,?_,?_,?_,?_,?_,.inr (.inr (.inr (fun _ _ _ _ h h0=>h0.next h))),?_,?_,trivial⟩,⟨?_,?_,?_,.inl rfl,?_,?_,?_,?_,?_,?_,?_,?_,.inr (.inr (.inr (fun _ _ _ _ h h0=>by cases h; exact h0))),?_,?_,trivial⟩,⟨?_,?_,?_,?_,.inl rfl,?_,?_,?_,?_,?_,?_,?_,.inr (.inr (.inr (fun _ _ _ _ h h0=>h0.next h))),?_,?_,trivial⟩,⟨?_,?_,?_,?_,?_,.inl rfl,?_,?_,?_,?_,?_,?_,.inr (.inr (.inr (fun _ _ _ _ h h0=>h0.next h))),?_,?_,trivial⟩,⟨?_,?_,?_,?_,?_,?_,.inl rfl,?_,?_,?_,?_,?_,.inr (.inr (.inr (fun _ _ _ _ h h0=>h0.next h))),?_,?_,trivial⟩,⟨?_,?_,?_,?_,?_,?_,?_,.inl rfl,?_,?_,?_,?_,.inr (.inr (.inr (fun _ _ _ _ h h0=>h0.next h))),?_,?_,trivial⟩,⟨?_,?_,?_,?_,?_,?_,?_,?_,.inl rfl,?_,?_,?_,.inr (.inr (.inr (fun _ _ _ _ h h0=>h0.next h))),?_,?_,trivial⟩,⟨?_,?_,?_,?_,?_,?_,?_,?_,?_,.inl rfl,?_,?_,.inr (.inr (.inr (fun _ _ _ _ h h0=>by cases h; exact h0))),?_,?_,trivial⟩,⟨?_,?_,?_,?_,?_,?_,?_,?_,?_,?_,.inl rfl,?_,.inr (.inr (.inr (fun _ _ _ _ h h0=>by cases h; exact h0))),?_,?_,trivial⟩,⟨?_,?_,?_,?_,?_,?_,?_,?_,?_,?_,?_,.inl rfl,.inr (.inr (.inr (fun _ _ _ _ h h0=>by cases h; exact h0))),.inr (.inr (.inr (fun _ _ _ _ h h0=>by cases h; exact h0))),?_,trivial⟩,⟨?_,?_,?_,?_,?_,?_,?_,?_,?_,?_,?_,?_,.inl rfl,?_,?_,trivial⟩,⟨?_,?_,?_,?_,?_,?_,?_,?_,?_,?_,?_,?_,.inr (.inl rfl),.inl rfl,?_,trivial⟩,⟨?_,?_,?_,?_,?_,?_,?_,?_,?_,?_,?_,?_,.inr (.inr (.inr (fun _ _ _ _ h h0=>by cases h; exact h0))),.inr (.inr (.inr (fun _ _ _ _ h h0=>by cases h; exact h0))),.inl rfl,trivial⟩,trivial⟩ <;> first | exact .inr (.inr (.inl rfl)) | exact .inr (.inr (.inr fun _ _ _ _ _ h=>h))
    ·refine ⟨?_,?_,?_,?_,?_,?_,?_,?_,?_,?_,?_,?_,?_,?_,?_,trivial⟩
     ·refine step_plain [] (fun _=>rfl) rfl ?_;intro w1 vals hC1 hi0 hf E hE;clear hi0;clear hf;have hs:=HST3.out.next hC1;simp only [sP] at hE ⊢;refine wpList_get_box (hs.1.1) rfl rfl rfl hu rfl elem_size ?_;go_wp2_with fail;exact .mk (hE _ _ rfl hC1 rfl)
     ·refine step_plain [] (fun _=>rfl) rfl ?_;intro w1 vals hC1 hi0 hf E hE;clear hi0;clear hf;simp only [sP] at hE ⊢;go_wp2_with fail;refine calls_then (CI.out _) ?_;rintro e w2 ⟨rfl,hb2⟩;go_wp2_with fail;exact .mk (hE _ _ rfl (hC1.trans (hb2.mono hC1.size)) hb2)
     ·refine step_plain [(0,some 40),(1,some 41),(1,some 41)] (fun _=>rfl) rfl ?_;intro w1 vals hC1 hi0 hf E hE;clear hi0;have f0:vals 0=.agg (eV Y2):=hf 0 rfl;have f1:vals 1=.agg (eV I):=hf 1 rfl
      try dsimp only at f0 f1
      clear hf;simp only [sP,f0,f1] at hE ⊢;clear f0 f1;go_wp2_with fail;refine calls_then (CU.out _) ?_;rintro e w2 ⟨rfl,hb2⟩;go_wp2_with fail;exact .mk (hE _ _ rfl (hC1.trans (hb2.mono hC1.size)) hb2)
     ·refine step_plain [] (fun _=>rfl) rfl ?_;intro w1 vals hC1 hi0 hf E hE;clear hi0;clear hf;have hs:=HST3.out.next hC1;simp only [sP] at hE ⊢;refine wpList_get_box (hs.1.1) rfl rfl rfl hu rfl elem_size ?_;go_wp2_with fail;exact .mk (hE _ _ rfl hC1 rfl)
     ·refine step_plain [(2,some 42)] (fun _=>rfl) rfl ?_;intro w1 vals hC1 hi0 hf E hE;clear hi0;have f2:vals 2=.agg (eV U):=hf 2 rfl
      try dsimp only at f2
      clear hf;simp only [sP,f2] at hE ⊢;clear f2;go_wp2_with fail;refine calls_then (CD.out _) ?_;rintro e w2 ⟨rfl,hb2⟩;go_wp2_with fail;exact .mk (hE _ _ rfl (hC1.trans (hb2.mono hC1.size)) hb2)
     ·refine step_plain [(3,some 43),(4,some 44),(4,some 44)] (fun _=>rfl) rfl ?_;intro w1 vals hC1 hi0 hf E hE;clear hi0;have f3:vals 3=.agg (eV Y2):=hf 3 rfl;have f4:vals 4=.agg (eV D):=hf 4 rfl
      try dsimp only at f3 f4
      clear hf;simp only [sP,f3,f4] at hE ⊢;clear f3 f4;go_wp2_with fail;refine calls_then (CDY.out _) ?_;rintro e w2 ⟨rfl,hb2⟩;go_wp2_with fail;exact .mk (hE _ _ rfl (hC1.trans (hb2.mono hC1.size)) hb2)
     ·refine step_plain [(5,some 45)] (fun _=>rfl) rfl ?_;intro w1 vals hC1 hi0 hf E hE;clear hi0;have f5:vals 5=.agg (eV DY):=hf 5 rfl
      try dsimp only at f5
      clear hf;simp only [sP,f5] at hE ⊢;clear f5;go_wp2_with fail;refine calls_then (CI.out _) ?_;rintro e w2 ⟨rfl,hb2⟩;go_wp2_with fail;exact .mk (hE _ _ rfl (hC1.trans (hb2.mono hC1.size)) hb2)
     ·refine step_plain [(5,some 45),(6,some 46),(6,some 46)] (fun _=>rfl) rfl ?_;intro w1 vals hC1 hi0 hf E hE;clear hi0;have f5:vals 5=.agg (eV DY):=hf 5 rfl;have f6:vals 6=.agg (eV I):=hf 6 rfl
      try dsimp only at f5 f6
      clear hf;simp only [sP,f5,f6] at hE ⊢;clear f5 f6;go_wp2_with fail;refine calls_then (CV.out _) ?_;rintro e w2 ⟨rfl,hb2⟩;go_wp2_with fail;exact .mk (hE _ _ rfl (hC1.trans (hb2.mono hC1.size)) hb2)
     ·refine step_plain [(2,some 42),(7,some 47),(7,some 47)] (fun _=>rfl) rfl ?_;intro w1 vals hC1 hi0 hf E hE;clear hi0;have f2:vals 2=.agg (eV U):=hf 2 rfl;have f7:vals 7=.agg (eV V):=hf 7 rfl
      try dsimp only at f2 f7
      clear hf;simp only [sP,f2,f7] at hE ⊢;clear f2 f7;go_wp2_with fail;refine calls_then (CRT.out _) ?_;rintro e w2 ⟨rfl,hb2⟩;go_wp2_with fail;exact .mk (hE _ _ rfl (hC1.trans (hb2.mono hC1.size)) hb2)
     ·refine step_plain [(8,some 48)] (fun _=>rfl) rfl ?_;intro w1 vals hC1 hi0 hf E hE;clear hi0;have f8:vals 8=.tuple #[.agg (eV X),.bool ok]:=hf 8 rfl
      try dsimp only at f8
      clear hf;simp only [sP,f8] at hE ⊢;clear f8;go_wp2;exact .mk (hE _ _ rfl hC1 rfl)
     ·refine step_plain [(9,some 39)] (fun _=>rfl) rfl ?_;intro w1 vals hC1 hi0 hf E hE;clear hi0;have f9:vals 9=.tuple #[.agg (eV X),.bool ok]:=hf 9 rfl
      try dsimp only at f9
      clear hf;simp only [sP,f9] at hE ⊢;clear f9;go_wp2;exact .mk (hE _ _ rfl hC1 rfl)
     ·refine step_plain [(9,some 39)] (fun _=>rfl) rfl ?_;intro w1 vals hC1 hi0 hf E hE;clear hi0;have f9:vals 9=.tuple #[.agg (eV X),.bool ok]:=hf 9 rfl
      try dsimp only at f9
      clear hf;simp only [sP,f9] at hE ⊢;clear f9;go_wp2;exact .mk (hE _ _ rfl hC1 rfl)
     ·refine step_plain [] (fun _=>rfl) rfl ?_;intro w1 vals hC1 hi0 hf E hE;clear hi0;clear hf;simp only [sP] at hE ⊢;go_wp2;exact .mk (hE _ _ (NewBox.of hC1.size) (hC1.alloc hC1.size _) (below_new _ _))
     ·refine step_plain [(12,some 9),(10,some 49),(8,some 48),(0,some 40),(1,some 41),(2,some 42),(3,some 43),(4,some 44),(5,some 45),(6,some 46),(7,some 47),(8,some 48),(9,some 39),(10,some 49),(12,some 9)] (fun _=>rfl) rfl ?_;intro w1 vals hC1 hi0 hf E hE;clear hi0;have f0:vals 0=.agg (eV Y2):=hf 0 rfl;have f1:vals 1=.agg (eV I):=hf 1 rfl;have f2:vals 2=.agg (eV U):=hf 2 rfl;have f3:vals 3=.agg (eV Y2):=hf 3 rfl;have f4:vals 4=.agg (eV D):=hf 4 rfl;have f5:vals 5=.agg (eV DY):=hf 5 rfl;have f6:vals 6=.agg (eV I):=hf 6 rfl;have f7:vals 7=.agg (eV V):=hf 7 rfl;have f8:vals 8=.tuple #[.agg (eV X),.bool ok]:=hf 8 rfl;have f9:vals 9=.tuple #[.agg (eV X),.bool ok]:=hf 9 rfl;have f10:vals 10=.agg (eV X):=hf 10 rfl;have f12:(NewBox v9.heap.size 39 (eV zE)) (vals 12) w1:=hf 12 rfl
      try dsimp only at f0 f1 f2 f3 f4 f5 f6 f7 f8 f9 f10 f12
      clear hf;obtain ⟨o,hx,ho,hblk⟩:=f12;have hx':=hx;simp only [sP,f0,f1,f2,f3,f4,f5,f6,f7,f8,f9,f10,hx] at hE ⊢;clear f0 f1 f2 f3 f4 f5 f6 f7 f8 f9 f10;clear hx;refine wpList_put_box (cells:=eV X) hblk rfl rfl rfl rfl elem_size rfl (by simp [eV,wV,limbs,Value.oneCell']) ?_;intro w2 hb2 hw2;go_wp2_with fail;exact .mk (hE undef _ ⟨o,hx',ho,hb2⟩ (hw2.below hC1 ho hC1.size) trivial)
     ·refine step_plain [(11,some 50),(13,none),(0,some 40),(1,some 41),(2,some 42),(3,some 43),(4,some 44),(5,some 45),(6,some 46),(7,some 47),(8,some 48),(9,some 39),(10,some 49),(11,some 50),(12,some 9),(13,none)] (fun _=>rfl) rfl ?_;intro w1 vals hC1 hi0 hf E hE;clear hi0;have f0:vals 0=.agg (eV Y2):=hf 0 rfl;have f1:vals 1=.agg (eV I):=hf 1 rfl;have f2:vals 2=.agg (eV U):=hf 2 rfl;have f3:vals 3=.agg (eV Y2):=hf 3 rfl;have f4:vals 4=.agg (eV D):=hf 4 rfl;have f5:vals 5=.agg (eV DY):=hf 5 rfl;have f6:vals 6=.agg (eV I):=hf 6 rfl;have f7:vals 7=.agg (eV V):=hf 7 rfl;have f8:vals 8=.tuple #[.agg (eV X),.bool ok]:=hf 8 rfl;have f9:vals 9=.tuple #[.agg (eV X),.bool ok]:=hf 9 rfl;have f10:vals 10=.agg (eV X):=hf 10 rfl;have f11:vals 11=.bool ok:=hf 11 rfl;have f13:(fun z u=>NewBox v9.heap.size 39 (eV X) (z 12) u) vals w1:=hf 13 rfl
      try dsimp only at f0 f1 f2 f3 f4 f5 f6 f7 f8 f9 f10 f11 f13
      clear hf;simp only [sP,f0,f1,f2,f3,f4,f5,f6,f7,f8,f9,f10,f11] at hE ⊢;clear f0 f1 f2 f3 f4 f5 f6 f7 f8 f9 f10 f11;go_wp2;exact .mk (hE _ _ rfl hC1 rfl)
    intro w1 vals hC1 hf;have f0:vals 0=.agg (eV Y2):=hf 0 (by decide) rfl;have f1:vals 1=.agg (eV I):=hf 1 (by decide) rfl;have f2:vals 2=.agg (eV U):=hf 2 (by decide) rfl;have f3:vals 3=.agg (eV Y2):=hf 3 (by decide) rfl;have f4:vals 4=.agg (eV D):=hf 4 (by decide) rfl;have f5:vals 5=.agg (eV DY):=hf 5 (by decide) rfl;have f6:vals 6=.agg (eV I):=hf 6 (by decide) rfl;have f7:vals 7=.agg (eV V):=hf 7 (by decide) rfl;have f8:vals 8=.tuple #[.agg (eV X),.bool ok]:=hf 8 (by decide) rfl;have f9:vals 9=.tuple #[.agg (eV X),.bool ok]:=hf 9 (by decide) rfl;have f10:vals 10=.agg (eV X):=hf 10 (by decide) rfl;have f11:vals 11=.bool ok:=hf 11 (by decide) rfl;have f13:(fun z u=>NewBox v9.heap.size 39 (eV X) (z 12) u) vals w1:=hf 13 (by decide) rfl;have f14:vals 14=.bool ok:=hf 14 (by decide) rfl
    try dsimp only at f0 f1 f2 f3 f4 f5 f6 f7 f8 f9 f10 f11 f13 f14
    clear hf;simp only [sP,f0,f1,f2,f3,f4,f5,f6,f7,f8,f9,f10,f11,f14];clear f0 f1 f2 f3 f4 f5 f6 f7 f8 f9 f10 f11 f14;generalize vals 12=x12 at *;obtain ⟨o9,rfl,hlo,hblk⟩:=f13;have HST4:=zY (show Cs [.box o9 39 (eV X),.box g8 39 (eV Y2),.box g6 39 (eV E),.box g0 41 (ptV zP)] w w1 from ⟨⟨hblk,(HST3.out.next hC1).1⟩,(HST3.out.next hC1).2⟩);clear hC1 HC0 hblk hlo HST3;obtain ⟨y1,rfl⟩:∃ x,x=w1:=⟨_,rfl⟩
    cases ok
    ·go_wp2_with (refine wpList_put_box (x:=.tmp 2) (cells:=ptV zP) (HST4.out.1.2.2.2.1) rfl rfl rfl rfl point_size rfl (by simp [ptV,zP,wV,limbs,Value.oneCell']) ?_; intro w9 hb9 hw9; have HR9:=zY hb9; have HW9:=zY hw9; clear hb9 hw9);refine bodyPost_ret (results_box_tmp (P:=Tryd.prog) rfl rfl HR9.out hp rfl point_size) rfl ?_;have eR:R=(zP,2):=by simpa [HRR.out] using HR.out
     rw [eR];exact ⟨rfl,HW9.out.below HST4.out.2 (Nat.le_of_eq HG0.out) HST4.out.2.size⟩
    ·go_wp2_with (refine wpList_get_box (x:=.tmp 9) (HST4.out.1.1) rfl rfl rfl hu rfl elem_size ?_);refine calls_then (COD.out _) ?_;rintro e w10 ⟨rfl,hb⟩;have HST5:=zY (HST4.out.next hb);clear hb HST4
     cases ob
     ·go_wp2_with (first | (refine wpList_get_box (x:=.tmp 9) (HST5.out.1.1) rfl rfl rfl hu rfl elem_size ?_) | (refine wpList_get_box (x:=.tmp 6) (HST5.out.1.2.2.1) rfl rfl rfl hu rfl elem_size ?_));refine calls_then (CO1.out _) ?_;rintro e w11 ⟨rfl,hb⟩;have HST6:=zY (HST5.out.next hb);clear hb HST5;go_wp2_with (refine wpList_put_box (x:=.tmp 2) (cells:=ptV Q1) (HST6.out.1.2.2.2.1) rfl rfl rfl rfl point_size rfl (by simp [ptV,wV,limbs,Value.oneCell']) ?_; intro w9 hb9 hw9; have HR9:=zY hb9; have HW9:=zY hw9; clear hb9 hw9);refine bodyPost_ret (results_box_tmp (P:=Tryd.prog) rfl rfl HR9.out hp rfl point_size) rfl ?_;have eR:R=(Q1,0):=by simpa [HRR.out] using HR.out
      rw [eR];exact ⟨rfl,HW9.out.below HST6.out.2 (Nat.le_of_eq HG0.out) HST6.out.2.size⟩
     ·go_wp2_with (refine wpList_get_box (x:=.tmp 9) (HST5.out.1.1) rfl rfl rfl hu rfl elem_size ?_);refine calls_then (CZB.out _) ?_;rintro e w11 ⟨rfl,hb⟩;have HST6:=zY (HST5.out.next hb);clear hb HST5
      cases zb
      ·go_wp2_with fail;have HC0:=HST6.out.drew;clear HST6;refine wp_region_tailq (fun u=>Cs [.box o9 39 (eV X),.box g8 39 (eV Y2),.box g6 39 (eV E),.box g0 41 (ptV zP)] w u) (fun _=>false) 5 [(0,some 68),(1,some 69),(2,some 70),(3,some 71),(4,some 72),(5,none),(6,some 3)] (by kernel_rfl) (by kernel_rfl) (by decide) (by kernel_rfl) (fun _=>rfl) HC0 ?_;apply DetQ.next
       ·apply dQ;apply dP [];exact fun _=>rfl;rfl;rintro vals - w1 hC1 E hE;simp only [sP] at hE ⊢;go_wp2;exact .mk (hE _ hC1)
       apply DetQ.next
       ·apply dQ;apply dP [];exact fun _=>rfl;rfl;rintro vals ⟨-,-⟩ w1 hC1 E hE;simp only [sP] at hE ⊢;refine wpList_get_box (hC1.1.1) rfl rfl rfl hu rfl elem_size ?_;go_wp2_with fail;exact .mk (hE _ hC1)
       apply DetQ.next
       ·apply dQ;apply dP [(0,some 68),(1,some 69)];exact fun _=>rfl;rfl;rintro vals ⟨⟨-,f0⟩,f1⟩ w1 hC1 E hE;simp only [sP,f0,f1] at hE ⊢;clear f0 f1;go_wp2_with fail;refine calls_then (CNX.out _) ?_;rintro e w2 ⟨rfl,hb2⟩;go_wp2_with fail;exact .mk (hE _ (hC1.next hb2))
       apply DetQ.next
       ·apply dQ;apply dP [];exact fun _=>rfl;rfl;intro vals vq w1 hC1 E hE;clear vq;simp only [sP] at hE ⊢;refine wpList_get_box (hC1.1.2.2.1) rfl rfl rfl hu rfl elem_size ?_;go_wp2_with fail;exact .mk (hE _ hC1)
       apply DetQ.next
       ·apply dQ;apply dP [(2,some 70),(3,some 71),(2,some 70)];exact fun _=>rfl;rfl;rintro vals ⟨⟨⟨⟨-,-⟩,-⟩,f2⟩,f3⟩ w1 hC1 E hE;simp only [sP,f2,f3] at hE ⊢;clear f2 f3;go_wp2_with fail;refine calls_then (CO2.out _) ?_;rintro e w2 ⟨rfl,hb2⟩;go_wp2_with fail;exact .mk (hE _ (hC1.next hb2))
       apply DetQ.done;rintro vals ⟨⟨⟨⟨⟨-,f0⟩,f1⟩,f2⟩,f3⟩,f4⟩ w1 hC1;refine tail_step [(4,some 72),(4,some 72),(0,some 68),(1,some 69),(2,some 70),(3,some 71),(4,some 72)] (fun _=>rfl) rfl ?_;intro E hE;simp only [sP,f0,f1,f2,f3,f4] at hE ⊢;refine wpList_put_box (x:=.tmp 2) (cells:=ptV Q2) (hC1.1.2.2.2.1) rfl rfl rfl rfl point_size rfl (by simp [ptV,wV,limbs,Value.oneCell']) ?_;intro y9 hb9 hw9;have HR9:=zY hb9;have HW9:=zY hw9;clear hb9 hw9;go_wp2_with fail;refine .mk (hE undef _ ?_);clear hE E;generalize hval:upd _ 5 _=vals5;replace f0:=uP hval (by decide) f0;replace f1:=uP hval (by decide) f1;replace f2:=uP hval (by decide) f2;replace f3:=uP hval (by decide) f3;replace f4:=uP hval (by decide) f4;have f5:=(congrFun hval 5).symm.trans (upd_self _ _ _);clear hval;refine tail_step [(5,none),(0,some 68),(1,some 69),(2,some 70),(3,some 71),(4,some 72),(5,none)] (fun _=>rfl) rfl ?_;intro E hE;simp only [sP,f0,f1,f2,f3,f4,f5] at hE ⊢;go_wp2;refine .mk (hE _ _ ?_);clear hE E;generalize hval:upd _ 6 _=vals6;replace f0:=uP hval (by decide) f0;replace f1:=uP hval (by decide) f1;replace f2:=uP hval (by decide) f2;replace f3:=uP hval (by decide) f3;replace f4:=uP hval (by decide) f4;replace f5:=uP hval (by decide) f5;have f6:=(congrFun hval 6).symm.trans (upd_self _ _ _);clear hval;refine tail_end ?_;simp only [sP,f0,f1,f2,f3,f4,f5,f6];clear f0 f1 f2 f3 f4 f5 f6;have HST7:=zY hC1;clear hC1 HC0;go_wp2_with fail;refine bodyPost_ret (results_box_tmp (P:=Tryd.prog) rfl rfl HR9.out hp rfl point_size) rfl ?_;have eR:R=(Q2,0):=by simpa [HRR.out] using HR.out
       rw [eR];exact ⟨rfl,HW9.out.below HST7.out.2 (Nat.le_of_eq HG0.out) HST7.out.2.size⟩
      ·go_wp2_with (refine wpList_put_box (x:=.tmp 2) (cells:=ptV zP) (HST6.out.1.2.2.2.1) rfl rfl rfl rfl point_size rfl (by simp [ptV,zP,wV,limbs,Value.oneCell']) ?_; intro w9 hb9 hw9; have HR9:=zY hb9; have HW9:=zY hw9; clear hb9 hw9);refine bodyPost_ret (results_box_tmp (P:=Tryd.prog) rfl rfl HR9.out hp rfl point_size) rfl ?_;have eR:R=(zP,2):=by simpa [HRR.out] using HR.out
       rw [eR];exact ⟨rfl,HW9.out.below HST6.out.2 (Nat.le_of_eq HG0.out) HST6.out.2.size⟩
 ·have hR2:R=(zP,2):=by rw [hR,crd,if_neg h32]
  have h32':¬ (n:Int)=32:=by omega
  rw [← hn];subst hR2;clear hn hmax hr hc h32 hR;go_enter Tryd.func29,Tryd.ntmps29;go_wp2_with (refine wpList_put_box (x:=.tmp 2) (cells:=ptV zP) HP.out rfl rfl rfl rfl point_size rfl (by simp [ptV,zP,wV,limbs,Value.oneCell']) ?_; intro w7 hb7 hw7; have HP7:=zY hb7; have HW7:=zY hw7; clear hb7 hw7);refine bodyPost_ret (results_box_tmp (P:=Tryd.prog) rfl rfl HP7.out hp rfl point_size) rfl ?_;exact ⟨rfl,HW7.out.below HB.out (Nat.le_refl _) HB.out.size⟩
end Go.Proofs.YtdgheahbafnboaaDoor
/-
  Plain: which point bytes are, as curve's Read and the reference's Of tell it.
-/
namespace Go.Proofs.YtdgheahbafnboaaDoor
set_option linter.unusedSimpArgs false
set_option linter.unusedVariables false
open Go.RowKit
theorem gen_neg {n:Nat} [NeZero n] (ho:n%2=1) {x:Fin n} (h:x≠0):decide ((-x).val%2=1)=!decide (x.val%2=1):=by
 have h0:x.val≠0:=fun e=>h (Fin.ext (by rw [e]; rfl));have hl:=x.isLt
 have e:(-x).val=n - x.val:=by
  rw [Fin.neg_def];exact Nat.mod_eq_of_lt (by omega)
 rw [e,← decide_not];exact decide_eq_decide.mpr (by omega)
theorem par_neg {x:FP} (h:x≠0):decide ((-x).val%2=1)=!decide (x.val%2=1):=gen_neg (by decide) h
theorem neg_z:(-(0:FP))=0:=by decide
def Good (y:FP) (odd:Bool) (x:FP):Prop:=Ed.On dF x y∧decide (x.val%2=1)=odd
theorem good_pm {y x z:FP} (hx:Ed.On dF x y) (hz:Ed.On dF z y):z=x∨z=-x :=
 g_two FF (g_den FF y) ((g_on x y).1 hx) ((g_on z y).1 hz)
theorem good_one {y x z:FP} {odd:Bool} (hx:Good y odd x) (hz:Good y odd z):z=x:=by
 rcases good_pm hx.1 hz.1 with h | h
 ·exact h
 ·by_cases h0:x=0
  ·rw [h,h0,neg_z]
  ·have h1:=par_neg h0;rw [← h,hz.2,hx.2] at h1
   cases odd <;> exact absurd h1 (by decide)
theorem fv_ofN {Y:Nat} (h:Y<PN):fv (ofN Y)=fn Y:=by
 rw [fv,ofN_val,Nat.mod_eq_of_lt (Nat.lt_trans h (by decide))]
theorem fv_one:fv (intE 1)=1:=fv_int 1
theorem oddE_fv (X:E5):oddE X=decide ((fv X).val%2=1):=rfl
theorem crdU_ok {E:E5} (h:E.Ok):(crdU E).Ok:=sub_ok (mul_ok h h) one_ok
theorem crdV_ok {E D:E5} (h:E.Ok) (k:D.Ok):(crdV E D).Ok:=add_ok (mul_ok (mul_ok h h) k) one_ok
theorem fv_crdU {Y:Nat} (h:Y<PN):fv (crdU (ofN Y))=fn Y*fn Y - 1:=by rw [crdU,fv_sub one_ok,fv_mul,fv_ofN h,fv_one]
theorem fv_crdV {Y:Nat} (h:Y<PN):fv (crdV (ofN Y) dE)=fn Y*fn Y*dF+1:=by rw [crdV,fv_add,fv_mul,fv_mul,fv_ofN h,fv_d,fv_one]
theorem bool_not {a b:Bool} (h:¬ a=b):(!a)=b:=by cases a <;> cases b <;> simp_all
theorem crd_good {Y:Nat} (hY:Y<PN) (odd:Bool) {r:Pt4 × Nat} (hr:crdR (ofN Y) dE odd=r) :
  (r.2=0∧r.1.Ok∧∃ x,∃ h:Good (fn Y) odd x,Is r.1 ⟨x,fn Y,h.1⟩)∨(r.2=2∧∀ x,¬ Good (fn Y) odd x):=by
 have okE:=ofN_ok Y;have okU:=crdU_ok okE;have okV:=crdV_ok okE dE_ok;have okX:=rootE_ok okU okV;have yes:=croot_yes okU okV;have no:=croot_no okU okV;rw [crdR] at hr;rw [fv_crdU hY,fv_crdV hY] at yes no;generalize crdU (ofN Y)=U at *;generalize crdV (ofN Y) dE=V at *;generalize rootE U V=X at *
 by_cases h1:rootB U V=true
 ·have hon:=(g_on _ _).2 (yes h1);rw [if_pos h1] at hr
  by_cases h2:oddE X=odd
  ·rw [if_pos h2] at hr;subst hr;exact .inl ⟨rfl,ofP_ok okX okE,fv X,⟨hon,h2⟩,is_of rfl (fv_ofN hY)⟩
  ·rw [if_neg h2] at hr
   by_cases h3:eqB X zE=true
   ·rw [if_pos h3] at hr;subst hr;have hX:=(eqB_fv okX zE_ok).1 h3;rw [fv_z] at hX;refine .inr ⟨rfl,fun z hz=>?_⟩
    have e:z=fv X:=by
     rcases good_pm hon hz.1 with e | e
     ·exact e
     ·rw [e,hX,neg_z]
    have:=hz.2;rw [e] at this;exact h2 this
   ·rw [if_neg h3] at hr;subst hr;have hX:fv X≠0:=fun e=>h3 ((eqB_fv okX zE_ok).2 (by rw [e,fv_z]));have e:fv (subE zE X)=-fv X:=by rw [fv_sub okX,fv_z,g_z0]
    refine .inl ⟨rfl,ofP_ok (sub_ok zE_ok okX) okE,-fv X,⟨Ed.neg_on hon,?_⟩,is_of e (fv_ofN hY)⟩;rw [par_neg hX];exact bool_not h2
 ·rw [if_neg h1] at hr;subst hr;refine .inr ⟨rfl,fun z hz=>?_⟩;exact no (Bool.not_eq_true _▸h1) (g_den FF _) z ((g_on _ _).1 hz.1)
theorem rtV_lt {a x q:Nat} (hx:x<PN):rtV a x q<PN:=by
 rw [rtV]
 split
 ·exact hx
 ·exact mod_lt' _
theorem fn_z {a:Nat} (h:a<PN):fn a=0↔a=0:=by
 constructor
 ·intro e;have:=congrArg Fin.val e;rw [fn_val_lt h] at this;exact this
 ·rintro rfl; rfl
def OfGood (Y:Nat) (odd:Bool):Option Nat→Prop
 | some r=>r<PN∧Good (fn Y) odd (fn r)
 | none=>∀ z,¬ Good (fn Y) odd z
theorem ofR_good {Y y2 u t v i a x q:Nat} (W:OfW Y y2 u t v i a x q) (odd:Bool) {o:Option Nat} (ho:ofR (rtV a x q) (rtB a x q) odd=o) :
  OfGood Y odd o:=by
 obtain ⟨h1,h2,h3,h4,h5,h6,h7,h8⟩:=W;have la:a<PN:=by rw [h6]; exact mod_lt' _
 have lv:v<PN:=by rw [h4]; exact mod_lt' _
 have lr:rtV a x q<PN:=rtV_lt (by rw [h7]; exact mod_lt' _);have fu:fn u=fn Y*fn Y - 1:=by rw [h2,fn_sub (by decide),h1,fn_mulm,fn_one]
 have fvv:fn v=fn Y*fn Y*dF+1:=by rw [h4,fn_addm,h3,fn_mulm,h1,fn_mulm,fn_one,← dF,Fin.mul_comm]
 have fi:fn v*fn i=1:=by
  rw [h5,fn_inv lv];exact iv_one _ (by rw [fvv]; exact g_den FF _)
 have fa:fn a=fn u*fn i:=by rw [h6,fn_mulm]
 have yes:=nroot_yes (x:=x) (q:=q) la;have no:=nroot_no la h7 h8;rw [fu] at fa;rw [fvv] at fi;have key:∀ z:FP,Ed.On dF z (fn Y)↔z*z=fn a:=fun z=>(g_on _ _).trans (g_div fi fa);generalize rtV a x q=r at *;rw [ofR] at ho
 by_cases hb:rtB a x q=true
 ·rw [if_pos hb] at ho;have hon:=(key _).2 (yes hb);have hpar:decide ((fn r).val%2=1)=decide (r%2=1):=by rw [fn_val_lt lr]
  by_cases h2:decide (r%2=1)=odd
  ·rw [if_pos h2] at ho;subst ho;exact ⟨lr,hon,hpar.trans h2⟩
  ·rw [if_neg h2] at ho
   by_cases h3:r=0
   ·rw [if_pos h3] at ho;subst ho;intro z hz
    have e:z=fn r:=by
     rcases good_pm hon hz.1 with e | e
     ·exact e
     ·rw [e,(fn_z lr).2 h3,neg_z]
    have:=hz.2;rw [e,hpar] at this;exact h2 this
   ·rw [if_neg h3] at ho;subst ho;have hX:fn r≠0:=fun e=>h3 ((fn_z lr).1 e);have e:fn ((0+PN - r)%PN)=-fn r:=by rw [fn_sub (Nat.le_of_lt lr),fn_zero,g_z0]
    refine ⟨mod_lt' _,?_⟩;rw [e];refine ⟨Ed.neg_on hon,?_⟩;rw [par_neg hX,hpar];exact bool_not h2
 ·rw [if_neg hb] at ho;subst ho;intro z hz;exact no (Bool.not_eq_true _▸hb) z ((key z).1 hz.1)
end Go.Proofs.YtdgheahbafnboaaDoor
/-
  Plain: a point's bytes as the reference reads them.
-/
namespace Go.Proofs.YtdgheahbafnboaaDoor
set_option linter.unusedSimpArgs false
set_option linter.unusedVariables false
open Go.RowKit
theorem rdL_len {b:List UInt8} (h:b.length=32):(rdL b).length=32:=by rw [rdL,List.length_set,digs,List.length_map,h]
theorem rdL_dn {b:List UInt8} (h:b.length=32):dV (rdL b)=DN (yOf b):=by
 rw [DN,show digN 32 (yOf b)=rdL b from (digN_eq (rdL_dg b) (rdL_len h) rfl).symm]
theorem dV_len (l:List Nat):(dV l).length=l.length:=by simp [dV]
theorem dV_set' (l:List Nat) (j n:Nat):(dV l).set j (.int .i64 (n:Int))=dV (l.set j n):=by simp [dV,numV,List.map_set]
end Go.Proofs.YtdgheahbafnboaaDoor
/-
  Plain: the bytes of points, and what is read of them.
-/
namespace Go.Proofs.YtdgheahbafnboaaDoor
set_option linter.unusedSimpArgs false
set_option linter.unusedVariables false
open Go.RowKit
theorem set_set_self {L:List Nat} {k a:Nat} (h:k<L.length):(L.set k a).set k (L.getD k 0)=L:=by rw [List.set_set,set_self h]
theorem getD_set {L:List Nat} {k a:Nat} (h:k<L.length):(L.set k a).getD k 0=a:=by
 rw [List.getD_eq_getElem?_getD,List.getElem?_set_self h]; rfl
theorem rd_byP {x y:Nat} (hy:y<PN) {b:List UInt8} (h:digs b=byP x y):b.length=32∧yOf b=y∧oddOf b=decide (x%2=1)∧rdL b=byN y:=by
 have hl:b.length=32:=by rw [← byP_len x y,← h,digs,List.length_map]
 have hN:=byN_high hy;have hNl:31<(byN y).length:=by rw [byN_length]; decide
 have e:rdL b=byN y∧oddOf b=decide (x%2=1):=by
  rw [rdL,oddOf,h,byP]
  by_cases ho:x%2=1
  ·rw [if_pos ho,getD_set hNl];refine ⟨?_,decide_eq_decide.mpr ⟨fun _=>ho,fun _=>by omega⟩⟩;rw [show ((byN y).getD 31 0+128)%128=(byN y).getD 31 0 by omega];exact set_set_self hNl
  ·rw [if_neg ho];refine ⟨?_,decide_eq_decide.mpr ⟨fun h=>by omega,fun h=>absurd h ho⟩⟩;rw [Nat.mod_eq_of_lt hN];exact set_self hNl
 refine ⟨hl,?_,e.2,e.1⟩;rw [yOf,e.1,leV_byN y (Nat.lt_trans hy pn_big)]
theorem byP_rd {b:List UInt8} (hl:b.length=32) {x:Nat} (hx:decide (x%2=1)=oddOf b):byP x (yOf b)=digs b:=by
 have hdl:31<(digs b).length:=by rw [digs,List.length_map,hl]; decide
 have e:byN (yOf b)=rdL b:=byN_leV (rdL b) (rdL_dg b) (rdL_len hl);have hd256:(digs b).getD 31 0<256:=dg_getD (digs_lt b) 31;rw [byP,e];have g:(rdL b).getD 31 0=(digs b).getD 31 0%128:=getD_set hdl;rw [g]
 by_cases ho:x%2=1
 ·rw [if_pos ho];rw [decide_eq_true ho,oddOf] at hx;have h128:=of_decide_eq_true hx.symm;rw [show (digs b).getD 31 0%128+128=(digs b).getD 31 0 by omega];exact set_set_self hdl
 ·rw [if_neg ho];rw [decide_eq_false ho,oddOf] at hx;have h128:=of_decide_eq_false hx.symm;rw [rdL,Nat.mod_eq_of_lt (by omega)];exact set_self hdl
theorem byF_inj {P Q:PtF} (h:byF P=byF Q):P=Q:=by
 obtain ⟨b,hb⟩:∃ b:List UInt8,digs b=byF P:=⟨toB (byF P),digs_ofNat _ (byP_dg P.y.isLt)⟩;have h1:=rd_byP P.y.isLt (x:=P.x.val) hb;have h2:=rd_byP Q.y.isLt (x:=Q.x.val) (hb.trans h);have ey:P.y=Q.y:=Fin.ext (h1.2.1.symm.trans h2.2.1);have eo:decide (Q.x.val%2=1)=decide (P.x.val%2=1):=h2.2.2.1.symm.trans h1.2.2.1;have g1:Good P.y (decide (P.x.val%2=1)) P.x:=⟨P.on,rfl⟩;have g2:Good P.y (decide (P.x.val%2=1)) Q.x:=⟨by rw [ey]; exact Q.on,eo⟩;exact Ed.Pn.eq (good_one g1 g2).symm ey
theorem crd_is {P:PtF} {b:List UInt8} (hb:digs b=byF P):(crd b).2=0∧(crd b).1.Ok∧Is (crd b).1 P:=by
 obtain ⟨hl,hy,ho,_⟩:=rd_byP P.y.isLt (x:=P.x.val) hb;have hlt:yOf b<PN:=by rw [hy]; exact P.y.isLt
 have hg:Good (fn (yOf b)) (oddOf b) P.x:=by rw [hy,fn_val,ho]; exact ⟨P.on,rfl⟩
 rw [crd,if_pos hl,if_pos hlt]
 rcases crd_good hlt (oddOf b) rfl with ⟨h1,h2,x,h3,h4⟩ | ⟨_,h2⟩
 ·refine ⟨h1,h2,?_⟩;have e:(⟨x,fn (yOf b),h3.1⟩:PtF)=P:=Ed.Pn.eq (good_one hg h3) (show fn (yOf b)=P.y by rw [hy,fn_val]);rw [e] at h4;exact h4
 ·exact absurd hg (h2 _)
def rrd (b:List UInt8) (o:Option Nat):Option (Nat × Nat):=if b.length=32 then (if yOf b<PN then o.map fun z=>(z,yOf b) else none) else none
theorem rrd_is {P:PtF} {b:List UInt8} (hb:digs b=byF P) {y2 u t v i a x q:Nat} (W:OfW (yOf b) y2 u t v i a x q):rrd b (ofR (rtV a x q) (rtB a x q) (oddOf b))=some (P.x.val,P.y.val):=by
 obtain ⟨hl,hy,ho,_⟩:=rd_byP P.y.isLt (x:=P.x.val) hb;have hlt:yOf b<PN:=by rw [hy]; exact P.y.isLt
 have hg:Good (fn (yOf b)) (oddOf b) P.x:=by rw [hy,fn_val,ho]; exact ⟨P.on,rfl⟩
 have h:=ofR_good W (oddOf b) rfl;rw [rrd,if_pos hl,if_pos hlt];generalize ofR (rtV a x q) (rtB a x q) (oddOf b)=o at *
 cases o with
 | none=>exact absurd hg (h _)
 | some r =>
  have e:=good_one hg h.2;show some (r,yOf b)=_;rw [hy,← e,fn_val_lt h.1]
theorem both_read {b:List UInt8} {y2 u t v i a x q:Nat} (W:OfW (yOf b) y2 u t v i a x q) :
  (rrd b (ofR (rtV a x q) (rtB a x q) (oddOf b))=none∧(crd b).2=2) ∨
  ∃ P:PtF,rrd b (ofR (rtV a x q) (rtB a x q) (oddOf b))=some (P.x.val,P.y.val)∧(crd b).2=0∧(crd b).1.Ok∧Is (crd b).1 P∧byF P=digs b:=by
 by_cases hl:b.length=32
 ·by_cases hlt:yOf b<PN
  ·rcases crd_good hlt (oddOf b) rfl with ⟨h1,h2,z,h3,h4⟩ | ⟨h1,h2⟩
   ·right
    have hb:byF ⟨z,fn (yOf b),h3.1⟩=digs b:=by
     show byP z.val (fn (yOf b)).val=digs b;rw [fn_val_lt hlt];exact byP_rd hl h3.2
    refine ⟨⟨z,fn (yOf b),h3.1⟩,rrd_is hb.symm W,?_,?_,?_,hb⟩
    ·rw [crd,if_pos hl,if_pos hlt]; exact h1
    ·rw [crd,if_pos hl,if_pos hlt]; exact h2
    ·rw [crd,if_pos hl,if_pos hlt]; exact h4
   ·left
    have h:=ofR_good W (oddOf b) rfl;generalize ofR (rtV a x q) (rtB a x q) (oddOf b)=o at *;refine ⟨?_,by rw [crd,if_pos hl,if_pos hlt]; exact h1⟩
    cases o with
    | none=>rw [rrd,if_pos hl,if_pos hlt]; rfl
    | some r=>exact absurd h.2 (h2 _)
  ·left
   exact ⟨by rw [rrd,if_pos hl,if_neg hlt],by rw [crd,if_pos hl,if_neg hlt]⟩
 ·left
  exact ⟨by rw [rrd,if_neg hl],by rw [crd,if_neg hl]⟩
theorem onB_is (P:PtF):onB P.x.val P.y.val=true:=by
 rw [onB,decide_eq_true_iff];have h:=P.on
 have e:fn ((P.y.val*P.y.val%PN+PN - P.x.val*P.x.val%PN)%PN)=fn ((1+dN*(P.x.val*P.x.val%PN*(P.y.val*P.y.val%PN)%PN)%PN)%PN):=by
  rw [fn_sub (Nat.le_of_lt (mod_lt' _)),fn_mulm,fn_mulm,fn_addm,fn_mulm,fn_mulm,fn_mulm,fn_mulm,fn_val,fn_val,fn_one,← dF];unfold Ed.On at h;exact h.trans (g_onB _ _ _)
 have h1:=congrArg Fin.val e
 rwa [fn_val_lt (mod_lt' _),fn_val_lt (mod_lt' _)] at h1
end Go.Proofs.YtdgheahbafnboaaDoor
/-
  Walk: sign's Verify.
-/
namespace Go.Proofs.YtdgheahbafnboaaDoor
set_option linter.unusedSimpArgs false
set_option linter.unusedVariables false
open Go.RowKit
def verR (p m s:List UInt8):Pt4:=addP (bmP (s.drop 32)) (mulP (negP (crd p).1) (byB (hshN (s.take 32++p++m))))
def verS (p m s:List UInt8):Nat :=
 if (crd p).2=0 then (if s.length=64 then (if isB (s.drop 32)=true then (if bsN (bytP (verR p m s))=s.take 32 then 0 else 10) else 10) else 10) else 11
theorem crd_at {b:List UInt8} (h:(crd b).2=0):b.length=32∧(crd b).1.Ok∧∃ P:PtF,Is (crd b).1 P∧byF P=digs b:=by
 by_cases hl:b.length=32
 ·by_cases hlt:yOf b<PN
  ·have e:crd b=crdR (ofN (yOf b)) dE (oddOf b):=by rw [crd,if_pos hl,if_pos hlt]
   rw [e] at h ⊢
   rcases crd_good hlt (oddOf b) rfl with ⟨h1,h2,z,h3,h4⟩ | ⟨h1,h2⟩
   ·refine ⟨hl,h2,_,h4,?_⟩;show byP z.val (fn (yOf b)).val=digs b;rw [fn_val_lt hlt];exact byP_rd hl h3.2
   ·rw [h1] at h; exact absurd h (by decide)
  ·rw [crd,if_pos hl,if_neg hlt] at h; exact absurd h (by show ¬ (2:Nat)=0; decide)
 ·rw [crd,if_neg hl] at h; exact absurd h (by show ¬ (2:Nat)=0; decide)
theorem verR_is {p m s:List UInt8} {P:PtF} (h0:(crd p).1.Ok) (hP:Is (crd p).1 P) (hs:s.length=64) :
  (verR p m s).Ok∧Is (verR p m s) (plus (times baseF (leV (digs (s.drop 32)))) (times (Ed.neg P) (hshN (s.take 32++p++m)))):=by
 have h1:(s.drop 32).length=32:=by rw [List.length_drop,hs]
 have ho:=mulP_ok (negP_ok h0) (byB (hshN (s.take 32++p++m)));refine ⟨addP_ok (bmP_ok _) ho,Is.add (bmP_ok _) ho (bmP_is h1) ?_⟩;have e:=Is.mul (negP_ok h0) (Is.neg h0 hP) (byB (hshN (s.take 32++p++m)));rw [List.take_of_length_le (l:=byB (hshN (s.take 32++p++m))) (by rw [byB_length]; exact Nat.le_refl _),digs_byB_val (hshN_lt _)] at e;exact e
theorem rd_from32 {w:World} {B:Nat} {S:Option Addr} {xs:List Value} (h:Rd w B S xs):Rd w B (S.map fun x=>{ block:=x.block,off:=x.off+32 }) (xs.drop 32):=by
 cases S with
 | none =>
  intro i u hu;rw [List.getElem?_drop] at hu;obtain ⟨ad,e,_⟩:=h _ _ hu
  cases e
 | some ad =>
  have e:=rd_drop h 32
  rwa [Addr.add_succ' ad 31] at e
theorem rd_from32B {w:World} {B:Nat} {S:Option Addr} {l:List UInt8} (h:Rd w B S (bytesV l)):Rd w B (S.map fun x=>{ block:=x.block,off:=x.off+32 }) (bytesV (l.drop 32)):=by
 rw [show bytesV (l.drop 32)=(bytesV l).drop 32 by rw [bytesV,bytesV,List.map_drop]];exact rd_from32 h
theorem bytP_isdg {p:Pt4} {P:PtF} (hp:p.Ok) (h:Is p P):Dg (bytP p):=by
 rw [bytP_is hp h];exact byP_dg P.y.isLt
set_option maxRecDepth 100000 in
set_option maxHeartbeats 4000000 in
theorem sverify_any (p m s:List UInt8) (lp:p.length≤200) (lm:m.length≤200) (ls:s.length≤200) (A M S:Option Addr) (ca cm cs:Nat) (w:World) (rp:Rd w w.heap.size A (bytesV p)) (rm:Rd w w.heap.size M (bytesV m)) (rs:Rd w w.heap.size S (bytesV s)) (hca:p.length≤ca) (hcs:s.length≤cs) (hG:Sh.TabG w) :
  Calls Tryd.prog 15 #[.slice A p.length ca,.slice M m.length cm,.slice S s.length cs] w (fun e w'=>e=.returned (.int .i64 (verS p m s:Int))∧Below w.heap.size w w'):=by
 have hp:=Tryd.underlying41;have hcr:=cread_any p A ca w rp hca (by omega);obtain ⟨Q,hQ⟩:∃ Q,Q=(crd p).1:=⟨_,rfl⟩;obtain ⟨k,hk⟩:∃ k,k=(crd p).2:=⟨_,rfl⟩
 have hk2:k=0∨k=2:=by
  rw [hk,crd]
  split
  ·split
   ·rw [crdR]
    split
    ·split
     ·exact .inl rfl
     ·split
      ·exact .inr rfl
      ·exact .inl rfl
    ·exact .inr rfl
   ·exact .inr rfl
  ·exact .inr rfl
 unfold CReadPost at hcr;rw [← hQ,← hk] at hcr;obtain ⟨np,hnp⟩:∃ n,n=p.length:=⟨_,rfl⟩;obtain ⟨nm,hnm⟩:∃ n,n=m.length:=⟨_,rfl⟩;obtain ⟨ns,hns⟩:∃ n,n=s.length:=⟨_,rfl⟩;have hnp':(np:Int)≤200:=by omega
 have hnm':(nm:Int)≤200:=by omega
 have hns':(ns:Int)≤200:=by omega
 have hcs':ns≤cs:=by omega
 rw [← hnp,← hnm,← hns];rw [← hnp] at hcr;have HCR:=zY hcr;have HQ:=zY hQ;have HK:=zY hk;have HNP:=zY hnp;have HNM:=zY hnm;have HNS:=zY hns;have HG:=zY hG;have HST:=zY (show Cs [.rd A (bytesV p),.rd M (bytesV m),.rd S (bytesV s)] w w from ⟨⟨rp,rm,rs,trivial⟩,Below.refl _ _⟩);obtain ⟨V,hV⟩:∃ V,V=verS p m s:=⟨_,rfl⟩;rw [← hV];have HV:=zY hV;clear hcr hQ hk hnp hnm hns hG rp rm rs hV lp lm ls hca hcs
 rcases hk2 with hk0 | hk0
 ·subst hk0
  by_cases h64:ns=64
  ·subst h64;obtain ⟨h32,okQ,F,isQ,hF⟩:=crd_at HK.out.symm;obtain ⟨B1,hB1⟩:∃ x,x=s.take 32:=⟨_,rfl⟩;obtain ⟨B2,hB2⟩:∃ x,x=s.drop 32:=⟨_,rfl⟩;have l1:B1.length=32:=by rw [hB1,List.length_take,← HNS.out]; rfl
   have l2:B2.length=32:=by rw [hB2,List.length_drop,← HNS.out]
   have np32:np=32:=by rw [HNP.out,h32]
   subst np32;have HST0:Hid (Cs [.rd A (bytesV p),.rd M (bytesV m),.rd S (bytesV B1),.rd (S.map fun x=>{ block:=x.block,off:=x.off+32 }) (bytesV B2)] w w):=zY ⟨⟨HST.out.1.1,HST.out.1.2.1,by rw [hB1]; exact rd_takeB HST.out.1.2.2.1,by rw [hB2]; exact rd_from32B HST.out.1.2.2.1,trivial⟩,HST.out.2⟩;obtain ⟨S2,hS2⟩:∃ S2:Option Addr,S2=S.map fun x=>{ block:=x.block,off:=x.off+32 }:=⟨_,rfl⟩;rw [← hS2] at HST0;replace HST:=HST0;clear HST0
   have CI:=zY (show ∀ u c,Rd u u.heap.size S2 (bytesV B2)→Calls Tryd.prog 30 #[.slice S2 32 c] u (BoolPost (isB B2) u) from fun u c h=>by
    have e:=scl_is B2 S2 c u h (by rw [l2]; decide);rw [l2] at e;exact e)
   obtain ⟨D,hD⟩:∃ D,D=B1++p++m:=⟨_,rfl⟩;have CD:=zY (show ∀ u A B E ca cb cd,Rd u u.heap.size A (bytesV B1)→Rd u u.heap.size B (bytesV p)→Rd u u.heap.size E (bytesV m)→Sh.TabG u→Calls Tryd.prog 21 #[.slice (some ⟨u.heap.size,0,none⟩) 3 3] (u.alloc (.cells #[.slice A 32 ca,.slice B 32 cb,.slice E nm cd] 22)) (DgPost D u) from fun u A B E ca cb cd h1 h2 h3 g=>by rw [hD]; exact dig3 B1 p m nm l1 h32 HNM.out.symm (by omega) A B E ca cb cd u h1 h2 h3 g);obtain ⟨H,hH⟩:∃ H,H=byB (hshN D):=⟨_,rfl⟩;have lH:H.length=32:=by rw [hH,byB_length]
   have CR:=zY (show ∀ u A c,Rd u u.heap.size A (bytesV (Sh.digS Sh.F64 D))→Calls Tryd.prog 20 #[.slice A 64 c] u (NbPost H u) from fun u A c h=>by rw [hH]; exact sreduce_any D A c u h);obtain ⟨B,hB⟩:∃ B,B=baseP:=⟨_,rfl⟩;obtain ⟨P,hP⟩:∃ P,P=bmP B2:=⟨_,rfl⟩;have okP:P.Ok:=by rw [hP]; exact bmP_ok B2
   have CB:=zY (show ∀ u,Calls Tryd.prog 17 #[] u (PtPost B u) from fun u=>by rw [hB]; exact base_any u);have CM:=zY (show ∀ A c u,Rd u u.heap.size A (bytesV B2)→32≤c→Calls Tryd.prog 18 #[.agg (ptV B),.slice A 32 c] u (PtPost P u) from fun A c u h1 h2=>by rw [hB,hP]; exact bm_any B2 l2 A c u h1 h2);have okQ':Q.Ok:=by rw [HQ.out]; exact okQ
   obtain ⟨N,hN⟩:∃ N,N=negP Q:=⟨_,rfl⟩;have okN:N.Ok:=by rw [hN]; exact negP_ok okQ'
   have CN:=zY (show ∀ u,Calls Tryd.prog 32 #[.agg (ptV Q)] u (PtPost N u) from fun u=>by rw [hN]; exact pneg_any Q u okQ');obtain ⟨T,hT⟩:∃ T,T=mulP N H:=⟨_,rfl⟩;have okT:T.Ok:=by rw [hT]; exact mulP_ok okN H
   have CT:=zY (show ∀ A c u,Rd u u.heap.size A (bytesV H)→32≤c→Calls Tryd.prog 18 #[.agg (ptV N),.slice A 32 c] u (PtPost T u) from fun A c u h1 h2=>by
    have e:=pmul_any N okN H A c u h1 (by omega);rw [lH,← hT] at e;exact e)
   obtain ⟨R,hR⟩:∃ R,R=addP P T:=⟨_,rfl⟩;have CA:=zY (show ∀ u,Calls Tryd.prog 31 #[.agg (ptV P),.agg (ptV T)] u (PtPost R u) from fun u=>by rw [hR]; exact padd_any P T u okP okT);have hRv:R=verR p m s:=by rw [verR,hR,hP,hT,hN,hH,hD,HQ.out,hB1,hB2]
   obtain ⟨okR,isR⟩:=verR_is (m:=m) okQ isQ HNS.out.symm;rw [← hRv] at okR isR;obtain ⟨L,hL⟩:∃ L,L=bsN (bytP R):=⟨_,rfl⟩;have lL:L.length=32:=by rw [hL,bsN,List.length_map,bytP_length]
   have CY:=zY (show ∀ u,Calls Tryd.prog 19 #[.agg (ptV R)] u (fun e w'=>∃ o,e=.returned (.slice (some ⟨o,0,none⟩) 32 32)∧u.heap.size≤o∧Blk w' o 5 (bytesV L).toArray∧Below u.heap.size u w') from fun u=>by
    have e:=pbytes_any R okR u;unfold PbyPost at e;rw [bnV_bsN (bytP_isdg okR isR),← hL] at e;exact e)
   obtain ⟨q,hq⟩:∃ q,q=decide (L=B1):=⟨_,rfl⟩
   have CE:=zY (show ∀ u A1 A2 c1 c2,Rd u u.heap.size A1 (bytesV L)→Rd u u.heap.size A2 (bytesV B1)→32≤c1→32≤c2→Calls Tryd.prog 33 #[.slice A1 32 c1,.slice A2 32 c2] u (BoolPost q u) from fun u A1 A2 c1 c2 h1 h2 h3 h4=>by
    have e:=bequal_any L B1 A1 A2 c1 c2 u h1 h2 (by omega) (by omega) (by omega);rw [lL,l1,← hq] at e;exact e)
   have hVV:V=if isB B2=true then (if q=true then 0 else 10) else 10:=by
    rw [HV.out,verS,if_pos HK.out.symm,if_pos HNS.out.symm,← hB2,← hRv,← hL,← hB1,hq];simp only [decide_eq_true_eq]
   have HVV:=zY hVV;obtain ⟨ib,hib⟩:∃ ib,ib=isB B2:=⟨_,rfl⟩;rw [← hib] at CI HVV;have hcs2:32≤cs - 32:=by omega
   clear h32 okQ isQ hF hB1 hB2 l1 l2 hD hH lH hB hP okP okQ' hN okN hT okT hR hRv okR isR hL lL hq hVV hib HV HQ HK HNP HNS HNM;go_enter Tryd.func15,Tryd.ntmps15;go_wp2_with fail;refine calls_then HCR.out ?_;rintro e w1 ⟨rfl,hb⟩;replace HST:=zY (HST.out.next hb);replace HG:=zY (HG.out.below hb HG.out.size);clear hb HCR;go_wp2_with (refine wpList_put_box (x:=.tmp 7) (cells:=ptV Q) (Blk.new w1 41 (ptV zP)) rfl rfl rfl rfl point_size rfl (by simp [ptV,wV,limbs,Value.oneCell']) ?_; intro w2 hb2 hw2; have HQB:=zY hb2; have HW2:=zY (box_low hw2); clear hb2 hw2);replace HST:=zY (show Cs [.box w1.heap.size 41 (ptV Q),.rd A (bytesV p),.rd M (bytesV m),.rd S (bytesV B1),.rd S2 (bytesV B2)] w w2 from ⟨⟨HQB.out,(HST.out.next HW2.out).1⟩,(HST.out.next HW2.out).2⟩);replace HG:=zY (HG.out.below HW2.out HG.out.size);clear HQB HW2;rw [← hS2];refine calls_then (CI.out _ _ HST.out.1.2.2.2.2.1) ?_;rintro e w3 ⟨rfl,hb⟩;replace HST:=zY (HST.out.next hb);replace HG:=zY (HG.out.below hb HG.out.size);clear hb CI
   cases ib with
   | false =>
    go_wp2_with fail;go_ret;exact ⟨by rw [HVV.out]; rfl,HST.out.2⟩
   | true =>
    have HV2:=zY (show V=if q=true then 0 else 10 by rw [HVV.out,if_pos rfl]);clear HVV;go_wp2_with fail;refine calls_then (CD.out _ _ _ _ _ _ _ HST.out.1.2.2.2.1 HST.out.1.2.1 HST.out.1.2.2.1 HG.out) ?_;rintro e w4 ⟨A4,c4,rfl,r,hb⟩;replace HST:=zY (HST.out.next hb);have RD:=zY r;clear r hb CD HG;go_wp2_with fail;refine calls_then (CR.out _ _ _ RD.out) ?_;rintro e w5 ⟨o5,rfl,r,hb⟩;replace HST:=zY (show Cs [.rd (some ⟨o5,0,none⟩) (bytesV H),.box w1.heap.size 41 (ptV Q),.rd S (bytesV B1),.rd S2 (bytesV B2)] w w5 from ⟨⟨r,(HST.out.next hb).1.1,(HST.out.next hb).1.2.2.2.1,(HST.out.next hb).1.2.2.2.2.1,trivial⟩,(HST.out.next hb).2⟩);clear r hb CR RD;go_wp2_with fail;generalize w1.heap.size=gq at *;have HC0:Below w5.heap.size w5 w5.drew:=(Below.refl _ _).drew
    refine wp_region_list (fun u=>Below w5.heap.size w5 u) (fun | false=>(fun _=>True) | true=>(fun _=>True)) (fun | false,_=>false | true,_=>false)
     [fun z _=>z 0=.agg (ptV B),
      fun z _=>z 1=.slice S 64 cs,
      fun z _=>z 2=.slice (S.map fun x=>{ block:=x.block,off:=x.off+32 }) 32 (cs - 32),
      fun z _=>z 3=.agg (ptV P),
      fun z _=>z 4=.agg (ptV Q),
      fun z _=>z 5=.agg (ptV N),
      fun z _=>z 6=.slice (some ⟨o5,0,none⟩) 32 32,
      fun z _=>z 7=.agg (ptV T),
      fun z _=>z 8=.agg (ptV R),
      fun z u=>(NewBox w5.heap.size 41 (ptV zP)) (z 9) u,
      fun z u=>NewBox w5.heap.size 41 (ptV R) (z 9) u]
     [fun u u'=>Below u.heap.size u u',Eq,Eq,fun u u'=>Below u.heap.size u u',Eq,fun u u'=>Below u.heap.size u u',Eq,fun u u'=>Below u.heap.size u u',fun u u'=>Below u.heap.size u u',fun u u'=>Below u.heap.size u u',fun _ _=>True]
     (fun i k=>(i == 10 && k == 9)) [(0,some 36),(1,some 37),(2,some 38),(3,some 39),(4,some 40),(5,some 41),(6,some 42),(7,some 43),(8,some 44),(9,some 10),(10,none)] (by kernel_rfl) (by kernel_rfl) rfl (fun _=>rfl) ?_ ?_ ?_ ?_ ?_ ?_
    ·exact HC0
    ·intro m; cases m; exact trivial; exact trivial
    ·intro m; cases m
     ·refine ⟨.inr (fun _ _ _ h=>h),?_,?_,.inr (fun _ _ _ h=>h),?_,.inr (fun _ _ _ h=>h),?_,.inr (fun _ _ _ h=>h),.inr (fun _ _ _ h=>h),.inr (fun _ _ _ h=>h),.inr (fun _ _ _ h=>h),trivial⟩ <;> exact .inr fun _ _ h h0=>h▸h0
     ·refine ⟨.inr (fun _ _ _ h=>h),?_,?_,.inr (fun _ _ _ h=>h),?_,.inr (fun _ _ _ h=>h),?_,.inr (fun _ _ _ h=>h),.inr (fun _ _ _ h=>h),.inr (fun _ _ _ h=>h),.inr (fun _ _ _ h=>h),trivial⟩ <;> exact .inr fun _ _ h h0=>h▸h0
    ·refine ⟨⟨.inl rfl,?_,?_,?_,?_,?_,?_,?_,?_,.inr (.inr (.inr (fun _ _ _ _ h h0=>h0.next h))),?_,trivial⟩,⟨?_,.inl rfl,?_,?_,?_,?_,?_,?_,?_,.inr (.inr (.inr (fun _ _ _ _ h h0=>by cases h; exact h0))),?_,trivial⟩,⟨?_,?_,.inl rfl,?_,?_,?_,?_,?_,?_,.inr (.inr (.inr (fun _ _ _ _ h h0=>by cases h; exact h0))),?_,trivial⟩,⟨?_,?_,?_,.inl rfl,?_,?_,?_,?_,?_,.inr (.inr (.inr (fun _ _ _ _ h h0=>h0.next h))),?_,trivial⟩,⟨?_,?_,?_,?_,.inl rfl,?_,?_,?_,?_,.inr (.inr (.inr (fun _ _ _ _ h h0=>by cases h; exact h0))),?_,trivial⟩,⟨?_,?_,?_,?_,?_,.inl rfl,?_,?_,?_,.inr (.inr (.inr (fun _ _ _ _ h h0=>h0.next h))),?_,trivial⟩,⟨?_,?_,?_,?_,?_,?_,.inl rfl,?_,?_,.inr (.inr (.inr (fun _ _ _ _ h h0=>by cases h; exact h0))),?_,trivial⟩,⟨?_,?_,?_,?_,?_,?_,?_,.inl rfl,?_,.inr (.inr (.inr (fun _ _ _ _ h h0=>h0.next h))),?_,trivial⟩,⟨?_,?_,?_,?_,?_,?_,?_,?_,.inl rfl,.inr (.inr (.inr (fun _ _ _ _ h h0=>h0.next h))),?_,trivial⟩,⟨?_,?_,?_,?_,?_,?_,?_,?_,?_,.inl rfl,?_,trivial⟩,⟨?_,?_,?_,?_,?_,?_,?_,?_,?_,.inr (.inl rfl),.inl rfl,trivial⟩,trivial⟩ <;> first | exact .inr (.inr (.inl rfl)) | exact .inr (.inr (.inr fun _ _ _ _ _ h=>h))
    ·refine ⟨?_,?_,?_,?_,?_,?_,?_,?_,?_,?_,?_,trivial⟩
     ·refine step_plain [] (fun _=>rfl) rfl ?_;intro w1 vals hC1 hi0 hf E hE;clear hi0;clear hf;simp only [sP] at hE ⊢;go_wp2_with fail;refine calls_then (CB.out _) ?_;rintro e w2 ⟨rfl,hb2⟩;go_wp2_with fail;exact .mk (hE _ _ rfl (hC1.trans (hb2.mono hC1.size)) hb2)
     ·refine step_plain [] (fun _=>rfl) rfl ?_;intro w1 vals hC1 hi0 hf E hE;clear hi0;clear hf;simp only [sP] at hE ⊢;go_wp2;exact .mk (hE _ _ rfl hC1 rfl)
     ·refine step_plain [(1,some 37)] (fun _=>rfl) rfl ?_;intro w1 vals hC1 hi0 hf E hE;clear hi0;have f1:vals 1=.slice S 64 cs:=hf 1 rfl
      try dsimp only at f1
      clear hf;simp only [sP,f1] at hE ⊢;clear f1;go_wp2;exact .mk (hE _ _ rfl hC1 rfl)
     ·refine step_plain [(0,some 36),(2,some 38),(0,some 36)] (fun _=>rfl) rfl ?_;intro w1 vals hC1 hi0 hf E hE;clear hi0;have f0:vals 0=.agg (ptV B):=hf 0 rfl;have f2:vals 2=.slice (S.map fun x=>{ block:=x.block,off:=x.off+32 }) 32 (cs - 32):=hf 2 rfl
      try dsimp only at f0 f2
      clear hf;have hs:=HST.out.next hC1;have h4:=hs.1.2.2.2.1;rw [hS2] at h4;simp only [sP,f0,f2] at hE ⊢;clear f0 f2;go_wp2_with fail;refine calls_then (CM.out _ _ _ h4 hcs2) ?_;rintro e w2 ⟨rfl,hb2⟩;go_wp2_with fail;exact .mk (hE _ _ rfl (hC1.trans (hb2.mono hC1.size)) hb2)
     ·refine step_plain [] (fun _=>rfl) rfl ?_;intro w1 vals hC1 hi0 hf E hE;clear hi0;clear hf;have hs:=HST.out.next hC1;simp only [sP] at hE ⊢;refine wpList_get_box (hs.1.2.1) rfl rfl rfl hp rfl point_size ?_;go_wp2_with fail;exact .mk (hE _ _ rfl hC1 rfl)
     ·refine step_plain [(4,some 40),(3,some 39)] (fun _=>rfl) rfl ?_;intro w1 vals hC1 hi0 hf E hE;clear hi0;have f3:vals 3=.agg (ptV P):=hf 3 rfl;have f4:vals 4=.agg (ptV Q):=hf 4 rfl
      try dsimp only at f3 f4
      clear hf;simp only [sP,f3,f4] at hE ⊢;clear f3 f4;go_wp2_with fail;refine calls_then (CN.out _) ?_;rintro e w2 ⟨rfl,hb2⟩;go_wp2_with fail;exact .mk (hE _ _ rfl (hC1.trans (hb2.mono hC1.size)) hb2)
     ·refine step_plain [] (fun _=>rfl) rfl ?_;intro w1 vals hC1 hi0 hf E hE;clear hi0;clear hf;simp only [sP] at hE ⊢;go_wp2;exact .mk (hE _ _ rfl hC1 rfl)
     ·refine step_plain [(5,some 41),(6,some 42),(5,some 41)] (fun _=>rfl) rfl ?_;intro w1 vals hC1 hi0 hf E hE;clear hi0;have f5:vals 5=.agg (ptV N):=hf 5 rfl;have f6:vals 6=.slice (some ⟨o5,0,none⟩) 32 32:=hf 6 rfl
      try dsimp only at f5 f6
      clear hf;have hs:=HST.out.next hC1;simp only [sP,f5,f6] at hE ⊢;clear f5 f6;go_wp2_with fail;refine calls_then (CT.out _ _ _ hs.1.1 (Nat.le_refl _)) ?_;rintro e w2 ⟨rfl,hb2⟩;go_wp2_with fail;exact .mk (hE _ _ rfl (hC1.trans (hb2.mono hC1.size)) hb2)
     ·refine step_plain [(3,some 39),(7,some 43),(7,some 43)] (fun _=>rfl) rfl ?_;intro w1 vals hC1 hi0 hf E hE;clear hi0;have f3:vals 3=.agg (ptV P):=hf 3 rfl;have f7:vals 7=.agg (ptV T):=hf 7 rfl
      try dsimp only at f3 f7
      clear hf;simp only [sP,f3,f7] at hE ⊢;clear f3 f7;go_wp2_with fail;refine calls_then (CA.out _) ?_;rintro e w2 ⟨rfl,hb2⟩;go_wp2_with fail;exact .mk (hE _ _ rfl (hC1.trans (hb2.mono hC1.size)) hb2)
     ·refine step_plain [] (fun _=>rfl) rfl ?_;intro w1 vals hC1 hi0 hf E hE;clear hi0;clear hf;simp only [sP] at hE ⊢;go_wp2;exact .mk (hE _ _ (NewBox.of hC1.size) (hC1.alloc hC1.size _) (below_new _ _))
     ·refine step_plain [(9,some 10),(8,some 44),(8,some 44),(0,some 36),(1,some 37),(2,some 38),(3,some 39),(4,some 40),(5,some 41),(6,some 42),(7,some 43),(8,some 44),(9,some 10)] (fun _=>rfl) rfl ?_;intro w1 vals hC1 hi0 hf E hE;clear hi0;have f0:vals 0=.agg (ptV B):=hf 0 rfl;have f1:vals 1=.slice S 64 cs:=hf 1 rfl;have f2:vals 2=.slice (S.map fun x=>{ block:=x.block,off:=x.off+32 }) 32 (cs - 32):=hf 2 rfl;have f3:vals 3=.agg (ptV P):=hf 3 rfl;have f4:vals 4=.agg (ptV Q):=hf 4 rfl;have f5:vals 5=.agg (ptV N):=hf 5 rfl;have f6:vals 6=.slice (some ⟨o5,0,none⟩) 32 32:=hf 6 rfl;have f7:vals 7=.agg (ptV T):=hf 7 rfl;have f8:vals 8=.agg (ptV R):=hf 8 rfl;have f9:(NewBox w5.heap.size 41 (ptV zP)) (vals 9) w1:=hf 9 rfl
      try dsimp only at f0 f1 f2 f3 f4 f5 f6 f7 f8 f9
      clear hf;obtain ⟨o,hx,ho,hblk⟩:=f9;have hx':=hx;simp only [sP,f0,f1,f2,f3,f4,f5,f6,f7,f8,hx] at hE ⊢;clear f0 f1 f2 f3 f4 f5 f6 f7 f8;clear hx;refine wpList_put_box (cells:=ptV R) hblk rfl rfl rfl rfl point_size rfl (by simp [eV,ptV,wV,limbs,Value.oneCell']) ?_;intro w2 hb2 hw2;go_wp2_with fail;exact .mk (hE undef _ ⟨o,hx',ho,hb2⟩ (hw2.below hC1 ho hC1.size) trivial)
    intro w1 vals hC1 hf;have f0:vals 0=.agg (ptV B):=hf 0 (by decide) rfl;have f1:vals 1=.slice S 64 cs:=hf 1 (by decide) rfl;have f2:vals 2=.slice (S.map fun x=>{ block:=x.block,off:=x.off+32 }) 32 (cs - 32):=hf 2 (by decide) rfl;have f3:vals 3=.agg (ptV P):=hf 3 (by decide) rfl;have f4:vals 4=.agg (ptV Q):=hf 4 (by decide) rfl;have f5:vals 5=.agg (ptV N):=hf 5 (by decide) rfl;have f6:vals 6=.slice (some ⟨o5,0,none⟩) 32 32:=hf 6 (by decide) rfl;have f7:vals 7=.agg (ptV T):=hf 7 (by decide) rfl;have f8:vals 8=.agg (ptV R):=hf 8 (by decide) rfl;have f10:(fun z u=>NewBox w5.heap.size 41 (ptV R) (z 9) u) vals w1:=hf 10 (by decide) rfl
    try dsimp only at f0 f1 f2 f3 f4 f5 f6 f7 f8 f10
    clear hf;simp only [sP,f0,f1,f2,f3,f4,f5,f6,f7,f8];clear f0 f1 f2 f3 f4 f5 f6 f7 f8;generalize vals 9=x9 at *;obtain ⟨o6,rfl,ho6,hblk6⟩:=f10;obtain ⟨w6,rfl⟩:∃ x,x=w1:=⟨_,rfl⟩;replace HST:=zY (show Cs [.box o6 41 (ptV R),.rd S (bytesV B1)] w w6 from ⟨⟨hblk6,(HST.out.next hC1).1.2.2.1,trivial⟩,(HST.out.next hC1).2⟩);clear hC1 HC0 hblk6 ho6 CB CM CN CT CA;go_wp2_with fail;have HC0:Below w6.heap.size w6 w6.drew:=(Below.refl _ _).drew
    refine wp_region_list (fun u=>Below w6.heap.size w6 u) (fun | false=>(fun _=>True) | true=>(fun _=>True)) (fun | false,_=>false | true,_=>false)
     [fun z _=>z 0=.agg (ptV R),
      fun z u=>(fun v u=>∃ o,v=.slice (some ⟨o,0,none⟩) 32 32∧Rd u u.heap.size (some ⟨o,0,none⟩) (bytesV L)) (z 1) u,
      fun z _=>z 2=.slice S 64 cs,
      fun z _=>z 3=.slice S 32 cs,
      fun z _=>z 4=.bool q,
      fun z _=>z 5=.bool (!q)]
     [Eq,fun u u'=>Below u.heap.size u u',Eq,Eq,fun u u'=>Below u.heap.size u u',Eq]
     (fun _ _=>false) [(0,some 45),(1,some 46),(2,some 47),(3,some 48),(4,some 49),(5,some 50)] (by kernel_rfl) (by kernel_rfl) rfl (fun _=>rfl) ?_ ?_ ?_ ?_ ?_ ?_
    ·exact HC0
    ·intro m; cases m; exact trivial; exact trivial
    ·intro m; cases m
     ·refine ⟨?_,.inr (fun _ _ _ h=>h),?_,?_,.inr (fun _ _ _ h=>h),?_,trivial⟩ <;> exact .inr fun _ _ h h0=>h▸h0
     ·refine ⟨?_,.inr (fun _ _ _ h=>h),?_,?_,.inr (fun _ _ _ h=>h),?_,trivial⟩ <;> exact .inr fun _ _ h h0=>h▸h0
    ·refine ⟨⟨.inl rfl,?_,?_,?_,?_,?_,trivial⟩,⟨?_,.inl rfl,?_,?_,?_,?_,trivial⟩,⟨?_,.inr (.inr (.inr (fun _ _ _ _ h h0=>by cases h; exact h0))),.inl rfl,?_,?_,?_,trivial⟩,⟨?_,.inr (.inr (.inr (fun _ _ _ _ h h0=>by cases h; exact h0))),?_,.inl rfl,?_,?_,trivial⟩,⟨?_,.inr (.inr (.inr (fun _ _ _ _ h h0=>h0.elim fun o k=>⟨o,k.1,rd_next k.2 h⟩))),?_,?_,.inl rfl,?_,trivial⟩,⟨?_,.inr (.inr (.inr (fun _ _ _ _ h h0=>by cases h; exact h0))),?_,?_,?_,.inl rfl,trivial⟩,trivial⟩ <;> first | exact .inr (.inr (.inl rfl)) | exact .inr (.inr (.inr fun _ _ _ _ _ h=>h))
    ·refine ⟨?_,?_,?_,?_,?_,?_,trivial⟩
     ·refine step_plain [] (fun _=>rfl) rfl ?_;intro w1 vals hC1 hi0 hf E hE;clear hi0;clear hf;have hs:=HST.out.next hC1;simp only [sP] at hE ⊢;refine wpList_get_box (hs.1.1) rfl rfl rfl hp rfl point_size ?_;go_wp2_with fail;exact .mk (hE _ _ rfl hC1 rfl)
     ·refine step_plain [(0,some 45)] (fun _=>rfl) rfl ?_;intro w1 vals hC1 hi0 hf E hE;clear hi0;have f0:vals 0=.agg (ptV R):=hf 0 rfl
      try dsimp only at f0
      clear hf;simp only [sP,f0] at hE ⊢;clear f0;go_wp2_with fail;refine calls_then (CY.out _) ?_;rintro e w2 ⟨o,rfl,ho,hk,hb2⟩;have hr:=Rd.of_blk hk hk.lt;go_wp2_with fail;exact .mk (hE _ _ ⟨o,rfl,hr⟩ (hC1.trans (hb2.mono hC1.size)) hb2)
     ·refine step_plain [] (fun _=>rfl) rfl ?_;intro w1 vals hC1 hi0 hf E hE;clear hi0;clear hf;simp only [sP] at hE ⊢;go_wp2;exact .mk (hE _ _ rfl hC1 rfl)
     ·refine step_plain [(2,some 47)] (fun _=>rfl) rfl ?_;intro w1 vals hC1 hi0 hf E hE;clear hi0;have f2:vals 2=.slice S 64 cs:=hf 2 rfl
      try dsimp only at f2
      clear hf;simp only [sP,f2] at hE ⊢;clear f2;go_wp2;exact .mk (hE _ _ rfl hC1 rfl)
     ·refine step_plain [(1,some 46),(3,some 48),(1,some 46)] (fun _=>rfl) rfl ?_;intro w1 vals hC1 hi0 hf E hE;clear hi0;have f1:(fun v u=>∃ o,v=.slice (some ⟨o,0,none⟩) 32 32∧Rd u u.heap.size (some ⟨o,0,none⟩) (bytesV L)) (vals 1) w1:=hf 1 rfl;have f3:vals 3=.slice S 32 cs:=hf 3 rfl
      try dsimp only at f1 f3
      clear hf;have hs:=HST.out.next hC1;obtain ⟨o,hx,hr⟩:=f1;simp only [sP,f3,hx] at hE ⊢;clear f3;clear hx;go_wp2_with fail;refine calls_then (CE.out _ _ _ _ _ hr hs.1.2.1 (Nat.le_refl _) (by omega)) ?_;rintro e w2 ⟨rfl,hb2⟩;go_wp2_with fail;exact .mk (hE _ _ rfl (hC1.trans (hb2.mono hC1.size)) hb2)
     ·refine step_plain [(4,some 49)] (fun _=>rfl) rfl ?_;intro w1 vals hC1 hi0 hf E hE;clear hi0;have f4:vals 4=.bool q:=hf 4 rfl
      try dsimp only at f4
      clear hf;simp only [sP,f4] at hE ⊢;clear f4;go_wp2;exact .mk (hE _ _ rfl hC1 rfl)
    intro w1 vals hC1 hf;have f0:vals 0=.agg (ptV R):=hf 0 (by decide) rfl;have f1:(fun v u=>∃ o,v=.slice (some ⟨o,0,none⟩) 32 32∧Rd u u.heap.size (some ⟨o,0,none⟩) (bytesV L)) (vals 1) w1:=hf 1 (by decide) rfl;have f2:vals 2=.slice S 64 cs:=hf 2 (by decide) rfl;have f3:vals 3=.slice S 32 cs:=hf 3 (by decide) rfl;have f4:vals 4=.bool q:=hf 4 (by decide) rfl;have f5:vals 5=.bool (!q):=hf 5 (by decide) rfl
    try dsimp only at f0 f1 f2 f3 f4 f5
    clear hf;simp only [sP,f0,f2,f3,f4,f5];clear f0 f2 f3 f4 f5;generalize vals 1=x1 at *;obtain ⟨w7,rfl⟩:∃ x,x=w1:=⟨_,rfl⟩;obtain ⟨o7,rfl,hr7⟩:=f1;have HF:=zY (HST.out.next hC1).2;clear hC1 HC0 HST hr7 CY CE
    cases q with
    | false =>
     go_wp2_with fail;go_ret;exact ⟨by rw [HV2.out]; rfl,HF.out⟩
    | true =>
     go_wp2_with fail;go_ret;exact ⟨by rw [HV2.out]; rfl,HF.out⟩
  ·have h64':¬ (ns:Int)=64:=by omega
   have hVV:V=10:=by rw [HV.out,verS,if_pos HK.out.symm,if_neg (by rw [← HNS.out]; exact h64)]
   have HVV:=zY hVV;clear hVV HV HQ HK HNP HNS HNM h64;go_enter Tryd.func15,Tryd.ntmps15;go_wp2_with fail;refine calls_then HCR.out ?_;rintro e w1 ⟨rfl,hb⟩;replace HST:=zY (HST.out.next hb);replace HG:=zY (HG.out.below hb HG.out.size);clear hb HCR;go_wp2_with (refine wpList_put_box (x:=.tmp 7) (cells:=ptV Q) (Blk.new w1 41 (ptV zP)) rfl rfl rfl rfl point_size rfl (by simp [ptV,wV,limbs,Value.oneCell']) ?_; intro w2 hb2 hw2; have HQB:=zY hb2; have HW2:=zY (box_low hw2); clear hb2 hw2);replace HST:=zY (show Cs [.box w1.heap.size 41 (ptV Q),.rd A (bytesV p),.rd M (bytesV m),.rd S (bytesV s)] w w2 from ⟨⟨HQB.out,(HST.out.next HW2.out).1⟩,(HST.out.next HW2.out).2⟩);replace HG:=zY (HG.out.below HW2.out HG.out.size);clear HQB HW2;go_ret;exact ⟨by rw [HVV.out]; rfl,HST.out.2⟩
 ·subst hk0;have hVV:V=11:=by rw [HV.out,verS,if_neg (by rw [← HK.out]; decide)]
  have HVV:=zY hVV;clear hVV HV HQ HK HNP HNS HNM;go_enter Tryd.func15,Tryd.ntmps15;go_wp2_with fail;refine calls_then HCR.out ?_;rintro e w1 ⟨rfl,hb⟩;replace HST:=zY (HST.out.next hb);replace HG:=zY (HG.out.below hb HG.out.size);clear hb HCR;go_wp2_with (refine wpList_put_box (x:=.tmp 7) (cells:=ptV Q) (Blk.new w1 41 (ptV zP)) rfl rfl rfl rfl point_size rfl (by simp [ptV,wV,limbs,Value.oneCell']) ?_; intro w2 hb2 hw2; have HQB:=zY hb2; have HW2:=zY (box_low hw2); clear hb2 hw2);replace HST:=zY (show Cs [.box w1.heap.size 41 (ptV Q),.rd A (bytesV p),.rd M (bytesV m),.rd S (bytesV s)] w w2 from ⟨⟨HQB.out,(HST.out.next HW2.out).1⟩,(HST.out.next HW2.out).2⟩);replace HG:=zY (HG.out.below HW2.out HG.out.size);clear HQB HW2;go_ret;exact ⟨by rw [HVV.out]; rfl,HST.out.2⟩
end Go.Proofs.YtdgheahbafnboaaDoor
/-
  Plain: what is signed is verified; so many of the base, L of them, come to nothing.
-/
namespace Go.Proofs.YtdgheahbafnboaaDoor
set_option linter.unusedSimpArgs false
set_option linter.unusedVariables false
open Go.RowKit
set_option maxRecDepth 100000
theorem bmL_x:(bmP (byB LN)).x.val%PN=0:=by decide +kernel
theorem bmL_y:(bmP (byB LN)).y.val%PN=(bmP (byB LN)).z.val%PN:=by decide +kernel
theorem byB_LN:leV (digs (byB LN))=LN:=by decide +kernel
theorem base_order:∀ n,n=LN→times baseF n=zeroF:=by
 intro n hn
 have h:Is (bmP (byB LN)) (times baseF n):=by
  have h:=bmP_is (kb:=byB LN) (byB_length _);rw [byB_LN] at h;rw [hn];exact h
 clear hn;generalize times baseF n=P at h ⊢;have hx:fv (bmP (byB LN)).x=0:=by rw [fv,← fn_zero,fn_eq,bmL_x]; rfl
 have hy:fv (bmP (byB LN)).y=fv (bmP (byB LN)).z:=by rw [fv,fv,fn_eq,bmL_y]
 have h1:P.x=0:=Ed.fac FF (by rw [← h.x,hx]) h.z;have h2:P.y=1:=Ed.cancel FF h.z (by rw [← h.y,hy]; generalize fv (bmP (byB LN)).z=z; grind -lia);exact Ed.Pn.eq h1 h2
section
open Ed
variable {n:Nat} [NeZero n] {d:Fin n} {iv:Fin n→Fin n}
theorem neg_add (F:Ed.Fld n d iv) (A P:Ed.Pn n d):Ed.add F (Ed.neg A) (Ed.neg P)=Ed.neg (Ed.add F A P):=by
 apply Ed.neg_eq F;rw [Ed.add_assoc F (Ed.neg A) (Ed.neg P) (Ed.add F A P),← Ed.add_assoc F (Ed.neg P) A P,Ed.add_comm F (Ed.neg P) A,Ed.add_assoc F A (Ed.neg P) P,Ed.add_comm F (Ed.neg P) P,Ed.add_neg F P,Ed.add_zero F A,Ed.add_comm F (Ed.neg A) A,Ed.add_neg]
theorem neg_zero (F:Ed.Fld n d iv):Ed.neg (Ed.zero d)=Ed.zero d:=by
 have h:=Ed.add_neg F (Ed.zero d)
 rwa [Ed.zero_add] at h
theorem mul_neg (F:Ed.Fld n d iv) (P:Ed.Pn n d):∀ k,Ed.mul F (Ed.neg P) k=Ed.neg (Ed.mul F P k)
 | 0=>(neg_zero F).symm
 | k+1=>by
  show Ed.add F (Ed.mul F (Ed.neg P) k) (Ed.neg P)=Ed.neg (Ed.add F (Ed.mul F P k) P);rw [mul_neg F P k,neg_add]
end
theorem times_mod {l:Nat} (hl:times baseF l=zeroF) (N:Nat):times baseF (N%l)=times baseF N:=by
 have e:times baseF N=plus (times baseF (l*(N/l))) (times baseF (N%l)):=by
  have h:=Ed.mul_add FF baseF (l*(N/l)) (N%l);rw [Nat.div_add_mod] at h;exact h
 have e2:times baseF (l*(N/l))=zeroF:=by
  have h:=Ed.mul_mul FF baseF l (N/l);rw [show Ed.mul FF baseF l=Ed.zero dF from hl,Ed.mul_zero] at h;exact h
 rw [e,e2];exact (Ed.zero_add FF _).symm
theorem round_plain {l:Nat} (hl:times baseF l=zeroF) (h k r:Nat):plus (times baseF ((h*k+r)%l)) (times (Ed.neg (times baseF k)) h)=times baseF r:=by
 have e1:times baseF ((h*k+r)%l)=plus (times baseF (h*k)) (times baseF r):=by
  rw [times_mod hl];exact Ed.mul_add FF baseF (h*k) r
 have e2:times (Ed.neg (times baseF k)) h=Ed.neg (times baseF (h*k)):=by
  have h1:=mul_neg FF (times baseF k) h;rw [show Ed.mul FF (times baseF k) h=times baseF (h*k) by rw [Nat.mul_comm h k]; exact (Ed.mul_mul FF baseF k h).symm] at h1;exact h1
 rw [e1,e2];generalize times baseF (h*k)=X;generalize times baseF r=R;rw [plus,plus,Ed.add_comm FF X R,Ed.add_assoc,Ed.add_neg,Ed.add_zero]
theorem ptB_digs (n:Nat):digs (ptB n)=byF (times baseF n):=by rw [ptB,digs_bsN (pubL_dg n),pubL]
theorem ver_sign (b m:List UInt8):verS (ptB (keyN b)) m (sigB b m)=0:=by
 obtain ⟨h0,hok,his⟩:=crd_is (ptB_digs (keyN b))
 have hib:isB ((sigB b m).drop 32)=true:=by
  rw [sigB_drop,isB,byB_length,digs_byB_val (sigN_lt b m),decide_eq_true (sigN_lt b m)];rfl
 rw [verS,if_pos h0,if_pos (sigB_len b m),if_pos hib,if_pos];obtain ⟨hR,hI⟩:=verR_is (m:=m) hok his (sigB_len b m);rw [sigB_drop,sigB_take,digs_byB_val (sigN_lt b m)] at hI;obtain ⟨l,hl⟩:∃ l,l=LN:=⟨_,rfl⟩;have hs:sigN b m=(hshN (ptB (secN b m)++ptB (keyN b)++m)*keyN b+secN b m)%l:=by rw [hl]; rfl
 rw [hs,round_plain (base_order l hl)] at hI;rw [sigB_take,bytP_is hR hI,ptB,pubL]
theorem ver_great (b m s:List UInt8) (hs:s.length=64) (hg:LN≤leV (digs (s.drop 32))):verS (ptB (keyN b)) m s=10:=by
 obtain ⟨h0,hok,his⟩:=crd_is (ptB_digs (keyN b))
 have hib:¬ isB (s.drop 32)=true:=by
  rw [isB,decide_eq_false (Nat.not_lt.mpr hg),Bool.and_false]
  decide
 rw [verS,if_pos h0,if_pos hs,if_neg hib]
end Go.Proofs.YtdgheahbafnboaaDoor
