/-
  Joined texts: Rf Rg Ri Rw Rv Pm Sm Smc Dge St RegV SumP Rev Cd Pa Pmul Pby Bas Prime Ptn Rn Clo Bsn Secp NegW Ed.
-/
import Derived.Test.YtdgheahbafnboaaDoorJ2
import Derived.Test.YtdgheahbafnboaaDoorJ1
/-
  Walk: the reference's Fold.
-/
namespace Go.Proofs.YtdgheahbafnboaaDoor
set_option linter.unusedSimpArgs false
set_option linter.unusedVariables false
open Go.RowKit
def lenF:Value→Nat | .slice _ n _=>n | _=>0
theorem add32 (ad:Addr):some (⟨ad.block,ad.off+32,none⟩:Addr)=some (ad.add 32):=by simp [Addr.add]
theorem rd_digs {w:World} {B n:Nat} {A:Option Addr} {l:List Nat} (h:Rd w B A (dV l)):Rd w B A (dV (l.take n)):=by
 have h1:=rd_take h n;rw [dV,← List.map_take] at h1;exact h1
theorem rd_digs_drop {w:World} {B n:Nat} {ad:Addr} {l:List Nat} (h:Rd w B (some ad) (dV l)):Rd w B (some (ad.add n)) (dV (l.drop n)):=by
 have h1:=rd_drop h n;rw [dV,← List.map_drop] at h1;exact h1
theorem digVal_take {u:World} {B n:Nat} {A:Option Addr} {l:List Nat} (c:Nat) (h:Rd u B A (dV l)) (hn:n≤l.length):digVal (.slice A n c) u=leV (l.take n):=by
 have h1:=digVal_rd (l:=l.take n) c (rd_digs h);rw [List.length_take,Nat.min_eq_left hn] at h1;exact h1
set_option maxRecDepth 100000 in
set_option maxHeartbeats 4000000 in
theorem fold_any (a:List Nat) (ha:Dg a) (A:Option Addr) (c:Nat) (w:World) (hra:Rd w w.heap.size A (dV a)) (hc:a.length≤c) (hla:a.length≤1000000) :
  Calls Tryd.prog 78 #[.slice A a.length c] w (DigPost (digN 32 (leV a%PN)) w):=by
 obtain ⟨n,hn⟩:∃ n,n=a.length:=⟨_,rfl⟩;obtain ⟨N0,hN0⟩:∃ N,N=leV a:=⟨_,rfl⟩;rw [← hn,← hN0]
 have hst0:∃ (l:List Nat) (A1:Option Addr) (c1:Nat),Value.slice A n c=.slice A1 l.length c1∧Dg l∧l.length≤1000000∧l.length≤c1∧leV l%PN=N0%PN∧Rd w w.heap.size A1 (dV l)∧Below w.heap.size w w :=
  ⟨a,A,c,by rw [hn],ha,hla,hc,by rw [hN0],hra,Below.refl _ _⟩
 have HST0:=zY hst0;clear hst0 hn hN0 ha hra hc hla;go_enter Tryd.func78,Tryd.ntmps78;go_wp2_with fail;generalize hg:w.heap.size=g at HST0 ⊢;have HG:=zY hg;clear hg
 go_loopw [0] (fun v wr=>∃ (l:List Nat) (A1:Option Addr) (c1:Nat),v=.slice A1 l.length c1∧Dg l∧l.length≤1000000∧l.length≤c1∧leV l%PN=N0%PN∧Rd wr wr.heap.size A1 (dV l)∧Below g w wr) (fun v wr=>digVal v wr)
 case atStart=>have h:=HST0.out; rw [HG.out]; exact h
 case round =>
  clear HST0;obtain ⟨l,A1,c1,rfl,hl,hlen,hlc,hmod,hrd,hbel⟩:=hrel;obtain ⟨m,hm⟩:∃ m,m=l.length:=⟨_,rfl⟩;rw [← hm];have hm63:(m:Int)≤1000000:=by omega
  have hmc:(m:Int)≤(c1:Int):=by omega
  have hin0:leV (l.take m)=leV l:=by rw [hm,List.take_length]
  have HL:=zY hl;have HM:=zY hm;have HMOD:=zY hmod;have HRD:=zY hrd;have HBEL:=zY hbel;have HIN0:=zY hin0;clear hl hlen hlc hm hmod hrd hbel hin0;go_wp2_with fail
  go_loop [0] (fun v=>∃ k:Nat,k≤m∧v=.slice A1 k c1∧leV (l.take k)=leV l) (fun v=>lenF v)
  case atStart=>exact ⟨m,Nat.le_refl _,rfl,HIN0.out⟩
  case round =>
   clear HIN0;obtain ⟨k,hk,rfl,hin⟩:=hrel
   by_cases h32:32<k
   ·have h32':(k:Int) > 32:=by omega
    obtain ⟨p,hp⟩:∃ p,k=p+1:=⟨k - 1,by omega⟩;have hpi:(k:Int) - 1=(p:Int):=by omega
    obtain ⟨ad,rfl,hcell⟩:=dig_cell HRD.out (k:=p) (by rw [← HM.out]; omega);obtain ⟨x,hx⟩:∃ x,x=l.getD p 0:=⟨_,rfl⟩;rw [← hx] at hcell;have hpk:(p:Int)<(k:Int):=by omega
    have hkm:(k:Int)≤(m:Int):=by omega
    by_cases hx0:x=0
    ·subst hx0
     have hnext:leV (l.take p)=leV l:=by
      rw [← hin,hp,leV_take_step,← hx]; simp
     have HNEXT:=zY hnext;have HK:=zY hk;have HP:=zY hp;clear hnext hx hin hk hp h32;go_wp2_with fail;exact ⟨⟨p,by have:=HK.out; have:=HP.out; omega,rfl,HNEXT.out⟩,by have:=HP.out; simp [lenF]; omega⟩
    ·have hx0':¬ (x:Int)=0:=by omega
     obtain ⟨q,hq⟩:∃ q,k=q+32:=⟨k - 32,by omega⟩;have hqi:(k:Int) - 32=(q:Int):=by omega
     have hkc:(k:Int)≤(c1:Int):=by omega
     obtain ⟨L,hL⟩:∃ L,L=l.take k:=⟨_,rfl⟩;have hLl:L.length=k:=by rw [hL,List.length_take,Nat.min_eq_left (by rw [← HM.out]; exact hk)]
     have hLd:Dg L:=by rw [hL]; exact dg_take HL.out k
     have hrL:Rd wr wr.heap.size (some ad) (dV L):=by rw [hL]; exact rd_digs HRD.out
     obtain ⟨l1,hl1⟩:∃ l1,l1=digN (q+1+1) (leV (L.drop 32)*leV [38]):=⟨_,rfl⟩;have h38:Dg [38]:=by unfold Dg; decide
     have hdl:(L.drop 32).length=q:=by rw [List.length_drop]; omega
     have htl:(L.take 32).length=32:=by rw [List.length_take]; omega
     have hl1v:leV l1=leV (L.drop 32)*38:=by
      have h:=times_val (dg_drop hLd 32) h38;rw [hdl] at h;rw [hl1]; exact h
     have hl1d:Dg l1:=by rw [hl1]; exact digN_dg _ _
     have hl1l:l1.length=q+2:=by rw [hl1,digN_length]
     obtain ⟨l2,hl2⟩:∃ l2,l2=digN (max 32 (q+2)+1) (leV (L.take 32)+leV l1):=⟨_,rfl⟩
     have hl2v:leV l2=leV (L.take 32)+leV (L.drop 32)*38:=by
      have h:=plus_val (dg_take hLd 32) hl1d;rw [htl,hl1l,hl1v] at h;rw [hl2,hl1v]; exact h
     have hl2d:Dg l2:=by rw [hl2]; exact digN_dg _ _
     have hl2l:l2.length≤k:=by rw [hl2,digN_length]; omega
     have hless:=fold_less L hLd (by omega) (by rw [hLl,hL,List.getD_eq_getElem?_getD,List.getElem?_take,if_pos (by omega),show k - 1=p by omega,← List.getD_eq_getElem?_getD,← hx]; exact hx0);rw [← hl2v,hL,hin] at hless
     have hmod2:leV l2%PN=N0%PN:=by
      rw [hl2v,fold_mod,← fold_split L (by omega),hL,hin]; exact HMOD.out
     have c1':∀ u,Below wr.heap.size wr u→∀ A3 c3 A4 c4,Rd u u.heap.size A4 (dV [38])→A3=some (ad.add 32)→Calls Tryd.prog 57 #[.slice A3 q c3,.slice A4 1 c4] u (DigPost l1 u):=fun u hu A3 c3 A4 c4 h4 hA3=>by
      have h:=times_any (L.drop 32) [38] (dg_drop hLd 32) h38 A3 A4 c3 c4 u (by rw [hA3]; exact rd_digs_drop ((hrL.below hu).mono hu.size)) h4 (by omega) (by decide);rw [hdl] at h;rw [hl1]; exact h
     have c2':∀ u,Below wr.heap.size wr u→∀ c3 A4 c4,Rd u u.heap.size A4 (dV l1)→Calls Tryd.prog 56 #[.slice (some ad) 32 c3,.slice A4 (q+2) c4] u (DigPost l2 u):=fun u hu c3 A4 c4 h4=>by
      have h:=rplus_any (L.take 32) l1 (dg_take hLd 32) hl1d (some ad) A4 c3 c4 u (rd_digs ((hrL.below hu).mono hu.size)) h4 (by omega) (by omega);rw [htl,hl1l] at h;rw [hl2]; exact h
     have HKQ:=zY (show k - 32=q by omega);have CT:=zY c1';have CP:=zY c2';have HL2:=zY (show l2.length≤1000000 by omega);have HLESS:=zY hless;have HMOD2:=zY hmod2;have HD2:=zY hl2d;have HL1L:=zY hl1l;have HIN:=zY hin;have HK:=zY hk;have HC0:Below g w wr.drew∧Below wr.heap.size wr wr.drew∧g≤wr.heap.size:=⟨HBEL.out.drew,(Below.refl _ _).drew,by have h:=HBEL.out; rw [← HG.out] at h ⊢; exact h.size⟩;clear hx0 hq hL hLl hLd hrL hl1 h38 hdl htl hl1v hl1d hl1l hl2 hl2v hl2d hl2l hless hmod2 c1' c2' hin hk hx hp h32;go_wp2_with fail
     refine wp_region_list (fun u=>Below g w u∧Below wr.heap.size wr u∧g≤wr.heap.size) (fun | false=>(fun _=>True) | true=>(fun _=>True)) (fun | false,_=>false | true,_=>false)
      [fun z _=>z 0=.slice (some ad) k c1,
       fun z _=>z 1=.slice (some ad) 32 c1,
       fun z _=>z 2=.slice (some ad) k c1,
       fun z u=>(fun v u=>∃ c3,v=.slice (some ⟨ad.block,ad.off+32,none⟩) q c3) (z 3) u,
       fun z u=>(RdV 1 (dV [38])) (z 4) u,
       fun z u=>(RdV l1.length (dV l1)) (z 5) u,
       fun z u=>(RdV l2.length (dV l2)) (z 6) u,
       fun z u=>(RdV l2.length (dV l2)) (z 7) u]
      [Eq,Eq,Eq,Eq,fun u u'=>Below u.heap.size u u',fun u u'=>Below u.heap.size u u',fun u u'=>Below u.heap.size u u',Eq]
      (fun _ _=>false) [(0,some 26),(1,some 27),(2,some 28),(3,some 29),(4,some 30),(5,some 31),(6,some 32),(7,some 0)] (by kernel_rfl) (by kernel_rfl) rfl (fun _=>rfl) ?_ ?_ ?_ ?_ ?_ ?_
     ·exact HC0
     ·intro m; cases m; exact trivial; exact trivial
     ·intro m; cases m
      ·refine ⟨?_,?_,?_,?_,.inr (fun _ _ _ h=>h),.inr (fun _ _ _ h=>h),.inr (fun _ _ _ h=>h),?_,trivial⟩ <;> exact .inr fun _ _ h h0=>h▸h0
      ·refine ⟨?_,?_,?_,?_,.inr (fun _ _ _ h=>h),.inr (fun _ _ _ h=>h),.inr (fun _ _ _ h=>h),?_,trivial⟩ <;> exact .inr fun _ _ h h0=>h▸h0
     ·refine ⟨⟨.inl rfl,?_,?_,.inr (.inr (.inr (fun _ _ _ _ h h0=>by cases h; exact h0))),.inr (.inr (.inr (fun _ _ _ _ h h0=>by cases h; exact h0))),.inr (.inr (.inr (fun _ _ _ _ h h0=>by cases h; exact h0))),?_,?_,trivial⟩,⟨?_,.inl rfl,?_,.inr (.inr (.inr (fun _ _ _ _ h h0=>by cases h; exact h0))),.inr (.inr (.inr (fun _ _ _ _ h h0=>by cases h; exact h0))),.inr (.inr (.inr (fun _ _ _ _ h h0=>by cases h; exact h0))),?_,?_,trivial⟩,⟨?_,?_,.inl rfl,?_,.inr (.inr (.inr (fun _ _ _ _ h h0=>by cases h; exact h0))),?_,?_,?_,trivial⟩,⟨?_,?_,?_,.inl rfl,.inr (.inr (.inr (fun _ _ _ _ h h0=>by cases h; exact h0))),?_,?_,?_,trivial⟩,⟨?_,?_,?_,.inr (.inr (.inr (fun _ _ _ _ h h0=>h0))),.inl rfl,?_,?_,?_,trivial⟩,⟨?_,?_,?_,.inr (.inr (.inr (fun _ _ _ _ h h0=>h0))),.inr (.inr (.inr (fun _ _ _ _ h h0=>h0.next h))),.inl rfl,?_,?_,trivial⟩,⟨?_,?_,?_,.inr (.inr (.inr (fun _ _ _ _ h h0=>h0))),.inr (.inr (.inr (fun _ _ _ _ h h0=>h0.next h))),.inr (.inr (.inr (fun _ _ _ _ h h0=>h0.next h))),.inl rfl,?_,trivial⟩,⟨?_,?_,?_,.inr (.inr (.inr (fun _ _ _ _ h h0=>by cases h; exact h0))),.inr (.inr (.inr (fun _ _ _ _ h h0=>by cases h; exact h0))),.inr (.inr (.inr (fun _ _ _ _ h h0=>by cases h; exact h0))),.inr (.inr (.inr (fun _ _ _ _ h h0=>by cases h; exact h0))),.inl rfl,trivial⟩,trivial⟩ <;> first | exact .inr (.inr (.inl rfl)) | exact .inr (.inr (.inr fun _ _ _ _ _ h=>h))
     ·refine ⟨?_,?_,?_,?_,?_,?_,?_,?_,trivial⟩
      ·refine step_plain [] (fun _=>rfl) rfl ?_;intro w1 vals hC1 hi0 hf E hE;clear hi0;clear hf;simp only [sP] at hE ⊢;go_wp2;exact .mk (hE _ _ rfl hC1 rfl)
      ·refine step_plain [(0,some 26)] (fun _=>rfl) rfl ?_;intro w1 vals hC1 hi0 hf E hE;clear hi0;have f0:vals 0=.slice (some ad) k c1:=hf 0 rfl
       try dsimp only at f0
       clear hf;simp only [sP,f0] at hE ⊢;clear f0;go_wp2;exact .mk (hE _ _ rfl hC1 rfl)
      ·refine step_plain [] (fun _=>rfl) rfl ?_;intro w1 vals hC1 hi0 hf E hE;clear hi0;clear hf;simp only [sP] at hE ⊢;go_wp2;exact .mk (hE _ _ rfl hC1 rfl)
      ·refine step_plain [(2,some 28)] (fun _=>rfl) rfl ?_;intro w1 vals hC1 hi0 hf E hE;clear hi0;have f2:vals 2=.slice (some ad) k c1:=hf 2 rfl
       try dsimp only at f2
       clear hf;simp only [sP,f2] at hE ⊢;clear f2;go_wp2;rw [HKQ.out];exact .mk (hE _ _ ⟨_,rfl⟩ hC1 rfl)
      ·refine step_plain [] (fun _=>rfl) rfl ?_;intro w1 vals hC1 hi0 hf E hE;clear hi0;clear hf;simp only [sP] at hE ⊢;go_wp2;have hnew:=Blk.new w1 3 (dV [38]).toArray;exact .mk (hE _ _ ⟨_,1,rfl,Nat.le_refl _,Rd.of_blk hnew hnew.lt⟩ ⟨hC1.1.alloc (Nat.le_trans hC1.2.2 hC1.2.1.size) _,hC1.2.1.alloc hC1.2.1.size _,hC1.2.2⟩ (below_new _ _))
      ·refine step_plain [(3,some 29),(4,some 30)] (fun _=>rfl) rfl ?_;intro w1 vals hC1 hi0 hf E hE;clear hi0;have f3:(fun v u=>∃ c3,v=.slice (some ⟨ad.block,ad.off+32,none⟩) q c3) (vals 3) w1:=hf 3 rfl;have f4:(RdV 1 (dV [38])) (vals 4) w1:=hf 4 rfl
       try dsimp only at f3 f4
       clear hf;obtain ⟨c3,hx3⟩:=f3;obtain ⟨A4,c4,hx4,hc4,hr4⟩:=f4;simp only [sP,hx3,hx4] at hE ⊢;clear hx3 hx4;go_wp2_with fail;refine calls_then (CT.out _ hC1.2.1 _ _ _ _ hr4 (add32 ad)) ?_;rintro e w2 ⟨A5,c5,rfl,hc5,hr5,hb5⟩;go_wp2_with fail;exact .mk (hE _ _ ⟨A5,c5,rfl,hc5,hr5⟩ ⟨hC1.1.trans (hb5.mono (Nat.le_trans hC1.2.2 hC1.2.1.size)),hC1.2.1.trans (hb5.mono hC1.2.1.size),hC1.2.2⟩ hb5)
      ·refine step_plain [(1,some 27),(5,some 31),(5,some 31)] (fun _=>rfl) rfl ?_;intro w1 vals hC1 hi0 hf E hE;clear hi0;have f1:vals 1=.slice (some ad) 32 c1:=hf 1 rfl;have f5:(RdV l1.length (dV l1)) (vals 5) w1:=hf 5 rfl
       try dsimp only at f1 f5
       clear hf;obtain ⟨A4,c4,hx4,hc4,hr4⟩:=f5;rw [HL1L.out] at hx4;simp only [sP,f1,hx4] at hE ⊢;clear f1;clear hx4;go_wp2_with fail;refine calls_then (CP.out _ hC1.2.1 _ _ _ hr4) ?_;rintro e w2 ⟨A5,c5,rfl,hc5,hr5,hb5⟩;go_wp2_with fail;exact .mk (hE _ _ ⟨A5,c5,rfl,hc5,hr5⟩ ⟨hC1.1.trans (hb5.mono (Nat.le_trans hC1.2.2 hC1.2.1.size)),hC1.2.1.trans (hb5.mono hC1.2.1.size),hC1.2.2⟩ hb5)
      ·refine step_plain [(6,some 32),(6,some 32),(0,some 26),(1,some 27),(2,some 28),(3,some 29),(4,some 30),(5,some 31),(6,some 32)] (fun _=>rfl) rfl ?_;intro w1 vals hC1 hi0 hf E hE;clear hi0;have f0:vals 0=.slice (some ad) k c1:=hf 0 rfl;have f1:vals 1=.slice (some ad) 32 c1:=hf 1 rfl;have f2:vals 2=.slice (some ad) k c1:=hf 2 rfl;have f3:(fun v u=>∃ c3,v=.slice (some ⟨ad.block,ad.off+32,none⟩) q c3) (vals 3) w1:=hf 3 rfl;have f4:(RdV 1 (dV [38])) (vals 4) w1:=hf 4 rfl;have f5:(RdV l1.length (dV l1)) (vals 5) w1:=hf 5 rfl;have f6:(RdV l2.length (dV l2)) (vals 6) w1:=hf 6 rfl
       try dsimp only at f0 f1 f2 f3 f4 f5 f6
       clear hf;obtain ⟨A4,c4,hx4,hc4,hr4⟩:=f6;simp only [sP,f0,f1,f2,hx4] at hE ⊢;clear f0 f1 f2;clear hx4;go_wp2;exact .mk (hE _ _ ⟨A4,c4,rfl,hc4,hr4⟩ hC1 rfl)
     intro w1 vals hC1 hf;have f0:vals 0=.slice (some ad) k c1:=hf 0 (by decide) rfl;have f1:vals 1=.slice (some ad) 32 c1:=hf 1 (by decide) rfl;have f2:vals 2=.slice (some ad) k c1:=hf 2 (by decide) rfl;have f3:(fun v u=>∃ c3,v=.slice (some ⟨ad.block,ad.off+32,none⟩) q c3) (vals 3) w1:=hf 3 (by decide) rfl;have f4:(RdV 1 (dV [38])) (vals 4) w1:=hf 4 (by decide) rfl;have f5:(RdV l1.length (dV l1)) (vals 5) w1:=hf 5 (by decide) rfl;have f6:(RdV l2.length (dV l2)) (vals 6) w1:=hf 6 (by decide) rfl;have f7:(RdV l2.length (dV l2)) (vals 7) w1:=hf 7 (by decide) rfl
     try dsimp only at f0 f1 f2 f3 f4 f5 f6 f7
     clear hf;simp only [sP,f0,f1,f2];clear f0 f1 f2;generalize vals 3=x3 at *;generalize vals 4=x4 at *;generalize vals 5=x5 at *;generalize vals 6=x6 at *;generalize vals 7=x7 at *;obtain ⟨A5,c5,rfl,hc5,hr5⟩:=f7;have HC1:=zY hC1;have HC5:=zY hc5;have HR5:=zY hr5;clear hC1 hc5 hr5 HC0;go_wp2_with fail;refine ⟨⟨l2,A5,c5,rfl,HD2.out,HL2.out,HC5.out,HMOD2.out,HR5.out,HC1.out.1⟩,?_⟩;have hm2:=digVal_rd c1 HRD.out;rw [← HM.out] at hm2;rw [digVal_rd c5 HR5.out,hm2];exact HLESS.out
   ·have h32':¬ (k:Int) > 32:=by omega
    have h32'':(k:Int)≤32:=by omega
    obtain ⟨L,hL⟩:∃ L,L=l.take k:=⟨_,rfl⟩;have hLl:L.length=k:=by rw [hL,List.length_take,Nat.min_eq_left (by rw [← HM.out]; exact hk)]
    have hLd:Dg L:=by rw [hL]; exact dg_take HL.out k
    have hrL:Rd wr wr.heap.size A1 (dV L):=by rw [hL]; exact rd_digs HRD.out
    have hLv:leV L%PN=N0%PN:=by rw [hL,hin]; exact HMOD.out
    have hmk:=make_ints 32 (by decide);have hmk':∀ u:World,(Instr.makeSlice 48 (.int .i64 32) (.int .i64 32)).run Tryd.prog u=.ok (.slice (some ⟨u.heap.size,0,none⟩) 32 32) (u.alloc (.cells (dV (partL (L.take 0) 32)).toArray 3)):=hmk;have hgs:g≤wr.heap.size:=by have h:=HBEL.out; rw [← HG.out] at h ⊢; exact h.size
    have hst0:D1 wr wr.heap.size (partL (L.take 0) 32) _:=d1_new (partL (L.take 0) 32) (Below.refl wr.heap.size wr);have HST0:=zY hst0;have HLL:=zY hLl;have HLD:=zY hLd;have HRL:=zY hrL;have HLV:=zY hLv;have HGS:=zY hgs;clear hmk hst0 hL hLl hLd hrL hLv hgs hin hk h32 hm63 hmc;go_wp2_with fail;generalize ho:wr.heap.size=o at HST0 HRL HGS ⊢;have HO:=zY ho;clear ho hmk';obtain ⟨wo,rfl⟩:∃ x,x=wr:=⟨_,rfl⟩
    go_loopw [4] (fun i wr=>∃ j:Nat,j≤k∧i=.int .i64 j∧D1 wo o (partL (L.take j) 32) wr) (fun i _=>k - (intOf i).toNat)
    case atStart=>exact ⟨0,by omega,rfl,HST0.out⟩
    case round =>
     clear HST0;obtain ⟨j,hj,rfl,hst⟩:=hrel;have hel:Below o wo wr:=by have h:=hst.bel; rw [HO.out] at h; exact h
     by_cases hlt:j<k
     ·have hlt':(j:Int)<(k:Int):=by omega
      obtain ⟨ad,rfl,hca⟩:=dig_cell ((HRL.out.below hel).mono (by rw [← HO.out]; exact hst.bel.size)) (k:=j) (by rw [HLL.out]; exact hlt);obtain ⟨x,hx⟩:∃ x,x=L.getD j 0:=⟨_,rfl⟩;rw [← hx] at hca;have htl:(L.take j).length=j:=by rw [List.length_take,HLL.out]; omega
      have hset:=partL_set (L.take j) 32 j x htl (by omega)
      have hnext:L.take j++[x]=L.take (j+1):=by
       rw [take_snoc (by rw [HLL.out]; exact hlt),hx,List.getD_eq_getElem?_getD,List.getElem?_eq_getElem (by rw [HLL.out]; exact hlt)]; rfl
      rw [hnext] at hset;have d0:=hst.out.cell j;rw [dV_cell (by rw [partL_length _ _ (by rw [htl]; omega)]; omega)] at d0;have q0:=hst.out.free j;have HSET:=zY hset;have HST:=zY hst;have hj32:(j:Int)<32:=by omega
      clear hset hst htl hnext hx hel;go_wp2_with fail;exact ⟨⟨j+1,by omega,by go_num,HST.out.put (wrote_setCell_at _ _ _ _) (by have h:=blk_setCell_at (i:=j) HST.out.out (.int .i64 (x:Int)); rw [dV_set,HSET.out] at h; exact h)⟩,by simp [intOf]; omega⟩
     ·obtain rfl:j=k:=by omega
      have hfull:dV (partL (L.take j) 32)=dV (digN 32 (leV L)):=by
       congr 1
       have e1:L.take j=L:=by rw [List.take_of_length_le (by rw [HLL.out]; exact Nat.le_refl _)]
       rw [e1];refine digN_eq ?_ (partL_length _ _ (by rw [HLL.out]; omega)) ?_
       ·intro d hd
        rcases List.mem_append.1 hd with h | h
        ·exact HLD.out d h
        ·rw [List.eq_of_mem_replicate h]; decide
       ·rw [partL,leV_append,leV_replicate,Nat.mul_zero,Nat.add_zero]
      have hblk:=hst.out;rw [hfull] at hblk;have hrd:Rd wr wr.heap.size (some ⟨o,0,none⟩) (dV (digN 32 (leV L))):=Rd.of_blk hblk hblk.lt;have hbig:leV L<256^32:=leV_big HLD.out (by rw [HLL.out]; omega);have hbel:Below g w wr:=HBEL.out.trans (hel.mono HGS.out);have hfin0:∃ (V:Nat) (A3:Option Addr) (c3:Nat),Value.slice (some ⟨o,0,none⟩) 32 32=.slice A3 32 c3∧32≤c3∧V<256^32∧V%PN=N0%PN∧Rd wr wr.heap.size A3 (dV (digN 32 V))∧Below g w wr:=⟨leV L,_,32,rfl,Nat.le_refl _,hbig,HLV.out,hrd,hbel⟩;have HFIN0:=zY hfin0;have HHR:Hid (g≤wr.heap.size):=zY (by have h:=hbel; rw [← HG.out] at h ⊢; exact h.size);clear hst hel hfull hblk hrd hbig hbel hfin0 hlt hj;go_wp2_with fail;obtain ⟨wq,rfl⟩:∃ x,x=wr:=⟨_,rfl⟩
      go_loopw [3] (fun v wr=>∃ (V:Nat) (A3:Option Addr) (c3:Nat),v=.slice A3 32 c3∧32≤c3∧V<256^32∧V%PN=N0%PN∧Rd wr wr.heap.size A3 (dV (digN 32 V))∧Below g w wr) (fun v wr=>digVal v wr)
      case atStart=>exact HFIN0.out
      case round =>
       clear HFIN0;obtain ⟨V,A3,c3,rfl,hc3,hV,hVm,hrV,hbel⟩:=hrel;have HC3:=zY hc3;clear hc3;have hgw:g≤wr.heap.size:=by have h:=hbel; rw [← HG.out] at h ⊢; exact h.size
       have HV:=zY hV;have HVM:=zY hVm;have HRV:=zY hrV;have HBW:=zY hbel;have HGW:=zY hgw;clear hV hVm hrV hbel hgw;go_wp2_with fail;refine calls_then (p_any _) ?_;rintro e w4 ⟨A4,c4,rfl,hc4,hr4,hb4⟩;have hless:=less_any (digN 32 V) pL (digN_dg _ _) pL_dg A3 A4 c3 c4 w4 ((HRV.out.below hb4).mono hb4.size) hr4 (by rw [digN_length]; decide) (by rw [pL_len]; decide);rw [digN_val _ _ HV.out,pL_val,digN_length] at hless;have HLS:=zY hless;have HB4:=zY (HBW.out.trans (hb4.mono HGW.out));have HR4:=zY ((HRV.out.below hb4).mono hb4.size);have HG4:=zY (Nat.le_trans HGW.out hb4.size);clear hc4 hr4 hb4 hless
       by_cases hlp:V<PN
       ·have hls2:=HLS.out;rw [decide_eq_true hlp] at hls2;have HLS2:=zY hls2;have HFV:=zY (mod_less HVM.out hlp);clear hls2 HLS hlp;go_wp2_with fail;refine calls_then HLS2.out ?_;rintro e w5 ⟨rfl,rfl⟩;go_wp2_with fail;go_ret;rw [← HFV.out];exact ⟨A3,c3,by rw [digN_length]; rfl,by rw [digN_length]; exact HC3.out,HR4.out,by rw [HG.out]; exact HB4.out⟩
       ·have hls2:=HLS.out;rw [decide_eq_false hlp] at hls2;have HLS2:=zY hls2;have HPV:=zY (Nat.le_of_not_lt hlp);clear hls2 HLS hlp;go_wp2_with fail;refine calls_then HLS2.out ?_;rintro e w5 ⟨rfl,rfl⟩;go_wp2_with fail;refine calls_then (p_any _) ?_;rintro e w6 ⟨A6,c6,rfl,hc6,hr6,hb6⟩;have hmin:=minus_any (digN 32 V) pL (digN_dg _ _) pL_dg (by rw [pL_val,digN_val _ _ HV.out]; exact HPV.out) A3 A6 c3 c6 w6 ((HR4.out.below hb6).mono hb6.size) hr6 (by rw [digN_length]; decide) (by rw [pL_len]; decide);rw [digN_val _ _ HV.out,pL_val,digN_length] at hmin;have HMIN:=zY hmin;have HB6:=zY (HB4.out.trans (hb6.mono HG4.out));have HG6:=zY (Nat.le_trans HG4.out hb6.size);clear hc6 hr6 hb6 hmin;go_wp2_with fail;refine calls_then HMIN.out ?_;rintro e w7 ⟨A7,c7,rfl,hc7,hr7,hb7⟩;rw [digN_length] at hc7;rw [digN_length];have HC7:=zY hc7;have HB7:=zY (HB6.out.trans (hb7.mono HG6.out));have HR7:=zY hr7;clear hc7 hr7 hb7;go_wp2_with fail;refine ⟨⟨V - PN,A7,c7,rfl,HC7.out,Nat.lt_of_le_of_lt (Nat.sub_le _ _) HV.out,by rw [sub_mod HPV.out]; exact HVM.out,HR7.out,HB7.out⟩,?_⟩;have e1:=digVal_rd c7 HR7.out;have e2:=digVal_rd c3 HRV.out;rw [digN_length,digN_val _ _ (Nat.lt_of_le_of_lt (Nat.sub_le _ _) HV.out)] at e1;rw [digN_length,digN_val _ _ HV.out] at e2;rw [e1,e2];exact Nat.sub_lt (Nat.lt_of_lt_of_le (by decide) HPV.out) (by decide)
end Go.Proofs.YtdgheahbafnboaaDoor
/-
  Walks: the reference's Add, Sub, Mul.
-/
namespace Go.Proofs.YtdgheahbafnboaaDoor
set_option linter.unusedSimpArgs false
set_option linter.unusedVariables false
open Go.RowKit
set_option maxHeartbeats 1000000 in
theorem radd_any (a b:List Nat) (ha:Dg a) (hb:Dg b) (A B:Option Addr) (c d:Nat) (w:World) (hra:Rd w w.heap.size A (dV a)) (hrb:Rd w w.heap.size B (dV b)) (hla:a.length≤100000) (hlb:b.length≤100000) :
  Calls Tryd.prog 80 #[.slice A a.length c,.slice B b.length d] w (DigPost (digN 32 ((leV a+leV b)%PN)) w):=by
 have hp:=rplus_any a b ha hb A B c d w hra hrb (by omega) (by omega);obtain ⟨S,hS⟩:∃ S,S=digN (max a.length b.length+1) (leV a+leV b):=⟨_,rfl⟩;have hSv:leV S=leV a+leV b:=by rw [hS]; exact plus_val ha hb
 have hSd:Dg S:=by rw [hS]; exact digN_dg _ _
 have hSl:S.length≤1000000:=by rw [hS,digN_length]; omega
 rw [← hS] at hp;rw [← hSv];have HP:=zY hp;have HSD:=zY hSd;have HSL:=zY hSl;generalize a.length=n at *;generalize b.length=m at *;clear hp hS hSv hSd hSl hra hrb hla hlb ha hb;go_enter Tryd.func80,Tryd.ntmps80;go_wp2_with fail;refine calls_then HP.out ?_;rintro e w2 ⟨A2,c2,rfl,hc2,hr2,hb2⟩;have hf:=fold_any S HSD.out A2 c2 w2 hr2 hc2 HSL.out;have HF:=zY hf;have HB2:=zY hb2;clear hc2 hr2 hf hb2;go_wp2_with fail;refine calls_then HF.out ?_;rintro e w3 ⟨A3,c3,rfl,hc3,hr3,hb3⟩;have HC:=zY hc3;have HR:=zY hr3;have HB3:=zY (HB2.out.trans (hb3.mono HB2.out.size));clear hc3 hr3 hb3;go_wp2_with fail;go_ret;exact ⟨A3,c3,rfl,HC.out,HR.out,HB3.out⟩
set_option maxHeartbeats 1000000 in
theorem rmul_any (a b:List Nat) (ha:Dg a) (hb:Dg b) (A B:Option Addr) (c d:Nat) (w:World) (hra:Rd w w.heap.size A (dV a)) (hrb:Rd w w.heap.size B (dV b)) (hla:a.length≤100000) (hlb:b.length≤100000) :
  Calls Tryd.prog 53 #[.slice A a.length c,.slice B b.length d] w (DigPost (digN 32 (leV a*leV b%PN)) w):=by
 have hp:=times_any a b ha hb A B c d w hra hrb (by omega) (by omega);obtain ⟨S,hS⟩:∃ S,S=digN (a.length+b.length+1) (leV a*leV b):=⟨_,rfl⟩;have hSv:leV S=leV a*leV b:=by rw [hS]; exact times_val ha hb
 have hSd:Dg S:=by rw [hS]; exact digN_dg _ _
 have hSl:S.length≤1000000:=by rw [hS,digN_length]; omega
 rw [← hS] at hp;rw [← hSv];have HP:=zY hp;have HSD:=zY hSd;have HSL:=zY hSl;generalize a.length=n at *;generalize b.length=m at *;clear hp hS hSv hSd hSl hra hrb hla hlb ha hb;go_enter Tryd.func53,Tryd.ntmps53;go_wp2_with fail;refine calls_then HP.out ?_;rintro e w2 ⟨A2,c2,rfl,hc2,hr2,hb2⟩;have hf:=fold_any S HSD.out A2 c2 w2 hr2 hc2 HSL.out;have HF:=zY hf;have HB2:=zY hb2;clear hc2 hr2 hf hb2;go_wp2_with fail;refine calls_then HF.out ?_;rintro e w3 ⟨A3,c3,rfl,hc3,hr3,hb3⟩;have HC:=zY hc3;have HR:=zY hr3;have HB3:=zY (HB2.out.trans (hb3.mono HB2.out.size));clear hc3 hr3 hb3;go_wp2_with fail;go_ret;exact ⟨A3,c3,rfl,HC.out,HR.out,HB3.out⟩
set_option maxHeartbeats 1000000 in
theorem rsub_any (a b:List Nat) (ha:Dg a) (hb:Dg b) (hle:leV b≤leV a+PN) (A B:Option Addr) (c d:Nat) (w:World) (hra:Rd w w.heap.size A (dV a)) (hrb:Rd w w.heap.size B (dV b)) (hla:a.length≤100000) (hlb:b.length≤100000) :
  Calls Tryd.prog 79 #[.slice A a.length c,.slice B b.length d] w (DigPost (digN 32 ((leV a+PN - leV b)%PN)) w):=by
 obtain ⟨S,hS⟩:∃ S,S=digN (max a.length pL.length+1) (leV a+leV pL):=⟨_,rfl⟩;have hSv:leV S=leV a+PN:=by rw [hS,plus_val ha pL_dg,pL_val]
 have hSd:Dg S:=by rw [hS]; exact digN_dg _ _
 have hSl:S.length≤1000000:=by rw [hS,digN_length,pL_len]; omega
 have hp:∀ u,Below w.heap.size w u→∀ A4 c4,Rd u u.heap.size A4 (dV pL)→Calls Tryd.prog 56 #[.slice A a.length c,.slice A4 pL.length c4] u (DigPost S u):=fun u hu A4 c4 h4=>by
  rw [hS];exact rplus_any a pL ha pL_dg A A4 c c4 u ((hra.below hu).mono hu.size) h4 (by omega) (by decide)
 obtain ⟨D,hD⟩:∃ D,D=digN S.length (leV S - leV b):=⟨_,rfl⟩
 have hDv:leV D=leV a+PN - leV b:=by
  rw [hD,digN_val,hSv];have h:=leV_lt S hSd;omega
 have hDd:Dg D:=by rw [hD]; exact digN_dg _ _
 have hDl:D.length≤1000000:=by rw [hD,digN_length]; exact hSl
 have hm:∀ u,Below w.heap.size w u→∀ A4 c4,Rd u u.heap.size A4 (dV S)→Calls Tryd.prog 82 #[.slice A4 S.length c4,.slice B b.length d] u (DigPost D u):=fun u hu A4 c4 h4=>by
  rw [hD];exact minus_any S b hSd hb (by rw [hSv]; exact hle) A4 B c4 d u h4 ((hrb.below hu).mono hu.size) hSl (by omega)
 rw [← hDv];have HP:=zY hp;have HMI:=zY hm;have HDD:=zY hDd;have HDL:=zY hDl;generalize a.length=n at *;generalize b.length=m at *;clear hp hm hS hSv hSd hSl hD hDv hDd hDl hra hrb hla hlb ha hb hle;go_enter Tryd.func79,Tryd.ntmps79;go_wp2_with fail;refine calls_then (p_any _) ?_;rintro e w1 ⟨A1,c1,rfl,hc1,hr1,hb1⟩;have HC1:=zY (HP.out w1 hb1 A1 c1 hr1);have HB1:=zY hb1;clear hc1 hr1 hb1;go_wp2_with fail;refine calls_then HC1.out ?_;rintro e w2 ⟨A2,c2,rfl,hc2,hr2,hb2⟩;have HB2:=zY (HB1.out.trans (hb2.mono HB1.out.size));have HC2:=zY (HMI.out w2 HB2.out A2 c2 hr2);clear hc2 hr2 hb2;go_wp2_with fail;refine calls_then HC2.out ?_;rintro e w3 ⟨A3,c3,rfl,hc3,hr3,hb3⟩;have HB3:=zY (HB2.out.trans (hb3.mono HB2.out.size));have hf:=fold_any D HDD.out A3 c3 w3 hr3 hc3 HDL.out;have HF:=zY hf;clear hc3 hr3 hb3 hf;go_wp2_with fail;refine calls_then HF.out ?_;rintro e w4 ⟨A4,c4,rfl,hc4,hr4,hb4⟩;have HC:=zY hc4;have HR:=zY hr4;have HB4:=zY (HB3.out.trans (hb4.mono HB3.out.size));clear hc4 hr4 hb4;go_wp2_with fail;go_ret;exact ⟨A4,c4,rfl,HC.out,HR.out,HB4.out⟩
end Go.Proofs.YtdgheahbafnboaaDoor
/-
  Walk: the reference's Int.
-/
namespace Go.Proofs.YtdgheahbafnboaaDoor
set_option linter.unusedSimpArgs false
set_option linter.unusedVariables false
open Go.RowKit
theorem int_step {d:List Nat} {k m N:Nat} (hl:d.length=k) (h:leV d+256^k*m=N):leV (d++[m%256])+256^(k+1)*(m/256)=N:=by
 rw [leV_snoc,hl,Nat.pow_succ]
 have e:256^k*(m%256)+256^k*256*(m/256)=256^k*m:=by
  rw [Nat.mul_assoc,← Nat.mul_add,Nat.mod_add_div]
 omega
set_option maxRecDepth 100000 in
set_option maxHeartbeats 2000000 in
theorem rint_nat (N:Nat) (hN:N<9223372036854775808) (w:World) :
  Calls Tryd.prog 50 #[.int .i64 (N:Int)] w (DigPost (digN 32 (N%PN)) w):=by
 have hbig:N<256^9:=Nat.lt_trans hN (by decide);have hpos:¬ (N:Int)<0:=by omega
 have hs0:∃ (k m:Nat) (A:Option Addr) (c:Nat) (d:List Nat),k≤9∧Value.int .i64 (N:Int)=.int .i64 (m:Int)∧Value.slice none 0 0=.slice A k c∧d.length=k∧Dg d∧leV d+256^k*m=N∧m≤N∧OwnX w w.heap.size 3 1 (.slice A k c) k (dV d)∧Below w.heap.size w w :=
  ⟨0,N,none,0,[],by omega,rfl,rfl,rfl,by unfold Dg; simp,by simp [leV],Nat.le_refl _,OwnX.nil _ _ _ _,Below.refl _ _⟩
 have HS0:=zY hs0;have HBIG:=zY hbig;have HNL:=zY hN;clear hs0 hbig hN;go_enter Tryd.func50,Tryd.ntmps50;go_wp2_with fail;generalize hg:w.heap.size=g at HS0 ⊢;have HG:=zY hg;clear hg
 go_loopw [0,3] (fun n v wr=>∃ (k m:Nat) (A:Option Addr) (c:Nat) (d:List Nat),k≤9∧n=.int .i64 (m:Int)∧v=.slice A k c∧d.length=k∧Dg d∧leV d+256^k*m=N∧m≤N∧OwnX wr g 3 1 (.slice A k c) k (dV d)∧Below g w wr) (fun n _ _=>(intOf n).toNat)
 case atStart=>exact HS0.out
 case round =>
  clear HS0;obtain ⟨k,m,A,c,d,hk,rfl,rfl,hdl,hdd,heq,hmN,hown,hbel⟩:=hrel;have hsz:g≤wr.heap.size:=by have h:=hbel; rw [← HG.out] at h ⊢; exact h.size
  by_cases hm0:0<m
  ·have hm0':¬ (m:Int)=0:=by omega
   have hk9:=times_room heq HBIG.out hm0;obtain ⟨x,hx⟩:∃ x,m%256=x:=⟨_,rfl⟩;obtain ⟨q,hq⟩:∃ q,m/256=q:=⟨_,rfl⟩;have hxi:(m:Int)%256=(x:Int):=by omega
   have hqi:(m:Int)/256=(q:Int):=by omega
   have hx0:¬ (x:Int)<0:=by omega
   have hstep:=int_step hdl heq;rw [hx,hq] at hstep;have HSTEP:=zY hstep;have HDD:=zY (dg_snoc hdd (show x<256 by omega));have HDL:=zY (show (d++[x]).length=k+1 by rw [List.length_append,hdl]; rfl);have HQM:=zY (show q<m by omega);have HMN:=zY hmN;have HK9:=zY hk9;have HOWN:=zY hown;have HBEL:=zY hbel;have HSZ:=zY hsz;have hm63:(m:Int)≤9223372036854775807:=by have:=HNL.out; omega
   clear hstep hdl hdd heq hmN hown hbel hsz hm0 hx hq hk hk9;go_wp2_with (refine wpList_append_one sl_ints rfl rfl HOWN.out rfl rfl rfl rfl (by have:=HK9.out; unfold maxLen; omega) (by have:=HK9.out; omega) HSZ.out ?_; intro A2 c2 w2 hown2 hg2 hn2; have HOWN2:=zY hown2; have HG2:=zY hg2; clear hown2 hg2 hn2);refine ⟨⟨k+1,q,A2,c2,d++[x],HK9.out,rfl,rfl,HDL.out,HDD.out,HSTEP.out,by have:=HQM.out; have:=HMN.out; omega,?_,below_grow HBEL.out HOWN.out HSZ.out HG2.out⟩,by have:=HQM.out; simp [intOf]; omega⟩;rw [dV_append];exact HOWN2.out
  ·obtain rfl:m=0:=by omega
   have hv:leV d=N:=by rw [← heq]; simp
   have hf:=fold_any d hdd A c wr (Rd.of_own hown (Nat.le_refl _)) (by rw [hdl]; exact hown.le_cap) (by rw [hdl]; omega);rw [hdl,hv] at hf;have HF:=zY hf;have HBEL:=zY hbel;have HSZ:=zY hsz;clear hf hbel hsz hown heq hdd hdl hv hk hmN hm0;go_wp2_with fail;refine calls_then HF.out ?_;rintro e w3 ⟨A3,c3,rfl,hc3,hr3,hb3⟩;have HC:=zY hc3;have HR:=zY hr3;have HB3:=zY (HBEL.out.trans (hb3.mono HSZ.out));clear hc3 hr3 hb3;go_wp2_with fail;go_ret;exact ⟨A3,c3,rfl,HC.out,HR.out,by rw [HG.out]; exact HB3.out⟩
set_option maxRecDepth 100000 in
set_option maxHeartbeats 2000000 in
theorem rint_neg (N:Nat) (hN:N≤9223372036854775808) (h0:0<N) (w:World) :
  Calls Tryd.prog 50 #[.int .i64 (-(N:Int))] w (DigPost (digN 32 ((PN - N%PN)%PN)) w):=by
 have hbig:N<256^9:=Nat.lt_of_le_of_lt hN (by decide);have hpos:-(N:Int)<0:=by omega
 have hs0:∃ (k m:Nat) (A:Option Addr) (c:Nat) (d:List Nat),k≤9∧Value.int .i64 (-(N:Int))=.int .i64 (-(m:Int))∧Value.slice none 0 0=.slice A k c∧d.length=k∧Dg d∧leV d+256^k*m=N∧m≤N∧OwnX w w.heap.size 3 1 (.slice A k c) k (dV d)∧Below w.heap.size w w :=
  ⟨0,N,none,0,[],by omega,rfl,rfl,rfl,by unfold Dg; simp,by simp [leV],Nat.le_refl _,OwnX.nil _ _ _ _,Below.refl _ _⟩
 have HS0:=zY hs0;have HBIG:=zY hbig;have HNL:=zY hN;clear hs0 hbig hN h0;go_enter Tryd.func50,Tryd.ntmps50;go_wp2_with fail;generalize hg:w.heap.size=g at HS0 ⊢;have HG:=zY hg;clear hg
 go_loopw [0,3] (fun n v wr=>∃ (k m:Nat) (A:Option Addr) (c:Nat) (d:List Nat),k≤9∧n=.int .i64 (-(m:Int))∧v=.slice A k c∧d.length=k∧Dg d∧leV d+256^k*m=N∧m≤N∧OwnX wr g 3 1 (.slice A k c) k (dV d)∧Below g w wr) (fun n _ _=>(-(intOf n)).toNat)
 case atStart=>exact HS0.out
 case round =>
  clear HS0;obtain ⟨k,m,A,c,d,hk,rfl,rfl,hdl,hdd,heq,hmN,hown,hbel⟩:=hrel;have hsz:g≤wr.heap.size:=by have h:=hbel; rw [← HG.out] at h ⊢; exact h.size
  by_cases hm0:0<m
  ·have hm0':¬ (m:Int)=0:=by omega
   have hk9:=times_room heq HBIG.out hm0;obtain ⟨x,hx⟩:∃ x,m%256=x:=⟨_,rfl⟩;obtain ⟨q,hq⟩:∃ q,m/256=q:=⟨_,rfl⟩;have hxi:(m:Int)%256=(x:Int):=by omega
   have hqi:(m:Int)/256=(q:Int):=by omega
   have hstep:=int_step hdl heq;rw [hx,hq] at hstep;have HSTEP:=zY hstep;have HDD:=zY (dg_snoc hdd (show x<256 by omega));have HDL:=zY (show (d++[x]).length=k+1 by rw [List.length_append,hdl]; rfl);have HQM:=zY (show q<m by omega);have HMN:=zY hmN;have HK9:=zY hk9;have HOWN:=zY hown;have HBEL:=zY hbel;have HSZ:=zY hsz;have hm63:(m:Int)≤9223372036854775808:=by have:=HNL.out; omega
   clear hstep hdl hdd heq hmN hown hbel hsz hm0 hx hq hk hk9
   by_cases hxz:x=0
   ·subst hxz;go_wp2_with (refine wpList_append_one sl_ints rfl rfl HOWN.out rfl rfl rfl rfl (by have:=HK9.out; unfold maxLen; omega) (by have:=HK9.out; omega) HSZ.out ?_; intro A2 c2 w2 hown2 hg2 hn2; have HOWN2:=zY hown2; have HG2:=zY hg2; clear hown2 hg2 hn2);refine ⟨⟨k+1,q,A2,c2,d++[0],HK9.out,rfl,rfl,HDL.out,HDD.out,HSTEP.out,by have:=HQM.out; have:=HMN.out; omega,?_,below_grow HBEL.out HOWN.out HSZ.out HG2.out⟩,by have:=HQM.out; simp [intOf]; omega⟩;rw [dV_append];exact HOWN2.out
   ·have hxp:0<x:=Nat.pos_of_ne_zero hxz;clear hxz;go_wp2_with (refine wpList_append_one sl_ints rfl rfl HOWN.out rfl rfl rfl rfl (by have:=HK9.out; unfold maxLen; omega) (by have:=HK9.out; omega) HSZ.out ?_; intro A2 c2 w2 hown2 hg2 hn2; have HOWN2:=zY hown2; have HG2:=zY hg2; clear hown2 hg2 hn2);refine ⟨⟨k+1,q,A2,c2,d++[x],HK9.out,rfl,rfl,HDL.out,HDD.out,HSTEP.out,by have:=HQM.out; have:=HMN.out; omega,?_,below_grow HBEL.out HOWN.out HSZ.out HG2.out⟩,by have:=HQM.out; simp [intOf]; omega⟩;rw [dV_append];exact HOWN2.out
  ·obtain rfl:m=0:=by omega
   have hv:leV d=N:=by rw [← heq]; simp
   have hf:=fold_any d hdd A c wr (Rd.of_own hown (Nat.le_refl _)) (by rw [hdl]; exact hown.le_cap) (by rw [hdl]; omega);rw [hdl,hv] at hf;have HF:=zY hf;have HBEL:=zY hbel;have HSZ:=zY hsz;clear hf hbel hsz hown heq hdd hdl hv hk hmN hm0;go_wp2_with fail;refine calls_then HF.out ?_;rintro e w3 ⟨A3,c3,rfl,hc3,hr3,hb3⟩;have HC:=zY hc3;have HR:=zY hr3;have HB3:=zY (HBEL.out.trans (hb3.mono HSZ.out));clear hc3 hr3 hb3
   have hz32:DigPost (digN 32 ((PN - N%PN)%PN))=DigPost (digN 32 ((leV (partL [] 32)+PN - leV (digN 32 (N%PN)))%PN)):=by
    rw [partL_nil,leV_replicate,digN_val _ _ (Nat.lt_trans (Nat.mod_lt _ (by decide)) (by decide:PN<256^32)),Nat.zero_add]
   have HZ:=zY hz32;have hmk:=make_ints 32 (by decide);have hmk':∀ u:World,(Instr.makeSlice 48 (.int .i64 32) (.int .i64 32)).run Tryd.prog u=.ok (.slice (some ⟨u.heap.size,0,none⟩) 32 32) (u.alloc (.cells (dV (partL [] 32)).toArray 3)):=hmk;have hnew:=Blk.new w3 3 (dV (partL [] 32)).toArray;have hbn:Below w3.heap.size w3 (w3.alloc (.cells (dV (partL [] 32)).toArray 3)):=below_new _ _
   have hsub:=rsub_any (partL [] 32) (digN 32 (N%PN)) (fun d h=>by rw [List.eq_of_mem_replicate h]; decide) (digN_dg _ _) (by
    rw [digN_val _ _ (Nat.lt_trans (Nat.mod_lt _ (by decide)) (by decide:PN<256^32))];have:=Nat.mod_lt N (show 0<PN by decide)
    omega) (some ⟨w3.heap.size,0,none⟩) A3 32 c3 _ (Rd.of_blk hnew hnew.lt) ((HR.out.below hbn).mono hbn.size) (by rw [partL_length _ _ (Nat.zero_le _)]; decide) (by rw [digN_length]; decide)
   rw [partL_length _ _ (Nat.zero_le _),digN_length] at hsub;have HSUB:=zY hsub;have HBN:=zY (HB3.out.trans (hbn.mono (by have h:=HB3.out; rw [← HG.out] at h ⊢; exact h.size)));clear hz32 hmk hnew hbn hsub;go_wp2_with fail;rw [digN_length];refine calls_then HSUB.out ?_;rintro e w5 ⟨A5,c5,rfl,hc5,hr5,hb5⟩;have HC5:=zY hc5;have HR5:=zY hr5;have HB5:=zY (HBN.out.trans (hb5.mono (by have h:=HBN.out; rw [← HG.out] at h ⊢; exact h.size)));clear hc5 hr5 hb5;go_wp2_with fail;go_ret;rw [HZ.out];exact ⟨A5,c5,rfl,HC5.out,HR5.out,by rw [HG.out]; exact HB5.out⟩
end Go.Proofs.YtdgheahbafnboaaDoor
/-
  Walk: the reference's Pow.
-/
namespace Go.Proofs.YtdgheahbafnboaaDoor
set_option linter.unusedSimpArgs false
set_option linter.unusedVariables false
open Go.RowKit
theorem half_pow (b k:Nat) (h:k<8):b/2^(8 - k)=b/2^(7 - k)/2:=by
 rw [show 8 - k=(7 - k)+1 by omega,Nat.pow_succ,Nat.div_div_eq_div_mul]
theorem expo_step (E b k:Nat) (h:k<8):E*2^(k+1)+b/2^(8 - (k+1))=2*(E*2^k+b/2^(8 - k))+b/2^(7 - k)%2:=by
 rw [half_pow b k h,show 8 - (k+1)=7 - k by omega,Nat.pow_succ,Nat.mul_add,← Nat.mul_assoc E,Nat.mul_comm 2 (E*2^k)];omega
theorem sq_mod (x n:Nat):(x^n%PN)*(x^n%PN)%PN=x^(2*n)%PN:=by rw [pow_mod_mul,Nat.two_mul]
theorem mul_mod_pow (x n:Nat):(x^n%PN)*x%PN=x^(n+1)%PN:=by rw [Nat.mod_mul_mod,Nat.pow_succ]
theorem drop_val (e:List Nat) (p:Nat) (h:p<e.length):leV (e.drop p)=e.getD p 0+256*leV (e.drop (p+1)):=by
 rw [List.drop_eq_getElem_cons h,leV,List.getD_eq_getElem?_getD,List.getElem?_eq_getElem h]; rfl
set_option maxRecDepth 100000 in
set_option maxHeartbeats 4000000 in
theorem rpow_any (a e:List Nat) (ha:Dg a) (he:Dg e) (A B:Option Addr) (c d:Nat) (w:World) (hra:Rd w w.heap.size A (dV a)) (hrb:Rd w w.heap.size B (dV e)) (hla:a.length≤100000) (hlb:e.length≤100000) :
  Calls Tryd.prog 81 #[.slice A a.length c,.slice B e.length d] w (DigPost (digN 32 (leV a^leV e%PN)) w):=by
 obtain ⟨n,hn⟩:∃ n,n=a.length:=⟨_,rfl⟩;obtain ⟨m,hm⟩:∃ m,m=e.length:=⟨_,rfl⟩;obtain ⟨x,hx⟩:∃ x,x=leV a:=⟨_,rfl⟩;rw [← hn,← hm,← hx];have hm63:(m:Int)≤100000:=by omega
 have hmulS:∀ u,Below w.heap.size w u→∀ V,V<PN→∀ A1 c1,Rd u u.heap.size A1 (dV (digN 32 V))→Calls Tryd.prog 53 #[.slice A1 32 c1,.slice A1 32 c1] u (DigPost (digN 32 (V*V%PN)) u):=fun u hu V hV A1 c1 h1=>by
  have h:=rmul_any (digN 32 V) (digN 32 V) (digN_dg _ _) (digN_dg _ _) A1 A1 c1 c1 u h1 h1 (by rw [digN_length]; decide) (by rw [digN_length]; decide);rw [digN_val _ _ (Nat.lt_trans hV (by decide)),digN_length] at h;exact h
 have hmulA:∀ u,Below w.heap.size w u→∀ V,V<PN→∀ A1 c1,Rd u u.heap.size A1 (dV (digN 32 V))→Calls Tryd.prog 53 #[.slice A1 32 c1,.slice A n c] u (DigPost (digN 32 (V*x%PN)) u):=fun u hu V hV A1 c1 h1=>by
  have h:=rmul_any (digN 32 V) a (digN_dg _ _) ha A1 A c1 c u h1 (rd_shape hra hu) (by rw [digN_length]; decide) hla;rw [digN_val _ _ (Nat.lt_trans hV (by decide)),digN_length,← hn,← hx] at h;exact h
 have hcell:∀ u,Below w.heap.size w u→∀ p,p<m→∃ ad,B=some ad∧u.cell? (ad.add p)=some (.int .i64 ((e.getD p 0:Nat):Int)):=fun u hu p hp=>dig_cell (rd_shape hrb hu) (by rw [← hm]; exact hp);have h1:=rint_nat 1 (by decide);have MS:=zY hmulS;have MA:=zY hmulA;have HCELL:=zY hcell;have HE:=zY he;have HM:=zY hm;have H1:=zY h1;clear hmulS hmulA hcell ha he hra hrb hla hlb hn hm hx h1;go_enter Tryd.func81,Tryd.ntmps81;go_wp2_with fail;refine calls_then (H1.out _) ?_;rintro e1 w1 ⟨A1,c1,rfl,hc1,hr1,hb1⟩;rw [digN_length] at hc1;rw [digN_length]
 have hs0:∃ (j:Nat) (A1':Option Addr) (c1':Nat),j≤m∧Value.slice A1 32 c1=.slice A1' 32 c1'∧32≤c1'∧Value.int .i64 ((m:Int) - 1)=.int .i64 ((m:Int) - 1 - (j:Int))∧Rd w1 w1.heap.size A1' (dV (digN 32 (x^leV (e.drop (m - j))%PN)))∧Below w.heap.size w w1 :=
  ⟨0,A1,c1,Nat.zero_le _,rfl,hc1,by simp,by rw [Nat.sub_zero,HM.out,List.drop_length]; exact hr1,hb1⟩
 have HS0:=zY hs0;clear hc1 hr1 hb1 hs0;go_wp2_with fail
 go_loopw [5,6] (fun v i wr=>∃ (j:Nat) (A1':Option Addr) (c1':Nat),j≤m∧v=.slice A1' 32 c1'∧32≤c1'∧i=.int .i64 ((m:Int) - 1 - (j:Int))∧Rd wr wr.heap.size A1' (dV (digN 32 (x^leV (e.drop (m - j))%PN)))∧Below w.heap.size w wr) (fun _ i _=>(intOf i+1).toNat)
 case atStart=>exact HS0.out
 case round =>
  clear HS0;obtain ⟨j,A2,c2,hj,rfl,hc2,rfl,hrd,hbel⟩:=hrel
  by_cases hlt:j<m
  ·obtain ⟨p,hp⟩:∃ p,p+1+j=m:=⟨m - 1 - j,by omega⟩;have hpi:(m:Int) - 1 - (j:Int)=(p:Int):=by omega
   rw [hpi];obtain ⟨E,hE⟩:∃ E,E=leV (e.drop (m - j)):=⟨_,rfl⟩;obtain ⟨b,hb⟩:∃ b,b=e.getD p 0:=⟨_,rfl⟩;have hbl:b<256:=by rw [hb]; exact dg_getD HE.out p
   have hs0:∃ (k:Nat) (A1':Option Addr) (c1':Nat),k≤8∧Value.slice A2 32 c2=.slice A1' 32 c1'∧32≤c1'∧Value.int .i64 128=.int .i64 ((2^(7 - k):Nat):Int)∧Value.int .i64 0=.int .i64 (k:Int)∧Rd wr wr.heap.size A1' (dV (digN 32 (x^(E*2^k+b/2^(8 - k))%PN)))∧Below w.heap.size w wr :=
    ⟨0,A2,c2,by omega,rfl,hc2,rfl,rfl,by rw [Nat.pow_zero,Nat.mul_one,show b/2^(8 - 0)=0 from Nat.div_eq_of_lt hbl,Nat.add_zero,hE]; exact hrd,hbel⟩
   have HS0:=zY hs0;have HEE:=zY hE;have HB:=zY hb;have HBL:=zY hbl;have HP:=zY hp;have HLT:=zY hlt;have hpm:(p:Int)<(m:Int):=by omega
   clear hs0 hE hb hbl hp hlt hrd hbel hj hc2 hpi;go_wp2_with fail;obtain ⟨wo,rfl⟩:∃ x,x=wr:=⟨_,rfl⟩
   go_loopw [5,7,8] (fun v dv kv wr=>∃ (k:Nat) (A1':Option Addr) (c1':Nat),k≤8∧v=.slice A1' 32 c1'∧32≤c1'∧dv=.int .i64 ((2^(7 - k):Nat):Int)∧kv=.int .i64 (k:Int)∧Rd wr wr.heap.size A1' (dV (digN 32 (x^(E*2^k+b/2^(8 - k))%PN)))∧Below w.heap.size w wr) (fun _ _ kv _=>8 - (intOf kv).toNat)
   case atStart=>exact HS0.out
   case round =>
    clear HS0;obtain ⟨k,A3,c3,hk,rfl,hc3,rfl,rfl,hrd,hbel⟩:=hrel
    by_cases hltk:k<8
    ·have hltk':(k:Int)<8:=by omega
     obtain ⟨dd,hdd⟩:∃ dd,dd=2^(7 - k):=⟨_,rfl⟩;have hd1:1≤dd:=by rw [hdd]; exact Nat.two_pow_pos _
     have hd128:dd≤128:=by rw [hdd]; exact Nat.pow_le_pow_right (n:=2) (by decide) (show 7 - k≤7 by omega)
     obtain ⟨bq,hbq⟩:∃ bq,bq=b/dd:=⟨_,rfl⟩;have hbqi:(b:Int)/(dd:Int)=(bq:Int):=by rw [hbq]; simp
     obtain ⟨bit,hbit⟩:∃ t,t=bq%2:=⟨_,rfl⟩;have hbiti:(bq:Int)%2=(bit:Int):=by omega
     obtain ⟨V,hV⟩:∃ V,V=x^(E*2^k+b/2^(8 - k))%PN:=⟨_,rfl⟩;have hVl:V<PN:=by rw [hV]; exact Nat.mod_lt _ (by decide)
     have hsq:V*V%PN=x^(2*(E*2^k+b/2^(8 - k)))%PN:=by rw [hV,sq_mod]
     have hex:=expo_step E b k hltk;rw [← hdd,← hbq,← hbit] at hex;rw [← hV] at hrd;rw [← hdd];obtain ⟨V2,hV2⟩:∃ V2,V2=V*V%PN:=⟨_,rfl⟩;have hV2l:V2<PN:=by rw [hV2]; exact Nat.mod_lt _ (by decide)
     have hd2:(if 1<dd then dd/2 else dd)=2^(7 - (k+1)):=by
      by_cases h7:k=7
      ·rw [hdd,h7]; decide
      ·have e7:dd=2^(7 - (k+1))*2:=by rw [hdd,← Nat.pow_succ]; congr 1; omega
       have e8:0<2^(7 - (k+1)):=Nat.two_pow_pos _;rw [if_pos (by omega),e7];omega
     have hlt8:(b:Int)<256:=by have:=HBL.out; omega
     have hbql:(bq:Int)<256:=by have h:=Nat.div_le_self b dd; rw [← hbq] at h; omega
     have hpm2:p<m:=by omega
     obtain ⟨bd,rfl,_⟩:=HCELL.out wr hbel p hpm2;have CALL:=zY (MS.out wr hbel V hVl A3 c3 hrd);rw [← hV2] at CALL;have HV2:=zY hV2;have HV2L:=zY hV2l;have HSQ:=zY hsq;have HEX:=zY hex;have HBEL:=zY hbel;have HPM:=zY hpm2;have HK8:=zY (show k+1≤8 by omega);have hd1':¬ (dd:Int)=0:=by omega
     have hd1'':(0:Int)<(dd:Int):=by omega
     have hd128':(dd:Int)≤128:=by omega
     have hbitl:bit<2:=by omega
     clear hV2 hV2l hsq hex hbel hpm2 hV hVl hrd hdd hbq hk hltk hc3
     by_cases hbitn:bit=1 <;> by_cases hgtn:1<dd
     ·have hbit1:(bq:Int)%2=1:=by omega
      have hdi:(dd:Int) > 1:=by omega
      obtain ⟨d2,hd2e⟩:∃ d2,d2=dd/2:=⟨_,rfl⟩;have hd2i:(dd:Int)/2=(d2:Int):=by omega
      rw [if_pos (show 1<dd by omega),← hd2e] at hd2;have HD2:=zY hd2;clear hd2 hd2e;have hbb:bit=1:=by omega
      have hfin:V2*x%PN=x^(E*2^(k+1)+b/2^(8 - (k+1)))%PN:=by rw [HEX.out,hbb,HV2.out,HSQ.out,mul_mod_pow]
      have HFIN:=zY hfin;clear hfin hbb;clear hbitn hgtn hbiti;go_wp2_with fail;refine calls_then CALL.out ?_;rintro e3 w3 ⟨A4,c4,rfl,hc4,hr4,hb4⟩;rw [digN_length] at hc4;rw [digN_length];have HB4:=zY (HBEL.out.trans (hb4.mono HBEL.out.size));obtain ⟨ad2,h1,hca⟩:=HCELL.out w3 HB4.out p HPM.out
      injection h1 with h1
      subst h1;rw [← HB.out] at hca;have HC4:=zY hc4;have HR4:=zY hr4;have HMA:=zY (MA.out w3 HB4.out V2 HV2L.out A4 c4 hr4);clear hc4 hr4 hb4;go_wp2_with fail;refine calls_then HMA.out ?_;rintro e5 w5 ⟨A5,c5,rfl,hc5,hr5,hb5⟩;rw [digN_length] at hc5;rw [digN_length];rw [HFIN.out] at hr5;have HB5:=zY (HB4.out.trans (hb5.mono HB4.out.size));have HC5:=zY hc5;have HR5:=zY hr5;clear hc5 hr5 hb5;go_wp2_with fail;refine ⟨⟨k+1,A5,c5,HK8.out,rfl,HC5.out,by rw [← HD2.out],by go_num,HR5.out,HB5.out⟩,by have:=HK8.out; simp [intOf]; omega⟩
     ·have hbit1:(bq:Int)%2=1:=by omega
      have hdi:¬ (dd:Int) > 1:=by omega
      rw [if_neg (show ¬ 1<dd by omega)] at hd2;have HD2:=zY hd2;clear hd2;have hbb:bit=1:=by omega
      have hfin:V2*x%PN=x^(E*2^(k+1)+b/2^(8 - (k+1)))%PN:=by rw [HEX.out,hbb,HV2.out,HSQ.out,mul_mod_pow]
      have HFIN:=zY hfin;clear hfin hbb;clear hbitn hgtn hbiti;go_wp2_with fail;refine calls_then CALL.out ?_;rintro e3 w3 ⟨A4,c4,rfl,hc4,hr4,hb4⟩;rw [digN_length] at hc4;rw [digN_length];have HB4:=zY (HBEL.out.trans (hb4.mono HBEL.out.size));obtain ⟨ad2,h1,hca⟩:=HCELL.out w3 HB4.out p HPM.out
      injection h1 with h1
      subst h1;rw [← HB.out] at hca;have HC4:=zY hc4;have HR4:=zY hr4;have HMA:=zY (MA.out w3 HB4.out V2 HV2L.out A4 c4 hr4);clear hc4 hr4 hb4;go_wp2_with fail;refine calls_then HMA.out ?_;rintro e5 w5 ⟨A5,c5,rfl,hc5,hr5,hb5⟩;rw [digN_length] at hc5;rw [digN_length];rw [HFIN.out] at hr5;have HB5:=zY (HB4.out.trans (hb5.mono HB4.out.size));have HC5:=zY hc5;have HR5:=zY hr5;clear hc5 hr5 hb5;go_wp2_with fail;refine ⟨⟨k+1,A5,c5,HK8.out,rfl,HC5.out,by rw [← HD2.out],by go_num,HR5.out,HB5.out⟩,by have:=HK8.out; simp [intOf]; omega⟩
     ·have hbit1:(bq:Int)%2=0:=by omega
      have hbz:¬ (bq:Int)%2=1:=by omega
      have hdi:(dd:Int) > 1:=by omega
      obtain ⟨d2,hd2e⟩:∃ d2,d2=dd/2:=⟨_,rfl⟩;have hd2i:(dd:Int)/2=(d2:Int):=by omega
      rw [if_pos (show 1<dd by omega),← hd2e] at hd2;have HD2:=zY hd2;clear hd2 hd2e;have hbb:bit=0:=by omega
      have hfin:V2=x^(E*2^(k+1)+b/2^(8 - (k+1)))%PN:=by rw [HEX.out,hbb,HV2.out,HSQ.out,Nat.add_zero]
      have HFIN:=zY hfin;clear hfin hbb;clear hbitn hgtn hbiti;go_wp2_with fail;refine calls_then CALL.out ?_;rintro e3 w3 ⟨A4,c4,rfl,hc4,hr4,hb4⟩;rw [digN_length] at hc4;rw [digN_length];have HB4:=zY (HBEL.out.trans (hb4.mono HBEL.out.size));obtain ⟨ad2,h1,hca⟩:=HCELL.out w3 HB4.out p HPM.out
      injection h1 with h1
      subst h1;rw [← HB.out] at hca;have HC4:=zY hc4;have HR4:=zY hr4;clear hc4 hr4 hb4;go_wp2_with fail;have hr5:=HR4.out;rw [HFIN.out] at hr5;refine ⟨⟨k+1,A4,c4,HK8.out,rfl,HC4.out,by rw [← HD2.out],by go_num,hr5,HB4.out⟩,by have:=HK8.out; simp [intOf]; omega⟩
     ·have hbit1:(bq:Int)%2=0:=by omega
      have hbz:¬ (bq:Int)%2=1:=by omega
      have hdi:¬ (dd:Int) > 1:=by omega
      rw [if_neg (show ¬ 1<dd by omega)] at hd2;have HD2:=zY hd2;clear hd2;have hbb:bit=0:=by omega
      have hfin:V2=x^(E*2^(k+1)+b/2^(8 - (k+1)))%PN:=by rw [HEX.out,hbb,HV2.out,HSQ.out,Nat.add_zero]
      have HFIN:=zY hfin;clear hfin hbb;clear hbitn hgtn hbiti;go_wp2_with fail;refine calls_then CALL.out ?_;rintro e3 w3 ⟨A4,c4,rfl,hc4,hr4,hb4⟩;rw [digN_length] at hc4;rw [digN_length];have HB4:=zY (HBEL.out.trans (hb4.mono HBEL.out.size));obtain ⟨ad2,h1,hca⟩:=HCELL.out w3 HB4.out p HPM.out
      injection h1 with h1
      subst h1;rw [← HB.out] at hca;have HC4:=zY hc4;have HR4:=zY hr4;clear hc4 hr4 hb4;go_wp2_with fail;have hr5:=HR4.out;rw [HFIN.out] at hr5;refine ⟨⟨k+1,A4,c4,HK8.out,rfl,HC4.out,by rw [← HD2.out],by go_num,hr5,HB4.out⟩,by have:=HK8.out; simp [intOf]; omega⟩
    ·obtain rfl:k=8:=by omega
     have hval:x^(E*2^8+b/2^(8 - 8))=x^leV (e.drop (m - (j+1))):=by
      have hp:=HP.out;rw [show m - (j+1)=p by omega,drop_val e p (by rw [← HM.out]; omega),← HB.out,show p+1=m - j by omega,← HEE.out]
      congr 1
      rw [show (2:Nat)^8=256 from rfl,Nat.sub_self,Nat.pow_zero,Nat.div_one];omega
     rw [hval] at hrd;have HRD:=zY hrd;have HBEL:=zY hbel;have HC3:=zY hc3;have hp1:(p:Int) - 1=(m:Int) - 1 - ((j+1:Nat):Int):=by have:=HP.out; omega
     have HP1:=zY hp1;clear hval hrd hbel hc3 hk hltk hp1;go_wp2_with fail;exact ⟨⟨j+1,A3,c3,HLT.out,rfl,HC3.out,by rw [HP1.out],HRD.out,HBEL.out⟩,by simp [intOf]⟩
  ·obtain rfl:j=m:=by omega
   rw [Nat.sub_self,List.drop_zero] at hrd;have HRD:=zY hrd;have HBEL:=zY hbel;have HC:=zY hc2;have hpi:(j:Int) - 1 - (j:Int)=-1:=by omega
   rw [hpi];clear hrd hbel hc2 hpi hlt;go_wp2_with fail;go_ret;exact ⟨A2,c2,by rw [digN_length]; rfl,by rw [digN_length]; exact HC.out,HRD.out,HBEL.out⟩
end Go.Proofs.YtdgheahbafnboaaDoor
/-
  Walk: the reference's Inv.
-/
namespace Go.Proofs.YtdgheahbafnboaaDoor
set_option linter.unusedSimpArgs false
set_option linter.unusedVariables false
open Go.RowKit
theorem two_val:leV [2]=2:=rfl
theorem two_dg:Dg [2]:=by unfold Dg; decide
theorem inv_exp:leV (digN 32 (leV pL - leV [2]))=PN - 2:=by rw [pL_val,two_val,digN_val _ _ (by decide)]
set_option maxRecDepth 100000 in
set_option maxHeartbeats 2000000 in
theorem rinv_any (a:List Nat) (ha:Dg a) (A:Option Addr) (c:Nat) (w:World) (hra:Rd w w.heap.size A (dV a)) (hla:a.length≤100000) :
  Calls Tryd.prog 52 #[.slice A a.length c] w (DigPost (digN 32 (leV a^(PN - 2)%PN)) w):=by
 have cM:∀ u A1 c1 A2 c2,Rd u u.heap.size A1 (dV pL)→Rd u u.heap.size A2 (dV [2])→Calls Tryd.prog 82 #[.slice A1 32 c1,.slice A2 1 c2] u (DigPost (digN 32 (leV pL - leV [2])) u):=fun u A1 c1 A2 c2 h1 h2=>by
  have h:=minus_any pL [2] pL_dg two_dg (by rw [pL_val,two_val]; decide) A1 A2 c1 c2 u h1 h2 (by rw [pL_len]; decide) (by decide);rw [pL_len] at h; exact h
 have cP:∀ u,Below w.heap.size w u→∀ A1 c1,Rd u u.heap.size A1 (dV (digN 32 (leV pL - leV [2])))→Calls Tryd.prog 81 #[.slice A a.length c,.slice A1 32 c1] u (DigPost (digN 32 (leV a^(PN - 2)%PN)) u):=fun u hu A1 c1 h1=>by
  have h:=rpow_any a (digN 32 (leV pL - leV [2])) ha (digN_dg _ _) A A1 c c1 u (rd_shape hra hu) h1 hla (by rw [digN_length]; decide);rw [inv_exp,digN_length] at h; exact h
 generalize a.length=n at *;have CM:=zY cM;have CP:=zY cP;generalize digN 32 (leV a^(PN - 2)%PN)=R at *;have hmm:(digN 32 (leV pL - leV [2])).length=32:=digN_length _ _;generalize digN 32 (leV pL - leV [2])=E at *;have HEL:=zY hmm;clear ha hra hla cM cP hmm;go_enter Tryd.func52,Tryd.ntmps52;go_wp2_with fail;refine calls_then (p_any _) ?_;rintro e w1 ⟨A1,c1,rfl,hc1,hr1,hb1⟩;have hnew:=Blk.new w1 3 (dV [2]).toArray;have hbn:Below w1.heap.size w1 (w1.alloc (.cells (dV [2]).toArray 3)):=below_new _ _;have HCM:=zY (CM.out (w1.alloc (.cells (dV [2]).toArray 3)) A1 c1 (some ⟨w1.heap.size,0,none⟩) 1 (rd_shape hr1 hbn) (Rd.of_blk hnew hnew.lt));have HB1:=zY (hb1.trans (hbn.mono hb1.size));clear hc1 hr1 hb1 hnew hbn;rw [pL_len];go_wp2_with fail;refine calls_then HCM.out ?_;rintro e w2 ⟨A2,c2,rfl,hc2,hr2,hb2⟩;rw [HEL.out];have HB2:=zY (HB1.out.trans (hb2.mono HB1.out.size));have HCP:=zY (CP.out w2 HB2.out A2 c2 hr2);clear hc2 hr2 hb2;go_wp2_with fail;refine calls_then HCP.out ?_;rintro e w3 ⟨A3,c3,rfl,hc3,hr3,hb3⟩;have HC:=zY hc3;have HR:=zY hr3;have HB3:=zY (HB2.out.trans (hb3.mono HB2.out.size));clear hc3 hr3 hb3;go_wp2_with fail;go_ret;exact ⟨A3,c3,rfl,HC.out,HR.out,HB3.out⟩
end Go.Proofs.YtdgheahbafnboaaDoor
/-
  Plain: powers modulo p, reckoned.
-/
namespace Go.Proofs.YtdgheahbafnboaaDoor
set_option linter.unusedSimpArgs false
set_option linter.unusedVariables false
open Go.RowKit
def pm (m x:Nat):List Nat→Nat
 | []=>1%m
 | d :: r=>(x^d%m)*((pm m x r)^256%m)%m
theorem pm_eq (m x:Nat):∀ l,pm m x l=x^leV l%m
 | []=>by rw [pm,leV,Nat.pow_zero]
 | d :: r=>by
  rw [pm,pm_eq m x r,leV,Nat.pow_add,Nat.pow_mul',← Nat.pow_mod,← Nat.mul_mod]
theorem invL_val:leV invL=PN - 2:=by decide
theorem invL_dg:Dg invL:=by unfold Dg invL; decide
theorem invL_length:invL.length=32:=by decide
theorem invE_ok {x:E5} (hx:x.Ok):(invE x).Ok:=pwL_ok hx _ _
theorem invE_val (x:E5):(invE x).val%PN=x.val^(PN - 2)%PN:=by
 have h:=pwL_val x invL invL_dg 32 (by decide);rw [show invL.length - 32=0 by decide,List.drop_zero,invL_val] at h;exact h
theorem two_inv:2^(PN - 2)%PN*2%PN=1:=by
 have h:=pm_eq PN 2 invL;rw [invL_val] at h;rw [← h]
 decide
def oneE:E5:=mulE (invE (intE 2)) (intE 2)
theorem intE_nat (n:Nat):intE (n:Int)=natE n:=by
 unfold intE;rw [if_neg (by omega),Int.natAbs_natCast]
theorem oneE_val:oneE.val%PN=1:=by
 have e:intE 2=natE 2:=intE_nat 2;rw [oneE,mul_val,e,Nat.mul_mod,invE_val,natE_val,← Nat.mul_mod];have h:=two_inv;rw [Nat.mod_mul_mod] at h;exact h
theorem oneE_ok:oneE.Ok:=mul_ok (invE_ok (intE_ok (by decide) (by decide))) (intE_ok (by decide) (by decide))
theorem limbs_inj {x y:E5} (h:limbs x=limbs y):x=y:=by
 obtain ⟨a1,b1,c1,d1,e1⟩:=x;obtain ⟨a2,b2,c2,d2,e2⟩:=y;simp only [limbs,List.cons.injEq] at h;obtain ⟨rfl,rfl,rfl,rfl,rfl,_⟩:=h;rfl
theorem eqE {x y:E5} (hx:x.Lt 18446744073709551616) (hy:y.Lt 18446744073709551616):(limbs (leastE x) == limbs (leastE y))=decide (x.val%PN=y.val%PN):=by
 rw [Bool.eq_iff_iff,beq_iff_eq,decide_eq_true_iff,← least_val hx,← least_val hy];exact ⟨fun h=>by rw [limbs_inj h],fun h=>by rw [least_inj (least_lt x) (least_lt y) h]⟩
theorem oneE_one:(limbs (leastE oneE) == limbs (leastE (intE 1)))=true:=by
 rw [eqE oneE_ok.big (intE_ok (by decide) (by decide)).big,oneE_val,show intE 1=natE 1 from intE_nat 1,natE_val]
 decide
theorem oneE_zero:(limbs (leastE oneE) == limbs (leastE (intE 0)))=false:=by
 rw [eqE oneE_ok.big (intE_ok (by decide) (by decide)).big,oneE_val,show intE 0=natE 0 from intE_nat 0,natE_val]
 decide
theorem minus_val:(leastE (intE (-1))).val=PN - 1:=by decide
end Go.Proofs.YtdgheahbafnboaaDoor
/-
  Plain: the same modulo p; whether two elements are the same.
-/
namespace Go.Proofs.YtdgheahbafnboaaDoor
set_option linter.unusedSimpArgs false
set_option linter.unusedVariables false
open Go.RowKit
def eqB (x y:E5):Bool:=limbs (leastE x) == limbs (leastE y)
theorem eqB_true {x y:E5} (hx:x.Ok) (hy:y.Ok) (h:x.val%PN=y.val%PN):eqB x y=true:=by
 rw [eqB,eqE hx.big hy.big]; exact decide_eq_true h
def Sm (a b:Nat):Prop:=a%PN=b%PN
theorem Sm.refl (a:Nat):Sm a a:=rfl
theorem Sm.symm {a b:Nat} (h:Sm a b):Sm b a:=Eq.symm h
theorem Sm.trans {a b c:Nat} (h:Sm a b) (k:Sm b c):Sm a c:=Eq.trans h k
theorem Sm.add {a b c d:Nat} (h:Sm a b) (k:Sm c d):Sm (a+c) (b+d):=by
 unfold Sm at *;rw [Nat.add_mod,h,k,← Nat.add_mod]
theorem Sm.mul {a b c d:Nat} (h:Sm a b) (k:Sm c d):Sm (a*c) (b*d):=by
 unfold Sm at *;rw [Nat.mul_mod,h,k,← Nat.mul_mod]
theorem Sm.of {a b:Nat} (h:a=b):Sm a b:=by rw [h]; exact Sm.refl _
theorem Sm.back {a b c:Nat} (h:Sm (a+c) (b+c)):Sm a b:=by
 unfold Sm at *;simp only [PN] at *;omega
theorem sm_add (x y:E5):Sm (addE x y).val (x.val+y.val):=add_val x y
theorem sm_mul (x y:E5):Sm (mulE x y).val (x.val*y.val):=mul_val x y
theorem sm_sub {x y:E5} (hy:y.Ok):Sm ((subE x y).val+y.val) x.val:=sub_val hy
end Go.Proofs.YtdgheahbafnboaaDoor
/-
  The field's contracts once more; a struct's load behind a guard.
-/
namespace Go.Proofs.YtdgheahbafnboaaDoor
set_option linter.unusedSimpArgs false
set_option linter.unusedVariables false
open Go.RowKit
theorem mul_c (x y:E5) (w:World) (hx:x.Ok) (hy:y.Ok):Calls Tryd.prog 41 #[.agg (eV x),.agg (eV y)] w (ElemPost (mulE x y) w):=mul_any x y w hx hy
theorem add_c (x y:E5) (w:World) (hx:x.Ok) (hy:y.Ok):Calls Tryd.prog 38 #[.agg (eV x),.agg (eV y)] w (ElemPost (addE x y) w):=add_any x y w (E5.Lt.mono hx (by decide)) (E5.Lt.mono hy (by decide))
theorem sub_c (x y:E5) (w:World) (hx:x.Ok) (hy:y.Ok):Calls Tryd.prog 64 #[.agg (eV x),.agg (eV y)] w (ElemPost (subE x y) w):=sub_any x y w (E5.Lt.mono hx (by decide)) hy.big
def BoolPost (b:Bool) (w:World) (e:Ending) (w':World):Prop:=e=.returned (.bool b)∧Below w.heap.size w w'
theorem equal_c (x y:E5) (w:World) (hx:x.Ok) (hy:y.Ok):Calls Tryd.prog 66 #[.agg (eV x),.agg (eV y)] w (BoolPost (eqB x y) w):=equal_any x y w hx.big hy.big
theorem equal_t (x y:E5) (w:World) (hx:x.Ok) (hy:y.Ok) (h:eqB x y=true):Calls Tryd.prog 66 #[.agg (eV x),.agg (eV y)] w (BoolPost true w):=by
 have h1:=equal_c x y w hx hy;rw [h] at h1; exact h1
theorem box_new {w0 u u':World} {cs:Array Value} {o:Obj} (hbel:Below w0.heap.size w0 u) (hw:Wrote u.heap.size (u.alloc o) u'):Below w0.heap.size w0 u' :=
 hw.below (hbel.alloc hbel.size _) hbel.size (by simp; have:=hbel.size; omega)
theorem box_keep {u u':World} {g:Nat} {t:TypeId} {cs:Array Value} {o:Obj} (h:Blk u g t cs) (hw:Wrote u.heap.size (u.alloc o) u'):Blk u' g t cs :=
 hw.blk (h.alloc _) (Nat.ne_of_lt h.lt)
theorem rd_takeB {w:World} {B n:Nat} {A:Option Addr} {l:List UInt8} (h:Rd w B A (bytesV l)):Rd w B A (bytesV (l.take n)):=fun i u hi=>by
 refine h i u ?_;rw [bytesV,List.getElem?_map,List.getElem?_take] at hi;rw [bytesV,List.getElem?_map]
 split at hi
 ·exact hi
 ·simp at hi
section
variable {P:Program}
theorem wpList_get_boxg {w:World} {ops:Array Oper} {rest:List Oper} {o:Oper} {a:Act} {Q:Exit→Act→World→Prop} {ty:TypeId} {x:Operand} {g:Nat} {cs:Array Value} {t:TypeId} {d:TypeDesc}
  (hg:Blk w g t cs) (hw:Region.wanted o (yielded ops a.tmps)=true) (ho:o.op=.load ty x) (hx:a.eval x=.pointer (some ⟨g,0,none⟩))
  (hu:P.underlying ty=some d) (hd:(match d with | .struct _ | .array _ _=>true | _=>false)=true) (hi:(P.info? ty).map (·.size)=some cs.size)
  (h:wpList P ops Q rest (a.put o.dst (.agg cs)) w):wpList P ops Q (o :: rest) a w:=by
 refine wpList_step fun K hK=>?_;rw [if_pos hw];exact wp_load_row ty x ho g hx t cs (0,0) d hg hu hd hi (hK _ _ h)
end
theorem odd_c (x:E5) (hx:x.Ok) (u:World):Calls Tryd.prog 43 #[.agg (eV x)] u (BoolPost (decide (x.val%PN%2=1)) u):=by
 have h:=odd_any x u hx.big
 have e:(leastE x).a%2=x.val%PN%2:=by
  rw [← least_val hx.big];simp only [E5.val];omega
 rw [e] at h;exact h
end Go.Proofs.YtdgheahbafnboaaDoor
/-
  The reference's Same; an element's digits, and its contracts by them.
-/
namespace Go.Proofs.YtdgheahbafnboaaDoor
set_option linter.unusedSimpArgs false
set_option linter.unusedVariables false
open Go.RowKit
theorem refB_dig (V:Nat):refB (digN 32 V)=byB V:=by
 rw [refB,byB,byN_dig];apply List.ext_getElem?;intro j
 by_cases hj:j<32
 ·rw [List.getElem?_map,List.getElem?_map,List.getElem?_range hj,List.getElem?_eq_getElem (by rw [digN_length]; exact hj)];simp [List.getD_eq_getElem?_getD,List.getElem?_eq_getElem (show j<(digN 32 V).length by rw [digN_length]; exact hj)]
 ·rw [List.getElem?_eq_none (by simp; omega),List.getElem?_eq_none (by simp [digN_length]; omega)]
theorem intE_neg {m:Nat} (hm:m≤9223372036854775808):(subE zE (natE m)).val%PN=(PN - m%PN)%PN:=by
 have h:=sub_val (x:=zE) (y:=natE m) (natE_ok hm);rw [natE_val,show zE.val=0 from rfl] at h;obtain ⟨v,hv⟩:∃ v,v=(subE zE (natE m)).val:=⟨_,rfl⟩;rw [← hv] at h ⊢;simp only [PN] at *;omega
theorem zero_int:eqB zE (intE 0)=true:=eqB_true zE_ok (intE_ok (by decide) (by decide)) (by rw [show intE 0=natE 0 from intE_nat 0,natE_val]; rfl)
theorem mod_lt_big (N:Nat):N%PN<256^32:=Nat.lt_trans (Nat.mod_lt _ (by decide)) (by decide)
theorem int_parts (n:Int) (h1:-9223372036854775808≤n) (h2:n<9223372036854775808):∃ V,(intE n).val%PN=V%PN∧∀ w,Calls Tryd.prog 50 #[.int .i64 n] w (DigPost (digN 32 (V%PN)) w):=by
 by_cases hn:n<0
 ·obtain ⟨m,rfl⟩:∃ m:Nat,n=-(m:Int):=⟨n.natAbs,by omega⟩;refine ⟨PN - m%PN,?_,fun w=>rint_neg m (by omega) (by omega) w⟩
  have e:intE (-(m:Int))=subE zE (natE m):=by
   unfold intE;rw [if_pos hn,Int.natAbs_neg,Int.natAbs_natCast]
  rw [e];exact intE_neg (by omega)
 ·obtain ⟨m,rfl⟩:∃ m:Nat,n=(m:Int):=⟨n.natAbs,by omega⟩;refine ⟨m,by rw [intE_nat,natE_val],fun w=>rint_nat m (by omega) w⟩
set_option maxRecDepth 100000 in
set_option maxHeartbeats 2000000 in
theorem same_any (a b:List Nat) (ha:Dg a) (hb:Dg b) (hla:a.length=32) (hlb:b.length=32) (A B:Option Addr) (c d:Nat) (w:World) (hra:Rd w w.heap.size A (dV a)) (hrb:Rd w w.heap.size B (dV b)) (hc:32≤c) (hd:32≤d) :
  Calls Tryd.prog 85 #[.slice A 32 c,.slice B 32 d] w (BoolPost (refB a == refB b) w):=by
 obtain ⟨Y,hY⟩:∃ Y,Y=refB a:=⟨_,rfl⟩;obtain ⟨Z,hZ⟩:∃ Z,Z=refB b:=⟨_,rfl⟩;have hYl:Y.length=32:=by rw [hY,refB_length]
 have hZl:Z.length=32:=by rw [hZ,refB_length]
 have cY:∀ u,Below w.heap.size w u→Calls Tryd.prog 48 #[.slice A 32 c] u (OwnPost 5 32 (bytesV Y) u):=fun u hu=>by
  have h:=rbytes_any a ha A c u ((hra.below hu).mono hu.size) (by omega) (by omega);rw [hla,← hY] at h; exact h
 have cZ:∀ u,Below w.heap.size w u→Calls Tryd.prog 48 #[.slice B 32 d] u (OwnPost 5 32 (bytesV Z) u):=fun u hu=>by
  have h:=rbytes_any b hb B d u ((hrb.below hu).mono hu.size) (by omega) (by omega);rw [hlb,← hZ] at h; exact h
 rw [← hY,← hZ];have CY:=zY cY;have CZ:=zY cZ;have HYL:=zY hYl;have HZL:=zY hZl;clear hra hrb ha hb hla hlb hc hd hY hZ hYl hZl cY cZ;go_enter Tryd.func85,Tryd.ntmps85;go_wp2_with fail;have HC0:Below w.heap.size w w.drew:=(Below.refl _ _).drew
 refine wp_region_list (fun u=>Below w.heap.size w u) (fun | false=>(fun _=>True) | true=>(fun _=>True)) (fun | false,_=>false | true,_=>false)
  [fun z _=>z 0=.slice A 32 c,
   fun z u=>(RdV 32 (bytesV Y)) (z 1) u,
   fun z _=>z 2=.string ⟨Y.toArray⟩,
   fun z _=>z 3=.slice B 32 d,
   fun z u=>(RdV 32 (bytesV Z)) (z 4) u,
   fun z _=>z 5=.string ⟨Z.toArray⟩,
   fun z _=>z 6=.bool (Y == Z),
   fun z _=>z 7=.bool (Y == Z)]
  [Eq,fun u u'=>Below u.heap.size u u',Eq,Eq,fun u u'=>Below u.heap.size u u',Eq,Eq,Eq]
  (fun _ _=>false) [(0,some 5),(1,some 6),(2,some 7),(3,some 8),(4,some 9),(5,some 10),(6,some 11),(7,some 4)] (by kernel_rfl) (by kernel_rfl) rfl (fun _=>rfl) ?_ ?_ ?_ ?_ ?_ ?_
 ·exact HC0
 ·intro m; cases m; exact trivial; exact trivial
 ·intro m; cases m
  ·refine ⟨?_,.inr (fun _ _ _ h=>h),?_,?_,.inr (fun _ _ _ h=>h),?_,?_,?_,trivial⟩ <;> exact .inr fun _ _ h h0=>h▸h0
  ·refine ⟨?_,.inr (fun _ _ _ h=>h),?_,?_,.inr (fun _ _ _ h=>h),?_,?_,?_,trivial⟩ <;> exact .inr fun _ _ h h0=>h▸h0
 ·refine ⟨⟨.inl rfl,?_,?_,?_,?_,?_,?_,?_,trivial⟩,⟨?_,.inl rfl,?_,?_,?_,?_,?_,?_,trivial⟩,⟨?_,.inr (.inr (.inr (fun _ _ _ _ h h0=>by cases h; exact h0))),.inl rfl,?_,.inr (.inr (.inr (fun _ _ _ _ h h0=>by cases h; exact h0))),?_,?_,?_,trivial⟩,⟨?_,.inr (.inr (.inr (fun _ _ _ _ h h0=>by cases h; exact h0))),?_,.inl rfl,?_,?_,?_,?_,trivial⟩,⟨?_,.inr (.inr (.inr (fun _ _ _ _ h h0=>h0.next h))),?_,?_,.inl rfl,?_,?_,?_,trivial⟩,⟨?_,.inr (.inr (.inr (fun _ _ _ _ h h0=>by cases h; exact h0))),?_,?_,.inr (.inr (.inr (fun _ _ _ _ h h0=>by cases h; exact h0))),.inl rfl,?_,?_,trivial⟩,⟨?_,.inr (.inr (.inr (fun _ _ _ _ h h0=>by cases h; exact h0))),?_,?_,.inr (.inr (.inr (fun _ _ _ _ h h0=>by cases h; exact h0))),?_,.inl rfl,?_,trivial⟩,⟨?_,.inr (.inr (.inr (fun _ _ _ _ h h0=>by cases h; exact h0))),?_,?_,.inr (.inr (.inr (fun _ _ _ _ h h0=>by cases h; exact h0))),?_,?_,.inl rfl,trivial⟩,trivial⟩ <;> first | exact .inr (.inr (.inl rfl)) | exact .inr (.inr (.inr fun _ _ _ _ _ h=>h))
 ·refine ⟨?_,?_,?_,?_,?_,?_,?_,?_,trivial⟩
  ·refine step_plain [] (fun _=>rfl) rfl ?_;intro w1 vals hC1 hi0 hf E hE;clear hi0;clear hf;simp only [sP] at hE ⊢;go_wp2;exact .mk (hE _ _ rfl hC1 rfl)
  ·refine step_plain [(0,some 5)] (fun _=>rfl) rfl ?_;intro w1 vals hC1 hi0 hf E hE;clear hi0;have f0:vals 0=.slice A 32 c:=hf 0 rfl
   try dsimp only at f0
   clear hf;simp only [sP,f0] at hE ⊢;clear f0;go_wp2_with fail;refine calls_then (CY.out _ hC1) ?_;rintro e w2 ⟨A2,c2,rfl,hown,hb2⟩;have hrv:=RdV.of_own hown;go_wp2_with fail;exact .mk (hE _ _ hrv (hC1.trans (hb2.mono hC1.size)) hb2)
  ·refine step_plain [(1,some 6)] (fun _=>rfl) rfl ?_;intro w1 vals hC1 hi0 hf E hE;clear hi0;have f1:(RdV 32 (bytesV Y)) (vals 1) w1:=hf 1 rfl
   try dsimp only at f1
   clear hf;obtain ⟨A2,c2,hx2,hc2,hrd⟩:=f1;simp only [sP,hx2] at hE ⊢;clear hx2;refine wpList_str_of (l:=Y) hrd Tryd.underlying22 Tryd.underlying5 Tryd.underlying9 rfl rfl (len_eq HYL.out _ _) ?_;go_wp2_with fail;exact .mk (hE _ _ rfl hC1 rfl)
  ·refine step_plain [] (fun _=>rfl) rfl ?_;intro w1 vals hC1 hi0 hf E hE;clear hi0;clear hf;simp only [sP] at hE ⊢;go_wp2;exact .mk (hE _ _ rfl hC1 rfl)
  ·refine step_plain [(3,some 8),(1,some 6)] (fun _=>rfl) rfl ?_;intro w1 vals hC1 hi0 hf E hE;clear hi0;have f1:(RdV 32 (bytesV Y)) (vals 1) w1:=hf 1 rfl;have f3:vals 3=.slice B 32 d:=hf 3 rfl
   try dsimp only at f1 f3
   clear hf;simp only [sP,f3] at hE ⊢;clear f3;go_wp2_with fail;refine calls_then (CZ.out _ hC1) ?_;rintro e w2 ⟨A2,c2,rfl,hown,hb2⟩;have hrv:=RdV.of_own hown;go_wp2_with fail;exact .mk (hE _ _ hrv (hC1.trans (hb2.mono hC1.size)) hb2)
  ·refine step_plain [(4,some 9)] (fun _=>rfl) rfl ?_;intro w1 vals hC1 hi0 hf E hE;clear hi0;have f4:(RdV 32 (bytesV Z)) (vals 4) w1:=hf 4 rfl
   try dsimp only at f4
   clear hf;obtain ⟨A2,c2,hx2,hc2,hrd⟩:=f4;simp only [sP,hx2] at hE ⊢;clear hx2;refine wpList_str_of (l:=Z) hrd Tryd.underlying22 Tryd.underlying5 Tryd.underlying9 rfl rfl (len_eq HZL.out _ _) ?_;go_wp2_with fail;exact .mk (hE _ _ rfl hC1 rfl)
  ·refine step_plain [(2,some 7),(5,some 10)] (fun _=>rfl) rfl ?_;intro w1 vals hC1 hi0 hf E hE;clear hi0;have f2:vals 2=.string ⟨Y.toArray⟩:=hf 2 rfl;have f5:vals 5=.string ⟨Z.toArray⟩:=hf 5 rfl
   try dsimp only at f2 f5
   clear hf;simp only [sP,f2,f5] at hE ⊢;clear f2 f5;go_wp2;exact .mk (hE _ _ rfl hC1 rfl)
  ·refine step_plain [(6,some 11),(4,some 9),(0,some 5),(1,some 6),(2,some 7),(3,some 8),(4,some 9),(5,some 10),(6,some 11)] (fun _=>rfl) rfl ?_;intro w1 vals hC1 hi0 hf E hE;clear hi0;have f0:vals 0=.slice A 32 c:=hf 0 rfl;have f1:(RdV 32 (bytesV Y)) (vals 1) w1:=hf 1 rfl;have f2:vals 2=.string ⟨Y.toArray⟩:=hf 2 rfl;have f3:vals 3=.slice B 32 d:=hf 3 rfl;have f4:(RdV 32 (bytesV Z)) (vals 4) w1:=hf 4 rfl;have f5:vals 5=.string ⟨Z.toArray⟩:=hf 5 rfl;have f6:vals 6=.bool (Y == Z):=hf 6 rfl
   try dsimp only at f0 f1 f2 f3 f4 f5 f6
   clear hf;simp only [sP,f0,f2,f3,f5,f6] at hE ⊢;clear f0 f2 f3 f5 f6;go_wp2;exact .mk (hE _ _ rfl hC1 rfl)
 intro w1 vals hC1 hf;have f0:vals 0=.slice A 32 c:=hf 0 (by decide) rfl;have f1:(RdV 32 (bytesV Y)) (vals 1) w1:=hf 1 (by decide) rfl;have f2:vals 2=.string ⟨Y.toArray⟩:=hf 2 (by decide) rfl;have f3:vals 3=.slice B 32 d:=hf 3 (by decide) rfl;have f4:(RdV 32 (bytesV Z)) (vals 4) w1:=hf 4 (by decide) rfl;have f5:vals 5=.string ⟨Z.toArray⟩:=hf 5 (by decide) rfl;have f6:vals 6=.bool (Y == Z):=hf 6 (by decide) rfl;have f7:vals 7=.bool (Y == Z):=hf 7 (by decide) rfl
 try dsimp only at f0 f1 f2 f3 f4 f5 f6 f7
 clear hf;simp only [sP,f0,f2,f3,f5,f6,f7];clear f0 f2 f3 f5 f6 f7;generalize vals 1=x1 at *;generalize vals 4=x4 at *;clear HC0 f1 f4;go_wp2_with fail;go_ret;exact ⟨rfl,hC1⟩
def dgE (x:E5):List Nat:=digN 32 (x.val%PN)
theorem dgE_dg (x:E5):Dg (dgE x):=digN_dg _ _
theorem dgE_length (x:E5):(dgE x).length=32:=digN_length _ _
theorem dgE_val (x:E5):leV (dgE x)=x.val%PN:=digN_val _ _ (mod_lt_big _)
theorem dgE_lt (x:E5):leV (dgE x)<PN:=by rw [dgE_val]; exact Nat.mod_lt _ (by decide)
theorem sm_mod (x:E5):Sm x.val (leV (dgE x)):=by rw [dgE_val]; exact (Nat.mod_mod _ _).symm
section
variable {x y:E5} {A B:Option Addr} {c d:Nat} {u:World}
theorem sum_add (hr:Rd u u.heap.size A (dV (dgE x))) (hs:Rd u u.heap.size B (dV (dgE y))):Calls Tryd.prog 80 #[.slice A 32 c,.slice B 32 d] u (DigPost (dgE (addE x y)) u):=by
 have h:=radd_any (dgE x) (dgE y) (dgE_dg x) (dgE_dg y) A B c d u hr hs (by rw [dgE_length]; decide) (by rw [dgE_length]; decide);have e:(leV (dgE x)+leV (dgE y))%PN=(addE x y).val%PN:=(((sm_mod x).symm.add (sm_mod y).symm).trans (sm_add x y).symm);rw [dgE_length,dgE_length,e] at h;exact h
theorem sum_mul (hr:Rd u u.heap.size A (dV (dgE x))) (hs:Rd u u.heap.size B (dV (dgE y))):Calls Tryd.prog 53 #[.slice A 32 c,.slice B 32 d] u (DigPost (dgE (mulE x y)) u):=by
 have h:=rmul_any (dgE x) (dgE y) (dgE_dg x) (dgE_dg y) A B c d u hr hs (by rw [dgE_length]; decide) (by rw [dgE_length]; decide);have e:leV (dgE x)*leV (dgE y)%PN=(mulE x y).val%PN:=(((sm_mod x).symm.mul (sm_mod y).symm).trans (sm_mul x y).symm);rw [dgE_length,dgE_length,e] at h;exact h
theorem sum_sub (hy:y.Ok) (hr:Rd u u.heap.size A (dV (dgE x))) (hs:Rd u u.heap.size B (dV (dgE y))):Calls Tryd.prog 79 #[.slice A 32 c,.slice B 32 d] u (DigPost (dgE (subE x y)) u):=by
 have hlt:=dgE_lt y;have h:=rsub_any (dgE x) (dgE y) (dgE_dg x) (dgE_dg y) (by omega) A B c d u hr hs (by rw [dgE_length]; decide) (by rw [dgE_length]; decide)
 have e:Sm (leV (dgE x)+PN - leV (dgE y)) (subE x y).val:=by
  refine Sm.back (c:=leV (dgE y)) ?_;rw [show leV (dgE x)+PN - leV (dgE y)+leV (dgE y)=leV (dgE x)+PN by omega];refine Sm.trans (b:=leV (dgE x)) (Nat.add_mod_right _ _) ?_;exact (sm_mod x).symm.trans ((sm_sub hy).symm.trans ((Sm.refl _).add (sm_mod y)))
 rw [dgE_length,dgE_length,show (leV (dgE x)+PN - leV (dgE y))%PN=(subE x y).val%PN from e] at h;exact h
theorem sum_same (hx:x.Ok) (hy:y.Ok) (hr:Rd u u.heap.size A (dV (dgE x))) (hs:Rd u u.heap.size B (dV (dgE y))) (hc:32≤c) (hd:32≤d):Calls Tryd.prog 85 #[.slice A 32 c,.slice B 32 d] u (BoolPost (eqB x y) u):=by
 have h:=same_any (dgE x) (dgE y) (dgE_dg x) (dgE_dg y) (dgE_length x) (dgE_length y) A B c d u hr hs hc hd
 have e:(refB (dgE x) == refB (dgE y))=eqB x y:=by
  rw [eqB,eqE hx.big hy.big,dgE,dgE,refB_dig,refB_dig,Bool.eq_iff_iff,beq_iff_eq,decide_eq_true_iff]
  constructor
  ·intro h;have h2:=congrArg (fun l=>leV (digs l)) h;rw [digs_byB,digs_byB,leV_byN _ (mod_lt_big _),leV_byN _ (mod_lt_big _)] at h2;exact h2
  ·intro h; rw [h]
 rw [e] at h;exact h
end
end Go.Proofs.YtdgheahbafnboaaDoor
/-
  What lies in memory, as a list; points of four elements.
-/
namespace Go.Proofs.YtdgheahbafnboaaDoor
set_option linter.unusedSimpArgs false
set_option linter.unusedVariables false
open Go.RowKit
inductive Fc where
 | box (g:Nat) (t:TypeId) (cs:Array Value)
 | rd (A:Option Addr) (xs:List Value)
def Fc.holds:Fc→World→Prop
 | .box g t cs,u=>Blk u g t cs
 | .rd A xs,u=>Rd u u.heap.size A xs
def St:List Fc→World→Prop
 | [],_=>True
 | f :: r,u=>f.holds u∧St r u
theorem Fc.next {f:Fc} {u u':World} (h:f.holds u) (hb:Below u.heap.size u u'):f.holds u':=by
 cases f with
 | box g t cs=>exact Blk.below h hb (Blk.lt h)
 | rd A xs=>exact (Rd.below h hb).mono hb.size
theorem St.next:∀ {fs:List Fc} {u u':World},St fs u→Below u.heap.size u u'→St fs u'
 | [],_,_,_,_=>trivial
 | f :: _,_,_,h,hb=>⟨Fc.next (f:=f) h.1 hb,St.next h.2 hb⟩
def NewBox (B:Nat) (t:TypeId) (cs:Array Value) (v:Value) (u:World):Prop:=∃ o,v=.pointer (some ⟨o,0,none⟩)∧B≤o∧Blk u o t cs
theorem NewBox.next {B:Nat} {t:TypeId} {cs:Array Value} {v:Value} {u u':World} (h:NewBox B t cs v u) (hb:Below u.heap.size u u'):NewBox B t cs v u':=by
 obtain ⟨o,h1,h2,h3⟩:=h;exact ⟨o,h1,h2,h3.below hb h3.lt⟩
theorem NewBox.wrote {B g:Nat} {t:TypeId} {cs:Array Value} {v:Value} {u u':World} (h:NewBox B t cs v u) (hw:Wrote g u u') (hne:v≠.pointer (some ⟨g,0,none⟩)):NewBox B t cs v u':=by
 obtain ⟨o,h1,h2,h3⟩:=h;exact ⟨o,h1,h2,hw.blk h3 fun e=>hne (by rw [h1,e])⟩
theorem NewBox.of {B:Nat} {t:TypeId} {cs:Array Value} {u:World} (hB:B≤u.heap.size):NewBox B t cs (.pointer (some ⟨u.heap.size,0,none⟩)) (u.alloc (.cells cs t)) :=
 ⟨_,rfl,hB,Blk.new _ _ _⟩
theorem box_low {u u':World} {o:Obj} (hw:Wrote u.heap.size (u.alloc o) u'):Below u.heap.size u u' :=
 hw.below (below_new _ _) (Nat.le_refl _) (by simp)
structure Pt4 where
 x:E5
 y:E5
 z:E5
 t:E5
structure Pt4.Ok (p:Pt4):Prop where
 x:p.x.Ok
 y:p.y.Ok
 z:p.z.Ok
 t:p.t.Ok
def ptV (p:Pt4):Array Value:=wV (limbs p.x++limbs p.y++limbs p.z++limbs p.t)
theorem ptV_size (p:Pt4):(ptV p).size=20:=rfl
theorem ptV_x (p:Pt4):(((ptV p).toList.drop 0).take 5).toArray=eV p.x:=rfl
theorem ptV_y (p:Pt4):(((ptV p).toList.drop 5).take 5).toArray=eV p.y:=rfl
theorem ptV_z (p:Pt4):(((ptV p).toList.drop 10).take 5).toArray=eV p.z:=rfl
theorem ptV_t (p:Pt4):(((ptV p).toList.drop 15).take 5).toArray=eV p.t:=rfl
theorem point_size:(Tryd.prog.info? 41).map (·.size)=some 20:=by kernel_rfl
def zP:Pt4:=⟨zE,zE,zE,zE⟩
def PtPost (p:Pt4) (w:World) (e:Ending) (w':World):Prop:=e=.returned (.agg (ptV p))∧Below w.heap.size w w'
def sumP (p q:Pt4) (w:E5):Pt4 :=
 let a:=mulE (subE p.y p.x) (subE q.y q.x)
 let b:=mulE (addE p.y p.x) (addE q.y q.x)
 let c:=mulE (mulE p.t w) q.t
 let z:=mulE p.z q.z
 let e:=subE b a
 let h:=addE b a
 let f:=subE (addE z z) c
 let g:=addE (addE z z) c
 ⟨mulE e f,mulE g h,mulE f g,mulE e h⟩
theorem sumP_ok {p q:Pt4} {w:E5} (hp:p.Ok) (hq:q.Ok) (hw:w.Ok):(sumP p q w).Ok:=by
 have a:=mul_ok (sub_ok hp.y hp.x) (sub_ok hq.y hq.x);have b:=mul_ok (add_ok hp.y hp.x) (add_ok hq.y hq.x);have c:=mul_ok (mul_ok hp.t hw) hq.t;have z:=mul_ok hp.z hq.z;exact ⟨mul_ok (sub_ok b a) (sub_ok (add_ok z z) c),mul_ok (add_ok (add_ok z z) c) (add_ok b a),mul_ok (sub_ok (add_ok z z) c) (add_ok (add_ok z z) c),mul_ok (sub_ok b a) (add_ok b a)⟩
def ofP (x y:E5):Pt4:=⟨x,y,intE 1,mulE x y⟩
theorem one_ok:(intE 1).Ok:=intE_ok (by decide) (by decide)
theorem ofP_ok {x y:E5} (hx:x.Ok) (hy:y.Ok):(ofP x y).Ok:=⟨hx,hy,one_ok,mul_ok hx hy⟩
def negP (p:Pt4):Pt4:=⟨subE zE p.x,p.y,p.z,subE zE p.t⟩
theorem negP_ok {p:Pt4} (hp:p.Ok):(negP p).Ok:=⟨sub_ok zE_ok hp.x,hp.y,hp.z,sub_ok zE_ok hp.t⟩
theorem sub_z (x:E5) (hx:x.Ok) (u:World):Calls Tryd.prog 64 #[.agg #[.int .u64 0,.int .u64 0,.int .u64 0,.int .u64 0,.int .u64 0],.agg (eV x)] u (ElemPost (subE zE x) u):=sub_c zE x u zE_ok hx
theorem int1_c (u:World):Calls Tryd.prog 65 #[.int .i64 1] u (ElemPost (intE 1) u):=int_any 1 (by decide) (by decide) u
theorem int0_c (u:World):Calls Tryd.prog 65 #[.int .i64 0] u (ElemPost (intE 0) u):=int_any 0 (by decide) (by decide) u
theorem build_pt (a b c d:E5) (u:World):(Instr.build 41 #[(0,.agg (eV a)),(1,.agg (eV b)),(2,.agg (eV c)),(3,.agg (eV d))]).run Tryd.prog u=.ok (.agg (ptV ⟨a,b,c,d⟩)) u:=by kernel_rfl
theorem wpList_build_pt {w:World} {ops:Array Oper} {rest:List Oper} {o:Oper} {a:Act} {Q:Exit→Act→World→Prop} {x0 x1 x2 x3:Operand} (A B C D:E5)
  (hgd:o.guard=none) (ho:o.op=.build 41 #[(0,x0),(1,x1),(2,x2),(3,x3)]) (h0:a.eval x0=.agg (eV A)) (h1:a.eval x1=.agg (eV B)) (h2:a.eval x2=.agg (eV C)) (h3:a.eval x3=.agg (eV D))
  (h:wpList Tryd.prog ops Q rest (a.put o.dst (.agg (ptV ⟨A,B,C,D⟩))) w):wpList Tryd.prog ops Q (o :: rest) a w:=by
 refine wpList_plain hgd fun K hK=>?_;unfold Oper.wp execOp;simp only [ho,List.map_toArray,List.map_cons,List.map_nil,h0,h1,h2,h3,Sem.run_bind,Sem.run_pure,Result.andThen_ok,build_pt];exact hK _ _ h
def Cs (fs:List Fc) (w u:World):Prop:=St fs u∧Below w.heap.size w u
theorem Cs.next {fs:List Fc} {w u u':World} (h:Cs fs w u) (hb:Below u.heap.size u u'):Cs fs w u':=⟨h.1.next hb,h.2.trans (hb.mono h.2.size)⟩
theorem St.drew:∀ {fs:List Fc} {u:World},St fs u→St fs u.drew
 | [],_,_=>trivial
 | f :: _,_,h=>⟨(by cases f with
  | box g t cs=>exact h.1
  | rd A xs=>exact h.1),St.drew h.2⟩
theorem Cs.drew {fs:List Fc} {w u:World} (h:Cs fs w u):Cs fs w u.drew:=⟨h.1.drew,h.2.drew⟩
set_option maxRecDepth 100000 in
set_option maxHeartbeats 2000000 in
theorem pof_any (x y:E5) (hx:x.Ok) (hy:y.Ok) (w:World):Calls Tryd.prog 35 #[.agg (eV x),.agg (eV y)] w (PtPost (ofP x y) w):=by
 have hu:=Tryd.underlying39;have hp:=Tryd.underlying41;have KX:=zY hx;have KY:=zY hy;obtain ⟨w0,hw0⟩:∃ w0,w0=((w.alloc (.cells (eV x) 39)).alloc (.cells (eV y) 39)).alloc (.cells (ptV zP) 41):=⟨_,rfl⟩
 have hst:Cs [.box w.heap.size 39 (eV x),.box (w.heap.size+1) 39 (eV y),.box (w.heap.size+1+1) 41 (ptV zP)] w w0:=by
  rw [hw0];exact ⟨⟨((Blk.new _ _ _).alloc _).alloc _,(Blk.newAt (by simp)).alloc _,Blk.newAt (by simp),trivial⟩,((below_new _ _).alloc (by simp) _).alloc (by simp; try omega) _⟩
 have HLR:=zY (show w.heap.size≤w.heap.size+1+1 by omega);clear hx hy;have HW:=zY hw0;have HC0':=zY hst;clear hw0 hst;go_enter Tryd.func35,Tryd.ntmps35;go_wp2_with fail;show Code.wp Tryd.prog _ _ _ (((w.alloc (.cells (eV x) _)).alloc (.cells (eV y) _)).alloc (.cells (ptV zP) _));rw [← HW.out];generalize hgr:w.heap.size+1+1=r at *;generalize hgh:w.heap.size+1=h at *;generalize hgg:w.heap.size=g at *;have HG:=zY hgg;clear hgr hgh hgg;have HC0:=HC0'.out.drew;clear HC0' HW;refine wp_region_det (fun u=>Cs [.box g 39 (eV x),.box h 39 (eV y),.box r 41 (ptV zP)] w u) (fun u=>Blk u r 41 (ptV (ofP x y))∧Below w.heap.size w u) [(0,some 5),(1,some 6),(2,some 7),(3,some 8),(4,some 9),(5,some 10),(6,some 11),(7,none)] (by kernel_rfl) (by kernel_rfl) (by decide) (by kernel_rfl) (fun _=>rfl) HC0 ?_;apply DetL.next
 ·apply dP [];exact fun _=>rfl;rfl;rintro vals - w1 hC1 E hE;simp only [sP] at hE ⊢;refine wpList_get_box ((hC1.1).1) rfl rfl rfl hu rfl elem_size ?_;go_wp2_with fail;exact .mk (hE _ hC1)
 apply DetL.next
 ·apply dP [];exact fun _=>rfl;rfl;rintro vals ⟨-,-⟩ w1 hC1 E hE;simp only [sP] at hE ⊢;refine wpList_get_box ((hC1.1).2.1) rfl rfl rfl hu rfl elem_size ?_;go_wp2_with fail;exact .mk (hE _ hC1)
 apply DetL.next
 ·apply dP [];exact fun _=>rfl;rfl;intro vals vq w1 hC1 E hE;clear vq;simp only [sP] at hE ⊢;go_wp2_with fail;refine calls_then (int1_c _) ?_;rintro e w2 ⟨rfl,hb2⟩;go_wp2_with fail;exact .mk (hE _ (hC1.next hb2))
 apply DetL.next
 ·apply dP [];exact fun _=>rfl;rfl;intro vals vq w1 hC1 E hE;clear vq;simp only [sP] at hE ⊢;refine wpList_get_box ((hC1.1).1) rfl rfl rfl hu rfl elem_size ?_;go_wp2_with fail;exact .mk (hE _ hC1)
 apply DetL.next
 ·apply dP [];exact fun _=>rfl;rfl;intro vals vq w1 hC1 E hE;clear vq;simp only [sP] at hE ⊢;refine wpList_get_box ((hC1.1).2.1) rfl rfl rfl hu rfl elem_size ?_;go_wp2_with fail;exact .mk (hE _ hC1)
 apply DetL.next
 ·apply dP [(3,some 8),(4,some 9),(2,some 7)];exact fun _=>rfl;rfl;rintro vals ⟨⟨⟨⟨⟨-,-⟩,-⟩,f2⟩,f3⟩,f4⟩ w1 hC1 E hE;simp only [sP,f2,f3,f4] at hE ⊢;clear f2 f3 f4;go_wp2_with fail;refine calls_then (mul_c x y _ KX.out KY.out) ?_;rintro e w2 ⟨rfl,hb2⟩;go_wp2_with fail;exact .mk (hE _ (hC1.next hb2))
 apply DetL.next
 ·apply dP [(0,some 5),(1,some 6),(2,some 7),(5,some 10)];exact fun _=>rfl;rfl;rintro vals ⟨⟨⟨⟨⟨⟨-,f0⟩,f1⟩,f2⟩,-⟩,-⟩,f5⟩ w1 hC1 E hE;simp only [sP,f0,f1,f2,f5] at hE ⊢;clear f0 f1 f2 f5;refine wpList_build_pt x y (intE 1) (mulE x y) rfl rfl rfl rfl rfl rfl ?_;go_wp2_with fail;exact .mk (hE _ hC1)
 apply DetL.last (v:=undef)
 ·apply dP [(6,some 11),(5,some 10),(0,some 5),(1,some 6),(2,some 7),(3,some 8),(4,some 9),(5,some 10),(6,some 11)];exact fun _=>rfl;rfl;rintro vals ⟨⟨⟨⟨⟨⟨⟨-,f0⟩,f1⟩,f2⟩,f3⟩,f4⟩,f5⟩,f6⟩ w1 hC1 E hE;have hlr:=HLR.out;simp only [sP,f0,f1,f2,f3,f4,f5,f6] at hE ⊢;clear f0 f1 f2 f3 f4 f5 f6;refine wpList_put_box (cells:=ptV (ofP x y)) hC1.1.2.2.1 rfl rfl rfl rfl point_size rfl (by simp [eV,ptV,wV,limbs,Value.oneCell']) ?_;intro w6 hb6 hw6;go_wp2_with fail;exact .mk (hE _ ⟨hb6,hw6.below hC1.2 (by rw [HG.out]; exact hlr) hC1.2.size⟩)
 rintro vals ⟨⟨⟨⟨⟨⟨⟨⟨-,f0⟩,f1⟩,f2⟩,f3⟩,f4⟩,f5⟩,f6⟩,f7⟩ w1 hC1;simp only [sP,f0,f1,f2,f3,f4,f5,f6,f7];clear f0 f1 f2 f3 f4 f5 f6 f7;go_wp2_with fail;refine bodyPost_ret (results_box (P:=Tryd.prog) rfl rfl hC1.1 hp rfl point_size) rfl ⟨rfl,hC1.2⟩
end Go.Proofs.YtdgheahbafnboaaDoor
/-
  Regions that draw their order, where what holds all along may speak of the values so far.
-/
namespace Go.Proofs.YtdgheahbafnboaaDoor
set_option linter.unusedSimpArgs false
set_option linter.unusedVariables false
open Go.RowKit
section
variable {P:Program} {ops:Array Oper}
structure RIV (ops:Array Oper) (a0:Act) (C:(Nat→Value)→World→Prop) (I0:Bool→World→Prop) (ik:Bool→Nat→Bool) (F:Nat→(Nat→Value)→World→Prop) (kills:Nat→Nat→Bool) (listed:Array Bool) (a:Act) (w:World) (vals:Nat→Value):Prop where
 size:listed.size=ops.size
 tsize:a.tmps.size=a0.tmps.size
 defers:a.defers=a0.defers
 done:∀ j,listed.getD j false=true→∀ d,dstAt ops j=some d→d<a0.tmps.size→a.tmps[d]?=some (vals j)
 other:∀ t,(∀ j,listed.getD j false=true→dstAt ops j≠some t)→a.tmps[t]?=a0.tmps[t]?
 closed:∀ j,listed.getD j false=true→∀ i ∈ waitsOf ops j,listed.getD i false=true
 c:C vals w
 ini:∀ m,(∀ k,listed.getD k false=true→ik m k=false)→I0 m w
 facts:∀ j,listed.getD j false=true→(∀ k,listed.getD k false=true→k≠j→kills k j=false)→F j vals w
def StepAtV (P:Program) (ops:Array Oper) (a0:Act) (C:(Nat→Value)→World→Prop) (I0:Bool→World→Prop) (ik:Bool→Nat→Bool) (F:Nat→(Nat→Value)→World→Prop) (St:Nat→World→World→Prop) (kills:Nat→Nat→Bool) (i:Nat) (o:Oper):Prop :=
 ∀ (w:World) (vals:Nat→Value),C vals w→(∀ m,availIni ops (ik m) i=true→I0 m w)→(∀ j,availAt ops kills j i=true→F j vals w) →
  wpList P ops (fun e a' w'=>e=.normal∧∃ v,a'=(putAll ops vals (waitsOf ops i) a0).put o.dst v∧F i (upd vals i v) w'∧C (upd vals i v) w'∧St i w w') [o] (putAll ops vals (waitsOf ops i) a0) w
theorem RIV.step {a0:Act} {C:(Nat→Value)→World→Prop} {I0:Bool→World→Prop} {ik:Bool→Nat→Bool} {F:Nat→(Nat→Value)→World→Prop} {St:Nat→World→World→Prop} {kills:Nat→Nat→Bool} {Q:Exit→Act→World→Prop}
  (hok:regionOk ops=true) (hini:∀ m i,ik m i=false→∀ w w',St i w w'→I0 m w→I0 m w') (hpres:∀ i k,i<ops.size→i≠k→kills i k=false→(deepWaits ops 5 k).contains i=false→∀ vals v w w',St i w w'→F k vals w→F k (upd vals i v) w')
  (hstep:∀ i o,ops[i]?=some o→StepAtV P ops a0 C I0 ik F St kills i o)
  {listed:Array Bool} {a:Act} {w:World} {vals:Nat→Value} (h:RIV ops a0 C I0 ik F kills listed a w vals) {i:Nat} (hi:i ∈ Region.ready .any ops listed) :
  wpOp P ops Q i (fun a' w'=>∃ vals',RIV ops a0 C I0 ik F kills (listed.setIfInBounds i true) a' w' vals') a w:=by
 obtain ⟨hun,o,ho,hall⟩:=mem_ready.1 hi;have hlt:i<ops.size:=(Array.getElem?_eq_some_iff.1 ho).1;have hltl:i<listed.size:=by rw [h.size]; exact hlt
 have hunf:listed.getD i false=false:=by
  simp [hltl] at hun ⊢; exact hun
 have ok:=okAt hok ho
 have hdist:∀ i j d,i≠j→dstAt ops i=some d→dstAt ops j≠some d:=fun i j d hij hd=>by
  have hil:=dst_lt hd;exact (okAt hok (Array.getElem?_eq_getElem hil)).dist j (Ne.symm hij) d hd
 have hw:∀ j ∈ waitsOf ops i,listed.getD j false=true:=fun j hj=>by
  obtain ⟨e,he,hb,rfl⟩:=(mem_waits ho).1 hj;exact hall e he hb
 obtain ⟨p1,p2,p3,p4⟩:=putAll_look hdist vals (waitsOf ops i) a0
 have hlook:∀ t ∈ o.looksAt ops,a.tmps[t]?=(putAll ops vals (waitsOf ops i) a0).tmps[t]?:=by
  intro t ht
  by_cases hex:∃ j,dstAt ops j=some t
  ·obtain ⟨j,hj⟩:=hex
   rcases ok.look t ht j hj with hji | hij
   ·by_cases hts:t<a0.tmps.size
    ·rw [h.done j (hw j hji) t hj hts,p3 j hji t hj hts]
    ·rw [Array.getElem?_eq_none (by rw [h.tsize]; exact Nat.le_of_not_lt hts),Array.getElem?_eq_none (by rw [p1]; exact Nat.le_of_not_lt hts)]
   ·have hjl:¬ listed.getD j false=true:=fun hj'=>by rw [h.closed j hj' i hij] at hunf; cases hunf
    rw [h.other t (fun k hk e=>by
     have:k=j:=by
      rcases Nat.decEq k j with hne | he
      ·exact absurd e (hdist j k t (Ne.symm hne) hj)
      ·exact he
     subst this; exact hjl hk)]
    rw [p4 t (fun k hk e=>by
     have:k=j:=by
      rcases Nat.decEq k j with hne | he
      ·exact absurd e (hdist j k t (Ne.symm hne) hj)
      ·exact he
     subst this; exact hjl (hw k hk))]
  ·have hno:∀ j,dstAt ops j≠some t:=fun j e=>hex ⟨j,e⟩;rw [h.other t (fun j _=>hno j),p4 t (fun j _=>hno j)]
 have heval:∀ x ∈ o.op.operands,a.eval x=(putAll ops vals (waitsOf ops i) a0).eval x:=by
  intro x hx
  cases x with
  | tmp t =>
   have:=hlook t (List.mem_append_left _ (List.mem_filterMap.2 ⟨.tmp t,by simpa using hx,rfl⟩));simp only [Act.eval,Array.getD_eq_getD_getElem?,this]
  | _=>rfl
 have hexec:execOp a.eval o=execOp (putAll ops vals (waitsOf ops i) a0).eval o:=execOp_congr o ok.sel heval
 have hwant:Region.wanted o (yielded ops a.tmps)=Region.wanted o (yielded ops (putAll ops vals (waitsOf ops i) a0).tmps):=by
  unfold Region.wanted
  cases hg:o.guard with
  | none=>rfl
  | some gw =>
   obtain ⟨g,want⟩:=gw
   have:yielded ops a.tmps g=yielded ops (putAll ops vals (waitsOf ops i) a0).tmps g:=by
    unfold yielded
    cases ht:(ops[g]?).bind (·.dst) with
    | none=>rfl
    | some t =>
     have:=hlook t (by
      refine List.mem_append_right _ ?_;simp [hg,ht])
     simp only [Option.bind_some,this]
   simp only [this]
 have havail:∀ j,availAt ops kills j i=true→F j vals w:=by
  intro j hj;simp only [availAt,Bool.and_eq_true] at hj;obtain ⟨hj1,hj2⟩:=hj;have hjl:=hw j (by simpa using hj1);refine h.facts j hjl fun k hk hkj=>?_
  have hkl:k<ops.size:=by
   rcases Nat.lt_or_ge k ops.size with h' | h'
   ·exact h'
   ·rw [← h.size] at h'; simp [Array.getElem?_eq_none h'] at hk
  have:=(List.all_eq_true.1 hj2) k (List.mem_range.2 hkl);simp only [Bool.or_eq_true,beq_iff_eq,Bool.not_eq_true'] at this
  rcases this with ((this | this) | this) | this
  ·subst this; rw [hunf] at hk; cases hk
  ·exact absurd this hkj
  ·exact this
  ·have:=deep_listed (L:=fun j=>listed.getD j false=true) h.closed 5 k hk i (by simpa using this);simp only [hunf] at this; cases this
 have hini0:∀ m,availIni ops (ik m) i=true→I0 m w:=by
  intro m hj2;refine h.ini m fun k hk=>?_
  have hkl:k<ops.size:=by
   rcases Nat.lt_or_ge k ops.size with h' | h'
   ·exact h'
   ·rw [← h.size] at h'; simp [Array.getElem?_eq_none h'] at hk
  have:=(List.all_eq_true.1 hj2) k (List.mem_range.2 hkl);simp only [Bool.or_eq_true,beq_iff_eq,Bool.not_eq_true'] at this
  rcases this with (this | this) | this
  ·subst this; rw [hunf] at hk; cases hk
  ·exact this
  ·have:=deep_listed (L:=fun j=>listed.getD j false=true) h.closed 5 k hk i (by simpa using this);simp only [hunf] at this; cases this
 have hend:∀ (v:Value) (w':World),(∃ v',(putAll ops vals (waitsOf ops i) a0).put o.dst v=(putAll ops vals (waitsOf ops i) a0).put o.dst v'∧F i (upd vals i v') w'∧C (upd vals i v') w'∧St i w w') →
   ∃ vals',RIV ops a0 C I0 ik F kills (listed.setIfInBounds i true) (a.put o.dst v) w' vals':=by
  rintro v w' ⟨v',hv,hF,hC,hSt⟩;have hdo:dstAt ops i=o.dst:=by simp [dstAt,ho]
  refine ⟨upd vals i v',⟨by simp [h.size],(put_size _ _ _).trans h.tsize,(put_defers _ _ _).trans h.defers,?_,?_,?_,hC,?_,?_⟩⟩
  ·intro j hj d hd hlt'
   by_cases hji:j=i
   ·subst hji;rw [hdo] at hd;simp only [upd,if_true];rw [hd] at hv ⊢;rw [put_at _ _ _ (by rw [h.tsize]; exact hlt')];have:=congrArg (fun a:Act=>a.tmps[d]?) hv;rw [put_at _ _ _ (by rw [p1]; exact hlt'),put_at _ _ _ (by rw [p1]; exact hlt')] at this;exact this
   ·simp only [upd,hji,if_false];rw [getD_set_other _ (Ne.symm hji)] at hj;rw [put_other _ _ _ _ (fun e=>hdist j i d hji hd (hdo.trans e))];exact h.done j hj d hd hlt'
  ·intro t ht;rw [put_other _ _ _ _ (fun e=>ht i (getD_set_self _ _ hltl) (hdo.trans e))];refine h.other t fun j hj=>?_
   by_cases hji:j=i
   ·subst hji; rw [hunf] at hj; cases hj
   ·exact ht j (by rw [getD_set_other _ (Ne.symm hji)]; exact hj)
  ·intro j hj k hk
   by_cases hki:k=i
   ·subst hki; exact getD_set_self _ _ hltl
   ·rw [getD_set_other _ (Ne.symm hki)]
    by_cases hji:j=i
    ·subst hji; exact hw k hk
    ·rw [getD_set_other _ (Ne.symm hji)] at hj;exact h.closed j hj k hk
  ·intro m hk;refine hini m i (hk i (getD_set_self _ _ hltl)) _ _ hSt (h.ini m fun k hk'=>hk k ?_)
   by_cases hki:k=i
   ·subst hki; exact getD_set_self _ _ hltl
   ·rw [getD_set_other _ (Ne.symm hki)]; exact hk'
  ·intro j hj hk
   by_cases hji:j=i
   ·subst hji; exact hF
   ·have hj0:=hj;rw [getD_set_other _ (Ne.symm hji)] at hj
    refine hpres i j hlt (Ne.symm hji) (hk i (getD_set_self _ _ hltl) (Ne.symm hji)) (by
     by_cases hc:(deepWaits ops 5 j).contains i=true
     ·have:=deep_listed (L:=fun j=>listed.getD j false=true) h.closed 5 j hj i (by simpa using hc);simp only [hunf] at this; cases this
     ·simpa using hc) _ _ _ _ hSt (h.facts j hj fun k hk' hkj=>?_)
    refine hk k ?_ hkj
    by_cases hki:k=i
    ·subst hki; exact getD_set_self _ _ hltl
    ·rw [getD_set_other _ (Ne.symm hki)]; exact hk'
 have hs:=hstep i o ho w vals h.c hini0 havail;unfold wpOp;simp only [ho];simp only [wpList] at hs;rw [hwant]
 split
 ·rename_i hwt
  rw [if_pos hwt] at hs
  rcases hs with hs | ⟨_,a₀,w₀,hq⟩
  case inr=>exact absurd hq.1 (by simp)
  refine .inl ?_;unfold Oper.wp at *;rw [hexec];generalize (execOp (putAll ops vals (waitsOf ops i) a0).eval o).run P w=r at *
  cases r with
  | ok n w' =>
   cases n <;> simp only [Oper.upon] at hs ⊢
   case value v=>exact hend v w' hs.2
   case skip=>exact hend _ w' hs.2
   case defer d =>
    obtain ⟨_,v,hv,_⟩:=hs;have:=congrArg Act.defers hv;rw [put_defers,put_defers] at this;exact absurd this (by simp)
   case enter f args =>
    refine Calls.mono hs fun e w'' he=>?_
    cases e with
    | returned v=>exact hend v w'' he.2
    | panicked c=>exact absurd he.1 (by simp)
    | outgrown=>obtain ⟨_,_,hq⟩:=he; exact absurd hq.1 (by simp)
   case row row args=>exact Rows.mono hs fun v w'' he=>hend v w'' he.2
  | halt x w' =>
   cases x <;> simp only [Oper.upon] at hs ⊢
   exact absurd hs.1 (by simp)
 ·rename_i hwt
  rw [if_neg hwt] at hs;exact hend _ _ hs.2
theorem wp_region_relV {id:Nat} {a0:Act} {w0:World} {Q:Exit→Act→World→Prop} (C:(Nat→Value)→World→Prop) (I0:Bool→World→Prop) (ik:Bool→Nat→Bool) (F:Nat→(Nat→Value)→World→Prop) (St:Nat→World→World→Prop) (kills:Nat→Nat→Bool)
  (hm:P.follows .mixedOrders=true) (hok:regionOk ops=true) (hC:C (fun _=>undef) w0.drew) (hI:∀ m,I0 m w0.drew) (hini:∀ m i,ik m i=false→∀ w w',St i w w'→I0 m w→I0 m w')
  (hpres:∀ i k,i<ops.size→i≠k→kills i k=false→(deepWaits ops 5 k).contains i=false→∀ vals v w w',St i w w'→F k vals w→F k (upd vals i v) w')
  (hstep:∀ i o,ops[i]?=some o→StepAtV P ops a0 C I0 ik F St kills i o)
  (hfin:∀ w vals,C vals w→(∀ j,j<ops.size→aliveAt ops kills j=true→F j vals w)→Q .normal (putAll ops vals (List.range ops.size) a0) w) :
  (Code.region id ops true).wp P Q a0 w0:=by
 have hdist:∀ i j d,i≠j→dstAt ops i=some d→dstAt ops j≠some d:=fun i j d hij hd=>by
  have hil:=dst_lt hd;exact (okAt hok (Array.getElem?_eq_getElem hil)).dist j (Ne.symm hij) d hd
 have final:∀ listed a w vals,RIV ops a0 C I0 ik F kills listed a w vals→Region.ready .any ops listed=[]→Q .normal a w:=by
  intro listed a w vals h hr;have hall:∀ j,j<ops.size→listed.getD j false=true:=fun j hj=>all_listed hok h.size hr (j+1) j (by omega) hj;obtain ⟨p1,p2,p3,p4⟩:=putAll_look hdist vals (List.range ops.size) a0
  have ha:a=putAll ops vals (List.range ops.size) a0:=by
   have ht:a.tmps=(putAll ops vals (List.range ops.size) a0).tmps:=by
    apply Array.ext_getElem?;intro t
    by_cases hex:∃ j,dstAt ops j=some t
    ·obtain ⟨j,hj⟩:=hex;have hjl:=dst_lt hj
     by_cases hts:t<a0.tmps.size
     ·rw [h.done j (hall j hjl) t hj hts,p3 j (List.mem_range.2 hjl) t hj hts]
     ·rw [Array.getElem?_eq_none (by rw [h.tsize]; exact Nat.le_of_not_lt hts),Array.getElem?_eq_none (by rw [p1]; exact Nat.le_of_not_lt hts)]
    ·have hno:∀ j,dstAt ops j≠some t:=fun j e=>hex ⟨j,e⟩;rw [h.other t (fun j _=>hno j),p4 t (fun j _=>hno j)]
   have hd:a.defers=(putAll ops vals (List.range ops.size) a0).defers:=h.defers.trans p2.symm
   cases a
   simp only at ht hd;rw [ht,hd]
  rw [ha];refine hfin w vals h.c fun j hj hal=>h.facts j (hall j hj) fun k hk hkj=>?_
  have hkl:k<ops.size:=by
   rcases Nat.lt_or_ge k ops.size with h' | h'
   ·exact h'
   ·rw [← h.size] at h'; simp [Array.getElem?_eq_none h'] at hk
  have:=(List.all_eq_true.1 hal) k (List.mem_range.2 hkl)
  simpa [hkj] using this
 refine wp_region_any hm ?_
 have key:∀ (fuel:Nat) (listed:Array Bool) (a:Act) (w:World) (vals:Nat→Value),listed.toList.countP (fun b=>!b)≤fuel→RIV ops a0 C I0 ik F kills listed a w vals→wpAny P .any ops Q fuel listed a w:=by
  intro fuel
  induction fuel with
  | zero =>
   intro listed a w vals hc h
   have hr:Region.ready .any ops listed=[]:=by
    refine List.eq_nil_iff_forall_not_mem.2 fun i hi=>?_;obtain ⟨hun,o,ho,_⟩:=mem_ready.1 hi;have hlt:i<listed.size:=by rw [h.size]; exact (Array.getElem?_eq_some_iff.1 ho).1
    have h0:listed.toList.countP (fun b=>!b)=0:=by omega
    rw [List.countP_eq_zero] at h0;have:=h0 (listed[i]) (by simp);simp [hlt] at hun;simp [hun] at this
   exact ⟨hr,final listed a w vals h hr⟩
  | succ fuel ih =>
   intro listed a w vals hc h;refine ⟨fun hr=>final listed a w vals h hr,fun i hi=>?_⟩;obtain ⟨hun,o,ho,_⟩:=mem_ready.1 hi;have hlt:i<listed.size:=by rw [h.size]; exact (Array.getElem?_eq_some_iff.1 ho).1
   refine wpOp_mono (fun a' w' ⟨vals',h'⟩=>ih _ _ _ vals' (count_set hlt (by simp [hlt] at hun ⊢; exact hun) hc) h') (h.step (Q:=Q) hok hini hpres hstep hi)
 refine key _ _ _ _ (fun _=>undef) ?_ ⟨by simp,rfl,rfl,?_,?_,?_,hC,fun m _=>hI m,?_⟩
 ·have:=List.countP_le_length (p:=fun b:Bool=>!b) (l:=(Array.replicate ops.size false).toList)
  simpa using this
 ·intro j hj; simp [Array.getElem?_replicate] at hj; split at hj <;> simp at hj
 ·intro t _; rfl
 ·intro j hj; simp [Array.getElem?_replicate] at hj; split at hj <;> simp at hj
 ·intro j hj; simp [Array.getElem?_replicate] at hj; split at hj <;> simp at hj
theorem wp_region_listV {id:Nat} {l:List Oper} {a0:Act} {w0:World} {Q:Exit→Act→World→Prop} (C:(Nat→Value)→World→Prop) (I0:Bool→World→Prop) (ik:Bool→Nat→Bool) (Fs:List ((Nat→Value)→World→Prop)) (Sts:List (World→World→Prop)) (kills:Nat→Nat→Bool) (ps:List (Nat × Option Tmp))
  (hm:P.follows .mixedOrders=true) (hok:regionOk l.toArray=true) (hlen:Sts.length=l.length) (hps:∀ vals,putAll l.toArray vals (List.range l.toArray.size) a0=puts vals ps a0) (hC:C (fun _=>undef) w0.drew) (hI:∀ m,I0 m w0.drew) (hini:∀ m,IniL (ik m) (I0 m) 0 Sts)
  (hpres:KeepsL kills (fun i k=>(deepWaits l.toArray 5 k).contains i) Fs 0 Sts)
  (hstep:StepsL (StepAtV P l.toArray a0 C I0 ik (fct Fs) (stp Sts) kills) 0 l)
  (hfin:∀ w vals,C vals w→(∀ j,j<l.toArray.size→aliveAt l.toArray kills j=true→fct Fs j vals w)→Q .normal (puts vals ps a0) w) :
  (Code.region id l.toArray true).wp P Q a0 w0 :=
 wp_region_relV C I0 ik (fct Fs) (stp Sts) kills hm hok hC hI (fun m i hi w w' hS h=>by
   have:=iniL_spec (hini m) i (by simpa using hi) w w' hS;exact this h)
  (fun i k hil hik hk hs vals v w w' hS hf=>by
   have:=keepsL_spec hpres i k (by simpa using hik) (by simpa using hk) (by simpa using hs) (by rw [hlen]; simpa using hil) vals v w w' hS;rw [Nat.zero_add] at this;exact this hf)
  (fun i o ho=>by
   have:=stepsL_spec hstep i o (by simpa using ho)
   simpa using this)
  (fun w vals hc hf=>by rw [hps]; exact hfin w vals hc hf)
theorem step_plainV {a0:Act} {C:(Nat→Value)→World→Prop} {I0:Bool→World→Prop} {ik:Bool→Nat→Bool} {F:Nat→(Nat→Value)→World→Prop} {St:Nat→World→World→Prop} {kills:Nat→Nat→Bool} {i:Nat} {o:Oper} (ps:List (Nat × Option Tmp))
  (hps:∀ vals,putAll ops vals (waitsOf ops i) a0=puts vals ps a0) (hg:o.guard=none)
  (h:∀ w vals,C vals w→(∀ m,availIni ops (ik m) i=true→I0 m w)→(∀ j,availAt ops kills j i=true→F j vals w) →
   ∀ E:Act→World→Prop,(∀ v w',F i (upd vals i v) w'→C (upd vals i v) w'→St i w w'→E ((puts vals ps a0).put o.dst v) w')→wpList P #[] (EndOf E) [o] (puts vals ps a0) w) :
  StepAtV P ops a0 C I0 ik F St kills i o:=by
 intro w vals hc h0 hf;have h1:=h w vals hc h0 hf (fun a' w'=>∃ v,a'=(puts vals ps a0).put o.dst v∧F i (upd vals i v) w'∧C (upd vals i v) w'∧St i w w') fun v w' h1 h2 h3=>⟨v,rfl,h1,h2,h3⟩;rw [hps];show wpList P ops (EndOf fun a' w'=>∃ v,a'=(puts vals ps a0).put o.dst v∧F i (upd vals i v) w'∧C (upd vals i v) w'∧St i w w') [o] (puts vals ps a0) w;have hw:∀ (O:Array Oper) (t:Array Value),Region.wanted o (yielded O t)=true:=fun O t=>by simp [Region.wanted,hg]
 simp only [wpList,hw,if_true] at h1 ⊢;exact h1
end
def LtV (v:Value) (w:World):Prop:=v=undef∨∃ o,v=.pointer (some ⟨o,0,none⟩)∧o<w.heap.size
structure C2 (ws:World) (i j:Nat) (vals:Nat→Value) (u:World):Prop where
 bel:Below ws.heap.size ws u
 lti:LtV (vals i) u
 ltj:LtV (vals j) u
 ne:vals i=undef∨vals j=undef∨vals i≠vals j
theorem LtV.mono {v:Value} {u u':World} (h:LtV v u) (hs:u.heap.size≤u'.heap.size):LtV v u':=by
 rcases h with h | ⟨o,h1,h2⟩
 ·exact .inl h
 ·exact .inr ⟨o,h1,Nat.lt_of_lt_of_le h2 hs⟩
theorem C2.init {ws u:World} {i j:Nat} (h:Below ws.heap.size ws u):C2 ws i j (fun _=>undef) u:=⟨h,.inl rfl,.inl rfl,.inl rfl⟩
theorem C2.other {ws u u':World} {i j k:Nat} {v:Value} {vals:Nat→Value} (h:C2 ws i j vals u) (hi:i≠k) (hj:j≠k) (hb:Below ws.heap.size ws u') (hs:u.heap.size≤u'.heap.size):C2 ws i j (upd vals k v) u':=by
 have e1:upd vals k v i=vals i:=if_neg hi;have e2:upd vals k v j=vals j:=if_neg hj;exact ⟨hb,by rw [e1]; exact h.lti.mono hs,by rw [e2]; exact h.ltj.mono hs,by rw [e1,e2]; exact h.ne⟩
theorem C2.same {ws u:World} {i j k:Nat} {v:Value} {vals:Nat→Value} (h:C2 ws i j vals u) (hi:i≠k) (hj:j≠k):C2 ws i j (upd vals k v) u:=h.other hi hj h.bel (Nat.le_refl _)
theorem C2.setI {ws u u':World} {i j:Nat} {vals:Nat→Value} (h:C2 ws i j vals u) (hij:j≠i) (hb:Below ws.heap.size ws u') (hs:u.heap.size<u'.heap.size):C2 ws i j (upd vals i (.pointer (some ⟨u.heap.size,0,none⟩))) u':=by
 have e1:upd vals i (.pointer (some ⟨u.heap.size,0,none⟩)) i=.pointer (some ⟨u.heap.size,0,none⟩):=if_pos rfl;have e2:upd vals i (.pointer (some ⟨u.heap.size,0,none⟩)) j=vals j:=if_neg hij;refine ⟨hb,by rw [e1]; exact .inr ⟨_,rfl,hs⟩,by rw [e2]; exact h.ltj.mono (Nat.le_of_lt hs),?_⟩;rw [e1,e2]
 rcases h.ltj with h1 | ⟨o,h1,h2⟩
 ·exact .inr (.inl h1)
 ·refine .inr (.inr ?_);rw [h1];intro e
  injection e with e
  injection e with e
  injection e with e
  omega
theorem C2.setJ {ws u u':World} {i j:Nat} {vals:Nat→Value} (h:C2 ws i j vals u) (hij:i≠j) (hb:Below ws.heap.size ws u') (hs:u.heap.size<u'.heap.size):C2 ws i j (upd vals j (.pointer (some ⟨u.heap.size,0,none⟩))) u':=by
 have e1:upd vals j (.pointer (some ⟨u.heap.size,0,none⟩)) j=.pointer (some ⟨u.heap.size,0,none⟩):=if_pos rfl;have e2:upd vals j (.pointer (some ⟨u.heap.size,0,none⟩)) i=vals i:=if_neg hij;refine ⟨hb,by rw [e2]; exact h.lti.mono (Nat.le_of_lt hs),by rw [e1]; exact .inr ⟨_,rfl,hs⟩,?_⟩;rw [e1,e2]
 rcases h.lti with h1 | ⟨o,h1,h2⟩
 ·exact .inl h1
 ·refine .inr (.inr ?_);rw [h1];intro e
  injection e with e
  injection e with e
  injection e with e
  omega
theorem C2.apart {ws u:World} {i j:Nat} {vals:Nat→Value} (h:C2 ws i j vals u) {o p:Nat} (h1:vals i=.pointer (some ⟨o,0,none⟩)) (h2:vals j=.pointer (some ⟨p,0,none⟩)):o≠p:=by
 rintro rfl
 rcases h.ne with e | e | e
 ·rw [h1] at e; cases e
 ·rw [h2] at e; cases e
 ·exact e (h1.trans h2.symm)
end Go.Proofs.YtdgheahbafnboaaDoor
/-
  Walk: the sum of two points.
-/
namespace Go.Proofs.YtdgheahbafnboaaDoor
set_option linter.unusedSimpArgs false
set_option linter.unusedVariables false
open Go.RowKit
set_option maxRecDepth 100000 in
set_option maxHeartbeats 8000000 in
theorem sum_any (p q:Pt4) (tw:E5) (w:World) (hkp:p.Ok) (hkq:q.Ok) (hkw:tw.Ok):Calls Tryd.prog 39 #[.agg (ptV p),.agg (ptV q),.agg (eV tw)] w (PtPost (sumP p q tw) w):=by
 have hu:=Tryd.underlying39;have hp:=Tryd.underlying41;have KP:=zY hkp;have KQ:=zY hkq;have KW:=zY hkw;obtain ⟨w0,hw0⟩:∃ w0,w0=(((w.alloc (.cells (ptV p) 41)).alloc (.cells (ptV q) 41)).alloc (.cells (eV tw) 39)).alloc (.cells (ptV zP) 41):=⟨_,rfl⟩
 have hst:Cs [.box w.heap.size 41 (ptV p),.box (w.heap.size+1) 41 (ptV q),.box (w.heap.size+1+1) 39 (eV tw),.box (w.heap.size+1+1+1) 41 (ptV zP)] w w0:=by
  rw [hw0];exact ⟨⟨(((Blk.new _ _ _).alloc _).alloc _).alloc _,((Blk.newAt (by simp)).alloc _).alloc _,(Blk.newAt (by simp)).alloc _,Blk.newAt (by simp),trivial⟩,(((below_new _ _).alloc (by simp) _).alloc (by simp; try omega) _).alloc (by simp; try omega) _⟩
 have HLR:=zY (show w.heap.size≤w.heap.size+1+1+1 by omega);clear hkp hkq hkw;have HW:=zY hw0;have HST0:=zY hst;clear hw0 hst;go_enter Tryd.func39,Tryd.ntmps39;go_wp2_with fail;show Code.wp Tryd.prog _ _ _ ((((w.alloc (.cells (ptV p) _)).alloc (.cells (ptV q) _)).alloc (.cells (eV tw) _)).alloc (.cells (ptV zP) _));rw [← HW.out];generalize w.heap.size+1+1+1=r at *;generalize w.heap.size+1+1=gw at *;generalize w.heap.size+1=gq at *;generalize hgp:w.heap.size=gp at HST0 ⊢;clear HW hgp;have HC0:Below w0.heap.size w0 w0.drew:=(Below.refl _ _).drew
 refine wp_region_list (fun u=>Below w0.heap.size w0 u) (fun | false=>(fun _=>True) | true=>(fun _=>True)) (fun | false,_=>false | true,_=>false)
  [fun z _=>z 0=.pointer (some ⟨gp,5,none⟩),
   fun z _=>z 1=.agg (eV (p.y)),
   fun z _=>z 2=.pointer (some ⟨gp,0,none⟩),
   fun z _=>z 3=.agg (eV (p.x)),
   fun z _=>z 4=.agg (eV (subE (p.y) (p.x))),
   fun z _=>z 5=.pointer (some ⟨gq,5,none⟩),
   fun z _=>z 6=.agg (eV (q.y)),
   fun z _=>z 7=.pointer (some ⟨gq,0,none⟩),
   fun z _=>z 8=.agg (eV (q.x)),
   fun z _=>z 9=.agg (eV (subE (q.y) (q.x))),
   fun z _=>z 10=.agg (eV (mulE (subE (p.y) (p.x)) (subE (q.y) (q.x)))),
   fun z u=>(NewBox w0.heap.size 39 (eV zE)) (z 11) u,
   fun z u=>NewBox w0.heap.size 39 (eV (mulE (subE (p.y) (p.x)) (subE (q.y) (q.x)))) (z 11) u]
  [Eq,Eq,Eq,Eq,fun u u'=>Below u.heap.size u u',Eq,Eq,Eq,Eq,fun u u'=>Below u.heap.size u u',fun u u'=>Below u.heap.size u u',fun u u'=>Below u.heap.size u u',fun _ _=>True]
  (fun i k=>(i == 12 && k == 11)) [(0,some 15),(1,some 16),(2,some 17),(3,some 18),(4,some 19),(5,some 20),(6,some 21),(7,some 22),(8,some 23),(9,some 24),(10,some 25),(11,some 7),(12,none)] (by kernel_rfl) (by kernel_rfl) rfl (fun _=>rfl) ?_ ?_ ?_ ?_ ?_ ?_
 ·exact HC0
 ·intro m; cases m; exact trivial; exact trivial
 ·intro m; cases m
  ·refine ⟨?_,?_,?_,?_,.inr (fun _ _ _ h=>h),?_,?_,?_,?_,.inr (fun _ _ _ h=>h),.inr (fun _ _ _ h=>h),.inr (fun _ _ _ h=>h),.inr (fun _ _ _ h=>h),trivial⟩ <;> exact .inr fun _ _ h h0=>h▸h0
  ·refine ⟨?_,?_,?_,?_,.inr (fun _ _ _ h=>h),?_,?_,?_,?_,.inr (fun _ _ _ h=>h),.inr (fun _ _ _ h=>h),.inr (fun _ _ _ h=>h),.inr (fun _ _ _ h=>h),trivial⟩ <;> exact .inr fun _ _ h h0=>h▸h0
 ·refine ⟨⟨.inl rfl,?_,?_,?_,?_,?_,?_,?_,?_,?_,?_,.inr (.inr (.inr (fun _ _ _ _ h h0=>by cases h; exact h0))),?_,trivial⟩,⟨?_,.inl rfl,?_,?_,?_,?_,?_,?_,?_,?_,?_,.inr (.inr (.inr (fun _ _ _ _ h h0=>by cases h; exact h0))),?_,trivial⟩,⟨?_,?_,.inl rfl,?_,?_,?_,?_,?_,?_,?_,?_,.inr (.inr (.inr (fun _ _ _ _ h h0=>by cases h; exact h0))),?_,trivial⟩,⟨?_,?_,?_,.inl rfl,?_,?_,?_,?_,?_,?_,?_,.inr (.inr (.inr (fun _ _ _ _ h h0=>by cases h; exact h0))),?_,trivial⟩,⟨?_,?_,?_,?_,.inl rfl,?_,?_,?_,?_,?_,?_,.inr (.inr (.inr (fun _ _ _ _ h h0=>h0.next h))),?_,trivial⟩,⟨?_,?_,?_,?_,?_,.inl rfl,?_,?_,?_,?_,?_,.inr (.inr (.inr (fun _ _ _ _ h h0=>by cases h; exact h0))),?_,trivial⟩,⟨?_,?_,?_,?_,?_,?_,.inl rfl,?_,?_,?_,?_,.inr (.inr (.inr (fun _ _ _ _ h h0=>by cases h; exact h0))),?_,trivial⟩,⟨?_,?_,?_,?_,?_,?_,?_,.inl rfl,?_,?_,?_,.inr (.inr (.inr (fun _ _ _ _ h h0=>by cases h; exact h0))),?_,trivial⟩,⟨?_,?_,?_,?_,?_,?_,?_,?_,.inl rfl,?_,?_,.inr (.inr (.inr (fun _ _ _ _ h h0=>by cases h; exact h0))),?_,trivial⟩,⟨?_,?_,?_,?_,?_,?_,?_,?_,?_,.inl rfl,?_,.inr (.inr (.inr (fun _ _ _ _ h h0=>h0.next h))),?_,trivial⟩,⟨?_,?_,?_,?_,?_,?_,?_,?_,?_,?_,.inl rfl,.inr (.inr (.inr (fun _ _ _ _ h h0=>h0.next h))),?_,trivial⟩,⟨?_,?_,?_,?_,?_,?_,?_,?_,?_,?_,?_,.inl rfl,?_,trivial⟩,⟨?_,?_,?_,?_,?_,?_,?_,?_,?_,?_,?_,.inr (.inl rfl),.inl rfl,trivial⟩,trivial⟩ <;> first | exact .inr (.inr (.inl rfl)) | exact .inr (.inr (.inr fun _ _ _ _ _ h=>h))
 ·refine ⟨?_,?_,?_,?_,?_,?_,?_,?_,?_,?_,?_,?_,?_,trivial⟩
  ·refine step_plain [] (fun _=>rfl) rfl ?_;intro w1 vals hC1 hi0 hf E hE;clear hi0;clear hf;simp only [sP] at hE ⊢;go_wp2;exact .mk (hE _ _ rfl hC1 rfl)
  ·refine step_plain [(0,some 15)] (fun _=>rfl) rfl ?_;intro w1 vals hC1 hi0 hf E hE;clear hi0;have f0:vals 0=.pointer (some ⟨gp,5,none⟩):=hf 0 rfl
   try dsimp only at f0
   clear hf;have hs:=HST0.out.next hC1;simp only [sP,f0] at hE ⊢;clear f0;refine wpList_get_part (n:=5) (r:=eV (p.y)) (hs.1.1) (by rw [ptV_size]; decide) rfl rfl rfl rfl hu rfl elem_size ?_;go_wp2_with fail;exact .mk (hE _ _ rfl hC1 rfl)
  ·refine step_plain [] (fun _=>rfl) rfl ?_;intro w1 vals hC1 hi0 hf E hE;clear hi0;clear hf;simp only [sP] at hE ⊢;go_wp2;exact .mk (hE _ _ rfl hC1 rfl)
  ·refine step_plain [(2,some 17)] (fun _=>rfl) rfl ?_;intro w1 vals hC1 hi0 hf E hE;clear hi0;have f2:vals 2=.pointer (some ⟨gp,0,none⟩):=hf 2 rfl
   try dsimp only at f2
   clear hf;have hs:=HST0.out.next hC1;simp only [sP,f2] at hE ⊢;clear f2;refine wpList_get_part (n:=5) (r:=eV (p.x)) (hs.1.1) (by rw [ptV_size]; decide) rfl rfl rfl rfl hu rfl elem_size ?_;go_wp2_with fail;exact .mk (hE _ _ rfl hC1 rfl)
  ·refine step_plain [(1,some 16),(3,some 18)] (fun _=>rfl) rfl ?_;intro w1 vals hC1 hi0 hf E hE;clear hi0;have f1:vals 1=.agg (eV (p.y)):=hf 1 rfl;have f3:vals 3=.agg (eV (p.x)):=hf 3 rfl
   try dsimp only at f1 f3
   clear hf;simp only [sP,f1,f3] at hE ⊢;clear f1 f3;go_wp2_with fail;refine calls_then (sub_c _ _ _ (KP.out.y) (KP.out.x)) ?_;rintro e w2 ⟨rfl,hb2⟩;go_wp2_with fail;exact .mk (hE _ _ rfl (hC1.trans (hb2.mono hC1.size)) hb2)
  ·refine step_plain [] (fun _=>rfl) rfl ?_;intro w1 vals hC1 hi0 hf E hE;clear hi0;clear hf;simp only [sP] at hE ⊢;go_wp2;exact .mk (hE _ _ rfl hC1 rfl)
  ·refine step_plain [(5,some 20)] (fun _=>rfl) rfl ?_;intro w1 vals hC1 hi0 hf E hE;clear hi0;have f5:vals 5=.pointer (some ⟨gq,5,none⟩):=hf 5 rfl
   try dsimp only at f5
   clear hf;have hs:=HST0.out.next hC1;simp only [sP,f5] at hE ⊢;clear f5;refine wpList_get_part (n:=5) (r:=eV (q.y)) (hs.1.2.1) (by rw [ptV_size]; decide) rfl rfl rfl rfl hu rfl elem_size ?_;go_wp2_with fail;exact .mk (hE _ _ rfl hC1 rfl)
  ·refine step_plain [] (fun _=>rfl) rfl ?_;intro w1 vals hC1 hi0 hf E hE;clear hi0;clear hf;simp only [sP] at hE ⊢;go_wp2;exact .mk (hE _ _ rfl hC1 rfl)
  ·refine step_plain [(7,some 22)] (fun _=>rfl) rfl ?_;intro w1 vals hC1 hi0 hf E hE;clear hi0;have f7:vals 7=.pointer (some ⟨gq,0,none⟩):=hf 7 rfl
   try dsimp only at f7
   clear hf;have hs:=HST0.out.next hC1;simp only [sP,f7] at hE ⊢;clear f7;refine wpList_get_part (n:=5) (r:=eV (q.x)) (hs.1.2.1) (by rw [ptV_size]; decide) rfl rfl rfl rfl hu rfl elem_size ?_;go_wp2_with fail;exact .mk (hE _ _ rfl hC1 rfl)
  ·refine step_plain [(6,some 21),(8,some 23),(4,some 19)] (fun _=>rfl) rfl ?_;intro w1 vals hC1 hi0 hf E hE;clear hi0;have f4:vals 4=.agg (eV (subE (p.y) (p.x))):=hf 4 rfl;have f6:vals 6=.agg (eV (q.y)):=hf 6 rfl;have f8:vals 8=.agg (eV (q.x)):=hf 8 rfl
   try dsimp only at f4 f6 f8
   clear hf;simp only [sP,f4,f6,f8] at hE ⊢;clear f4 f6 f8;go_wp2_with fail;refine calls_then (sub_c _ _ _ (KQ.out.y) (KQ.out.x)) ?_;rintro e w2 ⟨rfl,hb2⟩;go_wp2_with fail;exact .mk (hE _ _ rfl (hC1.trans (hb2.mono hC1.size)) hb2)
  ·refine step_plain [(4,some 19),(9,some 24),(9,some 24)] (fun _=>rfl) rfl ?_;intro w1 vals hC1 hi0 hf E hE;clear hi0;have f4:vals 4=.agg (eV (subE (p.y) (p.x))):=hf 4 rfl;have f9:vals 9=.agg (eV (subE (q.y) (q.x))):=hf 9 rfl
   try dsimp only at f4 f9
   clear hf;simp only [sP,f4,f9] at hE ⊢;clear f4 f9;go_wp2_with fail;refine calls_then (mul_c _ _ _ (sub_ok (KP.out.y) (KP.out.x)) (sub_ok (KQ.out.y) (KQ.out.x))) ?_;rintro e w2 ⟨rfl,hb2⟩;go_wp2_with fail;exact .mk (hE _ _ rfl (hC1.trans (hb2.mono hC1.size)) hb2)
  ·refine step_plain [] (fun _=>rfl) rfl ?_;intro w1 vals hC1 hi0 hf E hE;clear hi0;clear hf;simp only [sP] at hE ⊢;go_wp2;exact .mk (hE _ _ (NewBox.of hC1.size) (hC1.alloc hC1.size _) (below_new _ _))
  ·refine step_plain [(11,some 7),(10,some 25),(10,some 25),(0,some 15),(1,some 16),(2,some 17),(3,some 18),(4,some 19),(5,some 20),(6,some 21),(7,some 22),(8,some 23),(9,some 24),(10,some 25),(11,some 7)] (fun _=>rfl) rfl ?_;intro w1 vals hC1 hi0 hf E hE;clear hi0;have f0:vals 0=.pointer (some ⟨gp,5,none⟩):=hf 0 rfl;have f1:vals 1=.agg (eV (p.y)):=hf 1 rfl;have f2:vals 2=.pointer (some ⟨gp,0,none⟩):=hf 2 rfl;have f3:vals 3=.agg (eV (p.x)):=hf 3 rfl;have f4:vals 4=.agg (eV (subE (p.y) (p.x))):=hf 4 rfl;have f5:vals 5=.pointer (some ⟨gq,5,none⟩):=hf 5 rfl;have f6:vals 6=.agg (eV (q.y)):=hf 6 rfl;have f7:vals 7=.pointer (some ⟨gq,0,none⟩):=hf 7 rfl;have f8:vals 8=.agg (eV (q.x)):=hf 8 rfl;have f9:vals 9=.agg (eV (subE (q.y) (q.x))):=hf 9 rfl;have f10:vals 10=.agg (eV (mulE (subE (p.y) (p.x)) (subE (q.y) (q.x)))):=hf 10 rfl;have f11:(NewBox w0.heap.size 39 (eV zE)) (vals 11) w1:=hf 11 rfl
   try dsimp only at f0 f1 f2 f3 f4 f5 f6 f7 f8 f9 f10 f11
   clear hf;obtain ⟨o,hx,ho,hblk⟩:=f11;have hx':=hx;simp only [sP,f0,f1,f2,f3,f4,f5,f6,f7,f8,f9,f10,hx] at hE ⊢;clear f0 f1 f2 f3 f4 f5 f6 f7 f8 f9 f10;clear hx;refine wpList_put_box (cells:=eV (mulE (subE (p.y) (p.x)) (subE (q.y) (q.x)))) hblk rfl rfl rfl rfl elem_size rfl (by simp [eV,ptV,wV,limbs,Value.oneCell']) ?_;intro w2 hb2 hw2;go_wp2_with fail;exact .mk (hE undef _ ⟨o,hx',ho,hb2⟩ (hw2.below hC1 ho hC1.size) trivial)
 intro w1 vals hC1 hf;have f0:vals 0=.pointer (some ⟨gp,5,none⟩):=hf 0 (by decide) rfl;have f1:vals 1=.agg (eV (p.y)):=hf 1 (by decide) rfl;have f2:vals 2=.pointer (some ⟨gp,0,none⟩):=hf 2 (by decide) rfl;have f3:vals 3=.agg (eV (p.x)):=hf 3 (by decide) rfl;have f4:vals 4=.agg (eV (subE (p.y) (p.x))):=hf 4 (by decide) rfl;have f5:vals 5=.pointer (some ⟨gq,5,none⟩):=hf 5 (by decide) rfl;have f6:vals 6=.agg (eV (q.y)):=hf 6 (by decide) rfl;have f7:vals 7=.pointer (some ⟨gq,0,none⟩):=hf 7 (by decide) rfl;have f8:vals 8=.agg (eV (q.x)):=hf 8 (by decide) rfl;have f9:vals 9=.agg (eV (subE (q.y) (q.x))):=hf 9 (by decide) rfl;have f10:vals 10=.agg (eV (mulE (subE (p.y) (p.x)) (subE (q.y) (q.x)))):=hf 10 (by decide) rfl;have f12:(fun z u=>NewBox w0.heap.size 39 (eV (mulE (subE (p.y) (p.x)) (subE (q.y) (q.x)))) (z 11) u) vals w1:=hf 12 (by decide) rfl
 try dsimp only at f0 f1 f2 f3 f4 f5 f6 f7 f8 f9 f10 f12
 clear hf;simp only [sP,f0,f1,f2,f3,f4,f5,f6,f7,f8,f9,f10];clear f0 f1 f2 f3 f4 f5 f6 f7 f8 f9 f10;generalize vals 11=x11 at *;obtain ⟨o1,rfl,hlo1,hblk1⟩:=f12;obtain ⟨a,ha⟩:∃ x,x=mulE (subE (p.y) (p.x)) (subE (q.y) (q.x)):=⟨_,rfl⟩;rw [← ha] at hblk1;have Ka:=zY (show a.Ok by rw [ha]; exact mul_ok (sub_ok (KP.out.y) (KP.out.x)) (sub_ok (KQ.out.y) (KQ.out.x)));have Ea:=zY ha;have HST1:=zY (show Cs (.box o1 39 (eV a) :: [.box gp 41 (ptV p),.box gq 41 (ptV q),.box gw 39 (eV tw),.box r 41 (ptV zP)]) w w1 from ⟨⟨hblk1,(HST0.out.next hC1).1⟩,(HST0.out.next hC1).2⟩);clear hC1 HC0 HST0 hblk1 hlo1 ha;obtain ⟨v1,rfl⟩:∃ x,x=w1:=⟨_,rfl⟩;go_wp2_with fail;have HC0:Below v1.heap.size v1 v1.drew:=(Below.refl _ _).drew
 refine wp_region_list (fun u=>Below v1.heap.size v1 u) (fun | false=>(fun _=>True) | true=>(fun _=>True)) (fun | false,_=>false | true,_=>false)
  [fun z _=>z 0=.pointer (some ⟨gp,5,none⟩),
   fun z _=>z 1=.agg (eV (p.y)),
   fun z _=>z 2=.pointer (some ⟨gp,0,none⟩),
   fun z _=>z 3=.agg (eV (p.x)),
   fun z _=>z 4=.agg (eV (addE (p.y) (p.x))),
   fun z _=>z 5=.pointer (some ⟨gq,5,none⟩),
   fun z _=>z 6=.agg (eV (q.y)),
   fun z _=>z 7=.pointer (some ⟨gq,0,none⟩),
   fun z _=>z 8=.agg (eV (q.x)),
   fun z _=>z 9=.agg (eV (addE (q.y) (q.x))),
   fun z _=>z 10=.agg (eV (mulE (addE (p.y) (p.x)) (addE (q.y) (q.x)))),
   fun z u=>(NewBox v1.heap.size 39 (eV zE)) (z 11) u,
   fun z u=>NewBox v1.heap.size 39 (eV (mulE (addE (p.y) (p.x)) (addE (q.y) (q.x)))) (z 11) u]
  [Eq,Eq,Eq,Eq,fun u u'=>Below u.heap.size u u',Eq,Eq,Eq,Eq,fun u u'=>Below u.heap.size u u',fun u u'=>Below u.heap.size u u',fun u u'=>Below u.heap.size u u',fun _ _=>True]
  (fun i k=>(i == 12 && k == 11)) [(0,some 26),(1,some 27),(2,some 28),(3,some 29),(4,some 30),(5,some 31),(6,some 32),(7,some 33),(8,some 34),(9,some 35),(10,some 36),(11,some 8),(12,none)] (by kernel_rfl) (by kernel_rfl) rfl (fun _=>rfl) ?_ ?_ ?_ ?_ ?_ ?_
 ·exact HC0
 ·intro m; cases m; exact trivial; exact trivial
 ·intro m; cases m
  ·refine ⟨?_,?_,?_,?_,.inr (fun _ _ _ h=>h),?_,?_,?_,?_,.inr (fun _ _ _ h=>h),.inr (fun _ _ _ h=>h),.inr (fun _ _ _ h=>h),.inr (fun _ _ _ h=>h),trivial⟩ <;> exact .inr fun _ _ h h0=>h▸h0
  ·refine ⟨?_,?_,?_,?_,.inr (fun _ _ _ h=>h),?_,?_,?_,?_,.inr (fun _ _ _ h=>h),.inr (fun _ _ _ h=>h),.inr (fun _ _ _ h=>h),.inr (fun _ _ _ h=>h),trivial⟩ <;> exact .inr fun _ _ h h0=>h▸h0
 ·refine ⟨⟨.inl rfl,?_,?_,?_,?_,?_,?_,?_,?_,?_,?_,.inr (.inr (.inr (fun _ _ _ _ h h0=>by cases h; exact h0))),?_,trivial⟩,⟨?_,.inl rfl,?_,?_,?_,?_,?_,?_,?_,?_,?_,.inr (.inr (.inr (fun _ _ _ _ h h0=>by cases h; exact h0))),?_,trivial⟩,⟨?_,?_,.inl rfl,?_,?_,?_,?_,?_,?_,?_,?_,.inr (.inr (.inr (fun _ _ _ _ h h0=>by cases h; exact h0))),?_,trivial⟩,⟨?_,?_,?_,.inl rfl,?_,?_,?_,?_,?_,?_,?_,.inr (.inr (.inr (fun _ _ _ _ h h0=>by cases h; exact h0))),?_,trivial⟩,⟨?_,?_,?_,?_,.inl rfl,?_,?_,?_,?_,?_,?_,.inr (.inr (.inr (fun _ _ _ _ h h0=>h0.next h))),?_,trivial⟩,⟨?_,?_,?_,?_,?_,.inl rfl,?_,?_,?_,?_,?_,.inr (.inr (.inr (fun _ _ _ _ h h0=>by cases h; exact h0))),?_,trivial⟩,⟨?_,?_,?_,?_,?_,?_,.inl rfl,?_,?_,?_,?_,.inr (.inr (.inr (fun _ _ _ _ h h0=>by cases h; exact h0))),?_,trivial⟩,⟨?_,?_,?_,?_,?_,?_,?_,.inl rfl,?_,?_,?_,.inr (.inr (.inr (fun _ _ _ _ h h0=>by cases h; exact h0))),?_,trivial⟩,⟨?_,?_,?_,?_,?_,?_,?_,?_,.inl rfl,?_,?_,.inr (.inr (.inr (fun _ _ _ _ h h0=>by cases h; exact h0))),?_,trivial⟩,⟨?_,?_,?_,?_,?_,?_,?_,?_,?_,.inl rfl,?_,.inr (.inr (.inr (fun _ _ _ _ h h0=>h0.next h))),?_,trivial⟩,⟨?_,?_,?_,?_,?_,?_,?_,?_,?_,?_,.inl rfl,.inr (.inr (.inr (fun _ _ _ _ h h0=>h0.next h))),?_,trivial⟩,⟨?_,?_,?_,?_,?_,?_,?_,?_,?_,?_,?_,.inl rfl,?_,trivial⟩,⟨?_,?_,?_,?_,?_,?_,?_,?_,?_,?_,?_,.inr (.inl rfl),.inl rfl,trivial⟩,trivial⟩ <;> first | exact .inr (.inr (.inl rfl)) | exact .inr (.inr (.inr fun _ _ _ _ _ h=>h))
 ·refine ⟨?_,?_,?_,?_,?_,?_,?_,?_,?_,?_,?_,?_,?_,trivial⟩
  ·refine step_plain [] (fun _=>rfl) rfl ?_;intro w1 vals hC1 hi0 hf E hE;clear hi0;clear hf;simp only [sP] at hE ⊢;go_wp2;exact .mk (hE _ _ rfl hC1 rfl)
  ·refine step_plain [(0,some 26)] (fun _=>rfl) rfl ?_;intro w1 vals hC1 hi0 hf E hE;clear hi0;have f0:vals 0=.pointer (some ⟨gp,5,none⟩):=hf 0 rfl
   try dsimp only at f0
   clear hf;have hs:=HST1.out.next hC1;simp only [sP,f0] at hE ⊢;clear f0;refine wpList_get_part (n:=5) (r:=eV (p.y)) (hs.1.2.1) (by rw [ptV_size]; decide) rfl rfl rfl rfl hu rfl elem_size ?_;go_wp2_with fail;exact .mk (hE _ _ rfl hC1 rfl)
  ·refine step_plain [] (fun _=>rfl) rfl ?_;intro w1 vals hC1 hi0 hf E hE;clear hi0;clear hf;simp only [sP] at hE ⊢;go_wp2;exact .mk (hE _ _ rfl hC1 rfl)
  ·refine step_plain [(2,some 28)] (fun _=>rfl) rfl ?_;intro w1 vals hC1 hi0 hf E hE;clear hi0;have f2:vals 2=.pointer (some ⟨gp,0,none⟩):=hf 2 rfl
   try dsimp only at f2
   clear hf;have hs:=HST1.out.next hC1;simp only [sP,f2] at hE ⊢;clear f2;refine wpList_get_part (n:=5) (r:=eV (p.x)) (hs.1.2.1) (by rw [ptV_size]; decide) rfl rfl rfl rfl hu rfl elem_size ?_;go_wp2_with fail;exact .mk (hE _ _ rfl hC1 rfl)
  ·refine step_plain [(1,some 27),(3,some 29)] (fun _=>rfl) rfl ?_;intro w1 vals hC1 hi0 hf E hE;clear hi0;have f1:vals 1=.agg (eV (p.y)):=hf 1 rfl;have f3:vals 3=.agg (eV (p.x)):=hf 3 rfl
   try dsimp only at f1 f3
   clear hf;simp only [sP,f1,f3] at hE ⊢;clear f1 f3;go_wp2_with fail;refine calls_then (add_c _ _ _ (KP.out.y) (KP.out.x)) ?_;rintro e w2 ⟨rfl,hb2⟩;go_wp2_with fail;exact .mk (hE _ _ rfl (hC1.trans (hb2.mono hC1.size)) hb2)
  ·refine step_plain [] (fun _=>rfl) rfl ?_;intro w1 vals hC1 hi0 hf E hE;clear hi0;clear hf;simp only [sP] at hE ⊢;go_wp2;exact .mk (hE _ _ rfl hC1 rfl)
  ·refine step_plain [(5,some 31)] (fun _=>rfl) rfl ?_;intro w1 vals hC1 hi0 hf E hE;clear hi0;have f5:vals 5=.pointer (some ⟨gq,5,none⟩):=hf 5 rfl
   try dsimp only at f5
   clear hf;have hs:=HST1.out.next hC1;simp only [sP,f5] at hE ⊢;clear f5;refine wpList_get_part (n:=5) (r:=eV (q.y)) (hs.1.2.2.1) (by rw [ptV_size]; decide) rfl rfl rfl rfl hu rfl elem_size ?_;go_wp2_with fail;exact .mk (hE _ _ rfl hC1 rfl)
  ·refine step_plain [] (fun _=>rfl) rfl ?_;intro w1 vals hC1 hi0 hf E hE;clear hi0;clear hf;simp only [sP] at hE ⊢;go_wp2;exact .mk (hE _ _ rfl hC1 rfl)
  ·refine step_plain [(7,some 33)] (fun _=>rfl) rfl ?_;intro w1 vals hC1 hi0 hf E hE;clear hi0;have f7:vals 7=.pointer (some ⟨gq,0,none⟩):=hf 7 rfl
   try dsimp only at f7
   clear hf;have hs:=HST1.out.next hC1;simp only [sP,f7] at hE ⊢;clear f7;refine wpList_get_part (n:=5) (r:=eV (q.x)) (hs.1.2.2.1) (by rw [ptV_size]; decide) rfl rfl rfl rfl hu rfl elem_size ?_;go_wp2_with fail;exact .mk (hE _ _ rfl hC1 rfl)
  ·refine step_plain [(6,some 32),(8,some 34),(4,some 30)] (fun _=>rfl) rfl ?_;intro w1 vals hC1 hi0 hf E hE;clear hi0;have f4:vals 4=.agg (eV (addE (p.y) (p.x))):=hf 4 rfl;have f6:vals 6=.agg (eV (q.y)):=hf 6 rfl;have f8:vals 8=.agg (eV (q.x)):=hf 8 rfl
   try dsimp only at f4 f6 f8
   clear hf;simp only [sP,f4,f6,f8] at hE ⊢;clear f4 f6 f8;go_wp2_with fail;refine calls_then (add_c _ _ _ (KQ.out.y) (KQ.out.x)) ?_;rintro e w2 ⟨rfl,hb2⟩;go_wp2_with fail;exact .mk (hE _ _ rfl (hC1.trans (hb2.mono hC1.size)) hb2)
  ·refine step_plain [(4,some 30),(9,some 35),(9,some 35)] (fun _=>rfl) rfl ?_;intro w1 vals hC1 hi0 hf E hE;clear hi0;have f4:vals 4=.agg (eV (addE (p.y) (p.x))):=hf 4 rfl;have f9:vals 9=.agg (eV (addE (q.y) (q.x))):=hf 9 rfl
   try dsimp only at f4 f9
   clear hf;simp only [sP,f4,f9] at hE ⊢;clear f4 f9;go_wp2_with fail;refine calls_then (mul_c _ _ _ (add_ok (KP.out.y) (KP.out.x)) (add_ok (KQ.out.y) (KQ.out.x))) ?_;rintro e w2 ⟨rfl,hb2⟩;go_wp2_with fail;exact .mk (hE _ _ rfl (hC1.trans (hb2.mono hC1.size)) hb2)
  ·refine step_plain [] (fun _=>rfl) rfl ?_;intro w1 vals hC1 hi0 hf E hE;clear hi0;clear hf;simp only [sP] at hE ⊢;go_wp2;exact .mk (hE _ _ (NewBox.of hC1.size) (hC1.alloc hC1.size _) (below_new _ _))
  ·refine step_plain [(11,some 8),(10,some 36),(10,some 36),(0,some 26),(1,some 27),(2,some 28),(3,some 29),(4,some 30),(5,some 31),(6,some 32),(7,some 33),(8,some 34),(9,some 35),(10,some 36),(11,some 8)] (fun _=>rfl) rfl ?_;intro w1 vals hC1 hi0 hf E hE;clear hi0;have f0:vals 0=.pointer (some ⟨gp,5,none⟩):=hf 0 rfl;have f1:vals 1=.agg (eV (p.y)):=hf 1 rfl;have f2:vals 2=.pointer (some ⟨gp,0,none⟩):=hf 2 rfl;have f3:vals 3=.agg (eV (p.x)):=hf 3 rfl;have f4:vals 4=.agg (eV (addE (p.y) (p.x))):=hf 4 rfl;have f5:vals 5=.pointer (some ⟨gq,5,none⟩):=hf 5 rfl;have f6:vals 6=.agg (eV (q.y)):=hf 6 rfl;have f7:vals 7=.pointer (some ⟨gq,0,none⟩):=hf 7 rfl;have f8:vals 8=.agg (eV (q.x)):=hf 8 rfl;have f9:vals 9=.agg (eV (addE (q.y) (q.x))):=hf 9 rfl;have f10:vals 10=.agg (eV (mulE (addE (p.y) (p.x)) (addE (q.y) (q.x)))):=hf 10 rfl;have f11:(NewBox v1.heap.size 39 (eV zE)) (vals 11) w1:=hf 11 rfl
   try dsimp only at f0 f1 f2 f3 f4 f5 f6 f7 f8 f9 f10 f11
   clear hf;obtain ⟨o,hx,ho,hblk⟩:=f11;have hx':=hx;simp only [sP,f0,f1,f2,f3,f4,f5,f6,f7,f8,f9,f10,hx] at hE ⊢;clear f0 f1 f2 f3 f4 f5 f6 f7 f8 f9 f10;clear hx;refine wpList_put_box (cells:=eV (mulE (addE (p.y) (p.x)) (addE (q.y) (q.x)))) hblk rfl rfl rfl rfl elem_size rfl (by simp [eV,ptV,wV,limbs,Value.oneCell']) ?_;intro w2 hb2 hw2;go_wp2_with fail;exact .mk (hE undef _ ⟨o,hx',ho,hb2⟩ (hw2.below hC1 ho hC1.size) trivial)
 intro w1 vals hC1 hf;have f0:vals 0=.pointer (some ⟨gp,5,none⟩):=hf 0 (by decide) rfl;have f1:vals 1=.agg (eV (p.y)):=hf 1 (by decide) rfl;have f2:vals 2=.pointer (some ⟨gp,0,none⟩):=hf 2 (by decide) rfl;have f3:vals 3=.agg (eV (p.x)):=hf 3 (by decide) rfl;have f4:vals 4=.agg (eV (addE (p.y) (p.x))):=hf 4 (by decide) rfl;have f5:vals 5=.pointer (some ⟨gq,5,none⟩):=hf 5 (by decide) rfl;have f6:vals 6=.agg (eV (q.y)):=hf 6 (by decide) rfl;have f7:vals 7=.pointer (some ⟨gq,0,none⟩):=hf 7 (by decide) rfl;have f8:vals 8=.agg (eV (q.x)):=hf 8 (by decide) rfl;have f9:vals 9=.agg (eV (addE (q.y) (q.x))):=hf 9 (by decide) rfl;have f10:vals 10=.agg (eV (mulE (addE (p.y) (p.x)) (addE (q.y) (q.x)))):=hf 10 (by decide) rfl;have f12:(fun z u=>NewBox v1.heap.size 39 (eV (mulE (addE (p.y) (p.x)) (addE (q.y) (q.x)))) (z 11) u) vals w1:=hf 12 (by decide) rfl
 try dsimp only at f0 f1 f2 f3 f4 f5 f6 f7 f8 f9 f10 f12
 clear hf;simp only [sP,f0,f1,f2,f3,f4,f5,f6,f7,f8,f9,f10];clear f0 f1 f2 f3 f4 f5 f6 f7 f8 f9 f10;generalize vals 11=x11 at *;obtain ⟨o2,rfl,hlo2,hblk2⟩:=f12;obtain ⟨b,hb⟩:∃ x,x=mulE (addE (p.y) (p.x)) (addE (q.y) (q.x)):=⟨_,rfl⟩;rw [← hb] at hblk2;have Kb:=zY (show b.Ok by rw [hb]; exact mul_ok (add_ok (KP.out.y) (KP.out.x)) (add_ok (KQ.out.y) (KQ.out.x)));have Eb:=zY hb;have HST2:=zY (show Cs (.box o2 39 (eV b) :: [.box o1 39 (eV a),.box gp 41 (ptV p),.box gq 41 (ptV q),.box gw 39 (eV tw),.box r 41 (ptV zP)]) w w1 from ⟨⟨hblk2,(HST1.out.next hC1).1⟩,(HST1.out.next hC1).2⟩);clear hC1 HC0 HST1 hblk2 hlo2 hb;obtain ⟨v2,rfl⟩:∃ x,x=w1:=⟨_,rfl⟩;go_wp2_with fail;have HC0:Below v2.heap.size v2 v2.drew:=(Below.refl _ _).drew
 refine wp_region_list (fun u=>Below v2.heap.size v2 u) (fun | false=>(fun _=>True) | true=>(fun _=>True)) (fun | false,_=>false | true,_=>false)
  [fun z _=>z 0=.pointer (some ⟨gp,15,none⟩),
   fun z _=>z 1=.agg (eV (p.t)),
   fun z _=>z 2=.agg (eV (tw)),
   fun z _=>z 3=.agg (eV (mulE (p.t) (tw))),
   fun z _=>z 4=.pointer (some ⟨gq,15,none⟩),
   fun z _=>z 5=.agg (eV (q.t)),
   fun z _=>z 6=.agg (eV (mulE (mulE (p.t) (tw)) (q.t))),
   fun z u=>(NewBox v2.heap.size 39 (eV zE)) (z 7) u,
   fun z u=>NewBox v2.heap.size 39 (eV (mulE (mulE (p.t) (tw)) (q.t))) (z 7) u]
  [Eq,Eq,Eq,fun u u'=>Below u.heap.size u u',Eq,Eq,fun u u'=>Below u.heap.size u u',fun u u'=>Below u.heap.size u u',fun _ _=>True]
  (fun i k=>(i == 8 && k == 7)) [(0,some 37),(1,some 38),(2,some 39),(3,some 40),(4,some 41),(5,some 42),(6,some 43),(7,some 9),(8,none)] (by kernel_rfl) (by kernel_rfl) rfl (fun _=>rfl) ?_ ?_ ?_ ?_ ?_ ?_
 ·exact HC0
 ·intro m; cases m; exact trivial; exact trivial
 ·intro m; cases m
  ·refine ⟨?_,?_,?_,.inr (fun _ _ _ h=>h),?_,?_,.inr (fun _ _ _ h=>h),.inr (fun _ _ _ h=>h),.inr (fun _ _ _ h=>h),trivial⟩ <;> exact .inr fun _ _ h h0=>h▸h0
  ·refine ⟨?_,?_,?_,.inr (fun _ _ _ h=>h),?_,?_,.inr (fun _ _ _ h=>h),.inr (fun _ _ _ h=>h),.inr (fun _ _ _ h=>h),trivial⟩ <;> exact .inr fun _ _ h h0=>h▸h0
 ·refine ⟨⟨.inl rfl,?_,?_,?_,?_,?_,?_,.inr (.inr (.inr (fun _ _ _ _ h h0=>by cases h; exact h0))),?_,trivial⟩,⟨?_,.inl rfl,?_,?_,?_,?_,?_,.inr (.inr (.inr (fun _ _ _ _ h h0=>by cases h; exact h0))),?_,trivial⟩,⟨?_,?_,.inl rfl,?_,?_,?_,?_,.inr (.inr (.inr (fun _ _ _ _ h h0=>by cases h; exact h0))),?_,trivial⟩,⟨?_,?_,?_,.inl rfl,?_,?_,?_,.inr (.inr (.inr (fun _ _ _ _ h h0=>h0.next h))),?_,trivial⟩,⟨?_,?_,?_,?_,.inl rfl,?_,?_,.inr (.inr (.inr (fun _ _ _ _ h h0=>by cases h; exact h0))),?_,trivial⟩,⟨?_,?_,?_,?_,?_,.inl rfl,?_,.inr (.inr (.inr (fun _ _ _ _ h h0=>by cases h; exact h0))),?_,trivial⟩,⟨?_,?_,?_,?_,?_,?_,.inl rfl,.inr (.inr (.inr (fun _ _ _ _ h h0=>h0.next h))),?_,trivial⟩,⟨?_,?_,?_,?_,?_,?_,?_,.inl rfl,?_,trivial⟩,⟨?_,?_,?_,?_,?_,?_,?_,.inr (.inl rfl),.inl rfl,trivial⟩,trivial⟩ <;> first | exact .inr (.inr (.inl rfl)) | exact .inr (.inr (.inr fun _ _ _ _ _ h=>h))
 ·refine ⟨?_,?_,?_,?_,?_,?_,?_,?_,?_,trivial⟩
  ·refine step_plain [] (fun _=>rfl) rfl ?_;intro w1 vals hC1 hi0 hf E hE;clear hi0;clear hf;simp only [sP] at hE ⊢;go_wp2;exact .mk (hE _ _ rfl hC1 rfl)
  ·refine step_plain [(0,some 37)] (fun _=>rfl) rfl ?_;intro w1 vals hC1 hi0 hf E hE;clear hi0;have f0:vals 0=.pointer (some ⟨gp,15,none⟩):=hf 0 rfl
   try dsimp only at f0
   clear hf;have hs:=HST2.out.next hC1;simp only [sP,f0] at hE ⊢;clear f0;refine wpList_get_part (n:=5) (r:=eV (p.t)) (hs.1.2.2.1) (by rw [ptV_size]; decide) rfl rfl rfl rfl hu rfl elem_size ?_;go_wp2_with fail;exact .mk (hE _ _ rfl hC1 rfl)
  ·refine step_plain [] (fun _=>rfl) rfl ?_;intro w1 vals hC1 hi0 hf E hE;clear hi0;clear hf;have hs:=HST2.out.next hC1;simp only [sP] at hE ⊢;refine wpList_get_box (hs.1.2.2.2.2.1) rfl rfl rfl hu rfl elem_size ?_;go_wp2_with fail;exact .mk (hE _ _ rfl hC1 rfl)
  ·refine step_plain [(1,some 38),(2,some 39)] (fun _=>rfl) rfl ?_;intro w1 vals hC1 hi0 hf E hE;clear hi0;have f1:vals 1=.agg (eV (p.t)):=hf 1 rfl;have f2:vals 2=.agg (eV (tw)):=hf 2 rfl
   try dsimp only at f1 f2
   clear hf;simp only [sP,f1,f2] at hE ⊢;clear f1 f2;go_wp2_with fail;refine calls_then (mul_c _ _ _ (KP.out.t) (KW.out)) ?_;rintro e w2 ⟨rfl,hb2⟩;go_wp2_with fail;exact .mk (hE _ _ rfl (hC1.trans (hb2.mono hC1.size)) hb2)
  ·refine step_plain [] (fun _=>rfl) rfl ?_;intro w1 vals hC1 hi0 hf E hE;clear hi0;clear hf;simp only [sP] at hE ⊢;go_wp2;exact .mk (hE _ _ rfl hC1 rfl)
  ·refine step_plain [(4,some 41)] (fun _=>rfl) rfl ?_;intro w1 vals hC1 hi0 hf E hE;clear hi0;have f4:vals 4=.pointer (some ⟨gq,15,none⟩):=hf 4 rfl
   try dsimp only at f4
   clear hf;have hs:=HST2.out.next hC1;simp only [sP,f4] at hE ⊢;clear f4;refine wpList_get_part (n:=5) (r:=eV (q.t)) (hs.1.2.2.2.1) (by rw [ptV_size]; decide) rfl rfl rfl rfl hu rfl elem_size ?_;go_wp2_with fail;exact .mk (hE _ _ rfl hC1 rfl)
  ·refine step_plain [(3,some 40),(5,some 42),(3,some 40)] (fun _=>rfl) rfl ?_;intro w1 vals hC1 hi0 hf E hE;clear hi0;have f3:vals 3=.agg (eV (mulE (p.t) (tw))):=hf 3 rfl;have f5:vals 5=.agg (eV (q.t)):=hf 5 rfl
   try dsimp only at f3 f5
   clear hf;simp only [sP,f3,f5] at hE ⊢;clear f3 f5;go_wp2_with fail;refine calls_then (mul_c _ _ _ (mul_ok (KP.out.t) (KW.out)) (KQ.out.t)) ?_;rintro e w2 ⟨rfl,hb2⟩;go_wp2_with fail;exact .mk (hE _ _ rfl (hC1.trans (hb2.mono hC1.size)) hb2)
  ·refine step_plain [] (fun _=>rfl) rfl ?_;intro w1 vals hC1 hi0 hf E hE;clear hi0;clear hf;simp only [sP] at hE ⊢;go_wp2;exact .mk (hE _ _ (NewBox.of hC1.size) (hC1.alloc hC1.size _) (below_new _ _))
  ·refine step_plain [(7,some 9),(6,some 43),(6,some 43),(0,some 37),(1,some 38),(2,some 39),(3,some 40),(4,some 41),(5,some 42),(6,some 43),(7,some 9)] (fun _=>rfl) rfl ?_;intro w1 vals hC1 hi0 hf E hE;clear hi0;have f0:vals 0=.pointer (some ⟨gp,15,none⟩):=hf 0 rfl;have f1:vals 1=.agg (eV (p.t)):=hf 1 rfl;have f2:vals 2=.agg (eV (tw)):=hf 2 rfl;have f3:vals 3=.agg (eV (mulE (p.t) (tw))):=hf 3 rfl;have f4:vals 4=.pointer (some ⟨gq,15,none⟩):=hf 4 rfl;have f5:vals 5=.agg (eV (q.t)):=hf 5 rfl;have f6:vals 6=.agg (eV (mulE (mulE (p.t) (tw)) (q.t))):=hf 6 rfl;have f7:(NewBox v2.heap.size 39 (eV zE)) (vals 7) w1:=hf 7 rfl
   try dsimp only at f0 f1 f2 f3 f4 f5 f6 f7
   clear hf;obtain ⟨o,hx,ho,hblk⟩:=f7;have hx':=hx;simp only [sP,f0,f1,f2,f3,f4,f5,f6,hx] at hE ⊢;clear f0 f1 f2 f3 f4 f5 f6;clear hx;refine wpList_put_box (cells:=eV (mulE (mulE (p.t) (tw)) (q.t))) hblk rfl rfl rfl rfl elem_size rfl (by simp [eV,ptV,wV,limbs,Value.oneCell']) ?_;intro w2 hb2 hw2;go_wp2_with fail;exact .mk (hE undef _ ⟨o,hx',ho,hb2⟩ (hw2.below hC1 ho hC1.size) trivial)
 intro w1 vals hC1 hf;have f0:vals 0=.pointer (some ⟨gp,15,none⟩):=hf 0 (by decide) rfl;have f1:vals 1=.agg (eV (p.t)):=hf 1 (by decide) rfl;have f2:vals 2=.agg (eV (tw)):=hf 2 (by decide) rfl;have f3:vals 3=.agg (eV (mulE (p.t) (tw))):=hf 3 (by decide) rfl;have f4:vals 4=.pointer (some ⟨gq,15,none⟩):=hf 4 (by decide) rfl;have f5:vals 5=.agg (eV (q.t)):=hf 5 (by decide) rfl;have f6:vals 6=.agg (eV (mulE (mulE (p.t) (tw)) (q.t))):=hf 6 (by decide) rfl;have f8:(fun z u=>NewBox v2.heap.size 39 (eV (mulE (mulE (p.t) (tw)) (q.t))) (z 7) u) vals w1:=hf 8 (by decide) rfl
 try dsimp only at f0 f1 f2 f3 f4 f5 f6 f8
 clear hf;simp only [sP,f0,f1,f2,f3,f4,f5,f6];clear f0 f1 f2 f3 f4 f5 f6;generalize vals 7=x7 at *;obtain ⟨o3,rfl,hlo3,hblk3⟩:=f8;obtain ⟨c,hc⟩:∃ x,x=mulE (mulE (p.t) (tw)) (q.t):=⟨_,rfl⟩;rw [← hc] at hblk3;have Kc:=zY (show c.Ok by rw [hc]; exact mul_ok (mul_ok (KP.out.t) (KW.out)) (KQ.out.t));have Ec:=zY hc;have HST3:=zY (show Cs (.box o3 39 (eV c) :: [.box o2 39 (eV b),.box o1 39 (eV a),.box gp 41 (ptV p),.box gq 41 (ptV q),.box gw 39 (eV tw),.box r 41 (ptV zP)]) w w1 from ⟨⟨hblk3,(HST2.out.next hC1).1⟩,(HST2.out.next hC1).2⟩);clear hC1 HC0 HST2 hblk3 hlo3 hc;obtain ⟨v3,rfl⟩:∃ x,x=w1:=⟨_,rfl⟩
 go_wp2_with (first
  | (refine wpList_get_part (x:=.tmp 44) (n:=5) (r:=eV p.z) (HST3.out.1.2.2.2.1) (by rw [ptV_size]; decide) rfl rfl rfl rfl hu rfl elem_size ?_)
  | (refine wpList_get_part (x:=.tmp 46) (n:=5) (r:=eV q.z) (HST3.out.1.2.2.2.2.1) (by rw [ptV_size]; decide) rfl rfl rfl rfl hu rfl elem_size ?_))
 refine calls_then (mul_c p.z q.z _ KP.out.z KQ.out.z) ?_;rintro e w2 ⟨rfl,hb2⟩;obtain ⟨zz,hz⟩:∃ x,x=mulE p.z q.z:=⟨_,rfl⟩;rw [← hz];have Kz:=zY (show zz.Ok by rw [hz]; exact mul_ok KP.out.z KQ.out.z);have Ez:=zY hz;have HX:=zY (HST3.out.next hb2);clear hz hb2 HST3;go_wp2_with (refine wpList_put_box (x:=.tmp 10) (cells:=eV zz) (Blk.new _ _ _) rfl rfl rfl rfl elem_size rfl (by simp [eV,ptV,wV,limbs,Value.oneCell']) ?_; intro v9 hb9 hw9; have HST9:=zY (show Cs (.box w2.heap.size 39 (eV zz) :: [.box o3 39 (eV c),.box o2 39 (eV b),.box o1 39 (eV a),.box gp 41 (ptV p),.box gq 41 (ptV q),.box gw 39 (eV tw),.box r 41 (ptV zP)]) w v9 from ⟨⟨hb9,(HX.out.next (box_low hw9)).1⟩,(HX.out.next (box_low hw9)).2⟩); clear hb9 hw9 HX);generalize w2.heap.size=oz at *;have HC0:C2 v9 6 7 (fun _=>undef) v9.drew:=C2.init (Below.refl _ _).drew
 refine wp_region_listV (C2 v9 6 7) (fun | false=>(fun _=>True) | true=>(fun _=>True)) (fun | false,_=>false | true,_=>false)
  [fun z _=>z 0=.agg (eV (b)),
   fun z _=>z 1=.agg (eV (a)),
   fun z _=>z 2=.agg (eV (subE (b) (a))),
   fun z _=>z 3=.agg (eV (b)),
   fun z _=>z 4=.agg (eV (a)),
   fun z _=>z 5=.agg (eV (addE (b) (a))),
   fun z u=>(NewBox v9.heap.size 39 (eV zE)) (z 6) u,
   fun z u=>(NewBox v9.heap.size 39 (eV zE)) (z 7) u,
   fun z u=>NewBox v9.heap.size 39 (eV (subE (b) (a))) (z 6) u∧NewBox v9.heap.size 39 (eV zE) (z 7) u,
   fun z u=>NewBox v9.heap.size 39 (eV (subE (b) (a))) (z 6) u∧NewBox v9.heap.size 39 (eV (addE (b) (a))) (z 7) u]
  [Eq,Eq,fun u u'=>Below u.heap.size u u',Eq,Eq,fun u u'=>Below u.heap.size u u',fun u u'=>Below u.heap.size u u',fun u u'=>Below u.heap.size u u',fun _ _=>True,fun _ _=>True]
  (fun i k=>(i == 8 && k == 6) || (i == 8 && k == 7) || (i == 9 && k == 6) || (i == 9 && k == 7) || (i == 9 && k == 8)) [(0,some 49),(1,some 50),(2,some 51),(3,some 52),(4,some 53),(5,some 54),(6,some 11),(7,some 12),(8,none),(9,none)] (by kernel_rfl) (by kernel_rfl) rfl (fun _=>rfl) ?_ ?_ ?_ ?_ ?_ ?_
 ·exact HC0
 ·intro m; cases m; exact trivial; exact trivial
 ·intro m; cases m
  ·refine ⟨?_,?_,.inr (fun _ _ _ h=>h),?_,?_,.inr (fun _ _ _ h=>h),.inr (fun _ _ _ h=>h),.inr (fun _ _ _ h=>h),.inr (fun _ _ _ h=>h),.inr (fun _ _ _ h=>h),trivial⟩ <;> exact .inr fun _ _ h h0=>h▸h0
  ·refine ⟨?_,?_,.inr (fun _ _ _ h=>h),?_,?_,.inr (fun _ _ _ h=>h),.inr (fun _ _ _ h=>h),.inr (fun _ _ _ h=>h),.inr (fun _ _ _ h=>h),.inr (fun _ _ _ h=>h),trivial⟩ <;> exact .inr fun _ _ h h0=>h▸h0
 ·refine ⟨⟨.inl rfl,?_,?_,?_,?_,?_,.inr (.inr (.inr (fun _ _ _ _ h h0=>by cases h; exact h0))),.inr (.inr (.inr (fun _ _ _ _ h h0=>by cases h; exact h0))),?_,?_,trivial⟩,⟨?_,.inl rfl,?_,?_,?_,?_,.inr (.inr (.inr (fun _ _ _ _ h h0=>by cases h; exact h0))),.inr (.inr (.inr (fun _ _ _ _ h h0=>by cases h; exact h0))),?_,?_,trivial⟩,⟨?_,?_,.inl rfl,?_,?_,?_,.inr (.inr (.inr (fun _ _ _ _ h h0=>h0.next h))),.inr (.inr (.inr (fun _ _ _ _ h h0=>h0.next h))),?_,?_,trivial⟩,⟨?_,?_,?_,.inl rfl,?_,?_,.inr (.inr (.inr (fun _ _ _ _ h h0=>by cases h; exact h0))),.inr (.inr (.inr (fun _ _ _ _ h h0=>by cases h; exact h0))),?_,?_,trivial⟩,⟨?_,?_,?_,?_,.inl rfl,?_,.inr (.inr (.inr (fun _ _ _ _ h h0=>by cases h; exact h0))),.inr (.inr (.inr (fun _ _ _ _ h h0=>by cases h; exact h0))),?_,?_,trivial⟩,⟨?_,?_,?_,?_,?_,.inl rfl,.inr (.inr (.inr (fun _ _ _ _ h h0=>h0.next h))),.inr (.inr (.inr (fun _ _ _ _ h h0=>h0.next h))),?_,?_,trivial⟩,⟨?_,?_,?_,?_,?_,?_,.inl rfl,.inr (.inr (.inr (fun _ _ _ _ h h0=>h0.next h))),?_,?_,trivial⟩,⟨?_,?_,?_,?_,?_,?_,.inr (.inr (.inr (fun _ _ _ _ h h0=>h0.next h))),.inl rfl,?_,?_,trivial⟩,⟨?_,?_,?_,?_,?_,?_,.inr (.inl rfl),.inr (.inl rfl),.inl rfl,?_,trivial⟩,⟨?_,?_,?_,?_,?_,?_,.inr (.inl rfl),.inr (.inl rfl),.inr (.inl rfl),.inl rfl,trivial⟩,trivial⟩ <;> first | exact .inr (.inr (.inl rfl)) | exact .inr (.inr (.inr fun _ _ _ _ _ h=>h))
 ·refine ⟨?_,?_,?_,?_,?_,?_,?_,?_,?_,?_,trivial⟩
  ·refine step_plainV [] (fun _=>rfl) rfl ?_;intro w1 vals hC1 hi0 hf E hE;clear hi0;clear hf;have hs:=HST9.out.next hC1.bel;simp only [sP] at hE ⊢;refine wpList_get_box (hs.1.2.2.1) rfl rfl rfl hu rfl elem_size ?_;go_wp2_with fail;exact .mk (hE _ _ rfl (hC1.same (by decide) (by decide)) rfl)
  ·refine step_plainV [] (fun _=>rfl) rfl ?_;intro w1 vals hC1 hi0 hf E hE;clear hi0;clear hf;have hs:=HST9.out.next hC1.bel;simp only [sP] at hE ⊢;refine wpList_get_box (hs.1.2.2.2.1) rfl rfl rfl hu rfl elem_size ?_;go_wp2_with fail;exact .mk (hE _ _ rfl (hC1.same (by decide) (by decide)) rfl)
  ·refine step_plainV [(0,some 49),(1,some 50)] (fun _=>rfl) rfl ?_;intro w1 vals hC1 hi0 hf E hE;clear hi0;have f0:vals 0=.agg (eV (b)):=hf 0 rfl;have f1:vals 1=.agg (eV (a)):=hf 1 rfl
   try dsimp only at f0 f1
   clear hf;simp only [sP,f0,f1] at hE ⊢;clear f0 f1;go_wp2_with fail;refine calls_then (sub_c _ _ _ (Kb.out) (Ka.out)) ?_;rintro e w2 ⟨rfl,hb2⟩;go_wp2_with fail;exact .mk (hE _ _ rfl (hC1.other (by decide) (by decide) (hC1.bel.trans (hb2.mono hC1.bel.size)) hb2.size) hb2)
  ·refine step_plainV [] (fun _=>rfl) rfl ?_;intro w1 vals hC1 hi0 hf E hE;clear hi0;clear hf;have hs:=HST9.out.next hC1.bel;simp only [sP] at hE ⊢;refine wpList_get_box (hs.1.2.2.1) rfl rfl rfl hu rfl elem_size ?_;go_wp2_with fail;exact .mk (hE _ _ rfl (hC1.same (by decide) (by decide)) rfl)
  ·refine step_plainV [] (fun _=>rfl) rfl ?_;intro w1 vals hC1 hi0 hf E hE;clear hi0;clear hf;have hs:=HST9.out.next hC1.bel;simp only [sP] at hE ⊢;refine wpList_get_box (hs.1.2.2.2.1) rfl rfl rfl hu rfl elem_size ?_;go_wp2_with fail;exact .mk (hE _ _ rfl (hC1.same (by decide) (by decide)) rfl)
  ·refine step_plainV [(3,some 52),(4,some 53),(2,some 51)] (fun _=>rfl) rfl ?_;intro w1 vals hC1 hi0 hf E hE;clear hi0;have f2:vals 2=.agg (eV (subE (b) (a))):=hf 2 rfl;have f3:vals 3=.agg (eV (b)):=hf 3 rfl;have f4:vals 4=.agg (eV (a)):=hf 4 rfl
   try dsimp only at f2 f3 f4
   clear hf;simp only [sP,f2,f3,f4] at hE ⊢;clear f2 f3 f4;go_wp2_with fail;refine calls_then (add_c _ _ _ (Kb.out) (Ka.out)) ?_;rintro e w2 ⟨rfl,hb2⟩;go_wp2_with fail;exact .mk (hE _ _ rfl (hC1.other (by decide) (by decide) (hC1.bel.trans (hb2.mono hC1.bel.size)) hb2.size) hb2)
  ·refine step_plainV [] (fun _=>rfl) rfl ?_;intro w1 vals hC1 hi0 hf E hE;clear hi0;clear hf;simp only [sP] at hE ⊢;go_wp2;exact .mk (hE _ _ (NewBox.of hC1.bel.size) (hC1.setI (by decide) (hC1.bel.alloc hC1.bel.size _) (by simp)) (below_new _ _))
  ·refine step_plainV [] (fun _=>rfl) rfl ?_;intro w1 vals hC1 hi0 hf E hE;clear hi0;clear hf;simp only [sP] at hE ⊢;go_wp2;exact .mk (hE _ _ (NewBox.of hC1.bel.size) (hC1.setJ (by decide) (hC1.bel.alloc hC1.bel.size _) (by simp)) (below_new _ _))
  ·refine step_plainV [(6,some 11),(2,some 51),(5,some 54),(0,some 49),(1,some 50),(2,some 51),(6,some 11),(7,some 12)] (fun _=>rfl) rfl ?_;intro w1 vals hC1 hi0 hf E hE;clear hi0;have f0:vals 0=.agg (eV (b)):=hf 0 rfl;have f1:vals 1=.agg (eV (a)):=hf 1 rfl;have f2:vals 2=.agg (eV (subE (b) (a))):=hf 2 rfl;have f5:vals 5=.agg (eV (addE (b) (a))):=hf 5 rfl;have f6:(NewBox v9.heap.size 39 (eV zE)) (vals 6) w1:=hf 6 rfl;have f7:(NewBox v9.heap.size 39 (eV zE)) (vals 7) w1:=hf 7 rfl
   try dsimp only at f0 f1 f2 f5 f6 f7
   clear hf;obtain ⟨o,hx,ho,hblk⟩:=f6;obtain ⟨o7,hx7,ho7,hblk7⟩:=f7;have hne:=hC1.apart hx hx7;have hx':=hx;have hx7':=hx7;simp only [sP,f0,f1,f2,f5,hx,hx7] at hE ⊢;clear f0 f1 f2 f5;clear hx hx7;refine wpList_put_box (cells:=eV (subE (b) (a))) hblk rfl rfl rfl rfl elem_size rfl (by simp [eV,ptV,wV,limbs,Value.oneCell']) ?_;intro w2 hb2 hw2;go_wp2_with fail;exact .mk (hE undef _ ⟨⟨o,hx',ho,hb2⟩,⟨o7,hx7',ho7,hw2.blk hblk7 (Ne.symm hne)⟩⟩ (hC1.other (by decide) (by decide) (hw2.below hC1.bel ho hC1.bel.size) (Nat.le_of_eq hw2.size.symm)) trivial)
  ·refine step_plainV [(7,some 12),(5,some 54),(8,none),(0,some 49),(1,some 50),(2,some 51),(3,some 52),(4,some 53),(5,some 54),(6,some 11),(7,some 12),(8,none)] (fun _=>rfl) rfl ?_;intro w1 vals hC1 hi0 hf E hE;clear hi0;have f0:vals 0=.agg (eV (b)):=hf 0 rfl;have f1:vals 1=.agg (eV (a)):=hf 1 rfl;have f2:vals 2=.agg (eV (subE (b) (a))):=hf 2 rfl;have f3:vals 3=.agg (eV (b)):=hf 3 rfl;have f4:vals 4=.agg (eV (a)):=hf 4 rfl;have f5:vals 5=.agg (eV (addE (b) (a))):=hf 5 rfl;have f8:(fun z u=>NewBox v9.heap.size 39 (eV (subE (b) (a))) (z 6) u∧NewBox v9.heap.size 39 (eV zE) (z 7) u) vals w1:=hf 8 rfl
   try dsimp only at f0 f1 f2 f3 f4 f5 f8
   clear hf;obtain ⟨⟨o,hx,ho,hblk⟩,⟨o7,hx7,ho7,hblk7⟩⟩:=f8;have hne:=hC1.apart hx hx7;have hx':=hx;have hx7':=hx7;simp only [sP,f0,f1,f2,f3,f4,f5,hx,hx7] at hE ⊢;clear f0 f1 f2 f3 f4 f5;clear hx hx7;refine wpList_put_box (cells:=eV (addE (b) (a))) hblk7 rfl rfl rfl rfl elem_size rfl (by simp [eV,ptV,wV,limbs,Value.oneCell']) ?_;intro w2 hb2 hw2;go_wp2_with fail;exact .mk (hE undef _ ⟨⟨o,hx',ho,hw2.blk hblk hne⟩,⟨o7,hx7',ho7,hb2⟩⟩ (hC1.other (by decide) (by decide) (hw2.below hC1.bel ho7 hC1.bel.size) (Nat.le_of_eq hw2.size.symm)) trivial)
 intro w1 vals hC1 hf;have f0:vals 0=.agg (eV (b)):=hf 0 (by decide) rfl;have f1:vals 1=.agg (eV (a)):=hf 1 (by decide) rfl;have f2:vals 2=.agg (eV (subE (b) (a))):=hf 2 (by decide) rfl;have f3:vals 3=.agg (eV (b)):=hf 3 (by decide) rfl;have f4:vals 4=.agg (eV (a)):=hf 4 (by decide) rfl;have f5:vals 5=.agg (eV (addE (b) (a))):=hf 5 (by decide) rfl;have f9:(fun z u=>NewBox v9.heap.size 39 (eV (subE (b) (a))) (z 6) u∧NewBox v9.heap.size 39 (eV (addE (b) (a))) (z 7) u) vals w1:=hf 9 (by decide) rfl
 try dsimp only at f0 f1 f2 f3 f4 f5 f9
 clear hf;simp only [sP,f0,f1,f2,f3,f4,f5];clear f0 f1 f2 f3 f4 f5;generalize vals 6=x6 at *;generalize vals 7=x7 at *;obtain ⟨⟨o4a,rfl,hlo4a,hblk4a⟩,⟨o4b,rfl,hlo4b,hblk4b⟩⟩:=f9;obtain ⟨e,he⟩:∃ x,x=subE (b) (a):=⟨_,rfl⟩;rw [← he] at hblk4a;have Ke:=zY (show e.Ok by rw [he]; exact sub_ok (Kb.out) (Ka.out));have Ee:=zY he;obtain ⟨h,hh⟩:∃ x,x=addE (b) (a):=⟨_,rfl⟩;rw [← hh] at hblk4b;have Kh:=zY (show h.Ok by rw [hh]; exact add_ok (Kb.out) (Ka.out));have Eh:=zY hh;have HST4:=zY (show Cs (.box o4a 39 (eV e) :: .box o4b 39 (eV h) :: [.box oz 39 (eV zz),.box o3 39 (eV c),.box o2 39 (eV b),.box o1 39 (eV a),.box gp 41 (ptV p),.box gq 41 (ptV q),.box gw 39 (eV tw),.box r 41 (ptV zP)]) w w1 from ⟨⟨hblk4a,hblk4b,(HST9.out.next hC1.bel).1⟩,(HST9.out.next hC1.bel).2⟩);clear hC1 HC0 HST9 hblk4a hblk4b hlo4a hlo4b he hh;obtain ⟨v4,rfl⟩:∃ x,x=w1:=⟨_,rfl⟩;go_wp2_with fail;have HC0:C2 v4 10 11 (fun _=>undef) v4.drew:=C2.init (Below.refl _ _).drew
 refine wp_region_listV (C2 v4 10 11) (fun | false=>(fun _=>True) | true=>(fun _=>True)) (fun | false,_=>false | true,_=>false)
  [fun z _=>z 0=.agg (eV (zz)),
   fun z _=>z 1=.agg (eV (zz)),
   fun z _=>z 2=.agg (eV (addE (zz) (zz))),
   fun z _=>z 3=.agg (eV (c)),
   fun z _=>z 4=.agg (eV (subE (addE (zz) (zz)) (c))),
   fun z _=>z 5=.agg (eV (zz)),
   fun z _=>z 6=.agg (eV (zz)),
   fun z _=>z 7=.agg (eV (addE (zz) (zz))),
   fun z _=>z 8=.agg (eV (c)),
   fun z _=>z 9=.agg (eV (addE (addE (zz) (zz)) (c))),
   fun z u=>(NewBox v4.heap.size 39 (eV zE)) (z 10) u,
   fun z u=>(NewBox v4.heap.size 39 (eV zE)) (z 11) u,
   fun z u=>NewBox v4.heap.size 39 (eV (subE (addE (zz) (zz)) (c))) (z 10) u∧NewBox v4.heap.size 39 (eV zE) (z 11) u,
   fun z u=>NewBox v4.heap.size 39 (eV (subE (addE (zz) (zz)) (c))) (z 10) u∧NewBox v4.heap.size 39 (eV (addE (addE (zz) (zz)) (c))) (z 11) u]
  [Eq,Eq,fun u u'=>Below u.heap.size u u',Eq,fun u u'=>Below u.heap.size u u',Eq,Eq,fun u u'=>Below u.heap.size u u',Eq,fun u u'=>Below u.heap.size u u',fun u u'=>Below u.heap.size u u',fun u u'=>Below u.heap.size u u',fun _ _=>True,fun _ _=>True]
  (fun i k=>(i == 12 && k == 10) || (i == 12 && k == 11) || (i == 13 && k == 10) || (i == 13 && k == 11) || (i == 13 && k == 12)) [(0,some 55),(1,some 56),(2,some 57),(3,some 58),(4,some 59),(5,some 60),(6,some 61),(7,some 62),(8,some 63),(9,some 64),(10,some 13),(11,some 14),(12,none),(13,none)] (by kernel_rfl) (by kernel_rfl) rfl (fun _=>rfl) ?_ ?_ ?_ ?_ ?_ ?_
 ·exact HC0
 ·intro m; cases m; exact trivial; exact trivial
 ·intro m; cases m
  ·refine ⟨?_,?_,.inr (fun _ _ _ h=>h),?_,.inr (fun _ _ _ h=>h),?_,?_,.inr (fun _ _ _ h=>h),?_,.inr (fun _ _ _ h=>h),.inr (fun _ _ _ h=>h),.inr (fun _ _ _ h=>h),.inr (fun _ _ _ h=>h),.inr (fun _ _ _ h=>h),trivial⟩ <;> exact .inr fun _ _ h h0=>h▸h0
  ·refine ⟨?_,?_,.inr (fun _ _ _ h=>h),?_,.inr (fun _ _ _ h=>h),?_,?_,.inr (fun _ _ _ h=>h),?_,.inr (fun _ _ _ h=>h),.inr (fun _ _ _ h=>h),.inr (fun _ _ _ h=>h),.inr (fun _ _ _ h=>h),.inr (fun _ _ _ h=>h),trivial⟩ <;> exact .inr fun _ _ h h0=>h▸h0
 ·refine ⟨⟨.inl rfl,?_,?_,?_,?_,?_,?_,?_,?_,?_,.inr (.inr (.inr (fun _ _ _ _ h h0=>by cases h; exact h0))),.inr (.inr (.inr (fun _ _ _ _ h h0=>by cases h; exact h0))),?_,?_,trivial⟩,⟨?_,.inl rfl,?_,?_,?_,?_,?_,?_,?_,?_,.inr (.inr (.inr (fun _ _ _ _ h h0=>by cases h; exact h0))),.inr (.inr (.inr (fun _ _ _ _ h h0=>by cases h; exact h0))),?_,?_,trivial⟩,⟨?_,?_,.inl rfl,?_,?_,?_,?_,?_,?_,?_,.inr (.inr (.inr (fun _ _ _ _ h h0=>h0.next h))),.inr (.inr (.inr (fun _ _ _ _ h h0=>h0.next h))),?_,?_,trivial⟩,⟨?_,?_,?_,.inl rfl,?_,?_,?_,?_,?_,?_,.inr (.inr (.inr (fun _ _ _ _ h h0=>by cases h; exact h0))),.inr (.inr (.inr (fun _ _ _ _ h h0=>by cases h; exact h0))),?_,?_,trivial⟩,⟨?_,?_,?_,?_,.inl rfl,?_,?_,?_,?_,?_,.inr (.inr (.inr (fun _ _ _ _ h h0=>h0.next h))),.inr (.inr (.inr (fun _ _ _ _ h h0=>h0.next h))),?_,?_,trivial⟩,⟨?_,?_,?_,?_,?_,.inl rfl,?_,?_,?_,?_,.inr (.inr (.inr (fun _ _ _ _ h h0=>by cases h; exact h0))),.inr (.inr (.inr (fun _ _ _ _ h h0=>by cases h; exact h0))),?_,?_,trivial⟩,⟨?_,?_,?_,?_,?_,?_,.inl rfl,?_,?_,?_,.inr (.inr (.inr (fun _ _ _ _ h h0=>by cases h; exact h0))),.inr (.inr (.inr (fun _ _ _ _ h h0=>by cases h; exact h0))),?_,?_,trivial⟩,⟨?_,?_,?_,?_,?_,?_,?_,.inl rfl,?_,?_,.inr (.inr (.inr (fun _ _ _ _ h h0=>h0.next h))),.inr (.inr (.inr (fun _ _ _ _ h h0=>h0.next h))),?_,?_,trivial⟩,⟨?_,?_,?_,?_,?_,?_,?_,?_,.inl rfl,?_,.inr (.inr (.inr (fun _ _ _ _ h h0=>by cases h; exact h0))),.inr (.inr (.inr (fun _ _ _ _ h h0=>by cases h; exact h0))),?_,?_,trivial⟩,⟨?_,?_,?_,?_,?_,?_,?_,?_,?_,.inl rfl,.inr (.inr (.inr (fun _ _ _ _ h h0=>h0.next h))),.inr (.inr (.inr (fun _ _ _ _ h h0=>h0.next h))),?_,?_,trivial⟩,⟨?_,?_,?_,?_,?_,?_,?_,?_,?_,?_,.inl rfl,.inr (.inr (.inr (fun _ _ _ _ h h0=>h0.next h))),?_,?_,trivial⟩,⟨?_,?_,?_,?_,?_,?_,?_,?_,?_,?_,.inr (.inr (.inr (fun _ _ _ _ h h0=>h0.next h))),.inl rfl,?_,?_,trivial⟩,⟨?_,?_,?_,?_,?_,?_,?_,?_,?_,?_,.inr (.inl rfl),.inr (.inl rfl),.inl rfl,?_,trivial⟩,⟨?_,?_,?_,?_,?_,?_,?_,?_,?_,?_,.inr (.inl rfl),.inr (.inl rfl),.inr (.inl rfl),.inl rfl,trivial⟩,trivial⟩ <;> first | exact .inr (.inr (.inl rfl)) | exact .inr (.inr (.inr fun _ _ _ _ _ h=>h))
 ·refine ⟨?_,?_,?_,?_,?_,?_,?_,?_,?_,?_,?_,?_,?_,?_,trivial⟩
  ·refine step_plainV [] (fun _=>rfl) rfl ?_;intro w1 vals hC1 hi0 hf E hE;clear hi0;clear hf;have hs:=HST4.out.next hC1.bel;simp only [sP] at hE ⊢;refine wpList_get_box (hs.1.2.2.1) rfl rfl rfl hu rfl elem_size ?_;go_wp2_with fail;exact .mk (hE _ _ rfl (hC1.same (by decide) (by decide)) rfl)
  ·refine step_plainV [] (fun _=>rfl) rfl ?_;intro w1 vals hC1 hi0 hf E hE;clear hi0;clear hf;have hs:=HST4.out.next hC1.bel;simp only [sP] at hE ⊢;refine wpList_get_box (hs.1.2.2.1) rfl rfl rfl hu rfl elem_size ?_;go_wp2_with fail;exact .mk (hE _ _ rfl (hC1.same (by decide) (by decide)) rfl)
  ·refine step_plainV [(0,some 55),(1,some 56)] (fun _=>rfl) rfl ?_;intro w1 vals hC1 hi0 hf E hE;clear hi0;have f0:vals 0=.agg (eV (zz)):=hf 0 rfl;have f1:vals 1=.agg (eV (zz)):=hf 1 rfl
   try dsimp only at f0 f1
   clear hf;simp only [sP,f0,f1] at hE ⊢;clear f0 f1;go_wp2_with fail;refine calls_then (add_c _ _ _ (Kz.out) (Kz.out)) ?_;rintro e w2 ⟨rfl,hb2⟩;go_wp2_with fail;exact .mk (hE _ _ rfl (hC1.other (by decide) (by decide) (hC1.bel.trans (hb2.mono hC1.bel.size)) hb2.size) hb2)
  ·refine step_plainV [] (fun _=>rfl) rfl ?_;intro w1 vals hC1 hi0 hf E hE;clear hi0;clear hf;have hs:=HST4.out.next hC1.bel;simp only [sP] at hE ⊢;refine wpList_get_box (hs.1.2.2.2.1) rfl rfl rfl hu rfl elem_size ?_;go_wp2_with fail;exact .mk (hE _ _ rfl (hC1.same (by decide) (by decide)) rfl)
  ·refine step_plainV [(2,some 57),(3,some 58),(2,some 57)] (fun _=>rfl) rfl ?_;intro w1 vals hC1 hi0 hf E hE;clear hi0;have f2:vals 2=.agg (eV (addE (zz) (zz))):=hf 2 rfl;have f3:vals 3=.agg (eV (c)):=hf 3 rfl
   try dsimp only at f2 f3
   clear hf;simp only [sP,f2,f3] at hE ⊢;clear f2 f3;go_wp2_with fail;refine calls_then (sub_c _ _ _ (add_ok (Kz.out) (Kz.out)) (Kc.out)) ?_;rintro e w2 ⟨rfl,hb2⟩;go_wp2_with fail;exact .mk (hE _ _ rfl (hC1.other (by decide) (by decide) (hC1.bel.trans (hb2.mono hC1.bel.size)) hb2.size) hb2)
  ·refine step_plainV [] (fun _=>rfl) rfl ?_;intro w1 vals hC1 hi0 hf E hE;clear hi0;clear hf;have hs:=HST4.out.next hC1.bel;simp only [sP] at hE ⊢;refine wpList_get_box (hs.1.2.2.1) rfl rfl rfl hu rfl elem_size ?_;go_wp2_with fail;exact .mk (hE _ _ rfl (hC1.same (by decide) (by decide)) rfl)
  ·refine step_plainV [] (fun _=>rfl) rfl ?_;intro w1 vals hC1 hi0 hf E hE;clear hi0;clear hf;have hs:=HST4.out.next hC1.bel;simp only [sP] at hE ⊢;refine wpList_get_box (hs.1.2.2.1) rfl rfl rfl hu rfl elem_size ?_;go_wp2_with fail;exact .mk (hE _ _ rfl (hC1.same (by decide) (by decide)) rfl)
  ·refine step_plainV [(5,some 60),(6,some 61),(4,some 59)] (fun _=>rfl) rfl ?_;intro w1 vals hC1 hi0 hf E hE;clear hi0;have f4:vals 4=.agg (eV (subE (addE (zz) (zz)) (c))):=hf 4 rfl;have f5:vals 5=.agg (eV (zz)):=hf 5 rfl;have f6:vals 6=.agg (eV (zz)):=hf 6 rfl
   try dsimp only at f4 f5 f6
   clear hf;simp only [sP,f4,f5,f6] at hE ⊢;clear f4 f5 f6;go_wp2_with fail;refine calls_then (add_c _ _ _ (Kz.out) (Kz.out)) ?_;rintro e w2 ⟨rfl,hb2⟩;go_wp2_with fail;exact .mk (hE _ _ rfl (hC1.other (by decide) (by decide) (hC1.bel.trans (hb2.mono hC1.bel.size)) hb2.size) hb2)
  ·refine step_plainV [] (fun _=>rfl) rfl ?_;intro w1 vals hC1 hi0 hf E hE;clear hi0;clear hf;have hs:=HST4.out.next hC1.bel;simp only [sP] at hE ⊢;refine wpList_get_box (hs.1.2.2.2.1) rfl rfl rfl hu rfl elem_size ?_;go_wp2_with fail;exact .mk (hE _ _ rfl (hC1.same (by decide) (by decide)) rfl)
  ·refine step_plainV [(7,some 62),(8,some 63),(7,some 62)] (fun _=>rfl) rfl ?_;intro w1 vals hC1 hi0 hf E hE;clear hi0;have f7:vals 7=.agg (eV (addE (zz) (zz))):=hf 7 rfl;have f8:vals 8=.agg (eV (c)):=hf 8 rfl
   try dsimp only at f7 f8
   clear hf;simp only [sP,f7,f8] at hE ⊢;clear f7 f8;go_wp2_with fail;refine calls_then (add_c _ _ _ (add_ok (Kz.out) (Kz.out)) (Kc.out)) ?_;rintro e w2 ⟨rfl,hb2⟩;go_wp2_with fail;exact .mk (hE _ _ rfl (hC1.other (by decide) (by decide) (hC1.bel.trans (hb2.mono hC1.bel.size)) hb2.size) hb2)
  ·refine step_plainV [] (fun _=>rfl) rfl ?_;intro w1 vals hC1 hi0 hf E hE;clear hi0;clear hf;simp only [sP] at hE ⊢;go_wp2;exact .mk (hE _ _ (NewBox.of hC1.bel.size) (hC1.setI (by decide) (hC1.bel.alloc hC1.bel.size _) (by simp)) (below_new _ _))
  ·refine step_plainV [] (fun _=>rfl) rfl ?_;intro w1 vals hC1 hi0 hf E hE;clear hi0;clear hf;simp only [sP] at hE ⊢;go_wp2;exact .mk (hE _ _ (NewBox.of hC1.bel.size) (hC1.setJ (by decide) (hC1.bel.alloc hC1.bel.size _) (by simp)) (below_new _ _))
  ·refine step_plainV [(10,some 13),(4,some 59),(9,some 64),(0,some 55),(1,some 56),(2,some 57),(3,some 58),(4,some 59),(10,some 13),(11,some 14)] (fun _=>rfl) rfl ?_;intro w1 vals hC1 hi0 hf E hE;clear hi0;have f0:vals 0=.agg (eV (zz)):=hf 0 rfl;have f1:vals 1=.agg (eV (zz)):=hf 1 rfl;have f2:vals 2=.agg (eV (addE (zz) (zz))):=hf 2 rfl;have f3:vals 3=.agg (eV (c)):=hf 3 rfl;have f4:vals 4=.agg (eV (subE (addE (zz) (zz)) (c))):=hf 4 rfl;have f9:vals 9=.agg (eV (addE (addE (zz) (zz)) (c))):=hf 9 rfl;have f10:(NewBox v4.heap.size 39 (eV zE)) (vals 10) w1:=hf 10 rfl;have f11:(NewBox v4.heap.size 39 (eV zE)) (vals 11) w1:=hf 11 rfl
   try dsimp only at f0 f1 f2 f3 f4 f9 f10 f11
   clear hf;obtain ⟨o,hx,ho,hblk⟩:=f10;obtain ⟨o7,hx7,ho7,hblk7⟩:=f11;have hne:=hC1.apart hx hx7;have hx':=hx;have hx7':=hx7;simp only [sP,f0,f1,f2,f3,f4,f9,hx,hx7] at hE ⊢;clear f0 f1 f2 f3 f4 f9;clear hx hx7;refine wpList_put_box (cells:=eV (subE (addE (zz) (zz)) (c))) hblk rfl rfl rfl rfl elem_size rfl (by simp [eV,ptV,wV,limbs,Value.oneCell']) ?_;intro w2 hb2 hw2;go_wp2_with fail;exact .mk (hE undef _ ⟨⟨o,hx',ho,hb2⟩,⟨o7,hx7',ho7,hw2.blk hblk7 (Ne.symm hne)⟩⟩ (hC1.other (by decide) (by decide) (hw2.below hC1.bel ho hC1.bel.size) (Nat.le_of_eq hw2.size.symm)) trivial)
  ·refine step_plainV [(11,some 14),(9,some 64),(12,none),(0,some 55),(1,some 56),(2,some 57),(3,some 58),(4,some 59),(5,some 60),(6,some 61),(7,some 62),(8,some 63),(9,some 64),(10,some 13),(11,some 14),(12,none)] (fun _=>rfl) rfl ?_;intro w1 vals hC1 hi0 hf E hE;clear hi0;have f0:vals 0=.agg (eV (zz)):=hf 0 rfl;have f1:vals 1=.agg (eV (zz)):=hf 1 rfl;have f2:vals 2=.agg (eV (addE (zz) (zz))):=hf 2 rfl;have f3:vals 3=.agg (eV (c)):=hf 3 rfl;have f4:vals 4=.agg (eV (subE (addE (zz) (zz)) (c))):=hf 4 rfl;have f5:vals 5=.agg (eV (zz)):=hf 5 rfl;have f6:vals 6=.agg (eV (zz)):=hf 6 rfl;have f7:vals 7=.agg (eV (addE (zz) (zz))):=hf 7 rfl;have f8:vals 8=.agg (eV (c)):=hf 8 rfl;have f9:vals 9=.agg (eV (addE (addE (zz) (zz)) (c))):=hf 9 rfl;have f12:(fun z u=>NewBox v4.heap.size 39 (eV (subE (addE (zz) (zz)) (c))) (z 10) u∧NewBox v4.heap.size 39 (eV zE) (z 11) u) vals w1:=hf 12 rfl
   try dsimp only at f0 f1 f2 f3 f4 f5 f6 f7 f8 f9 f12
   clear hf;obtain ⟨⟨o,hx,ho,hblk⟩,⟨o7,hx7,ho7,hblk7⟩⟩:=f12;have hne:=hC1.apart hx hx7;have hx':=hx;have hx7':=hx7;simp only [sP,f0,f1,f2,f3,f4,f5,f6,f7,f8,f9,hx,hx7] at hE ⊢;clear f0 f1 f2 f3 f4 f5 f6 f7 f8 f9;clear hx hx7;refine wpList_put_box (cells:=eV (addE (addE (zz) (zz)) (c))) hblk7 rfl rfl rfl rfl elem_size rfl (by simp [eV,ptV,wV,limbs,Value.oneCell']) ?_;intro w2 hb2 hw2;go_wp2_with fail;exact .mk (hE undef _ ⟨⟨o,hx',ho,hw2.blk hblk hne⟩,⟨o7,hx7',ho7,hb2⟩⟩ (hC1.other (by decide) (by decide) (hw2.below hC1.bel ho7 hC1.bel.size) (Nat.le_of_eq hw2.size.symm)) trivial)
 intro w1 vals hC1 hf;have f0:vals 0=.agg (eV (zz)):=hf 0 (by decide) rfl;have f1:vals 1=.agg (eV (zz)):=hf 1 (by decide) rfl;have f2:vals 2=.agg (eV (addE (zz) (zz))):=hf 2 (by decide) rfl;have f3:vals 3=.agg (eV (c)):=hf 3 (by decide) rfl;have f4:vals 4=.agg (eV (subE (addE (zz) (zz)) (c))):=hf 4 (by decide) rfl;have f5:vals 5=.agg (eV (zz)):=hf 5 (by decide) rfl;have f6:vals 6=.agg (eV (zz)):=hf 6 (by decide) rfl;have f7:vals 7=.agg (eV (addE (zz) (zz))):=hf 7 (by decide) rfl;have f8:vals 8=.agg (eV (c)):=hf 8 (by decide) rfl;have f9:vals 9=.agg (eV (addE (addE (zz) (zz)) (c))):=hf 9 (by decide) rfl;have f13:(fun z u=>NewBox v4.heap.size 39 (eV (subE (addE (zz) (zz)) (c))) (z 10) u∧NewBox v4.heap.size 39 (eV (addE (addE (zz) (zz)) (c))) (z 11) u) vals w1:=hf 13 (by decide) rfl
 try dsimp only at f0 f1 f2 f3 f4 f5 f6 f7 f8 f9 f13
 clear hf;simp only [sP,f0,f1,f2,f3,f4,f5,f6,f7,f8,f9];clear f0 f1 f2 f3 f4 f5 f6 f7 f8 f9;generalize vals 10=x10 at *;generalize vals 11=x11 at *;obtain ⟨⟨o5a,rfl,hlo5a,hblk5a⟩,⟨o5b,rfl,hlo5b,hblk5b⟩⟩:=f13;obtain ⟨f,hf⟩:∃ x,x=subE (addE (zz) (zz)) (c):=⟨_,rfl⟩;rw [← hf] at hblk5a;have Kf:=zY (show f.Ok by rw [hf]; exact sub_ok (add_ok (Kz.out) (Kz.out)) (Kc.out));have Ef:=zY hf;obtain ⟨g,hg⟩:∃ x,x=addE (addE (zz) (zz)) (c):=⟨_,rfl⟩;rw [← hg] at hblk5b;have Kg:=zY (show g.Ok by rw [hg]; exact add_ok (add_ok (Kz.out) (Kz.out)) (Kc.out));have Eg:=zY hg;have HST5:=zY (show Cs (.box o5a 39 (eV f) :: .box o5b 39 (eV g) :: [.box o4a 39 (eV e),.box o4b 39 (eV h),.box oz 39 (eV zz),.box o3 39 (eV c),.box o2 39 (eV b),.box o1 39 (eV a),.box gp 41 (ptV p),.box gq 41 (ptV q),.box gw 39 (eV tw),.box r 41 (ptV zP)]) w w1 from ⟨⟨hblk5a,hblk5b,(HST4.out.next hC1.bel).1⟩,(HST4.out.next hC1.bel).2⟩);clear hC1 HC0 HST4 hblk5a hblk5b hlo5a hlo5b hf hg;obtain ⟨v5,rfl⟩:∃ x,x=w1:=⟨_,rfl⟩;go_wp2_with fail;have HC0:=HST5.out.drew;clear HST5;refine wp_region_det (fun u=>Cs [.box o5a 39 (eV f),.box o5b 39 (eV g),.box o4a 39 (eV e),.box o4b 39 (eV h),.box oz 39 (eV zz),.box o3 39 (eV c),.box o2 39 (eV b),.box o1 39 (eV a),.box gp 41 (ptV p),.box gq 41 (ptV q),.box gw 39 (eV tw),.box r 41 (ptV zP)] w u) (fun u=>Blk u r 41 (ptV (⟨mulE (e) (f),mulE (g) (h),mulE (f) (g),mulE (e) (h)⟩))∧Below w.heap.size w u) [(0,some 65),(1,some 66),(2,some 67),(3,some 68),(4,some 69),(5,some 70),(6,some 71),(7,some 72),(8,some 73),(9,some 74),(10,some 75),(11,some 76),(12,some 77),(13,none)] (by kernel_rfl) (by kernel_rfl) (by decide) (by kernel_rfl) (fun _=>rfl) HC0 ?_;apply DetL.next
 ·apply dP [];exact fun _=>rfl;rfl;rintro vals - w1 hC1 E hE;have hs:=hC1;simp only [sP] at hE ⊢;refine wpList_get_box (hs.1.2.2.1) rfl rfl rfl hu rfl elem_size ?_;go_wp2_with fail;exact .mk (hE _ hC1)
 apply DetL.next
 ·apply dP [];exact fun _=>rfl;rfl;rintro vals ⟨-,-⟩ w1 hC1 E hE;have hs:=hC1;simp only [sP] at hE ⊢;refine wpList_get_box (hs.1.1) rfl rfl rfl hu rfl elem_size ?_;go_wp2_with fail;exact .mk (hE _ hC1)
 apply DetL.next
 ·apply dP [(0,some 65),(1,some 66)];exact fun _=>rfl;rfl;rintro vals ⟨⟨-,f0⟩,f1⟩ w1 hC1 E hE;simp only [sP,f0,f1] at hE ⊢;clear f0 f1;go_wp2_with fail;refine calls_then (mul_c _ _ _ (Ke.out) (Kf.out)) ?_;rintro e w2 ⟨rfl,hb2⟩;go_wp2_with fail;exact .mk (hE _ (hC1.next hb2))
 apply DetL.next
 ·apply dP [];exact fun _=>rfl;rfl;intro vals vq w1 hC1 E hE;clear vq;have hs:=hC1;simp only [sP] at hE ⊢;refine wpList_get_box (hs.1.2.1) rfl rfl rfl hu rfl elem_size ?_;go_wp2_with fail;exact .mk (hE _ hC1)
 apply DetL.next
 ·apply dP [];exact fun _=>rfl;rfl;intro vals vq w1 hC1 E hE;clear vq;have hs:=hC1;simp only [sP] at hE ⊢;refine wpList_get_box (hs.1.2.2.2.1) rfl rfl rfl hu rfl elem_size ?_;go_wp2_with fail;exact .mk (hE _ hC1)
 apply DetL.next
 ·apply dP [(3,some 68),(4,some 69),(2,some 67)];exact fun _=>rfl;rfl;rintro vals ⟨⟨⟨⟨⟨-,-⟩,-⟩,f2⟩,f3⟩,f4⟩ w1 hC1 E hE;simp only [sP,f2,f3,f4] at hE ⊢;clear f2 f3 f4;go_wp2_with fail;refine calls_then (mul_c _ _ _ (Kg.out) (Kh.out)) ?_;rintro e w2 ⟨rfl,hb2⟩;go_wp2_with fail;exact .mk (hE _ (hC1.next hb2))
 apply DetL.next
 ·apply dP [];exact fun _=>rfl;rfl;intro vals vq w1 hC1 E hE;clear vq;have hs:=hC1;simp only [sP] at hE ⊢;refine wpList_get_box (hs.1.1) rfl rfl rfl hu rfl elem_size ?_;go_wp2_with fail;exact .mk (hE _ hC1)
 apply DetL.next
 ·apply dP [];exact fun _=>rfl;rfl;intro vals vq w1 hC1 E hE;clear vq;have hs:=hC1;simp only [sP] at hE ⊢;refine wpList_get_box (hs.1.2.1) rfl rfl rfl hu rfl elem_size ?_;go_wp2_with fail;exact .mk (hE _ hC1)
 apply DetL.next
 ·apply dP [(6,some 71),(7,some 72),(5,some 70)];exact fun _=>rfl;rfl;intro vals vq w1 hC1 E hE;have f5:=vq.1.1.2;have f6:=vq.1.2;have f7:=vq.2;clear vq;simp only [sP,f5,f6,f7] at hE ⊢;clear f5 f6 f7;go_wp2_with fail;refine calls_then (mul_c _ _ _ (Kf.out) (Kg.out)) ?_;rintro e w2 ⟨rfl,hb2⟩;go_wp2_with fail;exact .mk (hE _ (hC1.next hb2))
 apply DetL.next
 ·apply dP [];exact fun _=>rfl;rfl;intro vals vq w1 hC1 E hE;clear vq;have hs:=hC1;simp only [sP] at hE ⊢;refine wpList_get_box (hs.1.2.2.1) rfl rfl rfl hu rfl elem_size ?_;go_wp2_with fail;exact .mk (hE _ hC1)
 apply DetL.next
 ·apply dP [];exact fun _=>rfl;rfl;intro vals vq w1 hC1 E hE;clear vq;have hs:=hC1;simp only [sP] at hE ⊢;refine wpList_get_box (hs.1.2.2.2.1) rfl rfl rfl hu rfl elem_size ?_;go_wp2_with fail;exact .mk (hE _ hC1)
 apply DetL.next
 ·apply dP [(9,some 74),(10,some 75),(8,some 73)];exact fun _=>rfl;rfl;intro vals vq w1 hC1 E hE;have f8:=vq.1.1.2;have f9:=vq.1.2;have f10:=vq.2;clear vq;simp only [sP,f8,f9,f10] at hE ⊢;clear f8 f9 f10;go_wp2_with fail;refine calls_then (mul_c _ _ _ (Ke.out) (Kh.out)) ?_;rintro e w2 ⟨rfl,hb2⟩;go_wp2_with fail;exact .mk (hE _ (hC1.next hb2))
 apply DetL.next
 ·apply dP [(2,some 67),(5,some 70),(8,some 73),(11,some 76)];exact fun _=>rfl;rfl;intro vals vq w1 hC1 E hE;have f2:=vq.1.1.1.1.1.1.1.1.1.2;have f5:=vq.1.1.1.1.1.1.2;have f8:=vq.1.1.1.2;have f11:=vq.2;clear vq;simp only [sP,f2,f5,f8,f11] at hE ⊢;clear f2 f5 f8 f11;refine wpList_build_pt (mulE (e) (f)) (mulE (g) (h)) (mulE (f) (g)) (mulE (e) (h)) rfl rfl rfl rfl rfl rfl ?_;go_wp2_with fail;exact .mk (hE _ hC1)
 apply DetL.last (v:=undef)
 ·apply dP [(12,some 77),(11,some 76),(0,some 65),(1,some 66),(2,some 67),(3,some 68),(4,some 69),(5,some 70),(6,some 71),(7,some 72),(8,some 73),(9,some 74),(10,some 75),(11,some 76),(12,some 77)];exact fun _=>rfl;rfl;rintro vals ⟨⟨⟨⟨⟨⟨⟨⟨⟨⟨⟨⟨⟨-,f0⟩,f1⟩,f2⟩,f3⟩,f4⟩,f5⟩,f6⟩,f7⟩,f8⟩,f9⟩,f10⟩,f11⟩,f12⟩ w1 hC1 E hE;have hlr:=HLR.out;simp only [sP,f0,f1,f2,f3,f4,f5,f6,f7,f8,f9,f10,f11,f12] at hE ⊢;clear f0 f1 f2 f3 f4 f5 f6 f7 f8 f9 f10 f11 f12;refine wpList_put_box (cells:=ptV (⟨mulE (e) (f),mulE (g) (h),mulE (f) (g),mulE (e) (h)⟩)) (hC1.1.2.2.2.2.2.2.2.2.2.2.2.1) rfl rfl rfl rfl point_size rfl (by simp [eV,ptV,wV,limbs,Value.oneCell']) ?_;intro w6 hb6 hw6;go_wp2_with fail;exact .mk (hE _ ⟨hb6,hw6.below hC1.2 hlr hC1.2.size⟩)
 rintro vals ⟨⟨⟨⟨⟨⟨⟨⟨⟨⟨⟨⟨⟨⟨-,f0⟩,f1⟩,f2⟩,f3⟩,f4⟩,f5⟩,f6⟩,f7⟩,f8⟩,f9⟩,f10⟩,f11⟩,f12⟩,f13⟩ w1 hC1;simp only [sP,f0,f1,f2,f3,f4,f5,f6,f7,f8,f9,f10,f11,f12,f13];clear f0 f1 f2 f3 f4 f5 f6 f7 f8 f9 f10 f11 f12 f13;clear HC0;go_wp2_with fail;refine bodyPost_ret (results_box (P:=Tryd.prog) rfl rfl hC1.1 hp rfl point_size) rfl ⟨?_,hC1.2⟩;rw [Ef.out,Eg.out,Ee.out,Eh.out,Ez.out,Ea.out,Eb.out,Ec.out];rfl
end Go.Proofs.YtdgheahbafnboaaDoor
/-
  Walks: slices.Reverse of 32 bytes; the curve's known.
-/
namespace Go.Proofs.YtdgheahbafnboaaDoor
set_option linter.unusedSimpArgs false
set_option linter.unusedVariables false
open Go.RowKit
theorem Wrote.refl (g:Nat) (w:World):Wrote g w w:=⟨World.grownBy.refl w _,rfl⟩
theorem Wrote.trans {g:Nat} {a b c:World} (h:Wrote g a b) (k:Wrote g b c):Wrote g a c:=⟨h.grown.trans k.grown,k.size.trans h.size⟩
theorem Wrote.drew {g:Nat} {a b:World} (h:Wrote g a b):Wrote g a b.drew:=⟨grown_drew h.grown,h.size⟩
def revS (l:List Nat):Nat→List Nat
 | 0=>l
 | k+1=>((revS l k).set k ((revS l k).getD (31 - k) 0)).set (31 - k) ((revS l k).getD k 0)
theorem revS_length (l:List Nat):∀ k,(revS l k).length=l.length
 | 0=>rfl
 | k+1=>by rw [revS,List.length_set,List.length_set,revS_length l k]
theorem revS_dg {l:List Nat} (h:Dg l):∀ k,Dg (revS l k)
 | 0=>h
 | k+1=>dg_set (dg_set (revS_dg h k) _ _ (dg_getD (revS_dg h k) _)) _ _ (dg_getD (revS_dg h k) _)
theorem bnV_len (l:List Nat):(bnV l).toArray.size=l.length:=by simp [bnV]
theorem u8_size:(Tryd.prog.info? 5).map (·.size)=some 1:=by kernel_rfl
theorem bnV_get {l:List Nat} {k:Nat} (h:k<l.length):(bnV l).toArray[k]?=some (.int .u8 ((l.getD k 0:Nat):Int)):=by
 simp [bnV,List.getElem?_eq_getElem h,List.getD_eq_getElem?_getD]
set_option maxRecDepth 100000 in
set_option maxHeartbeats 2000000 in
theorem reverse_any (l:List Nat) (hl:l.length=32) (g:Nat) (t:TypeId) (c:Nat) (w:World) (hb:Blk w g t (bnV l).toArray) :
  Calls Tryd.prog 67 #[.slice (some ⟨g,0,none⟩) 32 c] w (fun e w'=>(∃ v,e=.returned v)∧Blk w' g t (bnV (revS l 16)).toArray∧Wrote g w w'):=by
 have hs0:Blk w g t (bnV (revS l 0)).toArray∧Wrote g w w:=⟨hb,Wrote.refl g w⟩;have HS0:=zY hs0;have HL:=zY hl;clear hs0 hb hl;go_enter Tryd.func67,Tryd.ntmps67;go_wp2_with fail
 go_loopw [2,3] (fun i j wr=>∃ k:Nat,k≤16∧i=.int .i64 k∧j=.int .i64 (31 - (k:Int))∧Blk wr g t (bnV (revS l k)).toArray∧Wrote g w wr) (fun i _ _=>16 - (intOf i).toNat)
 case atStart=>exact ⟨0,by omega,rfl,rfl,HS0.out.1,HS0.out.2⟩
 case round =>
  clear HS0;obtain ⟨k,hk,rfl,rfl,hblk,hwr⟩:=hrel
  by_cases hlt:k<16
  ·obtain ⟨m,hm⟩:∃ m,m=31 - k:=⟨_,rfl⟩;have hmi:(31:Int) - (k:Int)=(m:Int):=by omega
   have hkm:(k:Int)<(m:Int):=by omega
   have hm32:(m:Int)<32:=by omega
   rw [hmi];obtain ⟨R,hR⟩:∃ R,R=revS l k:=⟨_,rfl⟩;obtain ⟨a,ha⟩:∃ a,a=R.getD k 0:=⟨_,rfl⟩;obtain ⟨b,hbb⟩:∃ b,b=R.getD m 0:=⟨_,rfl⟩;have hRl:R.length=32:=by rw [hR,revS_length]; exact HL.out
   have hnext:revS l (k+1)=(R.set k b).set m a:=by rw [revS,← hR,← hm,← ha,← hbb]
   rw [← hR] at hblk;have HKA:=zY (show (bnV R).toArray[k]?=some (.int .u8 (a:Int)) by rw [ha]; exact bnV_get (by omega));have HKB:=zY (show (bnV R).toArray[m]?=some (.int .u8 (b:Int)) by rw [hbb]; exact bnV_get (by omega));have HNEXT:=zY hnext;have HRL:=zY hRl;have HK:=zY hlt;have HM:=zY hm;have HWR:=zY hwr;have HI0:Blk wr.drew g t (bnV R).toArray:=hblk;have HC0:Wrote g wr wr.drew:=(Wrote.refl g wr).drew;clear hnext hRl ha hbb hR hwr hblk hm hlt hmi;go_wp2_with fail
   refine wp_region_list (fun u=>Wrote g wr u) (fun | false=>(fun u=>Blk u g t (bnV R).toArray) | true=>(fun _=>True)) (fun | false,i=>i == 13 || i == 15 | true,_=>false)
    [fun z _=>z 0=.slice (some ⟨g,0,none⟩) 32 c,
     fun z _=>z 1=.int .i64 (k:Int),
     fun z _=>z 2=.slice (some ⟨g,0,none⟩) 32 c,
     fun z _=>z 3=.int .i64 (m:Int),
     fun z _=>z 4=.slice (some ⟨g,0,none⟩) 32 c,
     fun z _=>z 5=.int .i64 (m:Int),
     fun z _=>z 6=.pointer (some ⟨g,m,none⟩),
     fun z _=>z 7=.int .u8 (b:Int),
     fun z _=>z 8=.slice (some ⟨g,0,none⟩) 32 c,
     fun z _=>z 9=.int .i64 (k:Int),
     fun z _=>z 10=.pointer (some ⟨g,k,none⟩),
     fun z _=>z 11=.int .u8 (a:Int),
     fun z _=>z 12=.pointer (some ⟨g,k,none⟩),
     fun z u=>Blk u g t (bnV (R.set k b)).toArray,
     fun z _=>z 14=.pointer (some ⟨g,m,none⟩),
     fun z u=>Blk u g t (bnV ((R.set k b).set m a)).toArray]
    [Eq,Eq,Eq,Eq,Eq,Eq,Eq,Eq,Eq,Eq,Eq,Eq,Eq,fun _ _=>True,Eq,fun _ _=>True]
    (fun i k=>(i == 15 && k == 13)) [(0,some 14),(1,some 15),(2,some 16),(3,some 17),(4,some 18),(5,some 19),(6,some 20),(7,some 21),(8,some 22),(9,some 23),(10,some 24),(11,some 25),(12,some 26),(13,none),(14,some 27),(15,none)] (by kernel_rfl) (by kernel_rfl) rfl (fun _=>rfl) ?_ ?_ ?_ ?_ ?_ ?_
   ·exact HC0
   ·intro m; cases m; exact HI0; exact trivial
   ·intro m; cases m
    ·refine ⟨?_,?_,?_,?_,?_,?_,?_,?_,?_,?_,?_,?_,?_,.inl rfl,?_,.inl rfl,trivial⟩ <;> exact .inr fun _ _ h h0=>h▸h0
    ·refine ⟨?_,?_,?_,?_,?_,?_,?_,?_,?_,?_,?_,?_,?_,.inr (fun _ _ _ h=>h),?_,.inr (fun _ _ _ h=>h),trivial⟩ <;> exact .inr fun _ _ h h0=>h▸h0
   ·refine ⟨⟨.inl rfl,?_,?_,?_,?_,?_,?_,?_,?_,?_,?_,?_,?_,?_,?_,?_,trivial⟩,⟨?_,.inl rfl,?_,?_,?_,?_,?_,?_,?_,?_,?_,?_,?_,?_,?_,?_,trivial⟩,⟨?_,?_,.inl rfl,?_,?_,?_,?_,?_,?_,?_,?_,?_,?_,.inr (.inr (.inr (fun _ _ _ _ h h0=>by cases h; exact h0))),?_,?_,trivial⟩,⟨?_,?_,?_,.inl rfl,?_,?_,?_,?_,?_,?_,?_,?_,?_,.inr (.inr (.inr (fun _ _ _ _ h h0=>by cases h; exact h0))),?_,?_,trivial⟩,⟨?_,?_,?_,?_,.inl rfl,?_,?_,?_,?_,?_,?_,?_,?_,?_,?_,?_,trivial⟩,⟨?_,?_,?_,?_,?_,.inl rfl,?_,?_,?_,?_,?_,?_,?_,?_,?_,?_,trivial⟩,⟨?_,?_,?_,?_,?_,?_,.inl rfl,?_,?_,?_,?_,?_,?_,?_,?_,?_,trivial⟩,⟨?_,?_,?_,?_,?_,?_,?_,.inl rfl,?_,?_,?_,?_,?_,?_,?_,?_,trivial⟩,⟨?_,?_,?_,?_,?_,?_,?_,?_,.inl rfl,?_,?_,?_,?_,?_,?_,?_,trivial⟩,⟨?_,?_,?_,?_,?_,?_,?_,?_,?_,.inl rfl,?_,?_,?_,?_,?_,?_,trivial⟩,⟨?_,?_,?_,?_,?_,?_,?_,?_,?_,?_,.inl rfl,?_,?_,?_,?_,?_,trivial⟩,⟨?_,?_,?_,?_,?_,?_,?_,?_,?_,?_,?_,.inl rfl,?_,?_,?_,?_,trivial⟩,⟨?_,?_,?_,?_,?_,?_,?_,?_,?_,?_,?_,?_,.inl rfl,?_,?_,?_,trivial⟩,⟨?_,?_,?_,?_,?_,?_,?_,?_,?_,?_,?_,?_,?_,.inl rfl,?_,?_,trivial⟩,⟨?_,?_,?_,?_,?_,?_,?_,?_,?_,?_,?_,?_,?_,.inr (.inr (.inr (fun _ _ _ _ h h0=>by cases h; exact h0))),.inl rfl,?_,trivial⟩,⟨?_,?_,?_,?_,?_,?_,?_,?_,?_,?_,?_,?_,?_,.inr (.inl rfl),?_,.inl rfl,trivial⟩,trivial⟩ <;> first | exact .inr (.inr (.inl rfl)) | exact .inr (.inr (.inr fun _ _ _ _ _ h=>h))
   ·refine ⟨?_,?_,?_,?_,?_,?_,?_,?_,?_,?_,?_,?_,?_,?_,?_,?_,trivial⟩
    ·refine step_plain [] (fun _=>rfl) rfl ?_;intro w1 vals hC1 hi0 hf E hE;have hI1:(fun u=>Blk u g t (bnV R).toArray) w1:=hi0 false rfl
     try dsimp only at hI1
     clear hi0;clear hf;simp only [sP] at hE ⊢;go_wp2;exact .mk (hE _ _ rfl hC1 rfl)
    ·refine step_plain [] (fun _=>rfl) rfl ?_;intro w1 vals hC1 hi0 hf E hE;have hI1:(fun u=>Blk u g t (bnV R).toArray) w1:=hi0 false rfl
     try dsimp only at hI1
     clear hi0;clear hf;simp only [sP] at hE ⊢;go_wp2;exact .mk (hE _ _ rfl hC1 rfl)
    ·refine step_plain [] (fun _=>rfl) rfl ?_;intro w1 vals hC1 hi0 hf E hE;clear hi0;clear hf;simp only [sP] at hE ⊢;go_wp2;exact .mk (hE _ _ rfl hC1 rfl)
    ·refine step_plain [] (fun _=>rfl) rfl ?_;intro w1 vals hC1 hi0 hf E hE;clear hi0;clear hf;simp only [sP] at hE ⊢;go_wp2;exact .mk (hE _ _ rfl hC1 rfl)
    ·refine step_plain [] (fun _=>rfl) rfl ?_;intro w1 vals hC1 hi0 hf E hE;have hI1:(fun u=>Blk u g t (bnV R).toArray) w1:=hi0 false rfl
     try dsimp only at hI1
     clear hi0;clear hf;simp only [sP] at hE ⊢;go_wp2;exact .mk (hE _ _ rfl hC1 rfl)
    ·refine step_plain [] (fun _=>rfl) rfl ?_;intro w1 vals hC1 hi0 hf E hE;have hI1:(fun u=>Blk u g t (bnV R).toArray) w1:=hi0 false rfl
     try dsimp only at hI1
     clear hi0;clear hf;simp only [sP] at hE ⊢;go_wp2;exact .mk (hE _ _ rfl hC1 rfl)
    ·refine step_plain [(4,some 18),(5,some 19)] (fun _=>rfl) rfl ?_;intro w1 vals hC1 hi0 hf E hE;have hI1:(fun u=>Blk u g t (bnV R).toArray) w1:=hi0 false rfl
     try dsimp only at hI1
     clear hi0;have f4:vals 4=.slice (some ⟨g,0,none⟩) 32 c:=hf 4 rfl;have f5:vals 5=.int .i64 (m:Int):=hf 5 rfl
     try dsimp only at f4 f5
     clear hf;simp only [sP,f4,f5] at hE ⊢;clear f4 f5;go_wp2;exact .mk (hE _ _ rfl hC1 rfl)
    ·refine step_plain [(6,some 20)] (fun _=>rfl) rfl ?_;intro w1 vals hC1 hi0 hf E hE;have hI1:(fun u=>Blk u g t (bnV R).toArray) w1:=hi0 false rfl
     try dsimp only at hI1
     clear hi0;have f6:vals 6=.pointer (some ⟨g,m,none⟩):=hf 6 rfl
     try dsimp only at f6
     clear hf;have d0:=hI1.cell m;rw [HKB.out] at d0;simp only [sP,f6] at hE ⊢;clear f6;go_wp2;exact .mk (hE _ _ rfl hC1 rfl)
    ·refine step_plain [] (fun _=>rfl) rfl ?_;intro w1 vals hC1 hi0 hf E hE;have hI1:(fun u=>Blk u g t (bnV R).toArray) w1:=hi0 false rfl
     try dsimp only at hI1
     clear hi0;clear hf;simp only [sP] at hE ⊢;go_wp2;exact .mk (hE _ _ rfl hC1 rfl)
    ·refine step_plain [] (fun _=>rfl) rfl ?_;intro w1 vals hC1 hi0 hf E hE;have hI1:(fun u=>Blk u g t (bnV R).toArray) w1:=hi0 false rfl
     try dsimp only at hI1
     clear hi0;clear hf;simp only [sP] at hE ⊢;go_wp2;exact .mk (hE _ _ rfl hC1 rfl)
    ·refine step_plain [(8,some 22),(9,some 23)] (fun _=>rfl) rfl ?_;intro w1 vals hC1 hi0 hf E hE;have hI1:(fun u=>Blk u g t (bnV R).toArray) w1:=hi0 false rfl
     try dsimp only at hI1
     clear hi0;have f8:vals 8=.slice (some ⟨g,0,none⟩) 32 c:=hf 8 rfl;have f9:vals 9=.int .i64 (k:Int):=hf 9 rfl
     try dsimp only at f8 f9
     clear hf;simp only [sP,f8,f9] at hE ⊢;clear f8 f9;go_wp2;exact .mk (hE _ _ rfl hC1 rfl)
    ·refine step_plain [(10,some 24)] (fun _=>rfl) rfl ?_;intro w1 vals hC1 hi0 hf E hE;have hI1:(fun u=>Blk u g t (bnV R).toArray) w1:=hi0 false rfl
     try dsimp only at hI1
     clear hi0;have f10:vals 10=.pointer (some ⟨g,k,none⟩):=hf 10 rfl
     try dsimp only at f10
     clear hf;have d0:=hI1.cell k;rw [HKA.out] at d0;simp only [sP,f10] at hE ⊢;clear f10;go_wp2;exact .mk (hE _ _ rfl hC1 rfl)
    ·refine step_plain [(0,some 14),(1,some 15),(0,some 14),(1,some 15),(4,some 18),(5,some 19),(6,some 20),(7,some 21),(11,some 25)] (fun _=>rfl) rfl ?_;intro w1 vals hC1 hi0 hf E hE;have hI1:(fun u=>Blk u g t (bnV R).toArray) w1:=hi0 false rfl
     try dsimp only at hI1
     clear hi0;have f0:vals 0=.slice (some ⟨g,0,none⟩) 32 c:=hf 0 rfl;have f1:vals 1=.int .i64 (k:Int):=hf 1 rfl;have f4:vals 4=.slice (some ⟨g,0,none⟩) 32 c:=hf 4 rfl;have f5:vals 5=.int .i64 (m:Int):=hf 5 rfl;have f6:vals 6=.pointer (some ⟨g,m,none⟩):=hf 6 rfl;have f7:vals 7=.int .u8 (b:Int):=hf 7 rfl;have f11:vals 11=.int .u8 (a:Int):=hf 11 rfl
     try dsimp only at f0 f1 f4 f5 f6 f7 f11
     clear hf;simp only [sP,f0,f1,f4,f5,f6,f7,f11] at hE ⊢;clear f0 f1 f4 f5 f6 f7 f11;go_wp2;exact .mk (hE _ _ rfl hC1 rfl)
    ·refine step_plain [(12,some 26),(7,some 21),(0,some 14),(1,some 15),(4,some 18),(5,some 19),(6,some 20),(7,some 21),(11,some 25)] (fun _=>rfl) rfl ?_;intro w1 vals hC1 hi0 hf E hE;have hI1:(fun u=>Blk u g t (bnV R).toArray) w1:=hi0 false rfl
     try dsimp only at hI1
     clear hi0;have f0:vals 0=.slice (some ⟨g,0,none⟩) 32 c:=hf 0 rfl;have f1:vals 1=.int .i64 (k:Int):=hf 1 rfl;have f4:vals 4=.slice (some ⟨g,0,none⟩) 32 c:=hf 4 rfl;have f5:vals 5=.int .i64 (m:Int):=hf 5 rfl;have f6:vals 6=.pointer (some ⟨g,m,none⟩):=hf 6 rfl;have f7:vals 7=.int .u8 (b:Int):=hf 7 rfl;have f11:vals 11=.int .u8 (a:Int):=hf 11 rfl;have f12:vals 12=.pointer (some ⟨g,k,none⟩):=hf 12 rfl
     try dsimp only at f0 f1 f4 f5 f6 f7 f11 f12
     clear hf;simp only [sP,f0,f1,f4,f5,f6,f7,f11,f12] at hE ⊢;clear f0 f1 f4 f5 f6 f7 f11 f12;refine wpList_put_cell (i:=k) (v:=.int .u8 (b:Int)) hI1 rfl rfl rfl rfl u8_size (by rw [bnV_len,HRL.out]; have:=HK.out; omega) rfl ?_;intro w2 hb2 hw2;rw [bnV_set] at hb2;go_wp2_with fail;exact .mk (hE undef _ hb2 (hC1.trans hw2) trivial)
    ·refine step_plain [(2,some 16),(3,some 17),(0,some 14),(1,some 15),(2,some 16),(3,some 17),(4,some 18),(5,some 19),(6,some 20),(7,some 21),(8,some 22),(9,some 23),(10,some 24),(11,some 25),(12,some 26),(13,none)] (fun _=>rfl) rfl ?_;intro w1 vals hC1 hi0 hf E hE;clear hi0;have f0:vals 0=.slice (some ⟨g,0,none⟩) 32 c:=hf 0 rfl;have f1:vals 1=.int .i64 (k:Int):=hf 1 rfl;have f2:vals 2=.slice (some ⟨g,0,none⟩) 32 c:=hf 2 rfl;have f3:vals 3=.int .i64 (m:Int):=hf 3 rfl;have f4:vals 4=.slice (some ⟨g,0,none⟩) 32 c:=hf 4 rfl;have f5:vals 5=.int .i64 (m:Int):=hf 5 rfl;have f6:vals 6=.pointer (some ⟨g,m,none⟩):=hf 6 rfl;have f7:vals 7=.int .u8 (b:Int):=hf 7 rfl;have f8:vals 8=.slice (some ⟨g,0,none⟩) 32 c:=hf 8 rfl;have f9:vals 9=.int .i64 (k:Int):=hf 9 rfl;have f10:vals 10=.pointer (some ⟨g,k,none⟩):=hf 10 rfl;have f11:vals 11=.int .u8 (a:Int):=hf 11 rfl;have f12:vals 12=.pointer (some ⟨g,k,none⟩):=hf 12 rfl;have f13:(fun z u=>Blk u g t (bnV (R.set k b)).toArray) vals w1:=hf 13 rfl
     try dsimp only at f0 f1 f2 f3 f4 f5 f6 f7 f8 f9 f10 f11 f12 f13
     clear hf;simp only [sP,f0,f1,f2,f3,f4,f5,f6,f7,f8,f9,f10,f11,f12] at hE ⊢;clear f0 f1 f2 f3 f4 f5 f6 f7 f8 f9 f10 f11 f12;go_wp2;exact .mk (hE _ _ rfl hC1 rfl)
    ·refine step_plain [(14,some 27),(11,some 25),(13,none),(0,some 14),(1,some 15),(2,some 16),(3,some 17),(4,some 18),(5,some 19),(6,some 20),(7,some 21),(8,some 22),(9,some 23),(10,some 24),(11,some 25),(12,some 26),(13,none)] (fun _=>rfl) rfl ?_;intro w1 vals hC1 hi0 hf E hE;clear hi0;have f0:vals 0=.slice (some ⟨g,0,none⟩) 32 c:=hf 0 rfl;have f1:vals 1=.int .i64 (k:Int):=hf 1 rfl;have f2:vals 2=.slice (some ⟨g,0,none⟩) 32 c:=hf 2 rfl;have f3:vals 3=.int .i64 (m:Int):=hf 3 rfl;have f4:vals 4=.slice (some ⟨g,0,none⟩) 32 c:=hf 4 rfl;have f5:vals 5=.int .i64 (m:Int):=hf 5 rfl;have f6:vals 6=.pointer (some ⟨g,m,none⟩):=hf 6 rfl;have f7:vals 7=.int .u8 (b:Int):=hf 7 rfl;have f8:vals 8=.slice (some ⟨g,0,none⟩) 32 c:=hf 8 rfl;have f9:vals 9=.int .i64 (k:Int):=hf 9 rfl;have f10:vals 10=.pointer (some ⟨g,k,none⟩):=hf 10 rfl;have f11:vals 11=.int .u8 (a:Int):=hf 11 rfl;have f12:vals 12=.pointer (some ⟨g,k,none⟩):=hf 12 rfl;have f13:(fun z u=>Blk u g t (bnV (R.set k b)).toArray) vals w1:=hf 13 rfl;have f14:vals 14=.pointer (some ⟨g,m,none⟩):=hf 14 rfl
     try dsimp only at f0 f1 f2 f3 f4 f5 f6 f7 f8 f9 f10 f11 f12 f13 f14
     clear hf;simp only [sP,f0,f1,f2,f3,f4,f5,f6,f7,f8,f9,f10,f11,f12,f14] at hE ⊢;clear f0 f1 f2 f3 f4 f5 f6 f7 f8 f9 f10 f11 f12 f14;refine wpList_put_cell (i:=m) (v:=.int .u8 (a:Int)) f13 rfl rfl rfl rfl u8_size (by rw [bnV_len,List.length_set,HRL.out]; have:=HM.out; omega) rfl ?_;intro w2 hb2 hw2;rw [bnV_set] at hb2;go_wp2_with fail;exact .mk (hE undef _ hb2 (hC1.trans hw2) trivial)
   intro w1 vals hC1 hf;have f0:vals 0=.slice (some ⟨g,0,none⟩) 32 c:=hf 0 (by decide) rfl;have f1:vals 1=.int .i64 (k:Int):=hf 1 (by decide) rfl;have f2:vals 2=.slice (some ⟨g,0,none⟩) 32 c:=hf 2 (by decide) rfl;have f3:vals 3=.int .i64 (m:Int):=hf 3 (by decide) rfl;have f4:vals 4=.slice (some ⟨g,0,none⟩) 32 c:=hf 4 (by decide) rfl;have f5:vals 5=.int .i64 (m:Int):=hf 5 (by decide) rfl;have f6:vals 6=.pointer (some ⟨g,m,none⟩):=hf 6 (by decide) rfl;have f7:vals 7=.int .u8 (b:Int):=hf 7 (by decide) rfl;have f8:vals 8=.slice (some ⟨g,0,none⟩) 32 c:=hf 8 (by decide) rfl;have f9:vals 9=.int .i64 (k:Int):=hf 9 (by decide) rfl;have f10:vals 10=.pointer (some ⟨g,k,none⟩):=hf 10 (by decide) rfl;have f11:vals 11=.int .u8 (a:Int):=hf 11 (by decide) rfl;have f12:vals 12=.pointer (some ⟨g,k,none⟩):=hf 12 (by decide) rfl;have f14:vals 14=.pointer (some ⟨g,m,none⟩):=hf 14 (by decide) rfl;have f15:(fun z u=>Blk u g t (bnV ((R.set k b).set m a)).toArray) vals w1:=hf 15 (by decide) rfl
   try dsimp only at f0 f1 f2 f3 f4 f5 f6 f7 f8 f9 f10 f11 f12 f14 f15
   clear hf;simp only [sP,f0,f1,f2,f3,f4,f5,f6,f7,f8,f9,f10,f11,f12,f14];clear f0 f1 f2 f3 f4 f5 f6 f7 f8 f9 f10 f11 f12 f14;rw [← HNEXT.out] at f15;have HF:=zY f15;have HC1:=zY hC1;clear hC1 f15 HC0 HI0;have hm1:(m:Int) - 1=31 - ((k+1:Nat):Int):=by have:=HM.out; have:=HK.out; omega
   have HM1:=zY hm1;clear hm1;go_wp2_with fail;exact ⟨⟨k+1,HK.out,by go_num,by rw [HM1.out],HF.out,HWR.out.trans HC1.out⟩,by have:=HK.out; simp [intOf]; omega⟩
  ·obtain rfl:k=16:=by omega
   have HF:=zY hblk;have HWR:=zY hwr;clear hblk hwr hlt hk;go_wp2_with fail;refine bodyPost_end (results_none rfl _ _ _) rfl ?_;exact ⟨⟨_,rfl⟩,HF.out,HWR.out⟩
def toB (l:List Nat):List UInt8:=l.map UInt8.ofNat
theorem toB_v {l:List Nat} (h:Dg l):bytesV (toB l)=bnV l:=by rw [← bnV_digs,toB,digs_ofNat l h]
def knownE (l:List Nat):E5:=readE (toB (revS l 16))
theorem readE_ok (l:List UInt8):(readE l).Ok:=by
 unfold readE
 split
 ·exact ofN_ok _
 ·exact zE_ok
theorem knownE_ok (l:List Nat):(knownE l).Ok:=readE_ok _
set_option maxRecDepth 100000 in
set_option maxHeartbeats 2000000 in
theorem known_any (l:List Nat) (hd:Dg l) (hl:l.length=32) (w:World):Calls Tryd.prog 34 #[.agg (bnV l).toArray] w (ElemPost (knownE l) w):=by
 have hu:=Tryd.underlying39;obtain ⟨w0,hw0⟩:∃ w0,w0=(w.alloc (.cells (bnV l).toArray 57)).alloc (.cells (eV zE) 39):=⟨_,rfl⟩;obtain ⟨R,hR⟩:∃ R,R=revS l 16:=⟨_,rfl⟩;have hRl:R.length=32:=by rw [hR,revS_length]; exact hl
 have hbg:Blk w0 w.heap.size 57 (bnV l).toArray:=by rw [hw0]; exact (Blk.new _ _ _).alloc _
 have hbr:Blk w0 (w.heap.size+1) 39 (eV zE):=by rw [hw0]; exact Blk.newAt (by simp)
 have hbel:Below w.heap.size w w0:=by rw [hw0]; exact (below_new _ _).alloc (by simp) _
 have hrev:=reverse_any l hl w.heap.size 57 32 w0 hbg;rw [← hR] at hrev
 have hread:∀ u g,Blk u g 57 (bnV R).toArray→Calls Tryd.prog 62 #[.slice (some ⟨g,0,none⟩) 32 32] u (ReadPost (toB R) u):=fun u g hb=>by
  have hv:bytesV (toB R)=bnV R:=toB_v (by rw [hR]; exact revS_dg hd 16);have hlen:(toB R).length=32:=by rw [toB,List.length_map,hRl]
  have h:=read_any (toB R) (some ⟨g,0,none⟩) 32 u (by rw [hv]; exact Rd.of_blk hb hb.lt) (by rw [hlen]; exact Nat.le_refl _) (by rw [hlen]; decide);rw [hlen] at h; exact h
 have HW:=zY hw0;have HREV:=zY hrev;have HREAD:=zY hread;have HBR:=zY hbr;have HBEL:=zY hbel;have HR:=zY hR;have hne:w.heap.size+1≠w.heap.size:=by omega
 have HNE:=zY hne;have HLR:=zY (show w.heap.size≤w.heap.size+1 by omega);clear hw0 hRl hbg hbr hbel hrev hread hR hd hl hne;generalize hcs:(bnV l).toArray=cs at *;go_enter Tryd.func34,Tryd.ntmps34;go_wp2_with fail;show Calls _ _ _ ((w.alloc (.cells cs _)).alloc (.cells (eV zE) _)) _;rw [← HW.out];generalize w.heap.size+1=r at *;generalize hgg:w.heap.size=g at *;have HG:=zY hgg;clear hgg HW;refine calls_then HREV.out ?_;rintro e w1 ⟨⟨v,rfl⟩,hb1,hw1⟩;have HB1:=zY hb1;have HBR1:=zY (hw1.blk HBR.out HNE.out);have HBEL1:=zY (hw1.below HBEL.out (Nat.le_refl _) (by have h:=HBEL.out; rw [← HG.out] at h ⊢; exact h.size));clear hb1 hw1 HBR HBEL HREV;go_wp2_with fail;refine calls_then (HREAD.out w1 g HB1.out) ?_;rintro e w2 ⟨rfl,hb2⟩;have HGS:Hid (g≤w1.heap.size):=zY (by have h:=HBEL1.out; rw [← HG.out] at h ⊢; exact h.size);have HBEL2:=zY (HBEL1.out.trans (hb2.mono HGS.out));have HBR2:=zY (HBR1.out.below hb2 HBR1.out.lt);clear hb2 HBEL1 HBR1
 go_wp2_with (first
  | (refine wpList_put_box (x:=.tmp 4) (cells:=eV (readE (toB R))) (Blk.new _ _ _) rfl rfl rfl rfl elem_size rfl (by simp [eV,wV,limbs,Value.oneCell']) ?_; intro w3 hb3 hw3; have HB3:=zY hb3; have HBR3:=zY (HBR2.out.below (box_low hw3) HBR2.out.lt); have HBEL3:=zY (HBEL2.out.trans ((box_low hw3).mono (by have h:=HBEL2.out; rw [← HG.out] at h ⊢; exact h.size))); clear hb3 hw3)
  | (refine wpList_get_box (x:=.tmp 4) HB3.out rfl rfl rfl hu rfl elem_size ?_)
  | (refine wpList_put_box (x:=.tmp 2) (cells:=eV (readE (toB R))) HBR3.out rfl rfl rfl rfl elem_size rfl (by simp [eV,wV,limbs,Value.oneCell']) ?_; intro w4 hb4 hw4; have HB4:=zY hb4; have HW4:=zY hw4; clear hb4 hw4))
 refine bodyPost_ret (results_box (P:=Tryd.prog) rfl rfl HB4.out hu rfl elem_size) rfl ⟨by rw [knownE,← HR.out],?_⟩;rw [HG.out];exact HW4.out.below HBEL3.out HLR.out (by have h:=HBEL3.out; rw [← HG.out] at h ⊢; exact h.size)
end Go.Proofs.YtdgheahbafnboaaDoor
/-
  Walks: the curve's d, turn, Zero and Base.
-/
namespace Go.Proofs.YtdgheahbafnboaaDoor
set_option linter.unusedSimpArgs false
set_option linter.unusedVariables false
open Go.RowKit
def dL:List Nat:=[82,3,108,238,43,111,254,115,140,199,64,121,119,121,232,152,0,112,10,77,65,65,216,171,117,235,77,202,19,89,120,163]
def turnL:List Nat:=[43,131,36,128,79,193,223,11,43,77,0,153,61,251,215,167,47,67,24,6,173,47,228,120,196,238,27,39,74,14,160,176]
def bxL:List Nat:=[33,105,54,211,205,110,83,254,192,164,226,49,253,214,220,92,105,44,199,96,149,37,167,178,201,86,45,96,143,37,213,26]
def byL:List Nat:=List.replicate 31 102++[88]
def dE:E5:=knownE dL
def turnE:E5:=knownE turnL
theorem dE_ok:dE.Ok:=knownE_ok _
theorem turnE_ok:turnE.Ok:=knownE_ok _
theorem d_known (u:World):Calls Tryd.prog 34 #[.agg (bnV dL).toArray] u (ElemPost dE u):=known_any dL (by unfold Dg; decide) rfl u
theorem turn_known (u:World):Calls Tryd.prog 34 #[.agg (bnV turnL).toArray] u (ElemPost turnE u):=known_any turnL (by unfold Dg; decide) rfl u
theorem bx_known (u:World):Calls Tryd.prog 34 #[.agg (bnV bxL).toArray] u (ElemPost (knownE bxL) u):=known_any bxL (by unfold Dg; decide) rfl u
theorem by_known (u:World):Calls Tryd.prog 34 #[.agg (bnV byL).toArray] u (ElemPost (knownE byL) u):=known_any byL (by unfold Dg; decide) rfl u
set_option maxRecDepth 100000 in
set_option maxHeartbeats 2000000 in
theorem d_any (w:World):Calls Tryd.prog 37 #[] w (ElemPost dE w):=by
 have hu:=Tryd.underlying39;have HK:=zY d_known;have hbr:Blk (w.alloc (.cells (eV zE) 39)) w.heap.size 39 (eV zE):=Blk.new _ _ _;have hbel:Below w.heap.size w (w.alloc (.cells (eV zE) 39)):=below_new _ _;have HBR:=zY hbr;have HBEL:=zY hbel;clear hbr hbel;generalize dE=X at *;go_enter Tryd.func37,Tryd.ntmps37;go_wp2_with fail;refine calls_then (HK.out _) ?_;rintro e w2 ⟨rfl,hb2⟩;have HBR2:=zY (HBR.out.below hb2 HBR.out.lt);have HBEL2:=zY (HBEL.out.trans (hb2.mono (by simp)));clear hb2 HBR HBEL;go_wp2_with (refine wpList_put_box (x:=.tmp 0) (cells:=eV X) HBR2.out rfl rfl rfl rfl elem_size rfl (by simp [eV,wV,limbs,Value.oneCell']) ?_; intro w4 hb4 hw4; have HB4:=zY hb4; have HW4:=zY hw4; clear hb4 hw4);refine bodyPost_ret (results_box (P:=Tryd.prog) rfl rfl HB4.out hu rfl elem_size) rfl ⟨rfl,HW4.out.below HBEL2.out (Nat.le_refl _) HBEL2.out.size⟩
set_option maxRecDepth 100000 in
set_option maxHeartbeats 2000000 in
theorem turn_any (w:World):Calls Tryd.prog 90 #[] w (ElemPost turnE w):=by
 have hu:=Tryd.underlying39;have HK:=zY turn_known;have hbr:Blk (w.alloc (.cells (eV zE) 39)) w.heap.size 39 (eV zE):=Blk.new _ _ _;have hbel:Below w.heap.size w (w.alloc (.cells (eV zE) 39)):=below_new _ _;have HBR:=zY hbr;have HBEL:=zY hbel;clear hbr hbel;generalize turnE=X at *;go_enter Tryd.func90,Tryd.ntmps90;go_wp2_with fail;refine calls_then (HK.out _) ?_;rintro e w2 ⟨rfl,hb2⟩;have HBR2:=zY (HBR.out.below hb2 HBR.out.lt);have HBEL2:=zY (HBEL.out.trans (hb2.mono (by simp)));clear hb2 HBR HBEL;go_wp2_with (refine wpList_put_box (x:=.tmp 0) (cells:=eV X) HBR2.out rfl rfl rfl rfl elem_size rfl (by simp [eV,wV,limbs,Value.oneCell']) ?_; intro w4 hb4 hw4; have HB4:=zY hb4; have HW4:=zY hw4; clear hb4 hw4);refine bodyPost_ret (results_box (P:=Tryd.prog) rfl rfl HB4.out hu rfl elem_size) rfl ⟨rfl,HW4.out.below HBEL2.out (Nat.le_refl _) HBEL2.out.size⟩
def zeroP:Pt4:=ofP (intE 0) (intE 1)
theorem int0_ok:(intE 0).Ok:=intE_ok (by decide) (by decide)
theorem zeroP_ok:zeroP.Ok:=ofP_ok int0_ok one_ok
set_option maxRecDepth 100000 in
set_option maxHeartbeats 2000000 in
theorem zero_any (w:World):Calls Tryd.prog 36 #[] w (PtPost zeroP w):=by
 have hp:=Tryd.underlying41;have H0:=zY int0_c;have H1:=zY int1_c;have HO:=zY (fun u=>pof_any (intE 0) (intE 1) int0_ok one_ok u);have hbr:Blk (w.alloc (.cells (ptV zP) 41)) w.heap.size 41 (ptV zP):=Blk.new _ _ _;have hbel:Below w.heap.size w (w.alloc (.cells (ptV zP) 41)):=below_new _ _;have HBR:=zY hbr;have HBEL:=zY hbel;clear hbr hbel;have HZ:Hid (zeroP=ofP (intE 0) (intE 1)):=zY rfl;generalize ofP (intE 0) (intE 1)=X at *;generalize intE 0=I0 at *;generalize intE 1=I1 at *;go_enter Tryd.func36,Tryd.ntmps36;go_wp2_with fail;refine calls_then (H0.out _) ?_;rintro e w1 ⟨rfl,hb1⟩;have HBR1:=zY (HBR.out.below hb1 HBR.out.lt);have HBEL1:=zY (HBEL.out.trans (hb1.mono (by simp)));clear hb1 HBR HBEL;go_wp2_with fail;refine calls_then (H1.out _) ?_;rintro e w2 ⟨rfl,hb2⟩;have HBR2:=zY (HBR1.out.below hb2 HBR1.out.lt);have HBEL2:=zY (HBEL1.out.trans (hb2.mono HBEL1.out.size));clear hb2 HBR1 HBEL1;go_wp2_with fail;refine calls_then (HO.out _) ?_;rintro e w3 ⟨rfl,hb3⟩;have HBR3:=zY (HBR2.out.below hb3 HBR2.out.lt);have HBEL3:=zY (HBEL2.out.trans (hb3.mono HBEL2.out.size));clear hb3 HBR2 HBEL2;go_wp2_with (refine wpList_put_box (x:=.tmp 0) (cells:=ptV X) HBR3.out rfl rfl rfl rfl point_size rfl (by simp [ptV,wV,limbs,Value.oneCell']) ?_; intro w4 hb4 hw4; have HB4:=zY hb4; have HW4:=zY hw4; clear hb4 hw4);refine bodyPost_ret (results_box (P:=Tryd.prog) rfl rfl HB4.out hp rfl point_size) rfl ⟨by rw [HZ.out],HW4.out.below HBEL3.out (Nat.le_refl _) HBEL3.out.size⟩
end Go.Proofs.YtdgheahbafnboaaDoor
/-
  Walks: the curve's Add, Neg and Equal.
-/
namespace Go.Proofs.YtdgheahbafnboaaDoor
set_option linter.unusedSimpArgs false
set_option linter.unusedVariables false
open Go.RowKit
theorem d2_ok:(addE dE dE).Ok:=add_ok dE_ok dE_ok
def addP (p q:Pt4):Pt4:=sumP p q (addE dE dE)
theorem addP_ok {p q:Pt4} (hp:p.Ok) (hq:q.Ok):(addP p q).Ok:=sumP_ok hp hq d2_ok
def eqP (p q:Pt4):Bool:=eqB (mulE p.x q.z) (mulE q.x p.z) && eqB (mulE p.y q.z) (mulE q.y p.z)
set_option maxRecDepth 100000 in
set_option maxHeartbeats 1000000 in
theorem padd_any (p q:Pt4) (w:World) (hkp:p.Ok) (hkq:q.Ok):Calls Tryd.prog 31 #[.agg (ptV p),.agg (ptV q)] w (PtPost (addP p q) w):=by
 have hu:=Tryd.underlying39;have hp:=Tryd.underlying41;have KP:=zY hkp;have KQ:=zY hkq;obtain ⟨X,hX⟩:∃ X,X=dE:=⟨_,rfl⟩;have hadd:addP p q=sumP p q (addE X X):=by rw [hX]; rfl
 have CD:=zY (show ∀ u,Calls Tryd.prog 37 #[] u (ElemPost X u) from fun u=>by rw [hX]; exact d_any u);have KX:=zY (show X.Ok by rw [hX]; exact dE_ok);rw [hadd];clear hX hadd;obtain ⟨w0,hw0⟩:∃ w0,w0=(((w.alloc (.cells (ptV p) 41)).alloc (.cells (ptV q) 41)).alloc (.cells (ptV zP) 41)):=⟨_,rfl⟩
 have hst:Cs [.box (w.heap.size) 41 (ptV p),.box (w.heap.size+1) 41 (ptV q),.box (w.heap.size+1+1) 41 (ptV zP)] w w0:=by
  rw [hw0];exact ⟨⟨(((Blk.new _ _ _).alloc _).alloc _),((Blk.newAt (by simp)).alloc _),(Blk.newAt (by simp)),trivial⟩,(((below_new _ _).alloc (by simp; try omega) _).alloc (by simp; try omega) _)⟩
 have HLR:=zY (show w.heap.size≤w.heap.size+1+1 by omega);have HW:=zY hw0;have HST0:=zY hst;clear hw0 hst hkp hkq;go_enter Tryd.func31,Tryd.ntmps31;go_wp2_with fail;show Code.wp Tryd.prog _ _ _ (((w.alloc (.cells (ptV p) _)).alloc (.cells (ptV q) _)).alloc (.cells (ptV zP) _));rw [← HW.out];generalize w.heap.size+1+1=r at *;generalize w.heap.size+1=gq at *;generalize hgp:w.heap.size=gp at HST0 ⊢;clear HW hgp;have HC0:=HST0.out.drew;clear HST0;refine wp_region_det (fun u=>Cs [.box gp 41 (ptV p),.box gq 41 (ptV q),.box r 41 (ptV zP)] w u) (fun u=>Blk u r 41 (ptV (sumP (p) (q) (addE (X) (X))))∧Below w.heap.size w u) [(0,some 5),(1,some 6),(2,some 7),(3,some 8),(4,some 9),(5,some 10),(6,none)] (by kernel_rfl) (by kernel_rfl) (by decide) (by kernel_rfl) (fun _=>rfl) HC0 ?_;apply DetL.next
 ·apply dP [];exact fun _=>rfl;rfl;rintro vals - w1 hC1 E hE;have hs:=hC1;simp only [sP] at hE ⊢;refine wpList_get_box (hs.1.1) rfl rfl rfl hp rfl point_size ?_;go_wp2_with fail;exact .mk (hE _ hC1)
 apply DetL.next
 ·apply dP [];exact fun _=>rfl;rfl;rintro vals ⟨-,-⟩ w1 hC1 E hE;have hs:=hC1;simp only [sP] at hE ⊢;refine wpList_get_box (hs.1.2.1) rfl rfl rfl hp rfl point_size ?_;go_wp2_with fail;exact .mk (hE _ hC1)
 apply DetL.next
 ·apply dP [];exact fun _=>rfl;rfl;intro vals vq w1 hC1 E hE;clear vq;simp only [sP] at hE ⊢;go_wp2_with fail;refine calls_then (CD.out _) ?_;rintro e w2 ⟨rfl,hb2⟩;go_wp2_with fail;exact .mk (hE _ (hC1.next hb2))
 apply DetL.next
 ·apply dP [(2,some 7)];exact fun _=>rfl;rfl;intro vals vq w1 hC1 E hE;have f2:=vq.2;clear vq;simp only [sP,f2] at hE ⊢;clear f2;go_wp2_with fail;refine calls_then (CD.out _) ?_;rintro e w2 ⟨rfl,hb2⟩;go_wp2_with fail;exact .mk (hE _ (hC1.next hb2))
 apply DetL.next
 ·apply dP [(2,some 7),(3,some 8),(3,some 8)];exact fun _=>rfl;rfl;rintro vals ⟨⟨⟨⟨-,-⟩,-⟩,f2⟩,f3⟩ w1 hC1 E hE;simp only [sP,f2,f3] at hE ⊢;clear f2 f3;go_wp2_with fail;refine calls_then (add_c _ _ _ (KX.out) (KX.out)) ?_;rintro e w2 ⟨rfl,hb2⟩;go_wp2_with fail;exact .mk (hE _ (hC1.next hb2))
 apply DetL.next
 ·apply dP [(0,some 5),(1,some 6),(4,some 9),(4,some 9)];exact fun _=>rfl;rfl;rintro vals ⟨⟨⟨⟨⟨-,f0⟩,f1⟩,-⟩,-⟩,f4⟩ w1 hC1 E hE;simp only [sP,f0,f1,f4] at hE ⊢;clear f0 f1 f4;go_wp2_with fail;refine calls_then (sum_any _ _ _ _ (KP.out) (KQ.out) (add_ok (KX.out) (KX.out))) ?_;rintro e w2 ⟨rfl,hb2⟩;go_wp2_with fail;exact .mk (hE _ (hC1.next hb2))
 apply DetL.last (v:=undef)
 ·apply dP [(5,some 10),(5,some 10),(0,some 5),(1,some 6),(2,some 7),(3,some 8),(4,some 9),(5,some 10)];exact fun _=>rfl;rfl;rintro vals ⟨⟨⟨⟨⟨⟨-,f0⟩,f1⟩,f2⟩,f3⟩,f4⟩,f5⟩ w1 hC1 E hE;have hlr:=HLR.out;simp only [sP,f0,f1,f2,f3,f4,f5] at hE ⊢;clear f0 f1 f2 f3 f4 f5;refine wpList_put_box (cells:=ptV (sumP (p) (q) (addE (X) (X)))) (hC1.1.2.2.1) rfl rfl rfl rfl point_size rfl (by simp [eV,ptV,wV,limbs,Value.oneCell']) ?_;intro w6 hb6 hw6;go_wp2_with fail;exact .mk (hE _ ⟨hb6,hw6.below hC1.2 hlr hC1.2.size⟩)
 rintro vals ⟨⟨⟨⟨⟨⟨⟨-,f0⟩,f1⟩,f2⟩,f3⟩,f4⟩,f5⟩,f6⟩ w1 hC1;simp only [sP,f0,f1,f2,f3,f4,f5,f6];clear f0 f1 f2 f3 f4 f5 f6;clear HC0;go_wp2_with fail;refine bodyPost_ret (results_box (P:=Tryd.prog) rfl rfl hC1.1 hp rfl point_size) rfl ⟨rfl,hC1.2⟩
set_option maxRecDepth 100000 in
set_option maxHeartbeats 1000000 in
theorem pneg_any (p:Pt4) (w:World) (hkp:p.Ok):Calls Tryd.prog 32 #[.agg (ptV p)] w (PtPost (negP p) w):=by
 have hu:=Tryd.underlying39;have hp:=Tryd.underlying41;have KP:=zY hkp;obtain ⟨w0,hw0⟩:∃ w0,w0=((w.alloc (.cells (ptV p) 41)).alloc (.cells (ptV zP) 41)):=⟨_,rfl⟩
 have hst:Cs [.box (w.heap.size) 41 (ptV p),.box (w.heap.size+1) 41 (ptV zP)] w w0:=by
  rw [hw0];exact ⟨⟨((Blk.new _ _ _).alloc _),(Blk.newAt (by simp)),trivial⟩,((below_new _ _).alloc (by simp; try omega) _)⟩
 have HLR:=zY (show w.heap.size≤w.heap.size+1 by omega);have HW:=zY hw0;have HST0:=zY hst;clear hw0 hst hkp;go_enter Tryd.func32,Tryd.ntmps32;go_wp2_with fail;show Code.wp Tryd.prog _ _ _ ((w.alloc (.cells (ptV p) _)).alloc (.cells (ptV zP) _));rw [← HW.out];generalize w.heap.size+1=r at *;generalize hgp:w.heap.size=gp at HST0 ⊢;clear HW hgp;have HC0:=HST0.out.drew;clear HST0;refine wp_region_det (fun u=>Cs [.box gp 41 (ptV p),.box r 41 (ptV zP)] w u) (fun u=>Blk u r 41 (ptV (⟨subE (zE) (p.x),p.y,p.z,subE (zE) (p.t)⟩))∧Below w.heap.size w u) [(0,some 3),(1,some 4),(2,some 5),(3,some 6),(4,some 7),(5,some 8),(6,some 9),(7,some 10),(8,some 11),(9,some 12),(10,some 13),(11,some 14),(12,some 15),(13,none)] (by kernel_rfl) (by kernel_rfl) (by decide) (by kernel_rfl) (fun _=>rfl) HC0 ?_;apply DetL.next
 ·apply dP [];exact fun _=>rfl;rfl;rintro vals - w1 hC1 E hE;simp only [sP] at hE ⊢;go_wp2;exact .mk (hE _ hC1)
 apply DetL.next
 ·apply dP [];exact fun _=>rfl;rfl;rintro vals ⟨-,-⟩ w1 hC1 E hE;simp only [sP] at hE ⊢;go_wp2;exact .mk (hE _ hC1)
 apply DetL.next
 ·apply dP [(1,some 4)];exact fun _=>rfl;rfl;rintro vals ⟨⟨-,-⟩,f1⟩ w1 hC1 E hE;have hs:=hC1;simp only [sP,f1] at hE ⊢;clear f1;refine wpList_get_part (n:=5) (r:=eV (p.x)) (hs.1.1) (by rw [ptV_size]; decide) rfl rfl rfl rfl hu rfl elem_size ?_;go_wp2_with fail;exact .mk (hE _ hC1)
 apply DetL.next
 ·apply dP [(0,some 3),(2,some 5)];exact fun _=>rfl;rfl;rintro vals ⟨⟨⟨-,f0⟩,-⟩,f2⟩ w1 hC1 E hE;simp only [sP,f0,f2] at hE ⊢;clear f0 f2;go_wp2_with fail;refine calls_then (sub_z _ (KP.out.x) _) ?_;rintro e w2 ⟨rfl,hb2⟩;go_wp2_with fail;exact .mk (hE _ (hC1.next hb2))
 apply DetL.next
 ·apply dP [];exact fun _=>rfl;rfl;intro vals vq w1 hC1 E hE;clear vq;simp only [sP] at hE ⊢;go_wp2;exact .mk (hE _ hC1)
 apply DetL.next
 ·apply dP [(4,some 7)];exact fun _=>rfl;rfl;intro vals vq w1 hC1 E hE;have f4:=vq.2;clear vq;have hs:=hC1;simp only [sP,f4] at hE ⊢;clear f4;refine wpList_get_part (n:=5) (r:=eV (p.y)) (hs.1.1) (by rw [ptV_size]; decide) rfl rfl rfl rfl hu rfl elem_size ?_;go_wp2_with fail;exact .mk (hE _ hC1)
 apply DetL.next
 ·apply dP [];exact fun _=>rfl;rfl;intro vals vq w1 hC1 E hE;clear vq;simp only [sP] at hE ⊢;go_wp2;exact .mk (hE _ hC1)
 apply DetL.next
 ·apply dP [(6,some 9)];exact fun _=>rfl;rfl;intro vals vq w1 hC1 E hE;have f6:=vq.2;clear vq;have hs:=hC1;simp only [sP,f6] at hE ⊢;clear f6;refine wpList_get_part (n:=5) (r:=eV (p.z)) (hs.1.1) (by rw [ptV_size]; decide) rfl rfl rfl rfl hu rfl elem_size ?_;go_wp2_with fail;exact .mk (hE _ hC1)
 apply DetL.next
 ·apply dP [];exact fun _=>rfl;rfl;intro vals vq w1 hC1 E hE;clear vq;simp only [sP] at hE ⊢;go_wp2;exact .mk (hE _ hC1)
 apply DetL.next
 ·apply dP [];exact fun _=>rfl;rfl;intro vals vq w1 hC1 E hE;clear vq;simp only [sP] at hE ⊢;go_wp2;exact .mk (hE _ hC1)
 apply DetL.next
 ·apply dP [(9,some 12)];exact fun _=>rfl;rfl;intro vals vq w1 hC1 E hE;have f9:=vq.2;clear vq;have hs:=hC1;simp only [sP,f9] at hE ⊢;clear f9;refine wpList_get_part (n:=5) (r:=eV (p.t)) (hs.1.1) (by rw [ptV_size]; decide) rfl rfl rfl rfl hu rfl elem_size ?_;go_wp2_with fail;exact .mk (hE _ hC1)
 apply DetL.next
 ·apply dP [(8,some 11),(10,some 13),(3,some 6)];exact fun _=>rfl;rfl;intro vals vq w1 hC1 E hE;have f3:=vq.1.1.1.1.1.1.1.2;have f8:=vq.1.1.2;have f10:=vq.2;clear vq;simp only [sP,f3,f8,f10] at hE ⊢;clear f3 f8 f10;go_wp2_with fail;refine calls_then (sub_z _ (KP.out.t) _) ?_;rintro e w2 ⟨rfl,hb2⟩;go_wp2_with fail;exact .mk (hE _ (hC1.next hb2))
 apply DetL.next
 ·apply dP [(3,some 6),(5,some 8),(7,some 10),(11,some 14)];exact fun _=>rfl;rfl;intro vals vq w1 hC1 E hE;have f3:=vq.1.1.1.1.1.1.1.1.2;have f5:=vq.1.1.1.1.1.1.2;have f7:=vq.1.1.1.1.2;have f11:=vq.2;clear vq;simp only [sP,f3,f5,f7,f11] at hE ⊢;clear f3 f5 f7 f11;refine wpList_build_pt (subE (zE) (p.x)) (p.y) (p.z) (subE (zE) (p.t)) rfl rfl rfl rfl rfl rfl ?_;go_wp2_with fail;exact .mk (hE _ hC1)
 apply DetL.last (v:=undef)
 ·apply dP [(12,some 15),(11,some 14),(0,some 3),(1,some 4),(2,some 5),(3,some 6),(4,some 7),(5,some 8),(6,some 9),(7,some 10),(8,some 11),(9,some 12),(10,some 13),(11,some 14),(12,some 15)];exact fun _=>rfl;rfl;rintro vals ⟨⟨⟨⟨⟨⟨⟨⟨⟨⟨⟨⟨⟨-,f0⟩,f1⟩,f2⟩,f3⟩,f4⟩,f5⟩,f6⟩,f7⟩,f8⟩,f9⟩,f10⟩,f11⟩,f12⟩ w1 hC1 E hE;have hlr:=HLR.out;simp only [sP,f0,f1,f2,f3,f4,f5,f6,f7,f8,f9,f10,f11,f12] at hE ⊢;clear f0 f1 f2 f3 f4 f5 f6 f7 f8 f9 f10 f11 f12;refine wpList_put_box (cells:=ptV (⟨subE (zE) (p.x),p.y,p.z,subE (zE) (p.t)⟩)) (hC1.1.2.1) rfl rfl rfl rfl point_size rfl (by simp [eV,ptV,wV,limbs,Value.oneCell']) ?_;intro w6 hb6 hw6;go_wp2_with fail;exact .mk (hE _ ⟨hb6,hw6.below hC1.2 hlr hC1.2.size⟩)
 rintro vals ⟨⟨⟨⟨⟨⟨⟨⟨⟨⟨⟨⟨⟨⟨-,f0⟩,f1⟩,f2⟩,f3⟩,f4⟩,f5⟩,f6⟩,f7⟩,f8⟩,f9⟩,f10⟩,f11⟩,f12⟩,f13⟩ w1 hC1;simp only [sP,f0,f1,f2,f3,f4,f5,f6,f7,f8,f9,f10,f11,f12,f13];clear f0 f1 f2 f3 f4 f5 f6 f7 f8 f9 f10 f11 f12 f13;clear HC0;go_wp2_with fail;refine bodyPost_ret (results_box (P:=Tryd.prog) rfl rfl hC1.1 hp rfl point_size) rfl ⟨rfl,hC1.2⟩
end Go.Proofs.YtdgheahbafnboaaDoor
/-
  Walk: a point's multiple.
-/
namespace Go.Proofs.YtdgheahbafnboaaDoor
set_option linter.unusedSimpArgs false
set_option linter.unusedVariables false
open Go.RowKit
def pmS (T:E5) (p out:Pt4) (bit:Nat):Pt4:=if bit=1 then sumP (sumP out out T) p T else sumP out out T
def pmB (T:E5) (p out:Pt4) (b:Nat):Nat→Pt4
 | 0=>out
 | j+1=>pmS T p (pmB T p out b j) (b/2^(7 - j)%2)
def pmL (T:E5) (p:Pt4) (l:List Nat):Nat→Pt4
 | 0=>zeroP
 | j+1=>pmB T p (pmL T p l j) (l.getD (l.length - 1 - j) 0) 8
section
variable {T:E5} {p out:Pt4} (hT:T.Ok) (hp:p.Ok)
include hT hp
theorem pmS_ok (ho:out.Ok) (bit:Nat):(pmS T p out bit).Ok:=by
 unfold pmS
 split
 ·exact sumP_ok (sumP_ok ho ho hT) hp hT
 ·exact sumP_ok ho ho hT
theorem pmB_ok (ho:out.Ok) (b:Nat):∀ j,(pmB T p out b j).Ok
 | 0=>ho
 | j+1=>pmS_ok hT hp (pmB_ok ho b j) _
theorem pmL_ok (l:List Nat):∀ j,(pmL T p l j).Ok
 | 0=>zeroP_ok
 | j+1=>pmB_ok hT hp (pmL_ok l j) _ 8
end
def mulP (p:Pt4) (l:List UInt8):Pt4:=pmL (addE dE dE) p (digs (l.take 32)) (min l.length 32)
theorem mulP_ok {p:Pt4} (hp:p.Ok) (l:List UInt8):(mulP p l).Ok:=pmL_ok d2_ok hp _ _
structure PM (w0:World) (g r o ow:Nat) (p cur:Pt4) (T:E5) (u:World):Prop where
 bel:Below w0.heap.size w0 u
 x:Blk u g 41 (ptV p)
 z:Blk u r 41 (ptV zP)
 y:Blk u o 41 (ptV cur)
 t:Blk u ow 39 (eV T)
 lo:w0.heap.size≤o
 lr:w0.heap.size≤r
 go:g≠o
 ro:r≠o
 wo:ow≠o
theorem PM.next {w0 u u':World} {g r o ow:Nat} {p cur:Pt4} {T:E5} (k:PM w0 g r o ow p cur T u) (hb:Below u.heap.size u u'):PM w0 g r o ow p cur T u' :=
 ⟨k.bel.trans (hb.mono k.bel.size),k.x.below hb k.x.lt,k.z.below hb k.z.lt,k.y.below hb k.y.lt,k.t.below hb k.t.lt,k.lo,k.lr,k.go,k.ro,k.wo⟩
theorem PM.put {w0 u u':World} {g r o ow:Nat} {p cur cur':Pt4} {T:E5} (k:PM w0 g r o ow p cur T u) (hw:Wrote o u u') (hb:Blk u' o 41 (ptV cur')):PM w0 g r o ow p cur' T u' :=
 ⟨hw.below k.bel k.lo k.bel.size,hw.blk k.x k.go,hw.blk k.z k.ro,hb,hw.blk k.t k.wo,k.lo,k.lr,k.go,k.ro,k.wo⟩
theorem and8_one' (l:Nat) (h:l<256):bits .and .u8 (l:Int) 1=((l%2:Nat):Int):=and8_one l h
set_option maxRecDepth 100000 in
set_option maxHeartbeats 2000000 in
theorem pmul_any (p:Pt4) (hkp:p.Ok) (l:List UInt8) (A:Option Addr) (c:Nat) (w:World) (hr:Rd w w.heap.size A (bytesV l)) (hc:l.length≤c) :
  Calls Tryd.prog 18 #[.agg (ptV p),.slice A l.length c] w (PtPost (mulP p l) w):=by
 have hu:=Tryd.underlying39;have hp:=Tryd.underlying41;obtain ⟨X,hX⟩:∃ X,X=dE:=⟨_,rfl⟩;obtain ⟨T,hT⟩:∃ T,T=addE X X:=⟨_,rfl⟩;have okX:X.Ok:=by rw [hX]; exact dE_ok
 have okT:T.Ok:=by rw [hT]; exact add_ok okX okX
 have CD:=zY (show ∀ u,Calls Tryd.prog 37 #[] u (ElemPost X u) from fun u=>by rw [hX]; exact d_any u);have CA:=zY (show ∀ u,Calls Tryd.prog 38 #[.agg (eV X),.agg (eV X)] u (ElemPost T u) from fun u=>by rw [hT]; exact add_c X X u okX okX);have CS:=zY (show ∀ (a b:Pt4),a.Ok→b.Ok→∀ u,Calls Tryd.prog 39 #[.agg (ptV a),.agg (ptV b),.agg (eV T)] u (PtPost (sumP a b T) u) from fun a b ha hb u=>sum_any a b T u ha hb okT);have hmul:mulP p l=pmL T p (digs (l.take 32)) (min l.length 32):=by rw [hT,hX]; rfl
 obtain ⟨Z,hZ⟩:∃ Z,Z=zeroP:=⟨_,rfl⟩;have CZ:=zY (show ∀ u,Calls Tryd.prog 36 #[] u (PtPost Z u) from fun u=>by rw [hZ]; exact zero_any u);obtain ⟨n,hn⟩:∃ n,n=l.length:=⟨_,rfl⟩;rw [hmul,← hn];rw [← hn] at hc;obtain ⟨m,hm⟩:∃ m,m=min n 32:=⟨_,rfl⟩;have hmin1:(if (32:Int)<(n:Int) then (32:Int) else (n:Int))=(m:Int):=by rw [hm]; split <;> omega
 have hmin2:(if 32<n then (32:Int) else (n:Int))=(m:Int):=by rw [hm]; split <;> omega
 have hm32:(m:Int)≤32:=by omega
 have hmn:(m:Int)≤(n:Int):=by omega
 rw [← hm];generalize hL:digs (l.take 32)=L at *;have hLl:L.length=m:=by rw [← hL,digs,List.length_map,List.length_take,hm,hn,Nat.min_comm]
 have hLat:∀ k,k<m→∀ u,Below w.heap.size w u→∃ ad,A=some ad∧u.cell? (ad.add k)=some (.int .u8 ((L.getD k 0:Nat):Int)):=fun k hk u hb=>by
  have hkl:k<l.length:=by omega
  obtain ⟨ad,h1,_,h3⟩:=(hr.below hb).at_ (k:=k) (by rw [bytesV_length]; exact hkl);refine ⟨ad,h1,?_⟩;rw [h3,← hL];have hk32:k<32:=by omega
  simp [bytesV,byteV,digs,List.getD_eq_getElem?_getD,List.getElem?_take,hk32,hkl]
 have hLd:Dg L:=by rw [← hL]; exact digs_lt _
 have KP:=zY hkp;have OKT:=zY okT;have HLAT:=zY hLat;have HLL:=zY hLl;have HLD:=zY hLd;have HZ:=zY hZ;obtain ⟨w0,hw0⟩:∃ w0,w0=(w.alloc (.cells (ptV p) 41)).alloc (.cells (ptV zP) 41):=⟨_,rfl⟩;have HX0:=zY (show Blk w0 w.heap.size 41 (ptV p) by rw [hw0]; exact (Blk.new _ _ _).alloc _);have HR0:=zY (show Blk w0 (w.heap.size+1) 41 (ptV zP) by rw [hw0]; exact Blk.newAt (by simp));have HB0:=zY (show Below w.heap.size w w0 by rw [hw0]; exact (below_new _ _).alloc (by simp) _);have HLR:=zY (show w.heap.size≤w.heap.size+1 by omega);have HW:=zY hw0;clear hw0 hkp hX hT okX okT hmul hZ hn hm hL hLl hLat hLd hr hc;go_enter Tryd.func18,Tryd.ntmps18;go_wp2_with fail;show Calls _ _ _ ((w.alloc (.cells (ptV p) _)).alloc (.cells (ptV zP) _)) _;rw [← HW.out];generalize w.heap.size+1=r at *;generalize hgg:w.heap.size=g at HX0 ⊢;clear hgg HW;refine calls_then (CZ.out _) ?_;rintro e w1 ⟨rfl,hb1⟩;have HX1:=zY (HX0.out.below hb1 HX0.out.lt);have HR1:=zY (HR0.out.below hb1 HR0.out.lt);have HB1:=zY (HB0.out.trans (hb1.mono HB0.out.size));clear hb1 HX0 HR0 HB0;go_wp2_with fail;refine calls_then (CD.out _) ?_;rintro e w2 ⟨rfl,hb2⟩;have HX2:=zY (HX1.out.below hb2 HX1.out.lt);have HR2:=zY (HR1.out.below hb2 HR1.out.lt);have HB2:=zY (HB1.out.trans (hb2.mono HB1.out.size));clear hb2 HX1 HR1 HB1;go_wp2_with fail;refine calls_then (CD.out _) ?_;rintro e w3 ⟨rfl,hb3⟩;have HX3:=zY (HX2.out.below hb3 HX2.out.lt);have HR3:=zY (HR2.out.below hb3 HR2.out.lt);have HB3:=zY (HB2.out.trans (hb3.mono HB2.out.size));clear hb3 HX2 HR2 HB2;go_wp2_with fail;refine calls_then (CA.out _) ?_;rintro e w4 ⟨rfl,hb4⟩;have hx4:=HX3.out.below hb4 HX3.out.lt;have hr4:=HR3.out.below hb4 HR3.out.lt;have hb4':=HB3.out.trans (hb4.mono HB3.out.size);clear hb4 HX3 HR3 HB3;obtain ⟨w5,hw5⟩:∃ w5,w5=(w4.alloc (.cells (ptV zP) 41)).alloc (.cells (eV zE) 39):=⟨_,rfl⟩;have hsz5:(w4.alloc (.cells (ptV zP) 41)).heap.size=w4.heap.size+1:=by simp
 have HB5:=zY (show Below w.heap.size w w5 by rw [hw5]; exact (hb4'.alloc hb4'.size _).alloc (by rw [hsz5]; have:=hb4'.size; omega) _);have HX5:=zY (show Blk w5 g 41 (ptV p) by rw [hw5]; exact (hx4.alloc _).alloc _);have HR5:=zY (show Blk w5 r 41 (ptV zP) by rw [hw5]; exact (hr4.alloc _).alloc _);have HY5:=zY (show Blk w5 w4.heap.size 41 (ptV zP) by rw [hw5]; exact (Blk.new _ _ _).alloc _);have HT5:=zY (show Blk w5 (w4.heap.size+1) 39 (eV zE) by rw [hw5]; exact Blk.newAt (by simp));have HGO:=zY (Nat.ne_of_lt hx4.lt);have HRO:=zY (Nat.ne_of_lt hr4.lt);have HLO:=zY hb4'.size;have HW5:=zY hw5;have HWO:=zY (show w4.heap.size+1≠w4.heap.size by omega);have HLW:=zY (show w.heap.size≤w4.heap.size+1 by have:=hb4'.size; omega);have HGW:=zY (show g≠w4.heap.size+1 by have:=hx4.lt; omega);have HRW:=zY (show r≠w4.heap.size+1 by have:=hr4.lt; omega);clear hw5 hx4 hr4 hb4' hsz5
 go_wp2_with (first
  | (refine wpList_put_box (x:=.tmp 5) (g:=w4.heap.size) (cells:=ptV Z) (old:=ptV zP) (t:=41) ((Blk.new _ _ _).alloc _) rfl rfl rfl rfl point_size rfl (by simp [ptV,wV,limbs,Value.oneCell']) ?_; intro w6 hb6 hw6)
  | (refine wpList_put_box (x:=.tmp 6) (g:=w4.heap.size+1) (cells:=eV T) (old:=eV zE) (t:=39) (hw6.blk (Blk.newAt (by simp)) HWO.out) rfl rfl rfl rfl elem_size rfl (by simp [eV,wV,limbs,Value.oneCell']) ?_; intro w7 hb7 hw7))
 have hw6':Wrote w4.heap.size w5 w6:=by rw [HW5.out]; exact hw6
 have hst:PM w g r w4.heap.size (w4.heap.size+1) p (pmL T p L 0) T w7:=by
  have h6:=hw6'.below HB5.out HLO.out HB5.out.size;refine ⟨hw7.below h6 HLW.out h6.size,hw7.blk (hw6'.blk HX5.out HGO.out) HGW.out,hw7.blk (hw6'.blk HR5.out HRO.out) HRW.out,?_,hb7,HLO.out,HLR.out,HGO.out,HRO.out,HWO.out⟩;rw [HZ.out] at hb6;exact hw7.blk hb6 (Ne.symm HWO.out)
 have HST:=zY hst;clear hw6' hst hb6 hw6 hb7 hw7 HB5 HX5 HR5 HY5 HT5 HGO HRO HLO HW5 HWO HLW HGW HRW hmin1 hmin2 HZ CZ CD CA HLR;generalize w4.heap.size+1=ow at *;generalize w4.heap.size=o at *;clear w5
 go_loopw [7] (fun i wr=>∃ j:Nat,j≤m∧i=.int .i64 ((m:Int) - 1 - (j:Int))∧PM w g r o ow p (pmL T p L j) T wr) (fun i _=>(intOf i+1).toNat)
 case atStart=>exact ⟨0,Nat.zero_le _,by go_num,HST.out⟩
 case round =>
  clear HST;obtain ⟨j,hj,rfl,hst⟩:=hrel
  by_cases hlt:j<m
  ·obtain ⟨q,hq⟩:∃ q,q+1+j=m:=⟨m - 1 - j,by omega⟩;have hqi:(m:Int) - 1 - (j:Int)=(q:Int):=by omega
   rw [hqi];obtain ⟨cur,hcur⟩:∃ cur,cur=pmL T p L j:=⟨_,rfl⟩;rw [← hcur] at hst;obtain ⟨b,hb⟩:∃ b,b=L.getD q 0:=⟨_,rfl⟩;have hst':PM w g r o ow p (pmB T p cur b 0) T wr:=hst;have hcok:cur.Ok:=by rw [hcur]; exact pmL_ok OKT.out KP.out L j
   have hqm:(q:Int)<(m:Int):=by omega
   have HST:=zY hst';have HCUR:=zY hcur;have HCOK:=zY hcok;have HB:=zY hb;have HQ:=zY hq;have HJ:=zY hlt;clear hst hst' hcur hcok hb hqi hq hlt hj;go_wp2_with fail;obtain ⟨wo,rfl⟩:∃ x,x=wr:=⟨_,rfl⟩
   go_loopw [8] (fun c wr=>∃ k:Nat,k≤8∧c=.int .i64 (7 - (k:Int))∧PM w g r o ow p (pmB T p cur b k) T wr) (fun c _=>(intOf c+1).toNat)
   case atStart=>exact ⟨0,by omega,rfl,HST.out⟩
   case round =>
    clear HST;obtain ⟨k,hk,rfl,hst⟩:=hrel
    by_cases hltk:k<8
    ·obtain ⟨s,hs⟩:∃ s,s+k=7:=⟨7 - k,by omega⟩;have hsi:(7:Int) - (k:Int)=(s:Int):=by omega
     have hs8:(s:Int)<8:=by omega
     have hbit:pmB T p cur b (k+1)=pmS T p (pmB T p cur b k) (b/2^s%2):=by rw [pmB,show 7 - k=s by omega]
     obtain ⟨y,hy⟩:∃ y,y=pmB T p cur b k:=⟨_,rfl⟩;have hyok:y.Ok:=by rw [hy]; exact pmB_ok OKT.out KP.out HCOK.out b k
     rw [← hy] at hst hbit;rw [hsi];obtain ⟨ad,rfl,_⟩:=HLAT.out q (by omega) wr hst.bel;have hb256:b<256:=by rw [HB.out]; exact dg_getD HLD.out q
     obtain ⟨bq,hbq⟩:∃ bq,bq=b/2^s:=⟨_,rfl⟩;have hbqi:(b:Int)/2^s=(bq:Int):=by rw [hbq,shr_int]
     have hbql:bq<256:=by rw [hbq]; exact Nat.lt_of_le_of_lt (Nat.div_le_self _ _) hb256
     rw [← hbq] at hbit;have hand:=and8_one bq hbql;obtain ⟨cb,hcb⟩:∃ cb,cb=bq%2:=⟨_,rfl⟩;rw [← hcb] at hbit hand;have hcb2:cb<2:=by omega
     have hcell:∀ u,Below w.heap.size w u→u.cell? (ad.add q)=some (.int .u8 (b:Int)):=fun u hu=>by
      obtain ⟨ad2,h1,h2⟩:=HLAT.out q (by omega) u hu
      injection h1 with h1
      rw [h1,HB.out]; exact h2
     have HCELL:=zY hcell;have HBIT:=zY hbit;have HAND:=zY hand;have HYOK:=zY hyok;have HBQI:=zY hbqi;have HS:=zY hs;have HK:=zY hltk;have HST:=zY hst;have hqn:(q:Int)<(n:Int):=by omega
     clear hcell hbit hand hyok hbqi hs hst hb256 hbq hbql hcb hy hk hsi
     rcases Nat.lt_or_ge cb 1 with hc1 | hc1
     ·have hcc:cb=0:=by omega
      rw [hcc] at HAND HBIT;have hand2:bits .and .u8 ((b:Int)/2^s) 1=0:=by rw [HBQI.out]; exact HAND.out
      clear hcc hcb2 hc1 hltk
      go_wp2_with (first
       | (refine wpList_get_box (x:=.tmp 5) HST.out.y rfl rfl rfl hp rfl point_size ?_)
       | (refine wpList_get_box (x:=.tmp 6) HST.out.t rfl rfl rfl hu rfl elem_size ?_))
      refine calls_then (CS.out y y HYOK.out HYOK.out _) ?_;rintro e w3 ⟨rfl,hb3⟩;have hst3:=HST.out.next hb3;clear HST;go_wp2_with (refine wpList_put_box (x:=.tmp 5) (cells:=ptV (sumP y y T)) hst3.y rfl rfl rfl rfl point_size rfl (by simp [ptV,wV,limbs,Value.oneCell']) ?_; intro w6 hb6 hw6; have hst6:=hst3.put hw6 hb6; have hcell6:=HCELL.out w6 hst6.bel; have HST6:=zY hst6; clear hst3 hst6 hb6 hw6);have hq1:(s:Int) - 1=7 - ((k+1:Nat):Int):=by have:=HS.out; omega
      refine ⟨⟨k+1,by have:=HK.out; omega,by rw [hq1],?_⟩,by simp [intOf]⟩;rw [HBIT.out];exact HST6.out
     ·have hcc:cb=1:=by omega
      rw [hcc] at HAND HBIT;have hand2:bits .and .u8 ((b:Int)/2^s) 1=1:=by rw [HBQI.out]; exact HAND.out
      clear hcc hcb2 hc1 hltk
      go_wp2_with (first
       | (refine wpList_get_box (x:=.tmp 5) HST.out.y rfl rfl rfl hp rfl point_size ?_)
       | (refine wpList_get_box (x:=.tmp 6) HST.out.t rfl rfl rfl hu rfl elem_size ?_))
      refine calls_then (CS.out y y HYOK.out HYOK.out _) ?_;rintro e w3 ⟨rfl,hb3⟩;have hst3:=HST.out.next hb3;clear HST
      go_wp2_with (first
       | (refine wpList_put_box (x:=.tmp 5) (cells:=ptV (sumP y y T)) hst3.y rfl rfl rfl rfl point_size rfl (by simp [ptV,wV,limbs,Value.oneCell']) ?_; intro w6 hb6 hw6; have hst6:=hst3.put hw6 hb6; have hcell6:=HCELL.out w6 hst6.bel; have HST6:=zY hst6; clear hst3 hst6 hb6 hw6)
       | (refine wpList_get_box (x:=.tmp 5) HST6.out.y rfl rfl rfl hp rfl point_size ?_)
       | (refine wpList_get_box (x:=.tmp 2) HST6.out.x rfl rfl rfl hp rfl point_size ?_)
       | (refine wpList_get_box (x:=.tmp 6) HST6.out.t rfl rfl rfl hu rfl elem_size ?_))
      refine calls_then (CS.out (sumP y y T) p (sumP_ok HYOK.out HYOK.out OKT.out) KP.out _) ?_;rintro e w7 ⟨rfl,hb7⟩;have hst7:=HST6.out.next hb7;go_wp2_with (refine wpList_put_box (x:=.tmp 5) (cells:=ptV (sumP (sumP y y T) p T)) hst7.y rfl rfl rfl rfl point_size rfl (by simp [ptV,wV,limbs,Value.oneCell']) ?_; intro w8 hb8 hw8; have hst8:=hst7.put hw8 hb8; have HST8:=zY hst8; clear hst7 hst8 hb8 hw8);have hq1:(s:Int) - 1=7 - ((k+1:Nat):Int):=by have:=HS.out; omega
      refine ⟨⟨k+1,by have:=HK.out; omega,by rw [hq1],?_⟩,by simp [intOf]⟩;rw [HBIT.out];exact HST8.out
    ·obtain rfl:k=8:=by omega
     have hend:pmB T p cur b 8=pmL T p L (j+1):=by
      rw [pmL,← HCUR.out,HB.out,HLL.out,show m - 1 - j=q by have:=HQ.out; omega]
     rw [hend] at hst;have hq1:(q:Int) - 1=(m:Int) - 1 - ((j+1:Nat):Int):=by have:=HQ.out; omega
     have HQ1:=zY hq1;have HST:=zY hst;clear hst hend hq1 hk hltk;go_wp2_with fail;exact ⟨⟨j+1,HJ.out,by rw [HQ1.out],HST.out⟩,by simp [intOf]⟩
  ·obtain rfl:j=m:=by omega
   have hpi:(j:Int) - 1 - (j:Int)=-1:=by omega
   rw [hpi];have HST:=zY hst;clear hst hpi hlt
   go_wp2_with (first
    | (refine wpList_get_box (x:=.tmp 5) HST.out.y rfl rfl rfl hp rfl point_size ?_)
    | (refine wpList_put_box (x:=.tmp 4) (cells:=ptV (pmL T p L j)) HST.out.z rfl rfl rfl rfl point_size rfl (by simp [ptV,wV,limbs,Value.oneCell']) ?_; intro w6 hb6 hw6))
   refine bodyPost_ret (results_box (P:=Tryd.prog) rfl rfl hb6 hp rfl point_size) rfl ⟨rfl,?_⟩;exact hw6.below HST.out.bel HST.out.lr HST.out.bel.size
end Go.Proofs.YtdgheahbafnboaaDoor
/-
  Walk: a point's bytes.
-/
namespace Go.Proofs.YtdgheahbafnboaaDoor
set_option linter.unusedSimpArgs false
set_option linter.unusedVariables false
open Go.RowKit
def oddP (p:Pt4):Bool:=decide ((mulE p.x (invE p.z)).val%PN%2=1)
def bytP (p:Pt4):List Nat :=
 let l:=byN (leastE (mulE p.y (invE p.z))).val
 if oddP p then l.set 31 (l.getD 31 0 ||| 128) else l
def PbyPost (p:Pt4) (w:World) (e:Ending) (w':World):Prop :=
 ∃ o,e=.returned (.slice (some ⟨o,0,none⟩) 32 32)∧w.heap.size≤o∧Blk w' o 5 (bnV (bytP p)).toArray∧Below w.heap.size w w'
theorem byN_31 (N:Nat):(byN N).getD 31 0<256:=dg_getD (byN_lt N) 31
set_option maxRecDepth 100000 in
set_option maxHeartbeats 2000000 in
theorem pbytes_any (p:Pt4) (hkp:p.Ok) (w:World):Calls Tryd.prog 19 #[.agg (ptV p)] w (PbyPost p w):=by
 have hu:=Tryd.underlying39;have hp:=Tryd.underlying41;obtain ⟨I,hI⟩:∃ I,I=invE p.z:=⟨_,rfl⟩;have okI:I.Ok:=by rw [hI]; exact invE_ok hkp.z
 obtain ⟨V,hV⟩:∃ V,V=(leastE (mulE p.y I)).val:=⟨_,rfl⟩;obtain ⟨ob,hob⟩:∃ ob,ob=oddP p:=⟨_,rfl⟩;have hres:bytP p=if ob then (byN V).set 31 ((byN V).getD 31 0 ||| 128) else byN V:=by rw [hob,hV,hI]; rfl
 have cI:∀ u,Calls Tryd.prog 40 #[.agg (eV p.z)] u (ElemPost I u):=fun u=>by rw [hI]; exact inv_any p.z hkp.z u
 have cB:∀ u,Calls Tryd.prog 42 #[.agg (eV (mulE p.y I))] u (BytesPost V u):=fun u=>by rw [hV]; exact bytes_any _ u (mul_ok hkp.y okI).big
 have cO:∀ u,Calls Tryd.prog 43 #[.agg (eV (mulE p.x I))] u (BoolPost ob u):=fun u=>by
  have h:=odd_c (mulE p.x I) (mul_ok hkp.x okI) u;rw [show decide ((mulE p.x I).val%PN%2=1)=ob by rw [hob,hI]; rfl] at h;exact h
 have CI:=zY cI;have CB:=zY cB;have CO:=zY cO;have HRES:=zY hres;have CY:=zY (fun u=>mul_c p.y I u hkp.y okI);have CX:=zY (fun u=>mul_c p.x I u hkp.x okI);have HX0:=zY (Blk.new w 41 (ptV p));have HB0:=zY (below_new w (.cells (ptV p) 41));clear hI okI hV hob hres cI cB cO hkp;go_enter Tryd.func19,Tryd.ntmps19;go_wp2_with (refine wpList_get_part (x:=.tmp 5) (n:=5) (r:=eV p.z) HX0.out (by rw [ptV_size]; decide) rfl rfl rfl rfl hu rfl elem_size ?_);refine calls_then (CI.out _) ?_;rintro e w1 ⟨rfl,hb1⟩;have HX1:=zY (HX0.out.below hb1 HX0.out.lt);have HB1:=zY (HB0.out.trans (hb1.mono HB0.out.size));clear hb1 HX0 HB0
 go_wp2_with (first
  | (refine wpList_put_box (x:=.tmp 3) (cells:=eV I) (Blk.new _ _ _) rfl rfl rfl rfl elem_size rfl (by simp [eV,wV,limbs,Value.oneCell']) ?_; intro w2 hb2 hw2; have hk2:=box_low hw2; have HI2:=zY hb2; have HX2:=zY (HX1.out.below hk2 HX1.out.lt); have HB2:=zY (HB1.out.trans (hk2.mono HB1.out.size)); clear hb2 hw2 hk2 HX1 HB1)
  | (refine wpList_get_part (x:=.tmp 8) (n:=5) (r:=eV p.y) HX2.out (by rw [ptV_size]; decide) rfl rfl rfl rfl hu rfl elem_size ?_)
  | (refine wpList_get_box (x:=.tmp 3) HI2.out rfl rfl rfl hu rfl elem_size ?_))
 refine calls_then (CY.out _) ?_;rintro e w3 ⟨rfl,hb3⟩;have HX3:=zY (HX2.out.below hb3 HX2.out.lt);have HI3:=zY (HI2.out.below hb3 HI2.out.lt);have HB3:=zY (HB2.out.trans (hb3.mono HB2.out.size));clear hb3 HX2 HB2 HI2;generalize w1.heap.size=gi at *;go_wp2_with fail;refine calls_then (CB.out _) ?_;rintro e w4 ⟨o,rfl,hlo,hblk,hb4⟩;have HX4:=zY (HX3.out.below hb4 HX3.out.lt);have HI4:=zY (HI3.out.below hb4 HI3.out.lt);have HLO:=zY (Nat.le_trans HB3.out.size hlo);have HB4:=zY (HB3.out.trans (hb4.mono HB3.out.size));have HO4:=zY hblk;clear hb4 hlo hblk HX3 HI3 HB3
 go_wp2_with (first
  | (refine wpList_get_part (x:=.tmp 13) (n:=5) (r:=eV p.x) HX4.out (by rw [ptV_size]; decide) rfl rfl rfl rfl hu rfl elem_size ?_)
  | (refine wpList_get_box (x:=.tmp 3) HI4.out rfl rfl rfl hu rfl elem_size ?_))
 refine calls_then (CX.out _) ?_;rintro e w5 ⟨rfl,hb5⟩;have HLO5:=zY HLO.out;have HO5:=zY (HO4.out.below hb5 HO4.out.lt);have HB5:=zY (HB4.out.trans (hb5.mono HB4.out.size));clear hb5 HX4 HI4 HB4 HO4;go_wp2_with fail;refine calls_then (CO.out _) ?_;rintro e w6 ⟨rfl,hb6⟩;have HO6:=zY (HO5.out.below hb6 HO5.out.lt);have HB6:=zY (HB5.out.trans (hb6.mono HB5.out.size));clear hb6 HB5 HO5;obtain ⟨x,hx⟩:∃ x,x=(byN V).getD 31 0:=⟨_,rfl⟩;have hxl:x<256:=by rw [hx]; exact byN_31 V
 have hor:=or8 (a:=x) (b:=128) hxl (by decide);have hc:=bnV_get (l:=byN V) (k:=31) (by rw [byN_length]; decide);rw [← hx] at hc;have d0:=HO6.out.cell 31;rw [hc] at d0;have q0:=HO6.out.free 31;rw [← hx] at HRES;obtain ⟨y,hy⟩:∃ y,y=x ||| 128:=⟨_,rfl⟩;rw [← hy] at hor HRES;have hor':bits .or .u8 (x:Int) 128=(y:Int):=hor;have hx256:(x:Int)<256:=by omega
 clear hx hxl hc hy hor
 cases ob
 ·go_wp2_with fail;go_ret;refine ⟨o,rfl,HLO5.out,?_,HB6.out⟩;rw [HRES.out];exact HO6.out
 ·go_wp2_with fail;go_ret;have h:=blk_setCell_at (i:=31) HO6.out (.int .u8 (y:Int));rw [bnV_set] at h;refine ⟨o,rfl,HLO5.out,?_,(wrote_setCell_at _ _ _ _).below HB6.out HLO5.out HB6.out.size⟩;rw [HRES.out];exact h
end Go.Proofs.YtdgheahbafnboaaDoor
/-
  Walk: the curve's Base.
-/
namespace Go.Proofs.YtdgheahbafnboaaDoor
set_option linter.unusedSimpArgs false
set_option linter.unusedVariables false
open Go.RowKit
def baseP:Pt4:=ofP (knownE bxL) (knownE byL)
theorem baseP_ok:baseP.Ok:=ofP_ok (knownE_ok _) (knownE_ok _)
def fillB (k:Nat):List Nat:=List.replicate k 102++List.replicate (32 - k) 0
theorem fillB_set:∀ k,k<32→(fillB k).set k 102=fillB (k+1):=by decide
theorem fillB_len:∀ k,k<33→(fillB k).length=32:=by decide
theorem fillB_end:(fillB 32).set 31 88=byL:=by decide
theorem arr_size:(Tryd.prog.info? 57).map (·.size)=some 32:=by kernel_rfl
theorem arr_size0:(Tryd.prog.info? 57).map (·.size)=some (bnV (fillB 0)).toArray.size:=by rw [bnV_len]; exact arr_size
theorem fillB_cells:(bnV (fillB 0)).toArray.all (·.oneCell')=true:=by simp [bnV,fillB,Value.oneCell']
structure BM (w0:World) (r gx ga:Nat) (x:E5) (l:List Nat) (u:World):Prop where
 bel:Below w0.heap.size w0 u
 z:Blk u r 41 (ptV zP)
 x:Blk u gx 39 (eV x)
 a:Blk u ga 57 (bnV l).toArray
 la:w0.heap.size≤ga
 lr:w0.heap.size≤r
 ra:r≠ga
 xa:gx≠ga
theorem BM.put {w0 u u':World} {r gx ga:Nat} {x:E5} {l l':List Nat} (k:BM w0 r gx ga x l u) (hw:Wrote ga u u') (hb:Blk u' ga 57 (bnV l').toArray):BM w0 r gx ga x l' u' :=
 ⟨hw.below k.bel k.la k.bel.size,hw.blk k.z k.ra,hw.blk k.x k.xa,hb,k.la,k.lr,k.ra,k.xa⟩
theorem BM.next {w0 u u':World} {r gx ga:Nat} {x:E5} {l:List Nat} (k:BM w0 r gx ga x l u) (hb:Below u.heap.size u u'):BM w0 r gx ga x l u' :=
 ⟨k.bel.trans (hb.mono k.bel.size),k.z.below hb k.z.lt,k.x.below hb k.x.lt,k.a.below hb k.a.lt,k.la,k.lr,k.ra,k.xa⟩
theorem BM.drew {w0 u:World} {r gx ga:Nat} {x:E5} {l:List Nat} (k:BM w0 r gx ga x l u):BM w0 r gx ga x l u.drew:=⟨k.bel.drew,k.z,k.x,k.a,k.la,k.lr,k.ra,k.xa⟩
set_option maxRecDepth 100000 in
set_option maxHeartbeats 2000000 in
theorem base_any (w:World):Calls Tryd.prog 17 #[] w (PtPost baseP w):=by
 have hu:=Tryd.underlying39;have hp:=Tryd.underlying41;have hua:=Tryd.underlying57;obtain ⟨X,hX⟩:∃ X,X=knownE bxL:=⟨_,rfl⟩;obtain ⟨Y,hY⟩:∃ Y,Y=knownE byL:=⟨_,rfl⟩;have okX:X.Ok:=by rw [hX]; exact knownE_ok _
 have okY:Y.Ok:=by rw [hY]; exact knownE_ok _
 have hbase:baseP=ofP X Y:=by rw [hX,hY]; rfl
 have CX:=zY (show ∀ u,Calls Tryd.prog 34 #[.agg (bnV bxL).toArray] u (ElemPost X u) from fun u=>by rw [hX]; exact bx_known u);have cy:∀ u,Calls Tryd.prog 34 #[.agg (bnV byL).toArray] u (ElemPost Y u):=fun u=>by rw [hY]; exact by_known u
 have hsz:(Tryd.prog.info? 57).map (·.size)=some (bnV byL).toArray.size:=by rw [bnV_len]; exact arr_size
 have HSZ:=zY hsz;have CY:=zY cy;have CO:=zY (fun u=>pof_any X Y okX okY u);have HBASE:=zY hbase;have HX0:=zY (Blk.new w 41 (ptV zP));have HB0:=zY (below_new w (.cells (ptV zP) 41));clear hX hY okX okY hbase cy hsz;go_enter Tryd.func17,Tryd.ntmps17;go_wp2_with fail;refine calls_then (CX.out _) ?_;rintro e w1 ⟨rfl,hb1⟩;have HX1:=zY (HX0.out.below hb1 HX0.out.lt);have HB1:=zY (HB0.out.trans (hb1.mono HB0.out.size));clear hb1 HX0 HB0
 go_wp2_with (first
  | (refine wpList_put_box (x:=.tmp 1) (cells:=eV X) (Blk.new _ _ _) rfl rfl rfl rfl elem_size rfl (by simp [eV,wV,limbs,Value.oneCell']) ?_; intro w2 hb2 hw2; have hk2:=box_low hw2; have HE2:=zY hb2; have HX2:=zY (HX1.out.below hk2 HX1.out.lt); have HB2:=zY (HB1.out.trans (hk2.mono HB1.out.size)); clear hb2 hw2 hk2 HB1)
  | (refine wpList_put_box (x:=.tmp 2) (cells:=(bnV (fillB 0)).toArray) (Blk.new _ _ _) rfl rfl rfl rfl arr_size0 rfl fillB_cells ?_; intro w3 hb3 hw3; have hk3:=box_low hw3; have HST:=zY (show BM w w.heap.size w1.heap.size w2.heap.size X (fillB 0) w3 from ⟨HB2.out.trans (hk3.mono HB2.out.size),HX2.out.below hk3 HX2.out.lt,HE2.out.below hk3 HE2.out.lt,hb3,HB2.out.size,Nat.le_refl _,Nat.ne_of_lt HX2.out.lt,Nat.ne_of_lt HE2.out.lt⟩); clear hb3 hw3 hk3 HB2 HX2 HE2))
 generalize w2.heap.size=ga at *;generalize w1.heap.size=gx at *;generalize w.heap.size=r at HST ⊢
 go_loopw [7] (fun i wr=>∃ k:Nat,k≤32∧i=.int .i64 k∧BM w r gx ga X (fillB k) wr) (fun i _=>32 - (intOf i).toNat)
 case atStart=>exact ⟨0,by omega,rfl,HST.out⟩
 case round =>
  clear HST;obtain ⟨k,hk,rfl,hst⟩:=hrel
  by_cases hlt:k<32
  ·have hlt':(k:Int)<32:=by omega
   have HST:=zY hst;clear hst;go_wp2_with (refine wpList_put_cell (x:=.tmp 11) (i:=k) (v:=.int .u8 102) HST.out.a rfl rfl rfl rfl u8_size (by rw [bnV_len,fillB_len k (by omega)]; exact hlt) rfl ?_; intro w5 hb5 hw5; have hst5:=HST.out.put (l':=fillB (k+1)) hw5 (by rw [show (Value.int IntKind.u8 102)=.int .u8 ((102:Nat):Int) from rfl,bnV_set,fillB_set k hlt] at hb5; exact hb5); have HST5:=zY hst5; clear hst5 hb5 hw5);exact ⟨⟨k+1,by omega,by go_num,HST5.out⟩,by simp [intOf]; omega⟩
  ·obtain rfl:k=32:=by omega
   have HST:=zY hst;clear hst hlt hk;go_wp2_with (refine wpList_put_cell (x:=.tmp 13) (i:=31) (v:=.int .u8 88) HST.out.a rfl rfl rfl rfl u8_size (by rw [bnV_len,fillB_len 32 (by omega)]; decide) rfl ?_; intro w5 hb5 hw5; have hst5:=HST.out.put (l':=byL) hw5 (by rw [show (Value.int IntKind.u8 88)=.int .u8 ((88:Nat):Int) from rfl,bnV_set,fillB_end] at hb5; exact hb5); have HST5:=zY hst5; clear hst5 hb5 hw5);have HC0:=HST5.out.drew;clear HST HST5;refine wp_region_det (fun u=>BM w r gx ga X byL u) (fun u=>Blk u r 41 (ptV (ofP X Y))∧Below w.heap.size w u) [(0,some 14),(1,some 15),(2,some 16),(3,some 17),(4,none)] (by kernel_rfl) (by kernel_rfl) (by decide) (by kernel_rfl) (fun _=>rfl) HC0 ?_;apply DetL.next
   ·apply dP [];exact fun _=>rfl;rfl;rintro vals - w1 hC1 E hE;simp only [sP] at hE ⊢;refine wpList_get_box hC1.x rfl rfl rfl hu rfl elem_size ?_;go_wp2_with fail;exact .mk (hE _ hC1)
   apply DetL.next
   ·apply dP [];exact fun _=>rfl;rfl;rintro vals ⟨-,-⟩ w1 hC1 E hE;simp only [sP] at hE ⊢;refine wpList_get_box hC1.a rfl rfl rfl hua rfl HSZ.out ?_;go_wp2_with fail;exact .mk (hE _ hC1)
   apply DetL.next
   ·apply dP [(1,some 15)];exact fun _=>rfl;rfl;rintro vals ⟨⟨-,-⟩,f1⟩ w1 hC1 E hE;simp only [sP,f1] at hE ⊢;clear f1;go_wp2_with fail;refine calls_then (CY.out _) ?_;rintro e w2 ⟨rfl,hb2⟩;go_wp2_with fail;exact .mk (hE _ (hC1.next hb2))
   apply DetL.next
   ·apply dP [(0,some 14),(2,some 16),(2,some 16)];exact fun _=>rfl;rfl;rintro vals ⟨⟨⟨-,f0⟩,-⟩,f2⟩ w1 hC1 E hE;simp only [sP,f0,f2] at hE ⊢;clear f0 f2;go_wp2_with fail;refine calls_then (CO.out _) ?_;rintro e w2 ⟨rfl,hb2⟩;go_wp2_with fail;exact .mk (hE _ (hC1.next hb2))
   apply DetL.last (v:=undef)
   ·apply dP [(3,some 17),(3,some 17),(0,some 14),(1,some 15),(2,some 16),(3,some 17)];exact fun _=>rfl;rfl;rintro vals ⟨⟨⟨⟨-,f0⟩,f1⟩,f2⟩,f3⟩ w1 hC1 E hE;simp only [sP,f0,f1,f2,f3] at hE ⊢;clear f0 f1 f2 f3;refine wpList_put_box (cells:=ptV (ofP X Y)) hC1.z rfl rfl rfl rfl point_size rfl (by simp [ptV,wV,limbs,Value.oneCell']) ?_;intro w6 hb6 hw6;go_wp2_with fail;exact .mk (hE _ ⟨hb6,hw6.below hC1.bel hC1.lr hC1.bel.size⟩)
   rintro vals ⟨⟨⟨⟨⟨-,f0⟩,f1⟩,f2⟩,f3⟩,f4⟩ w1 hC1;simp only [sP,f0,f1,f2,f3,f4];clear f0 f1 f2 f3 f4;clear HC0;go_wp2_with fail;refine bodyPost_ret (results_box (P:=Tryd.prog) rfl rfl hC1.1 hp rfl point_size) rfl ⟨by rw [HBASE.out],hC1.2⟩
end Go.Proofs.YtdgheahbafnboaaDoor
/-
  Plain: p is prime; the powers of p - 1 are 1.
-/
namespace Go.Proofs.YtdgheahbafnboaaDoor
set_option linter.unusedSimpArgs false
set_option linter.unusedVariables false
open Go.RowKit
def Pr (p:Nat):Prop:=2≤p∧∀ d,d ∣ p→d=1∨d=p
theorem pr_ex:∀ n,2≤n→∃ r,Pr r∧r ∣ n:=fun n=>Nat.strongRecOn n fun n ih hn=>by
 by_cases h:∀ d,d ∣ n→d=1∨d=n
 ·exact ⟨n,⟨hn,h⟩,Nat.dvd_refl n⟩
 ·obtain ⟨d,hd⟩:=Classical.not_forall.1 h;obtain ⟨h1,h2⟩:=Classical.not_imp.1 hd;have h3:0<d:=Nat.pos_of_dvd_of_pos h1 (by omega);have h4:=Nat.le_of_dvd (by omega) h1;obtain ⟨r,hr,hrd⟩:=ih d (by omega) (by omega);exact ⟨r,hr,Nat.dvd_trans hrd h1⟩
theorem pr_cop {p a:Nat} (hp:Pr p) (h:¬ p ∣ a):Nat.gcd p a=1:=by
 rcases hp.2 _ (Nat.gcd_dvd_left p a) with h1 | h1
 ·exact h1
 ·exact absurd (h1▸Nat.gcd_dvd_right p a) h
theorem pr_dvd {p a b:Nat} (hp:Pr p) (h:p ∣ a*b):p ∣ a∨p ∣ b:=by
 by_cases ha:p ∣ a
 ·exact .inl ha
 ·exact .inr (Nat.Coprime.dvd_of_dvd_mul_left (pr_cop hp ha) h)
def ch:Nat→Nat→Nat
 | _,0=>1
 | 0,_+1=>0
 | n+1,k+1=>ch n k+ch n (k+1)
theorem ch_gt:∀ n k,n<k→ch n k=0
 | _,0,h=>absurd h (Nat.not_lt_zero _)
 | 0,_+1,_=>rfl
 | n+1,k+1,h=>by rw [ch,ch_gt n k (by omega),ch_gt n (k+1) (by omega)]
theorem ch_self:∀ n,ch n n=1
 | 0=>rfl
 | n+1=>by rw [ch,ch_self n,ch_gt n (n+1) (by omega)]
theorem ch_mul:∀ n k,(k+1)*ch (n+1) (k+1)=(n+1)*ch n k
 | 0,0=>rfl
 | 0,k+1=>by simp [ch]
 | n+1,0=>by
  have h:=ch_mul n 0;rw [ch,ch] at *;simp only [ch] at h ⊢;omega
 | n+1,k+1=>by
  have h1:=ch_mul n k;have h2:=ch_mul n (k+1);have e:ch (n+1+1) (k+1+1)=ch (n+1) (k+1)+ch (n+1) (k+1+1):=rfl;have e2:ch (n+1) (k+1)=ch n k+ch n (k+1):=rfl;rw [e,Nat.mul_add,h2];have e3:(k+1+1)*ch (n+1) (k+1)=(n+1)*ch n k+ch (n+1) (k+1):=by rw [Nat.add_mul,h1,Nat.one_mul]
  have e4:(n+1+1)*ch (n+1) (k+1)=(n+1)*ch n k+(n+1)*ch n (k+1)+ch (n+1) (k+1):=by
   rw [Nat.add_mul,Nat.one_mul]
   conv=>lhs; lhs; rw [e2]
   rw [Nat.mul_add]
  rw [e3,e4];omega
def bs (n a:Nat):Nat→Nat
 | 0=>0
 | k+1=>bs n a k+ch n k*a^k
theorem bs_step (n a:Nat):∀ k,bs (n+1) a (k+1)=bs n a (k+1)+a*bs n a k
 | 0=>by cases n <;> simp [bs,ch]
 | k+1=>by
  have ih:=bs_step n a k;have e1:bs (n+1) a (k+1+1)=bs (n+1) a (k+1)+(ch n k+ch n (k+1))*a^(k+1):=rfl;have e2:bs n a (k+1+1)=bs n a (k+1)+ch n (k+1)*a^(k+1):=rfl;have e3:bs n a (k+1)=bs n a k+ch n k*a^k:=rfl;have e4:a*(ch n k*a^k)=ch n k*a^(k+1):=by rw [Nat.pow_succ,Nat.mul_left_comm,Nat.mul_comm a]
  have e5:a*bs n a (k+1)=a*bs n a k+ch n k*a^(k+1):=by rw [e3,Nat.mul_add,e4]
  rw [e1,ih,e2,Nat.add_mul,e5];omega
theorem bs_pow (a:Nat):∀ n,(a+1)^n=bs n a (n+1)
 | 0=>by simp [bs,ch]
 | n+1=>by
  have ih:=bs_pow a n;have e:bs n a (n+1+1)=bs n a (n+1):=by rw [bs,ch_gt n (n+1) (by omega)]; simp
  rw [Nat.pow_succ,ih,bs_step,e,Nat.mul_add,Nat.mul_one,Nat.mul_comm];omega
theorem ch_dvd {p:Nat} (hp:Pr p) (k:Nat) (h1:0<k) (h2:k<p):p ∣ ch p k:=by
 obtain ⟨q,rfl⟩:∃ q,p=q+1:=⟨p - 1,by have:=hp.1; omega⟩;obtain ⟨j,rfl⟩:∃ j,k=j+1:=⟨k - 1,by omega⟩;have h:=ch_mul q j
 rcases pr_dvd hp (show q+1 ∣ (j+1)*ch (q+1) (j+1) from ⟨_,h⟩) with h3 | h3
 ·exact absurd (Nat.le_of_dvd (by omega) h3) (by omega)
 ·exact h3
theorem bs_mod {p:Nat} (hp:Pr p) (a:Nat):∀ k,k<p→bs p a (k+1)%p=1
 | 0,_=>by
  have h2:=hp.1;rw [bs,bs];simp only [ch,Nat.pow_zero];exact Nat.mod_eq_of_lt (by omega)
 | k+1,h=>by
  have ih:=bs_mod hp a k (by omega);obtain ⟨c,hc⟩:=ch_dvd hp (k+1) (by omega) h;have e:bs p a (k+1+1)=bs p a (k+1)+ch p (k+1)*a^(k+1):=rfl;rw [e,hc,Nat.mul_assoc,Nat.add_mul_mod_self_left];exact ih
theorem pow_succ_mod {p:Nat} (hp:Pr p) (a:Nat):(a+1)^p%p=(a^p+1)%p:=by
 have h2:=hp.1;obtain ⟨q,hq⟩:∃ q,p=q+1:=⟨p - 1,by omega⟩;have h:=bs_mod hp a q (by omega);rw [← hq] at h;have e:bs p a (p+1)=bs p a p+ch p p*a^p:=rfl;rw [bs_pow,e,ch_self,Nat.one_mul,Nat.add_mod,h,Nat.add_comm,← Nat.add_mod_mod,Nat.mod_eq_of_lt (show 1<p by omega),Nat.mod_add_mod]
theorem fermat0 {p:Nat} (hp:Pr p):∀ a,a^p%p=a%p
 | 0=>by rw [Nat.zero_pow (by have:=hp.1; omega)]
 | a+1=>by rw [pow_succ_mod hp,Nat.add_mod,fermat0 hp a,← Nat.add_mod]
theorem fermat {p:Nat} (hp:Pr p) (a:Nat) (h:¬ p ∣ a):a^(p - 1)%p=1:=by
 have h2:=hp.1;have h0:=fermat0 hp a;obtain ⟨q,rfl⟩:∃ q,p=q+1:=⟨p - 1,by omega⟩;rw [Nat.add_sub_cancel];have ha:0<a:=Nat.pos_of_ne_zero fun e=>h (e▸Nat.dvd_zero _);have hpos:0<a^q:=Nat.pow_pos ha
 have hd:q+1 ∣ a*(a^q - 1):=by
  have h1:=Nat.sub_mod_eq_zero_of_mod_eq h0;rw [Nat.pow_succ,Nat.mul_comm] at h1;rw [Nat.mul_sub,Nat.mul_one];exact Nat.dvd_of_mod_eq_zero h1
 rcases pr_dvd hp hd with h3 | h3
 ·exact absurd h3 h
 ·obtain ⟨c,hc⟩:=h3;rw [show a^q=1+(q+1)*c by omega,Nat.add_mul_mod_self_left];exact Nat.mod_eq_of_lt (by omega)
theorem pw_gcd {r c:Nat} (hr:2≤r):∀ m n,c^m%r=1→c^n%r=1→c^Nat.gcd m n%r=1:=fun m n=>by
 refine Nat.gcd.induction (P:=fun m n=>c^m%r=1→c^n%r=1→c^Nat.gcd m n%r=1) m n ?_ ?_
 ·intro n _ h;rw [Nat.gcd_zero_left]; exact h
 ·intro m n _ ih h1 h2;rw [Nat.gcd_rec];refine ih ?_ h1;have e:c^n=(c^m)^(n/m)*c^(n%m):=by rw [← Nat.pow_mul,← Nat.pow_add,Nat.div_add_mod]
  rw [e,Nat.mul_mod,Nat.pow_mod,h1,Nat.one_pow,Nat.mod_eq_of_lt (show 1<r by omega),Nat.one_mul,Nat.mod_mod] at h2;exact h2
theorem pock_dvd {q A N r:Nat} (hq:Pr q) (hN:N=q*A+1) (h1:2^(q*A)%N=1) (hg:Nat.gcd (2^A%N+(N - 1)) N=1) (hr:Pr r) (hd:r ∣ N):q ∣ r - 1:=by
 have hr2:=hr.1;have hq2:=hq.1;obtain ⟨c,hc⟩:∃ c,c=2^A:=⟨_,rfl⟩
 have e1:c^q%r=1:=by
  rw [hc,← Nat.pow_mul,Nat.mul_comm,← Nat.mod_mod_of_dvd _ hd,h1,Nat.mod_eq_of_lt (by omega)]
 have hne:c%r≠1:=fun h=>by
  have h3:r ∣ 2^A%N+(N - 1):=by
   apply Nat.dvd_of_mod_eq_zero;have h5:2^A%N%r=1:=by rw [Nat.mod_mod_of_dvd _ hd,← hc]; exact h
   have h4:(1+(N - 1))%r=0:=by rw [show 1+(N - 1)=N by omega]; exact Nat.mod_eq_zero_of_dvd hd
   rw [← Nat.mod_add_mod,h5];exact h4
  have h5:=Nat.dvd_gcd h3 hd;rw [hg] at h5;have:=Nat.le_of_dvd (by omega) h5;omega
 have hnd:¬ r ∣ c:=fun h=>by
  have h3:c^q%r=0:=by rw [Nat.pow_mod,Nat.mod_eq_zero_of_dvd h,Nat.zero_pow (by omega)]; exact Nat.zero_mod r
  omega
 have e2:=fermat hr c hnd;apply Classical.byContradiction;intro hn;have h3:=pw_gcd hr2 q (r - 1) e1 e2;rw [pr_cop hq hn,Nat.pow_one] at h3;exact hne h3
theorem pock {q A N:Nat} (hq:Pr q) (hN:N=q*A+1) (hN2:2≤N) (h1:2^(q*A)%N=1) (hg:Nat.gcd (2^A%N+(N - 1)) N=1) (hB:A/q=0∨A/q+1<A%q):Pr N:=by
 have hq2:=hq.1;obtain ⟨r,hr,hd⟩:=pr_ex N hN2;obtain ⟨s,hs⟩:=pock_dvd hq hN h1 hg hr hd;have hr2:=hr.1;have hrs:r=q*s+1:=by omega
 obtain ⟨m,hm⟩:=hd
 have e:q*A+1=q*(s*m)+m:=by
  rw [← hN,hm,hrs,Nat.add_mul,Nat.one_mul,Nat.mul_assoc]
 have hle:s*m≤A:=by
  apply Nat.le_of_not_lt;intro h;have h2:q*(A+1)≤q*(s*m):=Nat.mul_le_mul_left q h;rw [Nat.mul_add] at h2;omega
 obtain ⟨t,ht⟩:∃ t,A=s*m+t:=⟨A - s*m,by omega⟩;have hmt:m=q*t+1:=by rw [ht,Nat.mul_add] at e; omega
 by_cases ht0:t=0
 ·rw [ht0,Nat.mul_zero,Nat.zero_add] at hmt;rw [hm,hmt,Nat.mul_one]; exact hr
 ·exfalso
  have hs0:s≠0:=fun h=>by rw [h,Nat.mul_zero] at hrs; omega
  have eA:A=(s+t)+q*(s*t):=by
   rw [ht,hmt,Nat.mul_add,Nat.mul_one,Nat.mul_left_comm]; omega
  have hst:s+t≤s*t+1:=by
   obtain ⟨s',rfl⟩:∃ s',s=s'+1:=⟨s - 1,by omega⟩;obtain ⟨t',rfl⟩:∃ t',t=t'+1:=⟨t - 1,by omega⟩;rw [Nat.add_mul,Nat.mul_add];omega
  have hpos:0<s*t:=Nat.mul_pos (Nat.pos_of_ne_zero hs0) (Nat.pos_of_ne_zero ht0);have hdiv:A/q=(s+t)/q+s*t:=by rw [eA,Nat.add_mul_div_left _ _ (by omega)]
  have hmod:A%q=(s+t)%q:=by rw [eA,Nat.add_mul_mod_self_left]
  have hlt:A%q<q:=Nat.mod_lt _ (by omega);generalize (s+t)/q=z1 at hdiv;generalize A/q=z2 at hdiv hB;generalize A%q=z3 at hmod hB hlt;generalize s*t=z4 at hst hpos hdiv
  rcases hB with h | h
  ·omega
  ·have h3:s+t<q:=by omega
   rw [Nat.mod_eq_of_lt h3] at hmod;omega
theorem pr_trial (n k:Nat) (h2:2≤n) (hk:n<k*k) (h:∀ d,d<k→2≤d→n%d≠0):Pr n:=by
 refine ⟨h2,fun d hd=>?_⟩;apply Classical.byContradiction;intro hn;obtain ⟨e,he⟩:=hd;have hd0:d≠0:=fun h=>by rw [h,Nat.zero_mul] at he; omega
 have hd1:d≠1:=fun h=>hn (.inl h);have he0:e≠0:=fun h=>by rw [h,Nat.mul_zero] at he; omega
 have he1:e≠1:=fun h=>hn (.inr (by rw [he,h,Nat.mul_one]))
 by_cases hdk:d<k
 ·exact h d hdk (by omega) (by rw [he]; exact Nat.mul_mod_right d e)
 ·by_cases hek:e<k
  ·exact h e hek (by omega) (by rw [he]; exact Nat.mul_mod_left d e)
  ·have:=Nat.mul_le_mul (Nat.le_of_not_lt hdk) (Nat.le_of_not_lt hek);omega
theorem two_pow {N E:Nat} (k:Nat) (hk:E<256^k):2^E%N=pm N 2 ((List.range k).map fun j=>E/256^j%256):=by
 rw [pm_eq,leV_mod,Nat.mod_eq_of_lt hk]
theorem pockD {q A N:Nat} (k l:Nat) (hq:Pr q) (hN:N=q*A+1) (hN2:2≤N) (hk:N<256^k) (hl:A<256^l) (h1:pm N 2 ((List.range k).map fun j=>(N - 1)/256^j%256)=1) (hg:Nat.gcd (pm N 2 ((List.range l).map fun j=>A/256^j%256)+(N - 1)) N=1) (hB:A/q=0∨A/q+1<A%q):Pr N:=by
 refine pock hq hN hN2 ?_ ?_ hB
 ·rw [show q*A=N - 1 by omega,two_pow k (by omega)]; exact h1
 ·rw [two_pow l hl]; exact hg
theorem prime1:Pr 991:=pr_trial 991 32 (by decide) (by decide) (by decide)
theorem prime2:Pr 8574133:=pockD (A:=8652) 3 3 prime1 (by decide) (by decide) (by decide) (by decide) (by decide) (by decide) (by decide)
theorem prime3:Pr 1919519569386763:=pockD (A:=223873314) 7 4 prime2 (by decide) (by decide) (by decide) (by decide) (by decide) (by decide) (by decide)
theorem prime4:Pr 75445702479781427272750846543864801:=pockD (A:=39304471641247389600) 15 9 prime3 (by decide) (by decide) (by decide) (by decide) (by decide) (by decide) (by decide)
theorem prime5:Pr 74058212732561358302231226437062788676166966415465897661863160754340907:=pockD (A:=981609426360740691344999861639072106) 30 15 prime4 (by decide) (by decide) (by decide) (by decide) (by decide) (by decide) (by decide)
theorem prime6:Pr PN:=pockD (A:=781764) 32 3 prime5 (by decide) (by decide) (by decide) (by decide) (by decide) (by decide) (by decide)
theorem fermatP (a:Nat) (h:a%PN≠0):a^(PN - 1)%PN=1:=fermat prime6 a fun hd=>h (Nat.mod_eq_zero_of_dvd hd)
end Go.Proofs.YtdgheahbafnboaaDoor
/-
  Plain: points as four numbers modulo p.
-/
namespace Go.Proofs.YtdgheahbafnboaaDoor
set_option linter.unusedSimpArgs false
set_option linter.unusedVariables false
open Go.RowKit
structure PtN where
 x:Nat
 y:Nat
 z:Nat
 t:Nat
deriving DecidableEq
def sN (a b:Nat):Nat:=(a+b)%PN
def uN (a b:Nat):Nat:=(a+(PN - b%PN))%PN
def mN (a b:Nat):Nat:=a*b%PN
theorem uN_sm (a b:Nat):Sm (uN a b+b) a:=by
 unfold Sm uN;simp only [PN];omega
def Rp (x:E5) (n:Nat):Prop:=Sm x.val n
theorem Rp.add {x y:E5} {a b:Nat} (h:Rp x a) (k:Rp y b):Rp (addE x y) (sN a b):=(sm_add x y).trans (Sm.trans (Sm.add h k) (show Sm (a+b) (sN a b) from (Nat.mod_mod _ _).symm))
theorem Rp.mul {x y:E5} {a b:Nat} (h:Rp x a) (k:Rp y b):Rp (mulE x y) (mN a b):=(sm_mul x y).trans (Sm.trans (Sm.mul h k) (show Sm (a*b) (mN a b) from (Nat.mod_mod _ _).symm))
theorem Rp.sub {x y:E5} {a b:Nat} (hy:y.Ok) (h:Rp x a) (k:Rp y b):Rp (subE x y) (uN a b):=by
 refine Sm.back (c:=b) ?_;exact (((Sm.refl _).add k.symm).trans (sm_sub hy)).trans (h.trans (uN_sm a b).symm)
def sumN (p q:PtN) (w:Nat):PtN :=
 let a:=mN (uN p.y p.x) (uN q.y q.x)
 let b:=mN (sN p.y p.x) (sN q.y q.x)
 let c:=mN (mN p.t w) q.t
 let z:=mN p.z q.z
 let e:=uN b a
 let h:=sN b a
 let f:=uN (sN z z) c
 let g:=sN (sN z z) c
 ⟨mN e f,mN g h,mN f g,mN e h⟩
structure Rep (p:Pt4) (n:PtN):Prop where
 x:Rp p.x n.x
 y:Rp p.y n.y
 z:Rp p.z n.z
 t:Rp p.t n.t
theorem Rep.sum {p q:Pt4} {tw:E5} {m n:PtN} {w:Nat} (hp:p.Ok) (hq:q.Ok) (hw:tw.Ok) (h:Rep p m) (k:Rep q n) (l:Rp tw w):Rep (sumP p q tw) (sumN m n w):=by
 have okA:=mul_ok (sub_ok hp.y hp.x) (sub_ok hq.y hq.x);have okC:=mul_ok (mul_ok hp.t hw) hq.t;have a:=(h.y.sub hp.x h.x).mul (k.y.sub hq.x k.x);have b:=(h.y.add h.x).mul (k.y.add k.x);have c:=(h.t.mul l).mul k.t;have z:=h.z.mul k.z;have e:=b.sub okA a;have hh:=b.add a;have f:=(z.add z).sub okC c;have g:=(z.add z).add c;exact ⟨e.mul f,g.mul hh,f.mul g,e.mul hh⟩
def eqN (p q:PtN):Bool:=decide (mN p.x q.z=mN q.x p.z) && decide (mN p.y q.z=mN q.y p.z)
theorem eqB_rp {x y:E5} {a b:Nat} (hx:x.Ok) (hy:y.Ok) (h:Rp x a) (k:Rp y b):eqB x y=decide (a%PN=b%PN):=by
 rw [eqB,eqE hx.big hy.big,show x.val%PN=a%PN from h,show y.val%PN=b%PN from k]
theorem eqB_mul {x y u v:E5} {a b c d:Nat} (hx:x.Ok) (hy:y.Ok) (hu:u.Ok) (hv:v.Ok) (h:Rp x a) (k:Rp y b) (l:Rp u c) (m:Rp v d):eqB (mulE x y) (mulE u v)=decide (mN a b=mN c d):=by
 rw [eqB_rp (mul_ok hx hy) (mul_ok hu hv) (h.mul k) (l.mul m)];exact decide_eq_decide.mpr (by rw [mN,mN,Nat.mod_mod,Nat.mod_mod])
theorem eqP_rep {p q:Pt4} {m n:PtN} (hp:p.Ok) (hq:q.Ok) (h:Rep p m) (k:Rep q n):eqP p q=eqN m n:=by
 rw [eqP,eqN,eqB_mul hp.x hq.z hq.x hp.z h.x k.z k.x h.z,eqB_mul hp.y hq.z hq.y hp.z h.y k.z k.y h.z]
def dN:Nat:=37095705934669439343138083508754565189542113879843219016388785533085940283555
def bxN:Nat:=15112221349535400772501151409588531511454012693041857206046113283949847762202
def byNN:Nat:=46316835694926478169428394003475163141307993866256225615783033603165251855960
theorem known_val {l:List Nat} {n:Nat} (h1:mayR (toB (revS l 16))=true) (h2:leV (digs (toB (revS l 16)))=n) (h3:n<2^255):(knownE l).val=n:=by
 rw [knownE,readE,if_pos h1,ofN_val,h2,Nat.mod_eq_of_lt h3]
theorem dE_val:dE.val=dN:=known_val (by decide) (by decide) (by decide)
theorem bx_val:(knownE bxL).val=bxN:=known_val (by decide) (by decide) (by decide)
theorem by_val:(knownE byL).val=byNN:=known_val (by decide) (by decide) (by decide)
def pmSN (T:Nat) (p out:PtN) (bit:Nat):PtN:=if bit=1 then sumN (sumN out out T) p T else sumN out out T
def pmBN (T:Nat) (p out:PtN) (b:Nat):Nat→PtN
 | 0=>out
 | j+1=>pmSN T p (pmBN T p out b j) (b/2^(7 - j)%2)
def zeroN:PtN:=⟨0,1,1,0⟩
def pmLN (T:Nat) (p:PtN) (l:List Nat):Nat→PtN
 | 0=>zeroN
 | j+1=>pmBN T p (pmLN T p l j) (l.getD (l.length - 1 - j) 0) 8
theorem rp_nat (n:Nat):Rp (natE n) n:=by rw [Rp,natE_val]; exact Sm.refl n
theorem rp_int (n:Nat):Rp (intE (n:Int)) n:=by rw [intE_nat]; exact rp_nat n
theorem rep_of {x y:E5} {a b:Nat} (h:Rp x a) (k:Rp y b):Rep (ofP x y) ⟨a,b,1,mN a b⟩:=⟨h,k,rp_int 1,h.mul k⟩
theorem rep_zero:Rep zeroP zeroN:=rep_of (rp_int 0) (rp_int 1)
section
variable {T:E5} {w:Nat} {p out:Pt4} {m n:PtN} (hT:T.Ok) (hw:Rp T w) (hp:p.Ok) (h:Rep p m)
include hT hw hp h
theorem rep_S (ho:out.Ok) (k:Rep out n) (bit:Nat):Rep (pmS T p out bit) (pmSN w m n bit):=by
 unfold pmS pmSN
 split
 ·exact Rep.sum (sumP_ok ho ho hT) hp hT (Rep.sum ho ho hT k k hw) h hw
 ·exact Rep.sum ho ho hT k k hw
theorem rep_B (ho:out.Ok) (k:Rep out n) (b:Nat):∀ j,Rep (pmB T p out b j) (pmBN w m n b j)
 | 0=>k
 | j+1=>rep_S hT hw hp h (pmB_ok hT hp ho b j) (rep_B ho k b j) _
theorem rep_L (l:List Nat):∀ j,Rep (pmL T p l j) (pmLN w m l j)
 | 0=>rep_zero
 | j+1=>rep_B hT hw hp h (pmL_ok hT hp l j) (rep_L l j) _ 8
end
def d2N:Nat:=sN dN dN
theorem rp_d2:Rp (addE dE dE) d2N:=by
 have h:Rp dE dN:=by rw [Rp,dE_val]; exact Sm.refl _
 exact h.add h
def baseN:PtN:=⟨bxN,byNN,1,mN bxN byNN⟩
theorem rep_base:Rep baseP baseN:=rep_of (by rw [Rp,bx_val]; exact Sm.refl _) (by rw [Rp,by_val]; exact Sm.refl _)
def mulN (p:PtN) (l:List UInt8):PtN:=pmLN d2N p (digs (l.take 32)) (min l.length 32)
theorem rep_mul {p:Pt4} {m:PtN} (hp:p.Ok) (h:Rep p m) (l:List UInt8):Rep (mulP p l) (mulN m l):=rep_L d2_ok rp_d2 hp h _ _
theorem base_one:eqP (mulP baseP [1]) baseP=true:=by
 rw [eqP_rep (mulP_ok baseP_ok _) baseP_ok (rep_mul baseP_ok rep_base _) rep_base]
 decide
theorem base_zero:eqP baseP zeroP=false:=by
 rw [eqP_rep baseP_ok zeroP_ok rep_base rep_zero]
 decide
end Go.Proofs.YtdgheahbafnboaaDoor
/-
  Walks: the reference's numbers modulo p, by their values.
-/
namespace Go.Proofs.YtdgheahbafnboaaDoor
set_option linter.unusedSimpArgs false
set_option linter.unusedVariables false
open Go.RowKit
def DN (v:Nat):List Value:=dV (digN 32 v)
def NumPost (v:Nat) (w:World) (e:Ending) (w':World):Prop:=∃ A c,e=.returned (.slice A 32 c)∧32≤c∧Rd w' w'.heap.size A (DN v)∧Below w.heap.size w w'
theorem num_of {v:Nat} {w:World} {e:Ending} {w':World} (h:DigPost (digN 32 v) w e w'):NumPost v w e w':=by
 obtain ⟨A,c,h1,h2,h3,h4⟩:=h;rw [digN_length] at h1 h2;exact ⟨A,c,h1,h2,h3,h4⟩
theorem pn_pos:0<PN:=by decide
theorem pn_big:PN<256^32:=by decide
theorem lev_n {a:Nat} (h:a<PN):leV (digN 32 a)=a:=digN_val 32 a (Nat.lt_trans h pn_big)
theorem nmul {a b:Nat} (ha:a<PN) (hb:b<PN) {A B:Option Addr} {c d:Nat} {u:World} (h:Rd u u.heap.size A (DN a)) (k:Rd u u.heap.size B (DN b)) :
  Calls Tryd.prog 53 #[.slice A 32 c,.slice B 32 d] u (NumPost (a*b%PN) u):=by
 have e:=rmul_any (digN 32 a) (digN 32 b) (digN_dg _ _) (digN_dg _ _) A B c d u h k (by rw [digN_length]; decide) (by rw [digN_length]; decide);rw [lev_n ha,lev_n hb,digN_length,digN_length] at e;exact e.mono fun _ _ h=>num_of h
theorem nadd {a b:Nat} (ha:a<PN) (hb:b<PN) {A B:Option Addr} {c d:Nat} {u:World} (h:Rd u u.heap.size A (DN a)) (k:Rd u u.heap.size B (DN b)) :
  Calls Tryd.prog 80 #[.slice A 32 c,.slice B 32 d] u (NumPost ((a+b)%PN) u):=by
 have e:=radd_any (digN 32 a) (digN 32 b) (digN_dg _ _) (digN_dg _ _) A B c d u h k (by rw [digN_length]; decide) (by rw [digN_length]; decide);rw [lev_n ha,lev_n hb,digN_length,digN_length] at e;exact e.mono fun _ _ h=>num_of h
theorem nsub {a b:Nat} (ha:a<PN) (hb:b<PN) {A B:Option Addr} {c d:Nat} {u:World} (h:Rd u u.heap.size A (DN a)) (k:Rd u u.heap.size B (DN b)) :
  Calls Tryd.prog 79 #[.slice A 32 c,.slice B 32 d] u (NumPost ((a+PN - b)%PN) u):=by
 have e:=rsub_any (digN 32 a) (digN 32 b) (digN_dg _ _) (digN_dg _ _) (by rw [lev_n ha,lev_n hb]; omega) A B c d u h k (by rw [digN_length]; decide) (by rw [digN_length]; decide);rw [lev_n ha,lev_n hb,digN_length,digN_length] at e;exact e.mono fun _ _ h=>num_of h
theorem ninv {a:Nat} (ha:a<PN) {A:Option Addr} {c:Nat} {u:World} (h:Rd u u.heap.size A (DN a)) :
  Calls Tryd.prog 52 #[.slice A 32 c] u (NumPost (a^(PN - 2)%PN) u):=by
 have e:=rinv_any (digN 32 a) (digN_dg _ _) A c u h (by rw [digN_length]; decide);rw [lev_n ha,digN_length] at e;exact e.mono fun _ _ h=>num_of h
theorem npow {a:Nat} {e:List Nat} (ha:a<PN) (he:Dg e) (hl:e.length=32) {A B:Option Addr} {c d:Nat} {u:World} (h:Rd u u.heap.size A (DN a)) (k:Rd u u.heap.size B (dV e)) :
  Calls Tryd.prog 81 #[.slice A 32 c,.slice B 32 d] u (NumPost (a^leV e%PN) u):=by
 have q:=rpow_any (digN 32 a) e (digN_dg _ _) he A B c d u h k (by rw [digN_length]; decide) (by rw [hl]; decide);rw [lev_n ha,digN_length,hl] at q;exact q.mono fun _ _ h=>num_of h
theorem nint (N:Nat) (hN:N<1000000) (u:World):Calls Tryd.prog 50 #[.int .i64 (N:Int)] u (NumPost N u):=by
 have q:=rint_nat N (by omega) u;rw [Nat.mod_eq_of_lt (Nat.lt_of_lt_of_le hN (show 1000000≤PN by decide))] at q;exact q.mono fun _ _ h=>num_of h
theorem nneg (N:Nat) (hN:N<1000000) (h0:0<N) (u:World):Calls Tryd.prog 50 #[.int .i64 (-(N:Int))] u (NumPost (PN - N) u):=by
 have q:=rint_neg N (by omega) h0 u;have hP:1000000≤PN:=by decide
 rw [Nat.mod_eq_of_lt (Nat.lt_of_lt_of_le hN hP),Nat.mod_eq_of_lt (by omega)] at q;exact q.mono fun _ _ h=>num_of h
theorem nsame {a b:Nat} (ha:a<PN) (hb:b<PN) {A B:Option Addr} {c d:Nat} {u:World} (h:Rd u u.heap.size A (DN a)) (k:Rd u u.heap.size B (DN b)) (hc:32≤c) (hd:32≤d) :
  Calls Tryd.prog 85 #[.slice A 32 c,.slice B 32 d] u (BoolPost (decide (a=b)) u):=by
 have q:=same_any (digN 32 a) (digN 32 b) (digN_dg _ _) (digN_dg _ _) (digN_length _ _) (digN_length _ _) A B c d u h k hc hd
 have e:(refB (digN 32 a) == refB (digN 32 b))=decide (a=b):=by
  rw [refB_dig,refB_dig,Bool.eq_iff_iff,beq_iff_eq,decide_eq_true_iff]
  constructor
  ·intro h;have h1:digs (byB a)=digs (byB b):=by rw [h]
   rw [digs_byB,digs_byB] at h1;exact byN_inj (Nat.lt_trans ha pn_big) (Nat.lt_trans hb pn_big) h1
  ·rintro rfl; rfl
 rw [e] at q;exact q
theorem rd_next {A:Option Addr} {xs:List Value} {u u':World} (h:Rd u u.heap.size A xs) (hb:Below u.heap.size u u'):Rd u' u'.heap.size A xs:=(h.below hb).mono hb.size
theorem d_num:(PN - 121665)*(121666^(PN - 2)%PN)%PN=dN:=by
 rw [← invL_val,← pm_eq]
 decide
set_option maxRecDepth 100000 in
theorem nd_any (w:World):Calls Tryd.prog 49 #[] w (NumPost dN w):=by
 obtain ⟨a,ha⟩:∃ a,a=PN - 121665:=⟨_,rfl⟩;obtain ⟨i,hi⟩:∃ i,i=121666^(PN - 2)%PN:=⟨_,rfl⟩;have la:a<PN:=by rw [ha]; decide
 have li:i<PN:=by rw [hi]; exact Nat.mod_lt _ pn_pos
 have e:a*i%PN=dN:=by rw [ha,hi]; exact d_num
 have C1:=zY (show ∀ u,Calls Tryd.prog 50 #[.int .i64 (-121665)] u (NumPost a u) from fun u=>by rw [ha]; exact nneg 121665 (by decide) (by decide) u);have C2:=zY (show ∀ u,Calls Tryd.prog 50 #[.int .i64 121666] u (NumPost 121666 u) from fun u=>nint 121666 (by decide) u);have C3:=zY (show ∀ u A c,Rd u u.heap.size A (DN 121666)→Calls Tryd.prog 52 #[.slice A 32 c] u (NumPost i u) from fun u A c h=>by rw [hi]; exact ninv (by decide) h);have C4:=zY (show ∀ u A c B d,Rd u u.heap.size A (DN a)→Rd u u.heap.size B (DN i)→Calls Tryd.prog 53 #[.slice A 32 c,.slice B 32 d] u (NumPost dN u) from fun u A c B d h k=>by rw [← e]; exact nmul la li h k);clear ha hi la li e;generalize dN=D at *;go_enter Tryd.func49,Tryd.ntmps49;go_wp2_with fail;refine calls_then (C1.out _) ?_;rintro e w1 ⟨A1,c1,rfl,hc1,hr1,hb1⟩;have H1:=zY hr1;have HB1:=zY hb1;clear hr1 hb1 hc1;go_wp2_with fail;refine calls_then (C2.out _) ?_;rintro e w2 ⟨A2,c2,rfl,hc2,hr2,hb2⟩;have H1:=zY (rd_next H1.out hb2);have H2:=zY hr2;have HB2:=zY (HB1.out.trans (hb2.mono HB1.out.size));clear hr2 hb2 hc2 HB1;go_wp2_with fail;refine calls_then (C3.out _ _ _ H2.out) ?_;rintro e w3 ⟨A3,c3,rfl,hc3,hr3,hb3⟩;have H1:=zY (rd_next H1.out hb3);have H3:=zY hr3;have HB3:=zY (HB2.out.trans (hb3.mono HB2.out.size));clear hr3 hb3 hc3 HB2;go_wp2_with fail;refine calls_then (C4.out _ _ _ _ _ H1.out H3.out) ?_;rintro e w4 ⟨A4,c4,rfl,hc4,hr4,hb4⟩;have H4:=zY hr4;have HB4:=zY (HB3.out.trans (hb4.mono HB3.out.size));have HC4:=zY hc4;clear hr4 hb4 hc4 HB3 H1 H2 H3;go_wp2_with fail;go_ret;exact ⟨A4,c4,rfl,HC4.out,H4.out,HB4.out⟩
end Go.Proofs.YtdgheahbafnboaaDoor
/-
  Walk: slices.Clone of 32 bytes.
-/
namespace Go.Proofs.YtdgheahbafnboaaDoor
set_option linter.unusedSimpArgs false
set_option linter.unusedVariables false
open Go.RowKit
set_option maxRecDepth 100000 in
set_option maxHeartbeats 2000000 in
theorem clone_any (b:List UInt8) (h32:b.length=32) (A:Option Addr) (c:Nat) (w:World) (hr:Rd w w.heap.size A (bytesV b)) :
  Calls Tryd.prog 61 #[.slice A 32 c] w (OwnPostZ 5 32 (bytesV b) w):=by
 obtain ⟨ad,rfl,hlt,_⟩:=hr.at_ (k:=0) (by rw [bytesV_length,h32]; decide);have HR:=zY hr;have hne:∀ u:World,(binOp .eql 22 (.slice (some ad) 32 c) (.slice none 0 0)).run Tryd.prog u=.ok (.bool false) u:=fun _=>by kernel_rfl
 clear hr;go_enter Tryd.func61,Tryd.ntmps61;have HO:=zY (ownZ_nil w 5);have HB:=zY (below_new w (.cells #[] 5));have HL:=zY (show (bytesV b).length=32*1 by rw [bytesV_length,h32]);go_wp2_with (refine wpList_append_rdZ sl_bytes rfl rfl HO.out rfl rfl HL.out (by decide) (rd_next HR.out HB.out) (bytesV_one b) (by unfold maxLen; omega) (by omega) (by simp) ?_; intro A1 c1 w1 hown hg; have HOWN:=zY hown; have HG:=zY hg; clear hown hg);go_ret;exact ⟨A1,c1,rfl,HOWN.out,below_grow HB.out HO.out.x HB.out.size HG.out⟩
end Go.Proofs.YtdgheahbafnboaaDoor
/-
  Plain: digits as bytes.
-/
namespace Go.Proofs.YtdgheahbafnboaaDoor
set_option linter.unusedSimpArgs false
set_option linter.unusedVariables false
open Go.RowKit
def bsN (l:List Nat):List UInt8:=l.map UInt8.ofNat
theorem digs_bsN {l:List Nat} (h:Dg l):digs (bsN l)=l:=digs_ofNat l h
theorem bnV_bsN {l:List Nat} (h:Dg l):bnV l=bytesV (bsN l):=by
 conv=>lhs; rw [← digs_bsN h]
 simp [bnV,bytesV,byteV,digs]
theorem bnV_digs' (b:List UInt8):bnV (digs b)=bytesV b:=by simp [bnV,bytesV,byteV,digs]
theorem digs_dg (b:List UInt8):Dg (digs b):=digs_lt b
end Go.Proofs.YtdgheahbafnboaaDoor
/-
  Plain: a seed's secret, as digits; the row that holds it.
-/
namespace Go.Proofs.YtdgheahbafnboaaDoor
set_option linter.unusedSimpArgs false
set_option linter.unusedVariables false
open Go.RowKit
def clampL (L:List Nat):List Nat:=(L.set 0 (L.getD 0 0 - L.getD 0 0%8)).set 31 (L.getD 31 0%64+64)
def secD (data:List UInt8):List Nat:=digs (Sh.digS Sh.F64 data)
def secL (data:List UInt8):List Nat:=clampL (secD data)
theorem clampL_len (L:List Nat):(clampL L).length=L.length:=by rw [clampL,List.length_set,List.length_set]
theorem clampL_dg {L:List Nat} (h:Dg L):Dg (clampL L):=by
 have h0:=dg_getD h 0;have h1:=dg_getD h 31;exact dg_set (dg_set h 0 _ (by omega)) 31 _ (by omega)
structure SecW (w0:World) (g:Nat) (ys:List Value) (L:List Nat) (u:World):Prop where
 bel:Below w0.heap.size w0 u
 x:Blk u g 5 (bnV L++ys).toArray
 lo:w0.heap.size≤g
theorem SecW.put {w0 u u':World} {g:Nat} {ys:List Value} {L L':List Nat} (k:SecW w0 g ys L u) (hw:Wrote g u u') (hb:Blk u' g 5 (bnV L'++ys).toArray):SecW w0 g ys L' u' :=
 ⟨hw.below k.bel k.lo k.bel.size,hb,k.lo⟩
theorem SecW.drew {w0 u:World} {g:Nat} {ys:List Value} {L:List Nat} (k:SecW w0 g ys L u):SecW w0 g ys L u.drew:=⟨k.bel.drew,k.x,k.lo⟩
theorem sec_cell {L:List Nat} {ys:List Value} {i:Nat} (h:i<L.length):(bnV L++ys).toArray[i]?=some (.int .u8 ((L.getD i 0:Nat):Int)):=by
 rw [List.getElem?_toArray,List.getElem?_append_left (by rw [bnV,List.length_map]; exact h)];simp [bnV,List.getD_eq_getElem?_getD,List.getElem?_eq_getElem h]
theorem sec_set {L:List Nat} {ys:List Value} {i n:Nat} (h:i<L.length):(bnV L++ys).toArray.setIfInBounds i (.int .u8 (n:Int))=(bnV (L.set i n)++ys).toArray:=by
 rw [set_front (by rw [bnV,List.length_map]; exact h)];simp [bnV,List.map_set]
theorem sec_rd {u:World} {g:Nat} {K:List Nat} {ys:List Value} (hb:Blk u g 5 (bnV K++ys).toArray) :
  Rd u u.heap.size (some ⟨g,0,none⟩) (bnV (K.take 32))∧Rd u u.heap.size (some ⟨g,32,none⟩) (bnV (K.drop 32)):=by
 have h:=(Rd.of_blk hb hb.lt).front
 constructor
 ·rw [← List.take_append_drop 32 K] at h;rw [show bnV (K.take 32++K.drop 32)=bnV (K.take 32)++bnV (K.drop 32) by simp [bnV]] at h;exact h.front
 ·have h2:=rd_drop h 32;rw [Addr.add_lit,Nat.zero_add] at h2;rw [show bnV (K.drop 32)=(bnV K).drop 32 by simp [bnV,List.map_drop]];exact h2
def SecPost (K:List Nat) (w:World) (e:Ending) (w':World):Prop :=
 ∃ A c B d,e=.returned (.tuple #[.slice A 32 c,.slice B 32 d])∧32≤c∧32≤d∧Rd w' w'.heap.size A (bnV (K.take 32))∧Rd w' w'.heap.size B (bnV (K.drop 32))∧Below w.heap.size w w'
end Go.Proofs.YtdgheahbafnboaaDoor
/-
  The law CurveNeg: plain, and its walk.
-/
namespace Go.Proofs.YtdgheahbafnboaaDoor
set_option linter.unusedSimpArgs false
set_option linter.unusedVariables false
open Go.RowKit
theorem pn_dvd {a b:Nat} (h:a*b%PN=0):a%PN=0∨b%PN=0:=by
 rcases pr_dvd prime6 (Nat.dvd_of_mod_eq_zero h) with h1 | h1
 ·exact .inl (Nat.mod_eq_zero_of_dvd h1)
 ·exact .inr (Nat.mod_eq_zero_of_dvd h1)
theorem mul_zero_mod {a b:Nat} (h:a%PN=0∨b%PN=0):a*b%PN=0:=by
 rcases h with h | h
 ·rw [Nat.mul_mod,h,Nat.zero_mul,Nat.zero_mod]
 ·rw [Nat.mul_mod,h,Nat.mul_zero,Nat.zero_mod]
theorem pow_zero_mod {a:Nat}:∀ n,a^n%PN=0→a%PN=0
 | 0,h=>by rw [Nat.pow_zero] at h; exact absurd h (by decide)
 | n+1,h=>by
  rw [Nat.pow_succ] at h
  rcases pn_dvd h with h1 | h1
  ·exact pow_zero_mod n h1
  ·exact h1
theorem inv_zero_iff (z:E5):(invE z).val%PN=0↔z.val%PN=0:=by
 rw [invE_val]
 constructor
 ·exact pow_zero_mod _
 ·intro h;rw [Nat.pow_mod,h,Nat.zero_pow (by decide)];rfl
def axN (p:Pt4):Nat:=(mulE p.x (invE p.z)).val%PN
theorem axN_zero (p:Pt4):axN p=0↔p.x.val*p.z.val%PN=0:=by
 have h:axN p=p.x.val*(invE p.z).val%PN:=mul_val _ _;rw [h]
 constructor
 ·intro h
  rcases pn_dvd h with h1 | h1
  ·exact mul_zero_mod (.inl h1)
  ·exact mul_zero_mod (.inr ((inv_zero_iff _).1 h1))
 ·intro h
  rcases pn_dvd h with h1 | h1
  ·exact mul_zero_mod (.inl h1)
  ·exact mul_zero_mod (.inr ((inv_zero_iff _).2 h1))
theorem sm_neg {x:E5} (hx:x.Ok):Sm ((subE zE x).val+x.val) 0:=sm_sub hx
theorem axN_neg {p:Pt4} (hp:p.Ok):(axN (negP p)+axN p)%PN=0:=by
 have h1:Sm (mulE (subE zE p.x) (invE p.z)).val ((subE zE p.x).val*(invE p.z).val):=sm_mul _ _;have h2:Sm (mulE p.x (invE p.z)).val (p.x.val*(invE p.z).val):=sm_mul _ _;have h3:Sm ((mulE (subE zE p.x) (invE p.z)).val+(mulE p.x (invE p.z)).val) (((subE zE p.x).val+p.x.val)*(invE p.z).val):=(h1.add h2).trans (Sm.of (Nat.add_mul _ _ _).symm);have h4:Sm (((subE zE p.x).val+p.x.val)*(invE p.z).val) (0*(invE p.z).val):=(sm_neg hp.x).mul (Sm.refl _);rw [Nat.zero_mul] at h4;have h5:=h3.trans h4;show ((mulE (subE zE p.x) (invE p.z)).val%PN+(mulE p.x (invE p.z)).val%PN)%PN=0;rw [← Nat.add_mod];exact h5
theorem oddP_ax (p:Pt4):oddP p=decide (axN p%2=1):=rfl
theorem two_sum {P a b:Nat} (ha:a<P) (hb:b<P) (h:(b+a)%P=0):b+a=0∨b+a=P:=by
 by_cases hlt:b+a<P
 ·rw [Nat.mod_eq_of_lt hlt] at h; exact .inl h
 ·rw [Nat.mod_eq_sub_mod (Nat.le_of_not_lt hlt),Nat.mod_eq_of_lt (by omega)] at h;omega
theorem half_zero' {P a b:Nat} (hP:0<P) (ho:P%2=1) (h:(b+a)%P=0):(a%P=b%P)↔a%P=0:=by
 have ha:=Nat.mod_lt a hP;have hb:=Nat.mod_lt b hP;rw [Nat.add_mod] at h;generalize a%P=a' at *;generalize b%P=b' at *;have:=two_sum ha hb h;omega
theorem half_zero {a b:Nat} (h:(b+a)%PN=0%PN):(a%PN=b%PN)↔a%PN=0 :=
 half_zero' (by decide) (by decide) (h.trans (Nat.zero_mod _))
theorem eqP_neg {p:Pt4} (hp:p.Ok):eqP p (negP p)=decide (axN p=0):=by
 have e2:eqB (mulE p.y (negP p).z) (mulE (negP p).y p.z)=true:=by
  show eqB (mulE p.y p.z) (mulE p.y p.z)=true;generalize mulE p.y p.z=v;exact beq_self_eq_true (limbs (leastE v))
 have h1:Sm (mulE p.x p.z).val (p.x.val*p.z.val):=sm_mul _ _;have h2:Sm (mulE (subE zE p.x) p.z).val ((subE zE p.x).val*p.z.val):=sm_mul _ _
 have h3:Sm ((mulE (subE zE p.x) p.z).val+(mulE p.x p.z).val) 0:=by
  refine (h2.add h1).trans ?_;refine (Sm.of (Nat.add_mul _ _ _).symm).trans ?_;have h4:=(sm_neg hp.x).mul (Sm.refl p.z.val);rw [Nat.zero_mul] at h4;exact h4
 rw [eqP,e2,Bool.and_true];show eqB (mulE p.x p.z) (mulE (subE zE p.x) p.z)=_;rw [eqB,eqE (mul_ok hp.x hp.z).big (mul_ok (sub_ok zE_ok hp.x) hp.z).big];refine decide_eq_decide.mpr ?_;rw [axN_zero];have h1':(mulE p.x p.z).val%PN=p.x.val*p.z.val%PN:=h1;rw [← h1'];exact half_zero h3
theorem xor_or:∀ x,x<128→x ^^^ 128=x ||| 128:=by decide
theorem or_xor:∀ x,x<128→(x ||| 128) ^^^ 128=x:=by decide
theorem byN_top {V:Nat} (h:V<PN):(byN V).getD 31 0<128:=by
 have e:=byN_at V 31 (by decide);rw [List.getD_eq_getElem?_getD,e];show V/256^31%256<128;have h2:V/256^31<128:=Nat.div_lt_of_lt_mul (Nat.lt_trans h (by decide));omega
theorem set_self {l:List Nat} {k:Nat} (h:k<l.length):l.set k (l.getD k 0)=l:=by
 rw [List.getD_eq_getElem?_getD,List.getElem?_eq_getElem h];exact List.set_getElem_self h
def ayN (p:Pt4):Nat:=(leastE (mulE p.y (invE p.z))).val
theorem ayN_lt {p:Pt4} (hp:p.Ok):ayN p<PN:=by
 rw [ayN,least_val (mul_ok hp.y (invE_ok hp.z)).big];exact Nat.mod_lt _ (by decide)
theorem bytP_ax (p:Pt4):bytP p=if oddP p then (byN (ayN p)).set 31 ((byN (ayN p)).getD 31 0 ||| 128) else byN (ayN p):=rfl
theorem ayN_neg (p:Pt4):ayN (negP p)=ayN p:=rfl
theorem neg_same {p:Pt4} (hp:p.Ok) (h:axN p=0):bytP (negP p)=bytP p:=by
 have h1:=axN_neg hp;rw [h,Nat.add_zero] at h1
 have h2:axN (negP p)=0:=by
  have h3:axN (negP p)<PN:=Nat.mod_lt _ (by decide)
  rwa [Nat.mod_eq_of_lt h3] at h1
 rw [bytP_ax,bytP_ax,ayN_neg,oddP_ax,oddP_ax,h,h2]
theorem odd_flip' {P a b:Nat} (ho:P%2=1) (h:a≠0) (h1:(b+a)%P=0) (ha:a<P) (hb:b<P):b%2=1↔¬ a%2=1:=by
 have:=two_sum ha hb h1;omega
theorem odd_flip {a b:Nat} (h:a≠0) (h1:(b+a)%PN=0) (ha:a<PN) (hb:b<PN):b%2=1↔¬ a%2=1 :=
 odd_flip' (by decide) h h1 ha hb
theorem flip_list (L:List Nat) (hl:31<L.length) (hx:L.getD 31 0<128) (o:Bool) :
  (if o then L.set 31 (L.getD 31 0 ||| 128) else L).set 31 ((if o then L.set 31 (L.getD 31 0 ||| 128) else L).getD 31 0 ^^^ 128)=if !o then L.set 31 (L.getD 31 0 ||| 128) else L:=by
 cases o
 ·show L.set 31 (L.getD 31 0 ^^^ 128)=L.set 31 (L.getD 31 0 ||| 128);rw [xor_or _ hx]
 ·show (L.set 31 (L.getD 31 0 ||| 128)).set 31 ((L.set 31 (L.getD 31 0 ||| 128)).getD 31 0 ^^^ 128)=L
  have e:(L.set 31 (L.getD 31 0 ||| 128)).getD 31 0=L.getD 31 0 ||| 128:=by
   rw [List.getD_eq_getElem?_getD,List.getElem?_set_self hl]; rfl
  rw [e,or_xor _ hx,List.set_set,set_self hl]
theorem neg_flip {p:Pt4} (hp:p.Ok) (h:axN p≠0):(bytP p).set 31 ((bytP p).getD 31 0 ^^^ 128)=bytP (negP p):=by
 have h1:=axN_neg hp;have ha:axN p<PN:=Nat.mod_lt _ (by decide);have hb:axN (negP p)<PN:=Nat.mod_lt _ (by decide)
 have hodd:oddP (negP p)=!oddP p:=by
  rw [oddP_ax,oddP_ax,← decide_not];exact decide_eq_decide.mpr (odd_flip h h1 ha hb)
 have hx:=byN_top (ayN_lt hp);have hl:31<(byN (ayN p)).length:=by rw [byN_length]; decide
 rw [bytP_ax,bytP_ax,ayN_neg,hodd];exact flip_list _ hl hx _
theorem bytP_dg (p:Pt4):Dg (bytP p):=by
 rw [bytP_ax]
 split
 ·exact dg_set (byN_lt _) _ _ (Nat.or_lt_two_pow (n:=8) (byN_31 _) (by decide))
 ·exact byN_lt _
theorem bytP_length (p:Pt4):(bytP p).length=32:=by
 rw [bytP_ax]
 split
 ·rw [List.length_set,byN_length]
 ·exact byN_length _
end Go.Proofs.YtdgheahbafnboaaDoor
/-
  Plain: the points of a twisted curve go together under the sum, over any field of numbers modulo n.
-/
namespace Go.Proofs.YtdgheahbafnboaaDoor.Ed
set_option linter.unusedSimpArgs false
set_option linter.unusedVariables false
variable {n:Nat} [NeZero n]
structure Fld (n:Nat) [NeZero n] (d:Fin n) (iv:Fin n→Fin n):Prop where
 iv1:∀ a:Fin n,a≠0→a*iv a=1
 one:(1:Fin n)≠0
 two:(2:Fin n)≠0
 i:∃ i:Fin n,i*i=-1
 ns:∀ w:Fin n,w*w≠d
theorem Fld.inv {d:Fin n} {iv:Fin n→Fin n} (F:Fld n d iv) (a:Fin n) (h:a≠0):∃ b,a*b=1:=⟨iv a,F.iv1 a h⟩
theorem mul_ne {d:Fin n} {iv:Fin n→Fin n} (F:Fld n d iv) {a b:Fin n} (ha:a≠0) (hb:b≠0):a*b≠0:=by
 intro h;obtain ⟨a',h1⟩:=F.inv a ha;obtain ⟨b',h2⟩:=F.inv b hb;apply F.one
 grind
theorem cancel {d:Fin n} {iv:Fin n→Fin n} (F:Fld n d iv) {a b c:Fin n} (hc:c≠0) (h:a*c=b*c):a=b:=by
 obtain ⟨c',h1⟩:=F.inv c hc
 grind
def On (d x y:Fin n):Prop:=y*y - x*x=1+d*x*x*y*y
theorem no_sq {d:Fin n} {iv:Fin n→Fin n} (F:Fld n d iv) {u v:Fin n} (hv:v≠0) (h:u*u=d*(v*v)):False:=by
 obtain ⟨v',h1⟩:=F.inv v hv;apply F.ns (u*v')
 grind
theorem complete {d:Fin n} {iv:Fin n→Fin n} (F:Fld n d iv) {x1 y1 x2 y2 e:Fin n} (h1:On d x1 y1) (h2:On d x2 y2) (he:e*e=1) (hk:d*x1*x2*y1*y2=e):False:=by
 obtain ⟨i,hi⟩:=F.i;unfold On at h1 h2;have he0:e≠0:=by intro h; apply F.one; grind
 have hx1:x1≠0:=by intro h; apply he0; grind
 have hy1:y1≠0:=by intro h; apply he0; grind
 have hy2:y2≠0:=by intro h; apply he0; grind
 have a1:(i*x1+e*y1)*(i*x1+e*y1)=d*((x1*y1*(i*x2+y2))*(x1*y1*(i*x2+y2))):=by grind
 have a2:(i*x1 - e*y1)*(i*x1 - e*y1)=d*((x1*y1*(i*x2 - y2))*(x1*y1*(i*x2 - y2))):=by grind
 by_cases z1:i*x2+y2=0
 ·by_cases z2:i*x2 - y2=0
  ·apply mul_ne F F.two hy2; grind
  ·exact no_sq F (mul_ne F (mul_ne F hx1 hy1) z2) a2
 ·exact no_sq F (mul_ne F (mul_ne F hx1 hy1) z1) a1
theorem den_p {d:Fin n} {iv:Fin n→Fin n} (F:Fld n d iv) {x1 y1 x2 y2:Fin n} (h1:On d x1 y1) (h2:On d x2 y2):1+d*x1*x2*y1*y2≠0:=by
 intro h;exact complete F h1 h2 (e:=-1) (by grind) (by grind)
theorem den_m {d:Fin n} {iv:Fin n→Fin n} (F:Fld n d iv) {x1 y1 x2 y2:Fin n} (h1:On d x1 y1) (h2:On d x2 y2):1 - d*x1*x2*y1*y2≠0:=by
 intro h;exact complete F h1 h2 (e:=1) (by grind) (by grind)
structure Sum (d x1 y1 x2 y2 x y:Fin n):Prop where
 x:x*(1+d*x1*x2*y1*y2)=x1*y2+y1*x2
 y:y*(1 - d*x1*x2*y1*y2)=y1*y2+x1*x2
theorem sum_ex {d:Fin n} {iv:Fin n→Fin n} (F:Fld n d iv) {x1 y1 x2 y2:Fin n} (h1:On d x1 y1) (h2:On d x2 y2):∃ x y,Sum d x1 y1 x2 y2 x y:=by
 obtain ⟨a,ha⟩:=F.inv _ (den_p F h1 h2);obtain ⟨b,hb⟩:=F.inv _ (den_m F h1 h2);exact ⟨(x1*y2+y1*x2)*a,(y1*y2+x1*x2)*b,by grind,by grind⟩
theorem on_key {d x1 y1 x2 y2:Fin n} (h1:y1*y1 - x1*x1=1+d*x1*x1*y1*y1) (h2:y2*y2 - x2*x2=1+d*x2*x2*y2*y2) :
 (y1*y2+x1*x2)*(y1*y2+x1*x2)*((1+d*x1*x2*y1*y2)*(1+d*x1*x2*y1*y2)) - (x1*y2+y1*x2)*(x1*y2+y1*x2)*((1 - d*x1*x2*y1*y2)*(1 - d*x1*x2*y1*y2))=(1+d*x1*x2*y1*y2)*(1+d*x1*x2*y1*y2)*((1 - d*x1*x2*y1*y2)*(1 - d*x1*x2*y1*y2))+d*(x1*y2+y1*x2)*(x1*y2+y1*x2)*(y1*y2+x1*x2)*(y1*y2+x1*x2):=by grind -lia
theorem sum_on {d:Fin n} {iv:Fin n→Fin n} (F:Fld n d iv) {x1 y1 x2 y2 x y:Fin n} (h1:On d x1 y1) (h2:On d x2 y2) (s:Sum d x1 y1 x2 y2 x y):On d x y:=by
 have p:=den_p F h1 h2;have m:=den_m F h1 h2;obtain ⟨sx,sy⟩:=s;have key:=on_key h1 h2;unfold On;generalize hk:d*x1*x2*y1*y2=k at *;generalize hX:x1*y2+y1*x2=X at *;generalize hY:y1*y2+x1*x2=Y at *;refine cancel F (c:=(1+k)*(1+k)*((1 - k)*(1 - k))) (mul_ne F (mul_ne F p p) (mul_ne F m m)) ?_;clear h1 h2 hk hX hY p m
 grind -lia
theorem assoc_x {d x1 y1 x2 y2 x3 y3:Fin n}
 (e1:On d x1 y1) (e2:On d x2 y2) (e3:On d x3 y3) :
 ((x1*y2+y1*x2)*(1 - d*x1*x2*y1*y2)*y3+(y1*y2+x1*x2)*(1+d*x1*x2*y1*y2)*x3)*((1 - d*x2*x3*y2*y3)*(1+d*x2*x3*y2*y3)+d*x1*y1*(x2*y3+y2*x3)*(y2*y3+x2*x3))
 = (x1*(y2*y3+x2*x3)*(1+d*x2*x3*y2*y3)+y1*(x2*y3+y2*x3)*(1 - d*x2*x3*y2*y3))*((1 - d*x1*x2*y1*y2)*(1+d*x1*x2*y1*y2)+d*(x1*y2+y1*x2)*(y1*y2+x1*x2)*x3*y3):=by
 unfold On at *
 grind
theorem assoc_y {d x1 y1 x2 y2 x3 y3:Fin n}
 (e1:On d x1 y1) (e2:On d x2 y2) (e3:On d x3 y3) :
 ((y1*y2+x1*x2)*(1+d*x1*x2*y1*y2)*y3+(x1*y2+y1*x2)*(1 - d*x1*x2*y1*y2)*x3)*((1 - d*x2*x3*y2*y3)*(1+d*x2*x3*y2*y3) - d*x1*y1*(x2*y3+y2*x3)*(y2*y3+x2*x3))
 = (y1*(y2*y3+x2*x3)*(1+d*x2*x3*y2*y3)+x1*(x2*y3+y2*x3)*(1 - d*x2*x3*y2*y3))*((1 - d*x1*x2*y1*y2)*(1+d*x1*x2*y1*y2) - d*(x1*y2+y1*x2)*(y1*y2+x1*x2)*x3*y3):=by
 unfold On at *
 grind
theorem fac {d:Fin n} {iv:Fin n→Fin n} (F:Fld n d iv) {a b:Fin n} (h:a*b=0) (hb:b≠0):a=0:=cancel F hb (by grind)
theorem sum_assoc {d:Fin n} {iv:Fin n→Fin n} (F:Fld n d iv) {x1 y1 x2 y2 x3 y3 xs ys xt yt x y x' y':Fin n} (h1:On d x1 y1) (h2:On d x2 y2) (h3:On d x3 y3)
  (s:Sum d x1 y1 x2 y2 xs ys) (l:Sum d xs ys x3 y3 x y) (t:Sum d x2 y2 x3 y3 xt yt) (r:Sum d x1 y1 xt yt x' y'):x=x'∧y=y':=by
 have ax:=assoc_x h1 h2 h3;have ay:=assoc_y h1 h2 h3;have hs:=sum_on F h1 h2 s;have ht:=sum_on F h2 h3 t;have p1:=den_p F h1 h2;have m1:=den_m F h1 h2;have p2:=den_p F h2 h3;have m2:=den_m F h2 h3;have pl:=den_p F hs h3;have ml:=den_m F hs h3;have pr:=den_p F h1 ht;have mr:=den_m F h1 ht;obtain ⟨sx,sy⟩:=s;obtain ⟨lx,ly⟩:=l;obtain ⟨tx,ty⟩:=t;obtain ⟨rx,ry⟩:=r;clear h1 h2 h3 hs ht;have c1:=mul_ne F p1 m1;have c2:=mul_ne F p2 m2
 have e1:(1+d*x1*x2*y1*y2)*(1 - d*x1*x2*y1*y2)*(1+d*xs*x3*ys*y3)=(1 - d*x1*x2*y1*y2)*(1+d*x1*x2*y1*y2)+d*(x1*y2+y1*x2)*(y1*y2+x1*x2)*x3*y3:=by
  rw [← sx,← sy]; grind -lia
 have e2:(1+d*x1*x2*y1*y2)*(1 - d*x1*x2*y1*y2)*(1 - d*xs*x3*ys*y3)=(1 - d*x1*x2*y1*y2)*(1+d*x1*x2*y1*y2) - d*(x1*y2+y1*x2)*(y1*y2+x1*x2)*x3*y3:=by
  rw [← sx,← sy]; grind -lia
 have e3:(1+d*x2*x3*y2*y3)*(1 - d*x2*x3*y2*y3)*(1+d*x1*xt*y1*yt)=(1 - d*x2*x3*y2*y3)*(1+d*x2*x3*y2*y3)+d*x1*y1*(x2*y3+y2*x3)*(y2*y3+x2*x3):=by
  rw [← tx,← ty]; grind -lia
 have e4:(1+d*x2*x3*y2*y3)*(1 - d*x2*x3*y2*y3)*(1 - d*x1*xt*y1*yt)=(1 - d*x2*x3*y2*y3)*(1+d*x2*x3*y2*y3) - d*x1*y1*(x2*y3+y2*x3)*(y2*y3+x2*x3):=by
  rw [← tx,← ty]; grind -lia
 rw [← e1,← e3,← sx,← sy,← tx,← ty] at ax;rw [← e2,← e4,← sx,← sy,← tx,← ty] at ay;clear e1 e2 e3 e4 sx sy tx ty;generalize 1+d*x1*x2*y1*y2=u1 at *;generalize 1 - d*x1*x2*y1*y2=v1 at *;generalize 1+d*x2*x3*y2*y3=u2 at *;generalize 1 - d*x2*x3*y2*y3=v2 at *;generalize 1+d*xs*x3*ys*y3=u3 at *;generalize 1 - d*xs*x3*ys*y3=v3 at *;generalize 1+d*x1*xt*y1*yt=u4 at *;generalize 1 - d*x1*xt*y1*yt=v4 at *;have q1:((xs*y3+ys*x3)*(u1*v1))*(u2*v2*u4)=((x1*yt+y1*xt)*(u2*v2))*(u1*v1*u3):=by grind -lia
 have q2:((ys*y3+xs*x3)*(u1*v1))*(u2*v2*v4)=((y1*yt+x1*xt)*(u2*v2))*(u1*v1*v3):=by grind -lia
 rw [← lx,← rx] at q1;rw [← ly,← ry] at q2
 constructor
 ·refine cancel F (c:=(u1*v1)*(u2*v2)*(u3*u4)) (mul_ne F (mul_ne F c1 c2) (mul_ne F pl pr)) ?_;clear ax ay q2 lx ly rx ry
  grind -lia
 ·refine cancel F (c:=(u1*v1)*(u2*v2)*(v3*v4)) (mul_ne F (mul_ne F c1 c2) (mul_ne F ml mr)) ?_;clear ax ay q1 lx ly rx ry
  grind -lia
theorem sum_one {d:Fin n} {iv:Fin n→Fin n} (F:Fld n d iv) {x1 y1 x2 y2 x y x' y':Fin n} (h1:On d x1 y1) (h2:On d x2 y2) (s:Sum d x1 y1 x2 y2 x y) (t:Sum d x1 y1 x2 y2 x' y'):x=x'∧y=y' :=
 ⟨cancel F (den_p F h1 h2) (s.x.trans t.x.symm),cancel F (den_m F h1 h2) (s.y.trans t.y.symm)⟩
theorem sum_comm {d x1 y1 x2 y2 x y:Fin n} (s:Sum d x1 y1 x2 y2 x y):Sum d x2 y2 x1 y1 x y:=by
 obtain ⟨sx,sy⟩:=s
 constructor
 ·grind -lia
 ·grind -lia
theorem zero_on (d:Fin n):On d 0 1:=by unfold On; grind -lia
theorem neg_on {d x y:Fin n} (h:On d x y):On d (-x) y:=by unfold On at *; grind -lia
theorem sum_zero (d x y:Fin n):Sum d x y 0 1 x y:=by constructor <;> grind -lia
theorem sum_neg {d x y:Fin n} (h:On d x y):Sum d x y (-x) y 0 1:=by unfold On at h; constructor <;> grind -lia
structure Pn (n:Nat) [NeZero n] (d:Fin n) where
 x:Fin n
 y:Fin n
 on:On d x y
theorem Pn.eq {d:Fin n} {P Q:Pn n d} (h:P.x=Q.x) (k:P.y=Q.y):P=Q:=by
 cases P; cases Q; subst h; subst k; rfl
def sumX (d:Fin n) (iv:Fin n→Fin n) (x1 y1 x2 y2:Fin n):Fin n:=(x1*y2+y1*x2)*iv (1+d*x1*x2*y1*y2)
def sumY (d:Fin n) (iv:Fin n→Fin n) (x1 y1 x2 y2:Fin n):Fin n:=(y1*y2+x1*x2)*iv (1 - d*x1*x2*y1*y2)
theorem sum_is {d:Fin n} {iv:Fin n→Fin n} (F:Fld n d iv) {x1 y1 x2 y2:Fin n} (h1:On d x1 y1) (h2:On d x2 y2):Sum d x1 y1 x2 y2 (sumX d iv x1 y1 x2 y2) (sumY d iv x1 y1 x2 y2):=by
 have ha:=F.iv1 _ (den_p F h1 h2);have hb:=F.iv1 _ (den_m F h1 h2)
 constructor
 ·unfold sumX; generalize iv (1+d*x1*x2*y1*y2)=v at *; grind -lia
 ·unfold sumY; generalize iv (1 - d*x1*x2*y1*y2)=v at *; grind -lia
section
variable {d:Fin n} {iv:Fin n→Fin n} (F:Fld n d iv)
def add (P Q:Pn n d):Pn n d:=⟨sumX d iv P.x P.y Q.x Q.y,sumY d iv P.x P.y Q.x Q.y,sum_on F P.on Q.on (sum_is F P.on Q.on)⟩
theorem add_sum (P Q:Pn n d):Sum d P.x P.y Q.x Q.y (add F P Q).x (add F P Q).y:=sum_is F P.on Q.on
theorem add_eq {P Q R:Pn n d} (h:Sum d P.x P.y Q.x Q.y R.x R.y):add F P Q=R:=Pn.eq (sum_one F P.on Q.on (add_sum F P Q) h).1 (sum_one F P.on Q.on (add_sum F P Q) h).2
def zero (d:Fin n):Pn n d:=⟨0,1,zero_on d⟩
def neg (P:Pn n d):Pn n d:=⟨-P.x,P.y,neg_on P.on⟩
theorem add_assoc (P Q R:Pn n d):add F (add F P Q) R=add F P (add F Q R) :=
 have h:=sum_assoc F P.on Q.on R.on (add_sum F P Q) (add_sum F (add F P Q) R) (add_sum F Q R) (add_sum F P (add F Q R))
 Pn.eq h.1 h.2
theorem add_comm (P Q:Pn n d):add F P Q=add F Q P:=add_eq F (sum_comm (add_sum F Q P))
theorem add_zero (P:Pn n d):add F P (zero d)=P:=add_eq F (sum_zero d P.x P.y)
theorem zero_add (P:Pn n d):add F (zero d) P=P:=by rw [add_comm,add_zero]
theorem add_neg (P:Pn n d):add F P (neg P)=zero d:=add_eq F (sum_neg P.on)
theorem add_right {P Q R:Pn n d} (h:add F P R=add F Q R):P=Q:=by
 rw [← add_zero F P,← add_zero F Q,← add_neg F R,← add_assoc,← add_assoc,h]
theorem neg_eq {P Q:Pn n d} (h:add F P Q=zero d):P=neg Q:=add_right F (h.trans ((add_comm F _ _).trans (add_neg F Q)).symm)
include F in
theorem neg_neg (P:Pn n d):neg (neg P)=P:=(neg_eq F (add_neg F P)).symm
def mul (P:Pn n d):Nat→Pn n d
 | 0=>zero d
 | k+1=>add F (mul P k) P
theorem mul_add (P:Pn n d) (a:Nat):∀ b,mul F P (a+b)=add F (mul F P a) (mul F P b)
 | 0=>(add_zero F _).symm
 | b+1=>by
  show add F (mul F P (a+b)) P=add F (mul F P a) (add F (mul F P b) P);rw [mul_add P a b,add_assoc]
theorem mul_one (P:Pn n d):mul F P 1=P:=zero_add F P
theorem mul_two (P:Pn n d) (k:Nat):mul F P (2*k)=add F (mul F P k) (mul F P k):=by rw [Nat.two_mul,mul_add]
theorem mul_mul (P:Pn n d) (a:Nat):∀ b,mul F P (a*b)=mul F (mul F P a) b
 | 0=>rfl
 | b+1=>by rw [Nat.mul_succ,mul_add,mul_mul P a b]; rfl
theorem mul_zero:∀ b:Nat,mul F (zero d) b=zero d
 | 0=>rfl
 | b+1=>(add_zero F _).trans (mul_zero b)
end
theorem four {d:Fin n} {iv:Fin n→Fin n} (F:Fld n d iv) {x1 y1 z1 x2 y2 z2 x y a b c z e f g h X1 Y1 T1 X2 Y2 T2 tw:Fin n} (h1:On d x1 y1) (h2:On d x2 y2) (s:Sum d x1 y1 x2 y2 x y)
  (hz1:z1≠0) (hz2:z2≠0) (hX1:X1=x1*z1) (hY1:Y1=y1*z1) (hT1:T1=x1*y1*z1) (hX2:X2=x2*z2) (hY2:Y2=y2*z2) (hT2:T2=x2*y2*z2) (htw:tw=d+d)
  (ha:a=(Y1 - X1)*(Y2 - X2)) (hb:b=(Y1+X1)*(Y2+X2)) (hc:c=T1*tw*T2) (hz:z=z1*z2) (he:e=b - a) (hh:h=b+a) (hf:f=z+z - c) (hg:g=z+z+c) :
  f*g≠0∧e*f=x*(f*g)∧g*h=y*(f*g)∧e*h=x*y*(f*g):=by
 have p:=den_p F h1 h2;have m:=den_m F h1 h2;have h2z:=mul_ne F F.two (mul_ne F hz1 hz2);obtain ⟨sx,sy⟩:=s;subst ha hb hc hz he hh hf hg hX1 hY1 hT1 hX2 hY2 hT2 htw;have f1:z1*z2+z1*z2 - x1*y1*z1*(d+d)*(x2*y2*z2)=2*(z1*z2)*(1 - d*x1*x2*y1*y2):=by clear sx sy p m h2z; grind -lia
 have g1:z1*z2+z1*z2+x1*y1*z1*(d+d)*(x2*y2*z2)=2*(z1*z2)*(1+d*x1*x2*y1*y2):=by clear sx sy p m h2z; grind -lia
 have e1:(y1*z1+x1*z1)*(y2*z2+x2*z2) - (y1*z1 - x1*z1)*(y2*z2 - x2*z2)=2*(z1*z2)*(x*(1+d*x1*x2*y1*y2)):=by rw [sx]; clear sx sy p m h2z; grind -lia
 have i1:(y1*z1+x1*z1)*(y2*z2+x2*z2)+(y1*z1 - x1*z1)*(y2*z2 - x2*z2)=2*(z1*z2)*(y*(1 - d*x1*x2*y1*y2)):=by rw [sy]; clear sx sy p m h2z; grind -lia
 rw [f1,g1,e1,i1];clear sx sy f1 g1 e1 i1 h1 h2;generalize 1+d*x1*x2*y1*y2=u at *;generalize 1 - d*x1*x2*y1*y2=v at *;refine ⟨mul_ne F (mul_ne F h2z m) (mul_ne F h2z p),?_,?_,?_⟩ <;> clear F h2z m p hz1 hz2 <;> grind -lia
end Go.Proofs.YtdgheahbafnboaaDoor.Ed
