/-
  Joined texts: Prime Ptn Rn Cat ShaS Bsn Owz Secp Turned Row64 Mix64 SumC Sum64 Top5 Sdg NegW Ed Ex Er Byp Ebf Rbz Sml Rll Sc Sd Lft Scr Sgp Spu.
-/
import Derived.Test.YtdgheahbafnboaaGreatDoorProg
import Derived.BigQuiet
import Derived.Deep.QuietTactic
import Derived.IntWalk
import Derived.Deep.DeepCutAuto
import Derived.Laws.BitsAllLaws
import Derived.Test.YtdgheahbafnboaaGreatDoorJ2
import Derived.Test.YtdgheahbafnboaaGreatDoorJ1
namespace Go.Proofs.YtdgheahbafnboaaGreatDoor
set_option linter.unusedSimpArgs false
set_option linter.unusedVariables false
set_option maxRecDepth 100000
set_option maxHeartbeats 4000000
open Go.RowKit
def Pr (p:Nat):Prop:=2≤p∧∀ d,d ∣ p→d=1∨d=p
theorem pr_ex:∀ n,2≤n→∃ r,Pr r∧r ∣ n:=fun n=>Nat.strongRecOn n fun n ih hn=>by
 by_cases h:∀ d,d ∣ n→d=1∨d=n
 ·exact ⟨n,⟨hn,h⟩,Nat.dvd_refl n⟩
 ·obtain ⟨d,hd⟩:=Classical.not_forall.1 h;obtain ⟨h1,h2⟩:=Classical.not_imp.1 hd;have h3:0<d:=Nat.pos_of_dvd_of_pos h1 (by omega);have h4:=Nat.le_of_dvd (by omega) h1;obtain ⟨r,hr,hrd⟩:=ih d (by omega) (by omega);exact ⟨r,hr,Nat.dvd_trans hrd h1⟩
theorem pr_cop {p a:Nat} (hp:Pr p) (h:¬ p ∣ a):Nat.gcd p a=1:=by
 rcases hp.2 _ (Nat.gcd_dvd_left p a) with h1 | h1
 ·exact h1
 ·exact absurd (h1▸Nat.gcd_dvd_right p a) h
theorem pr_dvd {p a b:Nat} (hp:Pr p) (h:p ∣ a*b):p ∣ a∨p ∣ b:=by
 by_cases ha:p ∣ a
 ·exact .inl ha
 ·exact .inr (Nat.Coprime.dvd_of_dvd_mul_left (pr_cop hp ha) h)
def ch:Nat→Nat→Nat
 | _,0=>1
 | 0,_+1=>0
 | n+1,k+1=>ch n k+ch n (k+1)
theorem ch_gt:∀ n k,n<k→ch n k=0
 | _,0,h=>absurd h (Nat.not_lt_zero _)
 | 0,_+1,_=>rfl
 | n+1,k+1,h=>by rw [ch,ch_gt n k (by omega),ch_gt n (k+1) (by omega)]
theorem ch_self:∀ n,ch n n=1
 | 0=>rfl
 | n+1=>by rw [ch,ch_self n,ch_gt n (n+1) (by omega)]
theorem ch_mul:∀ n k,(k+1)*ch (n+1) (k+1)=(n+1)*ch n k
 | 0,0=>rfl
 | 0,k+1=>by simp [ch]
 | n+1,0=>by
  have h:=ch_mul n 0;rw [ch,ch] at *;simp only [ch] at h ⊢;omega
 | n+1,k+1=>by
  have h1:=ch_mul n k;have h2:=ch_mul n (k+1);have e:ch (n+1+1) (k+1+1)=ch (n+1) (k+1)+ch (n+1) (k+1+1):=rfl;have e2:ch (n+1) (k+1)=ch n k+ch n (k+1):=rfl;rw [e,Nat.mul_add,h2];have e3:(k+1+1)*ch (n+1) (k+1)=(n+1)*ch n k+ch (n+1) (k+1):=by rw [Nat.add_mul,h1,Nat.one_mul]
  have e4:(n+1+1)*ch (n+1) (k+1)=(n+1)*ch n k+(n+1)*ch n (k+1)+ch (n+1) (k+1):=by
   rw [Nat.add_mul,Nat.one_mul]
   conv=>lhs; lhs; rw [e2]
   rw [Nat.mul_add]
  rw [e3,e4];omega
def bs (n a:Nat):Nat→Nat
 | 0=>0
 | k+1=>bs n a k+ch n k*a^k
theorem bs_step (n a:Nat):∀ k,bs (n+1) a (k+1)=bs n a (k+1)+a*bs n a k
 | 0=>by cases n <;> simp [bs,ch]
 | k+1=>by
  have ih:=bs_step n a k;have e1:bs (n+1) a (k+1+1)=bs (n+1) a (k+1)+(ch n k+ch n (k+1))*a^(k+1):=rfl;have e2:bs n a (k+1+1)=bs n a (k+1)+ch n (k+1)*a^(k+1):=rfl;have e3:bs n a (k+1)=bs n a k+ch n k*a^k:=rfl;have e4:a*(ch n k*a^k)=ch n k*a^(k+1):=by rw [Nat.pow_succ,Nat.mul_left_comm,Nat.mul_comm a]
  have e5:a*bs n a (k+1)=a*bs n a k+ch n k*a^(k+1):=by rw [e3,Nat.mul_add,e4]
  rw [e1,ih,e2,Nat.add_mul,e5];omega
theorem bs_pow (a:Nat):∀ n,(a+1)^n=bs n a (n+1)
 | 0=>by simp [bs,ch]
 | n+1=>by
  have ih:=bs_pow a n;have e:bs n a (n+1+1)=bs n a (n+1):=by rw [bs,ch_gt n (n+1) (by omega)]; simp
  rw [Nat.pow_succ,ih,bs_step,e,Nat.mul_add,Nat.mul_one,Nat.mul_comm];omega
theorem ch_dvd {p:Nat} (hp:Pr p) (k:Nat) (h1:0<k) (h2:k<p):p ∣ ch p k:=by
 obtain ⟨q,rfl⟩:∃ q,p=q+1:=⟨p - 1,by have:=hp.1; omega⟩;obtain ⟨j,rfl⟩:∃ j,k=j+1:=⟨k - 1,by omega⟩;have h:=ch_mul q j
 rcases pr_dvd hp (show q+1 ∣ (j+1)*ch (q+1) (j+1) from ⟨_,h⟩) with h3 | h3
 ·exact absurd (Nat.le_of_dvd (by omega) h3) (by omega)
 ·exact h3
theorem bs_mod {p:Nat} (hp:Pr p) (a:Nat):∀ k,k<p→bs p a (k+1)%p=1
 | 0,_=>by
  have h2:=hp.1;rw [bs,bs];simp only [ch,Nat.pow_zero];exact Nat.mod_eq_of_lt (by omega)
 | k+1,h=>by
  have ih:=bs_mod hp a k (by omega);obtain ⟨c,hc⟩:=ch_dvd hp (k+1) (by omega) h;have e:bs p a (k+1+1)=bs p a (k+1)+ch p (k+1)*a^(k+1):=rfl;rw [e,hc,Nat.mul_assoc,Nat.add_mul_mod_self_left];exact ih
theorem pow_succ_mod {p:Nat} (hp:Pr p) (a:Nat):(a+1)^p%p=(a^p+1)%p:=by
 have h2:=hp.1;obtain ⟨q,hq⟩:∃ q,p=q+1:=⟨p - 1,by omega⟩;have h:=bs_mod hp a q (by omega);rw [← hq] at h;have e:bs p a (p+1)=bs p a p+ch p p*a^p:=rfl;rw [bs_pow,e,ch_self,Nat.one_mul,Nat.add_mod,h,Nat.add_comm,← Nat.add_mod_mod,Nat.mod_eq_of_lt (show 1<p by omega),Nat.mod_add_mod]
theorem fermat0 {p:Nat} (hp:Pr p):∀ a,a^p%p=a%p
 | 0=>by rw [Nat.zero_pow (by have:=hp.1; omega)]
 | a+1=>by rw [pow_succ_mod hp,Nat.add_mod,fermat0 hp a,← Nat.add_mod]
theorem fermat {p:Nat} (hp:Pr p) (a:Nat) (h:¬ p ∣ a):a^(p - 1)%p=1:=by
 have h2:=hp.1;have h0:=fermat0 hp a;obtain ⟨q,rfl⟩:∃ q,p=q+1:=⟨p - 1,by omega⟩;rw [Nat.add_sub_cancel];have ha:0<a:=Nat.pos_of_ne_zero fun e=>h (e▸Nat.dvd_zero _);have hpos:0<a^q:=Nat.pow_pos ha
 have hd:q+1 ∣ a*(a^q - 1):=by
  have h1:=Nat.sub_mod_eq_zero_of_mod_eq h0;rw [Nat.pow_succ,Nat.mul_comm] at h1;rw [Nat.mul_sub,Nat.mul_one];exact Nat.dvd_of_mod_eq_zero h1
 rcases pr_dvd hp hd with h3 | h3
 ·exact absurd h3 h
 ·obtain ⟨c,hc⟩:=h3;rw [show a^q=1+(q+1)*c by omega,Nat.add_mul_mod_self_left];exact Nat.mod_eq_of_lt (by omega)
theorem pw_gcd {r c:Nat} (hr:2≤r):∀ m n,c^m%r=1→c^n%r=1→c^Nat.gcd m n%r=1:=fun m n=>by
 refine Nat.gcd.induction (P:=fun m n=>c^m%r=1→c^n%r=1→c^Nat.gcd m n%r=1) m n ?_ ?_
 ·intro n _ h;rw [Nat.gcd_zero_left]; exact h
 ·intro m n _ ih h1 h2;rw [Nat.gcd_rec];refine ih ?_ h1;have e:c^n=(c^m)^(n/m)*c^(n%m):=by rw [← Nat.pow_mul,← Nat.pow_add,Nat.div_add_mod]
  rw [e,Nat.mul_mod,Nat.pow_mod,h1,Nat.one_pow,Nat.mod_eq_of_lt (show 1<r by omega),Nat.one_mul,Nat.mod_mod] at h2;exact h2
theorem pock_dvd {q A N r:Nat} (hq:Pr q) (hN:N=q*A+1) (h1:2^(q*A)%N=1) (hg:Nat.gcd (2^A%N+(N - 1)) N=1) (hr:Pr r) (hd:r ∣ N):q ∣ r - 1:=by
 have hr2:=hr.1;have hq2:=hq.1;obtain ⟨c,hc⟩:=eX (2^A)
 have e1:c^q%r=1:=by
  rw [hc,← Nat.pow_mul,Nat.mul_comm,← Nat.mod_mod_of_dvd _ hd,h1,Nat.mod_eq_of_lt (by omega)]
 have hne:c%r≠1:=fun h=>by
  have h3:r ∣ 2^A%N+(N - 1):=by
   apply Nat.dvd_of_mod_eq_zero;have h5:2^A%N%r=1:=by rw [Nat.mod_mod_of_dvd _ hd,← hc]; exact h
   have h4:(1+(N - 1))%r=0:=by rw [show 1+(N - 1)=N by omega]; exact Nat.mod_eq_zero_of_dvd hd
   rw [← Nat.mod_add_mod,h5];exact h4
  have h5:=Nat.dvd_gcd h3 hd;rw [hg] at h5;have:=Nat.le_of_dvd (by omega) h5;omega
 have hnd:¬ r ∣ c:=fun h=>by
  have h3:c^q%r=0:=by rw [Nat.pow_mod,Nat.mod_eq_zero_of_dvd h,Nat.zero_pow (by omega)]; exact Nat.zero_mod r
  omega
 have e2:=fermat hr c hnd;apply Classical.byContradiction;intro hn;have h3:=pw_gcd hr2 q (r - 1) e1 e2;rw [pr_cop hq hn,Nat.pow_one] at h3;exact hne h3
theorem pock {q A N:Nat} (hq:Pr q) (hN:N=q*A+1) (hN2:2≤N) (h1:2^(q*A)%N=1) (hg:Nat.gcd (2^A%N+(N - 1)) N=1) (hB:A/q=0∨A/q+1<A%q):Pr N:=by
 have hq2:=hq.1;obtain ⟨r,hr,hd⟩:=pr_ex N hN2;obtain ⟨s,hs⟩:=pock_dvd hq hN h1 hg hr hd;have hr2:=hr.1;have hrs:r=q*s+1:=by omega
 obtain ⟨m,hm⟩:=hd
 have e:q*A+1=q*(s*m)+m:=by
  rw [← hN,hm,hrs,Nat.add_mul,Nat.one_mul,Nat.mul_assoc]
 have hle:s*m≤A:=by
  apply Nat.le_of_not_lt;intro h;have h2:q*(A+1)≤q*(s*m):=Nat.mul_le_mul_left q h;rw [Nat.mul_add] at h2;omega
 obtain ⟨t,ht⟩:∃ t,A=s*m+t:=⟨A - s*m,by omega⟩;have hmt:m=q*t+1:=by rw [ht,Nat.mul_add] at e; omega
 by_cases ht0:t=0
 ·rw [ht0,Nat.mul_zero,Nat.zero_add] at hmt;rw [hm,hmt,Nat.mul_one]; exact hr
 ·exfalso
  have hs0:s≠0:=fun h=>by rw [h,Nat.mul_zero] at hrs; omega
  have eA:A=(s+t)+q*(s*t):=by
   rw [ht,hmt,Nat.mul_add,Nat.mul_one,Nat.mul_left_comm]; omega
  have hst:s+t≤s*t+1:=by
   obtain ⟨s',rfl⟩:∃ s',s=s'+1:=⟨s - 1,by omega⟩;obtain ⟨t',rfl⟩:∃ t',t=t'+1:=⟨t - 1,by omega⟩;rw [Nat.add_mul,Nat.mul_add];omega
  have hpos:0<s*t:=Nat.mul_pos (Nat.pos_of_ne_zero hs0) (Nat.pos_of_ne_zero ht0);have hdiv:A/q=(s+t)/q+s*t:=by rw [eA,Nat.add_mul_div_left _ _ (by omega)]
  have hmod:A%q=(s+t)%q:=by rw [eA,Nat.add_mul_mod_self_left]
  have hlt:A%q<q:=Nat.mod_lt _ (by omega);generalize (s+t)/q=z1 at hdiv;generalize A/q=z2 at hdiv hB;generalize A%q=z3 at hmod hB hlt;generalize s*t=z4 at hst hpos hdiv
  rcases hB with h | h
  ·omega
  ·have h3:s+t<q:=by omega
   rw [Nat.mod_eq_of_lt h3] at hmod;omega
theorem pr_trial (n k:Nat) (h2:2≤n) (hk:n<k*k) (h:∀ d,d<k→2≤d→n%d≠0):Pr n:=by
 refine ⟨h2,fun d hd=>?_⟩;apply Classical.byContradiction;intro hn;obtain ⟨e,he⟩:=hd;have hd0:d≠0:=fun h=>by rw [h,Nat.zero_mul] at he; omega
 have hd1:d≠1:=fun h=>hn (.inl h);have he0:e≠0:=fun h=>by rw [h,Nat.mul_zero] at he; omega
 have he1:e≠1:=fun h=>hn (.inr (by rw [he,h,Nat.mul_one]))
 by_cases hdk:d<k
 ·exact h d hdk (by omega) (by rw [he]; exact Nat.mul_mod_right d e)
 ·by_cases hek:e<k
  ·exact h e hek (by omega) (by rw [he]; exact Nat.mul_mod_left d e)
  ·have:=Nat.mul_le_mul (Nat.le_of_not_lt hdk) (Nat.le_of_not_lt hek);omega
theorem two_pow {N E:Nat} (k:Nat) (hk:E<256^k):2^E%N=pm N 2 ((List.range k).map fun j=>E/256^j%256):=by
 rw [pm_eq,leV_mod,Nat.mod_eq_of_lt hk]
theorem pockD {q A N:Nat} (k l:Nat) (hq:Pr q) (hN:N=q*A+1) (hN2:2≤N) (hk:N<256^k) (hl:A<256^l) (h1:pm N 2 ((List.range k).map fun j=>(N - 1)/256^j%256)=1) (hg:Nat.gcd (pm N 2 ((List.range l).map fun j=>A/256^j%256)+(N - 1)) N=1) (hB:A/q=0∨A/q+1<A%q):Pr N:=by
 refine pock hq hN hN2 ?_ ?_ hB
 ·rw [show q*A=N - 1 by omega,two_pow k (by omega)]; exact h1
 ·rw [two_pow l hl]; exact hg
theorem prime1:Pr 991:=pr_trial 991 32 (by decide) (by decide) (by decide)
theorem prime2:Pr 8574133:=pockD (A:=8652) 3 3 prime1 (by decide) (by decide) (by decide) (by decide) (by decide) (by decide) (by decide)
theorem prime3:Pr 1919519569386763:=pockD (A:=223873314) 7 4 prime2 (by decide) (by decide) (by decide) (by decide) (by decide) (by decide) (by decide)
theorem prime4:Pr 75445702479781427272750846543864801:=pockD (A:=39304471641247389600) 15 9 prime3 (by decide) (by decide) (by decide) (by decide) (by decide) (by decide) (by decide)
theorem prime5:Pr 74058212732561358302231226437062788676166966415465897661863160754340907:=pockD (A:=981609426360740691344999861639072106) 30 15 prime4 (by decide) (by decide) (by decide) (by decide) (by decide) (by decide) (by decide)
theorem prime6:Pr PN:=pockD (A:=781764) 32 3 prime5 (by decide) (by decide) (by decide) (by decide) (by decide) (by decide) (by decide)
theorem fermatP (a:Nat) (h:a%PN≠0):a^(PN - 1)%PN=1:=fermat prime6 a fun hd=>h (Nat.mod_eq_zero_of_dvd hd)
structure PtN where
 x:Nat
 y:Nat
 z:Nat
 t:Nat
deriving DecidableEq
def sN (a b:Nat):Nat:=(a+b)%PN
def uN (a b:Nat):Nat:=(a+(PN - b%PN))%PN
def mN (a b:Nat):Nat:=a*b%PN
theorem uN_sm (a b:Nat):Sm (uN a b+b) a:=by
 unfold Sm uN;simp only [PN];omega
def Rp (x:E5) (n:Nat):Prop:=Sm x.val n
theorem Rp.add {x y:E5} {a b:Nat} (h:Rp x a) (k:Rp y b):Rp (addE x y) (sN a b):=(sm_add x y).trans (Sm.trans (Sm.add h k) (show Sm (a+b) (sN a b) from (Nat.mod_mod _ _).symm))
theorem Rp.mul {x y:E5} {a b:Nat} (h:Rp x a) (k:Rp y b):Rp (mulE x y) (mN a b):=(sm_mul x y).trans (Sm.trans (Sm.mul h k) (show Sm (a*b) (mN a b) from (Nat.mod_mod _ _).symm))
theorem Rp.sub {x y:E5} {a b:Nat} (hy:y.Ok) (h:Rp x a) (k:Rp y b):Rp (subE x y) (uN a b):=by
 refine Sm.back (c:=b) ?_;exact (((Sm.refl _).add k.symm).trans (sm_sub hy)).trans (h.trans (uN_sm a b).symm)
def sumN (p q:PtN) (w:Nat):PtN :=
 let a:=mN (uN p.y p.x) (uN q.y q.x)
 let b:=mN (sN p.y p.x) (sN q.y q.x)
 let c:=mN (mN p.t w) q.t
 let z:=mN p.z q.z
 let e:=uN b a
 let h:=sN b a
 let f:=uN (sN z z) c
 let g:=sN (sN z z) c
 ⟨mN e f,mN g h,mN f g,mN e h⟩
structure Rep (p:Pt4) (n:PtN):Prop where
 x:Rp p.x n.x
 y:Rp p.y n.y
 z:Rp p.z n.z
 t:Rp p.t n.t
theorem Rep.sum {p q:Pt4} {tw:E5} {m n:PtN} {w:Nat} (hp:p.Ok) (hq:q.Ok) (hw:tw.Ok) (h:Rep p m) (k:Rep q n) (l:Rp tw w):Rep (sumP p q tw) (sumN m n w):=by
 have okA:=qax (qbb hp.y hp.x) (qbb hq.y hq.x);have okC:=qax (qax hp.t hw) hq.t;have a:=(h.y.sub hp.x h.x).mul (k.y.sub hq.x k.x);have b:=(h.y.add h.x).mul (k.y.add k.x);have c:=(h.t.mul l).mul k.t;have z:=h.z.mul k.z;have e:=b.sub okA a;have hh:=b.add a;have f:=(z.add z).sub okC c;have g:=(z.add z).add c;exact ⟨e.mul f,g.mul hh,f.mul g,e.mul hh⟩
def dN:Nat:=37095705934669439343138083508754565189542113879843219016388785533085940283555
def bxN:Nat:=15112221349535400772501151409588531511454012693041857206046113283949847762202
def byNN:Nat:=46316835694926478169428394003475163141307993866256225615783033603165251855960
theorem qc1 {l:List Nat} {n:Nat} (h1:mayR (toB (revS l 16))=true) (h2:leV (digs (toB (revS l 16)))=n) (h3:n<2^255):(knownE l).val=n:=by
 rw [knownE,readE,if_pos h1,ofN_val,h2,Nat.mod_eq_of_lt h3]
theorem dE_val:dE.val=dN:=qc1 (by decide) (by decide) (by decide)
theorem bx_val:(knownE bxL).val=bxN:=qc1 (by decide) (by decide) (by decide)
theorem by_val:(knownE byL).val=byNN:=qc1 (by decide) (by decide) (by decide)
def pmSN (T:Nat) (p out:PtN) (bit:Nat):PtN:=if bit=1 then sumN (sumN out out T) p T else sumN out out T
def pmBN (T:Nat) (p out:PtN) (b:Nat):Nat→PtN
 | 0=>out
 | j+1=>pmSN T p (pmBN T p out b j) (b/2^(7 - j)%2)
def zeroN:PtN:=⟨0,1,1,0⟩
def pmLN (T:Nat) (p:PtN) (l:List Nat):Nat→PtN
 | 0=>zeroN
 | j+1=>pmBN T p (pmLN T p l j) (l.getD (l.length - 1 - j) 0) 8
def d2N:Nat:=sN dN dN
def mulN (p:PtN) (l:List UInt8):PtN:=pmLN d2N p (digs (l.take 32)) (min l.length 32)
def DN (v:Nat):List Value:=dV (digN 32 v)
def NumPost (v:Nat) (w:World) (e:Ending) (w':World):Prop:=∃ A c,e=.returned (.slice A 32 c)∧32≤c∧Rd w' w'.heap.size A (DN v)∧Below w.heap.size w w'
theorem qd9 {v:Nat} {w:World} {e:Ending} {w':World} (h:DigPost (digN 32 v) w e w'):NumPost v w e w':=by
 obtain ⟨A,c,h1,h2,h3,h4⟩:=h;rw [qai] at h1 h2;exact ⟨A,c,h1,h2,h3,h4⟩
theorem qcU:0<PN:=by decide
theorem pn_big:PN<256^32:=by decide
theorem lev_n {a:Nat} (h:a<PN):leV (digN 32 a)=a:=qaQ 32 a (Nat.lt_trans h pn_big)
theorem nmul {a b:Nat} (ha:a<PN) (hb:b<PN) {A B:Option Addr} {c d:Nat} {u:World} (h:Rd u u.heap.size A (DN a)) (k:Rd u u.heap.size B (DN b)) :
  Calls Tryz.prog 39 #[.slice A 32 c,.slice B 32 d] u (NumPost (a*b%PN) u):=by
 have e:=rmul_any (digN 32 a) (digN 32 b) (qaE _ _) (qaE _ _) A B c d u h k (by rw [qai]; decide) (by rw [qai]; decide);rw [lev_n ha,lev_n hb,qai,qai] at e;exact e.mono fun _ _ h=>qd9 h
theorem nadd {a b:Nat} (ha:a<PN) (hb:b<PN) {A B:Option Addr} {c d:Nat} {u:World} (h:Rd u u.heap.size A (DN a)) (k:Rd u u.heap.size B (DN b)) :
  Calls Tryz.prog 43 #[.slice A 32 c,.slice B 32 d] u (NumPost ((a+b)%PN) u):=by
 have e:=radd_any (digN 32 a) (digN 32 b) (qaE _ _) (qaE _ _) A B c d u h k (by rw [qai]; decide) (by rw [qai]; decide);rw [lev_n ha,lev_n hb,qai,qai] at e;exact e.mono fun _ _ h=>qd9 h
theorem nsub {a b:Nat} (ha:a<PN) (hb:b<PN) {A B:Option Addr} {c d:Nat} {u:World} (h:Rd u u.heap.size A (DN a)) (k:Rd u u.heap.size B (DN b)) :
  Calls Tryz.prog 13 #[.slice A 32 c,.slice B 32 d] u (NumPost ((a+PN - b)%PN) u):=by
 have e:=rsub_any (digN 32 a) (digN 32 b) (qaE _ _) (qaE _ _) (by rw [lev_n ha,lev_n hb]; omega) A B c d u h k (by rw [qai]; decide) (by rw [qai]; decide);rw [lev_n ha,lev_n hb,qai,qai] at e;exact e.mono fun _ _ h=>qd9 h
theorem ninv {a:Nat} (ha:a<PN) {A:Option Addr} {c:Nat} {u:World} (h:Rd u u.heap.size A (DN a)) :
  Calls Tryz.prog 38 #[.slice A 32 c] u (NumPost (a^(PN - 2)%PN) u):=by
 have e:=rinv_any (digN 32 a) (qaE _ _) A c u h (by rw [qai]; decide);rw [lev_n ha,qai] at e;exact e.mono fun _ _ h=>qd9 h
theorem npow {a:Nat} {e:List Nat} (ha:a<PN) (he:Dg e) (hl:e.length=32) {A B:Option Addr} {c d:Nat} {u:World} (h:Rd u u.heap.size A (DN a)) (k:Rd u u.heap.size B (dV e)) :
  Calls Tryz.prog 73 #[.slice A 32 c,.slice B 32 d] u (NumPost (a^leV e%PN) u):=by
 have q:=rpow_any (digN 32 a) e (qaE _ _) he A B c d u h k (by rw [qai]; decide) (by rw [hl]; decide);rw [lev_n ha,qai,hl] at q;exact q.mono fun _ _ h=>qd9 h
theorem nint (N:Nat) (hN:N<1000000) (u:World):Calls Tryz.prog 14 #[.int .i64 (N:Int)] u (NumPost N u):=by
 have q:=rint_nat N (by omega) u;rw [Nat.mod_eq_of_lt (Nat.lt_of_lt_of_le hN (show 1000000≤PN by decide))] at q;exact q.mono fun _ _ h=>qd9 h
theorem nneg (N:Nat) (hN:N<1000000) (h0:0<N) (u:World):Calls Tryz.prog 14 #[.int .i64 (-(N:Int))] u (NumPost (PN - N) u):=by
 have q:=rint_neg N (by omega) h0 u;have hP:1000000≤PN:=by decide
 rw [Nat.mod_eq_of_lt (Nat.lt_of_lt_of_le hN hP),Nat.mod_eq_of_lt (by omega)] at q;exact q.mono fun _ _ h=>qd9 h
theorem nsame {a b:Nat} (ha:a<PN) (hb:b<PN) {A B:Option Addr} {c d:Nat} {u:World} (h:Rd u u.heap.size A (DN a)) (k:Rd u u.heap.size B (DN b)) (hc:32≤c) (hd:32≤d) :
  Calls Tryz.prog 67 #[.slice A 32 c,.slice B 32 d] u (BoolPost (decide (a=b)) u):=by
 have q:=same_any (digN 32 a) (digN 32 b) (qaE _ _) (qaE _ _) (qai _ _) (qai _ _) A B c d u h k hc hd
 have e:(refB (digN 32 a) == refB (digN 32 b))=decide (a=b):=by
  rw [qdz,qdz,Bool.eq_iff_iff,beq_iff_eq,decide_eq_true_iff]
  constructor
  ·intro h;have h1:digs (byB a)=digs (byB b):=by rw [h]
   rw [qcw,qcw] at h1;exact byN_inj (Nat.lt_trans ha pn_big) (Nat.lt_trans hb pn_big) h1
  ·rintro rfl; rfl
 rw [e] at q;exact q
theorem qae {A:Option Addr} {xs:List Value} {u u':World} (h:Rd u u.heap.size A xs) (hb:Below u.heap.size u u'):Rd u' u'.heap.size A xs:=(h.below hb).mono hb.size
theorem d_num:(PN - 121665)*(121666^(PN - 2)%PN)%PN=dN:=by
 rw [← qdI,← pm_eq]
 decide
theorem nd_any (w:World):Calls Tryz.prog 36 #[] w (NumPost dN w):=by
 obtain ⟨a,ha⟩:=eX (PN - 121665);obtain ⟨i,hi⟩:=eX (121666^(PN - 2)%PN);have la:a<PN:=by rw [ha]; decide
 have li:i<PN:=by rw [hi]; exact Nat.mod_lt _ qcU
 have e:a*i%PN=dN:=by rw [ha,hi]; exact d_num
 have C1:=zY (show ∀ u,Calls Tryz.prog 14 #[.int .i64 (-121665)] u (NumPost a u) from fun u=>by rw [ha]; exact nneg 121665 (by decide) (by decide) u);have C2:=zY (show ∀ u,Calls Tryz.prog 14 #[.int .i64 121666] u (NumPost 121666 u) from fun u=>nint 121666 (by decide) u);have C3:=zY (show ∀ u A c,Rd u u.heap.size A (DN 121666)→Calls Tryz.prog 38 #[.slice A 32 c] u (NumPost i u) from fun u A c h=>by rw [hi]; exact ninv (by decide) h);have C4:=zY (show ∀ u A c B d,Rd u u.heap.size A (DN a)→Rd u u.heap.size B (DN i)→Calls Tryz.prog 39 #[.slice A 32 c,.slice B 32 d] u (NumPost dN u) from fun u A c B d h k=>by rw [← e]; exact nmul la li h k);clear ha hi la li e;generalize dN=D at *;go_enter Tryz.func36,Tryz.ntmps36;go_wp2_with fail;refine qaa (C1.out _) ?_;rintro e w1 ⟨A1,c1,rfl,hc1,hr1,hb1⟩;have H1:=zY hr1;have HB1:=zY hb1;clear hr1 hb1 hc1;go_wp2_with fail;refine qaa (C2.out _) ?_;rintro e w2 ⟨A2,c2,rfl,hc2,hr2,hb2⟩;have H1:=zY (qae H1.out hb2);have H2:=zY hr2;have HB2:=zY (HB1.out.trans (hb2.mono HB1.out.size));clear hr2 hb2 hc2 HB1;go_wp2_with fail;refine qaa (C3.out _ _ _ H2.out) ?_;rintro e w3 ⟨A3,c3,rfl,hc3,hr3,hb3⟩;have H1:=zY (qae H1.out hb3);have H3:=zY hr3;have HB3:=zY (HB2.out.trans (hb3.mono HB2.out.size));clear hr3 hb3 hc3 HB2;go_wp2_with fail;refine qaa (C4.out _ _ _ _ _ H1.out H3.out) ?_;rintro e w4 ⟨A4,c4,rfl,hc4,hr4,hb4⟩;have H4:=zY hr4;have HB4:=zY (HB3.out.trans (hb4.mono HB3.out.size));have HC4:=zY hc4;clear hr4 hb4 hc4 HB3 H1 H2 H3;go_wp2_with fail;go_ret;exact ⟨A4,c4,rfl,HC4.out,H4.out,HB4.out⟩
structure Segs (w:World) (bs:List (List UInt8)) (vs:List Value):Prop where
 len:vs.length=bs.length
 at_:∀ (i:Nat) (b:List UInt8),bs[i]?=some b→∃ A c,vs[i]?=some (Value.slice A b.length c)∧Rd w w.heap.size A (bytesV b)
def catL (bs:List (List UInt8)) (k:Nat):List UInt8:=(bs.take k).flatten
theorem catL_next {bs:List (List UInt8)} {k:Nat} (h:k<bs.length):catL bs (k+1)=catL bs k++bs[k]:=by
 rw [catL,catL,List.take_add_one,List.getElem?_eq_getElem h,List.flatten_append];simp
theorem catL_le (bs:List (List UInt8)):∀ k,(catL bs k).length≤bs.flatten.length:=fun k=>by
 have h:=congrArg (fun l=>(List.flatten l).length) (List.take_append_drop k bs);simp only [List.flatten_append,List.length_append] at h;unfold catL;omega
theorem catL_all (bs:List (List UInt8)):catL bs bs.length=bs.flatten:=by rw [catL,List.take_length]
theorem bytesV_one1 (b:List UInt8):∀ u ∈ bytesV b,u.oneCell'=true:=fun u h=>by
 rw [bytesV] at h;obtain ⟨x,_,rfl⟩:=List.mem_map.1 h;rfl
theorem concat_any (bs:List (List UInt8)) (vs:List Value) (o:Nat) (w:World) (hs:Segs w bs vs) (hb:Blk w o 22 vs.toArray) (hl:bs.flatten.length≤40000) (hn:bs.length≤4) :
  Calls Tryz.prog 58 #[.slice (some ⟨o,0,none⟩) bs.length bs.length] w (OwnPost 5 bs.flatten.length (bytesV bs.flatten) w):=by
 obtain ⟨n,hn0⟩:=eX (bs.length);rw [← hn0] at hn ⊢;have hn63:(n:Int)≤4:=by omega
 obtain ⟨z,hz⟩:=eX (bs.flatten.length);have hz63:(z:Int)≤40000:=by omega
 have hcat:∀ k,(catL bs k).length≤z:=fun k=>by rw [hz]; exact catL_le bs k
 have hcell:∀ k,k<n→∃ b A c,bs[k]?=some b∧Rd w w.heap.size A (bytesV b)∧(w.cell? ⟨o,k,none⟩=some (Value.slice A b.length c)):=fun k hk=>by
  have hk':k<bs.length:=by rw [← hn0]; exact hk
  obtain ⟨A,c,h1,h2⟩:=hs.at_ k _ (List.getElem?_eq_getElem hk');exact ⟨_,A,c,List.getElem?_eq_getElem hk',h2,by rw [hb.cell,List.getElem?_toArray,h1]⟩
 have HC:=zY hcell;have HK:=zY hcat;have HN:=zY hn0;have HZ:=zY hz;have HO:=zY hb.lt;rw [← hz];clear hcell hcat hn0 hs hb hl hz hn;go_enter Tryz.func58,Tryz.ntmps58;go_wp2_with fail
 go_loopw [3,11] (fun s i wr=>∃ k:Nat,k≤n∧s=.int .i64 (((catL bs k).length:Nat):Int)∧i=.int .i64 (k:Int)∧w=wr) (fun _ i _=>n - (intOf i).toNat)
 case atStart=>exact ⟨0,by omega,rfl,rfl,rfl⟩
 case round =>
  obtain ⟨k,hk,rfl,rfl,rfl⟩:=hrel
  by_cases hlt:k<n
  ·have hlt':(k:Int)<(n:Int):=by omega
   obtain ⟨b,A,c,hbk,hrd,hce⟩:=HC.out k hlt
   have hnx:catL bs (k+1)=catL bs k++b:=by
    have hk':k<bs.length:=by rw [← HN.out]; exact hlt
    rw [List.getElem?_eq_getElem hk'] at hbk;rw [catL_next hk',Option.some.inj hbk]
   have h1:=HK.out k;have h2:=HK.out (k+1);have h3:(catL bs (k+1)).length=(catL bs k).length+b.length:=by rw [hnx,List.length_append]
   obtain ⟨s,hs⟩:=eX ((catL bs k).length);obtain ⟨s2,hs2⟩:=eX ((catL bs (k+1)).length);obtain ⟨m,hm⟩:=eX (b.length);rw [← hs] at h1 h3 ⊢;rw [← hs2] at h2 h3;rw [← hm] at h3 hce;have hs1':(s:Int)≤40000:=by omega
   have hs2':(s:Int)+m=s2:=by omega
   have hs3':(s2:Int)≤40000:=by omega
   have hm':(m:Int)≤40000:=by omega
   have HS2:=zY hs2;clear h1 h2 h3 hs hs2 hm hbk hrd hnx;go_wp2_with fail;refine ⟨⟨k+1,by omega,?_,by go_num,trivial⟩,by simp [intOf]; omega⟩;rw [← HS2.out]
  ·obtain rfl:k=n:=by omega
   have hzz:(catL bs k).length=z:=by rw [HN.out,catL_all,HZ.out]
   rw [hzz];have HG:=zY (grow_any z (by omega) w);clear hlt hk;go_wp2_with fail;refine qaa HG.out ?_;rintro e w1 ⟨A1,c1,rfl,ho1,hb1⟩;have HO1:=zY ho1;have HB1:=zY hb1;clear ho1 hb1;go_wp2_with fail
   go_loopw [6,27] (fun v i wr=>∃ (j:Nat) (A2:Option Addr) (c2:Nat),j≤k∧i=.int .i64 (j:Int)∧v=.slice A2 (catL bs j).length c2∧OwnX wr w.heap.size 5 1 (.slice A2 (catL bs j).length c2) (catL bs j).length (bytesV (catL bs j))∧Below w.heap.size w wr) (fun _ i _=>k - (intOf i).toNat)
   case atStart=>exact ⟨0,A1,c1,by omega,rfl,rfl,OwnX.of HO1.out,HB1.out⟩
   case round =>
    clear HO1 HB1;obtain ⟨j,A2,c2,hj,rfl,rfl,hown,hbel⟩:=hrel
    by_cases hlt:j<k
    ·have hlt':(j:Int)<(k:Int):=by omega
     obtain ⟨b,A,c,hbk,hrd,hce⟩:=HC.out j hlt
     have hnx:catL bs (j+1)=catL bs j++b:=by
      have hk':j<bs.length:=by rw [← HN.out]; exact hlt
      rw [List.getElem?_eq_getElem hk'] at hbk;rw [catL_next hk',Option.some.inj hbk]
     have h1:=HK.out j;have h2:=HK.out (j+1);have h3:(catL bs (j+1)).length=(catL bs j).length+b.length:=by rw [hnx,List.length_append]
     have hbv:bytesV (catL bs (j+1))=bytesV (catL bs j)++bytesV b:=by rw [hnx,qaK]
     have hbl:(bytesV b).length=b.length*1:=by rw [qaq,Nat.mul_one]
     have h1v:=bytesV_one1 b;have hce2:wr.cell? ⟨o,j,none⟩=some (Value.slice A b.length c):=(hbel.cell HO.out).trans hce;have hcap:=(qbZ hown).1;obtain ⟨s,hs⟩:=eX ((catL bs j).length);obtain ⟨m,hm⟩:=eX (b.length);rw [← hs] at h1 h3 hown ⊢;rw [← hm] at h3 hce2 hbl;have hs1':s≤40000:=by omega
     have hm':m≤40000:=by omega
     have HOWN:=zY hown;have HBEL:=zY hbel;have HBV:=zY hbv;have HBL:=zY hbl;have H1V:=zY h1v;have HRD:=zY (hrd.below hbel);have H3:=zY h3;clear h1 h2 h3 hs hm hbk hrd hnx hown hbel hbv hbl h1v hce hcap;go_wp2_with (refine qaF sl_bytes rfl rfl HOWN.out rfl rfl HBL.out HRD.out H1V.out (by unfold maxLen; omega) (by omega) HBEL.out.size ?_; intro A3 c3 w3 hown3 hg3 hn3; have HOWN3:=zY hown3; have HB3:Hid (Below w.heap.size w w3):=zY (qaT HBEL.out HOWN.out HBEL.out.size hg3); clear hown3 hg3 hn3);refine ⟨⟨j+1,A3,c3,by omega,by go_num,by rw [H3.out],?_,HB3.out⟩,by simp [intOf]; omega⟩;rw [H3.out,HBV.out];exact HOWN3.out
    ·obtain rfl:j=k:=by omega
     have hzz:(catL bs j).length=z:=by rw [HN.out,catL_all,HZ.out]
     rw [hzz] at hown ⊢;have hall:catL bs j=bs.flatten:=by rw [HN.out,catL_all]
     rw [hall] at hown;have HOWN:=zY hown;have HBEL:=zY hbel;clear hown hbel;go_wp2_with fail;go_ret;exact ⟨A2,c2,rfl,HOWN.out,HBEL.out⟩
end Go.Proofs.YtdgheahbafnboaaGreatDoor
namespace Go.Proofs.YtdgheahbafnboaaGreatDoor.Sh
set_option linter.unusedSimpArgs false
set_option linter.unusedVariables false
set_option maxRecDepth 100000
set_option maxHeartbeats 4000000
open Go.RowKit
def zeroN (F:ShaF) (n:Nat):Nat:=(2*F.bits - 8+2*F.bits - (n+1)%(2*F.bits))%(2*F.bits)
def moreN (F:ShaF) (n:Nat):Nat:=if 8<F.bits/4∧2*F.bits - F.bits/4≤n%(2*F.bits)∧n%(2*F.bits)<2*F.bits - 8 then 2*F.bits else 0
def be8 (n:Nat):Nat→List UInt8
 | 0=>[]
 | k+1=>be8 n k++[UInt8.ofNat (n/2^(56 - 8*k))]
def prepS (F:ShaF) (data:List UInt8):List UInt8:=data++[128]++List.replicate (zeroN F data.length) 0++List.replicate (moreN F data.length) 0
def padS (F:ShaF) (data:List UInt8):List UInt8:=data++[128]++List.replicate (zeroN F data.length) 0++List.replicate (moreN F data.length) 0++be8 (data.length*8) 8
def firstN:List Nat:=[7640891576956012808,13503953896175478587,4354685564936845355,11912009170470909681,5840696475078001361,11170449401992604703,2270897969802886507,6620516959819538809]
def startS (F:ShaF):S8 :=
 let f:=fun i=>firstN.getD i 0/2^(64 - F.bits)%2^F.bits
 ⟨f 0,f 1,f 2,f 3,f 4,f 5,f 6,f 7⟩
def runS (F:ShaF) (all:List UInt8):Nat→S8
 | 0=>startS F
 | k+1=>mixS F (runS F all k) ((all.drop (k*(2*F.bits))).take (2*F.bits))
def setC (K:IntKind) (s:S8) (i:Nat):Array Value:=(wordsV K ((s8L s).take i++(s8L ⟨0,0,0,0,0,0,0,0⟩).drop i)).toArray
theorem setC_end (K:IntKind) (s:S8):setC K s 8=s8V K s:=rfl
theorem setC_at (K:IntKind) (s:S8) (i:Nat) (h:i<8):(setC K s i)[i]?=some (.int K 0):=by
 match i,h with
 | 0,_=>rfl
 | 1,_=>rfl
 | 2,_=>rfl
 | 3,_=>rfl
 | 4,_=>rfl
 | 5,_=>rfl
 | 6,_=>rfl
 | 7,_=>rfl
theorem setC_set (K:IntKind) (s:S8) (i:Nat) (h:i<8):(setC K s i).setIfInBounds i (.int K (((s8L s).getD i 0:Nat):Int))=setC K s (i+1):=by
 match i,h with
 | 0,_=>rfl
 | 1,_=>rfl
 | 2,_=>rfl
 | 3,_=>rfl
 | 4,_=>rfl
 | 5,_=>rfl
 | 6,_=>rfl
 | 7,_=>rfl
theorem startS_at (F:ShaF) (i:Nat) (h:i<8):(s8L (startS F)).getD i 0=firstN.getD i 0/2^(64 - F.bits)%2^F.bits:=by
 match i,h with
 | 0,_=>rfl
 | 1,_=>rfl
 | 2,_=>rfl
 | 3,_=>rfl
 | 4,_=>rfl
 | 5,_=>rfl
 | 6,_=>rfl
 | 7,_=>rfl
theorem firstN_all:(firstN.all fun x=>decide (x<18446744073709551616))=true:=by decide +kernel
theorem firstN_lt (i:Nat):firstN.getD i 0<18446744073709551616 :=
 qcl (fun x hx=>by simpa using (List.all_eq_true.1 firstN_all) x hx) (by decide) i
theorem startS_lt (F:ShaF):(startS F).Lt (2^F.bits):=by
 constructor <;> exact Nat.mod_lt _ (Nat.two_pow_pos _)
theorem mixS_lt (F:ShaF) (s:S8) (blk:List UInt8):(mixS F s blk).Lt (2^F.bits):=addS_lt _ _ _
theorem runS_lt (F:ShaF) (all:List UInt8):∀ k,(runS F all k).Lt (2^F.bits)
 | 0=>startS_lt F
 | _+1=>mixS_lt F _ _
theorem s8L_lt {s:S8} {m:Nat} (h:s.Lt m) (hm:0<m) (i:Nat):(s8L s).getD i 0<m :=
 qcl (fun x hx=>by
  simp [s8L] at hx
  rcases hx with rfl | rfl | rfl | rfl | rfl | rfl | rfl | rfl
  all_goals first | exact h.a | exact h.b | exact h.c | exact h.d | exact h.e | exact h.f | exact h.g | exact h.h) hm i
def wordB (b:Nat) (x:Nat):Nat→List UInt8
 | 0=>[]
 | k+1=>wordB b x k++[UInt8.ofNat (x/2^(b - 8 - 8*k))]
def digS (F:ShaF) (data:List UInt8):List UInt8:=(s8L (runS F (padS F data) ((padS F data).length/(2*F.bits)))).flatMap fun x=>wordB F.bits x (F.bits/8)
end Go.Proofs.YtdgheahbafnboaaGreatDoor.Sh
namespace Go.Proofs.YtdgheahbafnboaaGreatDoor
set_option linter.unusedSimpArgs false
set_option linter.unusedVariables false
set_option maxRecDepth 100000
set_option maxHeartbeats 4000000
open Go.RowKit
def bsN (l:List Nat):List UInt8:=l.map UInt8.ofNat
theorem qdL {l:List Nat} (h:Dg l):digs (bsN l)=l:=qcv l h
theorem qcp {l:List Nat} (h:Dg l):bnV l=bytesV (bsN l):=by
 conv=>lhs; rw [← qdL h]
 simp [bnV,bytesV,byteV,digs]
theorem qbJ (b:List UInt8):bnV (digs b)=bytesV b:=by simp [bnV,bytesV,byteV,digs]
theorem qca (b:List UInt8):Dg (digs b):=digs_lt b
def OwnZ (w:World) (base:Nat) (e:TypeId) (size:Nat) (v:Value) (n:Nat) (xs:List Value):Prop:=w.ownsRow base e size v n xs
theorem OwnZ.x {w:World} {base:Nat} {e:TypeId} {size:Nat} {v:Value} {n:Nat} {xs:List Value} (h:OwnZ w base e size v n xs):OwnX w base e size v n xs:=.of h
theorem OwnZ.nil (w:World) (base e size:Nat):OwnZ w base e size (.slice none 0 0) 0 []:=⟨by simp,.inl ⟨rfl,rfl⟩⟩
theorem OwnZ.blk {w:World} {base:Nat} {e:TypeId} {n c:Nat} {A:Option Addr} {xs:List Value} (h:OwnZ w base e 1 (.slice A n c) n xs) (hn:0<n):∃ g ys,A=some ⟨g,0,none⟩∧base≤g∧n≤c∧Blk w g e (xs++ys).toArray:=by
 rcases h.2 with ⟨_,h0⟩ | ⟨g,cap,cur,h1,h2,h3,h4,h5,h6,h7⟩
 ·omega
 ·injection h1 with e1 e2 e3
  subst e3;refine ⟨g,cur.toList.drop (n*1),e1,h2,h4,?_⟩;rw [← h7,List.take_append_drop];exact h3
theorem Rd.front {w:World} {B:Nat} {A:Option Addr} {xs ys:List Value} (h:Rd w B A (xs++ys)):Rd w B A xs:=fun i u hi=>by
 have hlt:i<xs.length:=(List.getElem?_eq_some_iff.1 hi).1;exact h i u (by rw [List.getElem?_append_left hlt]; exact hi)
theorem qcg {xs ys:List Value} {i:Nat} {v:Value} (h:i<xs.length):(xs++ys).toArray.setIfInBounds i v=(xs.set i v++ys).toArray:=by
 rw [List.setIfInBounds_toArray,List.set_append_left _ _ h]
def OwnPostZ (e0:TypeId) (n:Nat) (xs:List Value) (w:World) (e:Ending) (w':World):Prop :=
 ∃ A c,e=.returned (.slice A n c)∧OwnZ w' w.heap.size e0 1 (.slice A n c) n xs∧Below w.heap.size w w'
theorem qby {P:Program} {w0:World} {y:Value} {ops:Array Oper} {rest:List Oper} {o:Oper} {a:Act} {Q:Exit→Act→World→Prop} {s x:Operand} {t e:TypeId} {bytes:Nat} (T:SlT P t e 1 bytes)
  (hgd:o.guard=none) (ho:o.op=.call { callee:=.builtin .append,args:=#[s,x],argTypes:=#[t,t] })
  {base n:Nat} {v:Value} {xs:List Value} {ad:Nat} (hown:OwnZ w0 base e 1 v n xs) (hs:a.eval s=v) (hx:a.eval x=.slice (some ⟨ad,0,none⟩) 1 1) (had:ad=w0.heap.size)
  (hy:y.oneCell'=true)
  (h63:n+1≤maxLen) (hbytes:(n+1)*bytes≤140737488355328) (hbase:base≤w0.heap.size)
  (h:∀ A c w',OwnZ w' base e 1 (.slice A (n+1) c) (n+1) (xs++[y])→w0.grownBy w' v.ownBlock→Next w0 v (.slice A (n+1) c)→wpList P ops Q rest (a.put o.dst (.slice A (n+1) c)) w') :
  wpList P ops Q (o :: rest) a (w0.alloc (.cells #[y] e)):=by
 subst had;obtain ⟨i,z,hi,hz,hsz,hby,hzs⟩:=T.info
 have hown1:(w0.alloc (.cells #[y] e)).ownsRow base e 1 v n xs:=by
  refine ⟨hown.1,?_⟩
  rcases hown.2 with h0 | ⟨g,cap,cur,h1,h2,h3,h4⟩
  ·exact .inl h0
  ·exact .inr ⟨g,cap,cur,h1,h2,(Below.heap_alloc w0 _ g (Array.getElem?_eq_some_iff.1 h3).1).trans h3,h4⟩
 obtain ⟨v',w',hr,h2,h3,_,h5⟩:=run_append_own_at (P:=P) (w0.alloc (.cells #[y] e)) base t o.type e i z 1 bytes T.und hi hz hsz hby hzs T.pos v n xs hown1 ⟨w0.heap.size,0,none⟩ 1 1 [y] rfl (fun j u hu=>cell_one_new _ _ _ j u hu)
  (by intro u hu; simp at hu; subst hu; exact hy) h63 hbytes (by simp; omega)
 have hn:Next (w0.alloc (.cells #[y] e)) v v':=by
  rcases h5 with h5 | h5
  ·exact .inl h5
  ·exact .inr fun k hk=>by rw [h5] at hk; simp at hk; simp; omega
 rcases h2.2 with ⟨_,h0⟩ | ⟨g,cap,cur,rfl,_⟩
 ·omega
 ·refine qaZ (R:=fun v1 w1=>v1=.slice (some ⟨g,0,none⟩) (n+1) cap∧w1=w') hgd ho hs hx ⟨_,_,hr,rfl,rfl⟩ ?_;rintro v1 w1 ⟨rfl,rfl⟩;exact h _ _ _ h2 ((World.grownBy_alloc w0 _ _).trans h3) (hn.back (by simp))
theorem qb1 {P:Program} {w:World} {ops:Array Oper} {rest:List Oper} {o:Oper} {a:Act} {Q:Exit→Act→World→Prop} {sl x:Operand} {t e:TypeId} {bytes:Nat} (T:SlT P t e 1 bytes)
  (hgd:o.guard=none) (ho:o.op=.call { callee:=.builtin .append,args:=#[sl,x],argTypes:=#[t,t] })
  {base n B:Nat} {v:Value} {xs:List Value} {ad:Addr} {m cx:Nat} {news:List Value} (hown:OwnZ w base e 1 v n xs) (hs:a.eval sl=v) (hx:a.eval x=.slice (some ad) m cx)
  (hl:news.length=m*1) (hm:0<m) (hr:Rd w B (some ad) news) (h1:∀ u ∈ news,u.oneCell'=true)
  (h63:n+m≤maxLen) (hbytes:(n+m)*bytes≤140737488355328) (hbase:base≤w.heap.size)
  (h:∀ A c w',OwnZ w' base e 1 (.slice A (n+m) c) (n+m) (xs++news)→w.grownBy w' v.ownBlock→wpList P ops Q rest (a.put o.dst (.slice A (n+m) c)) w') :
  wpList P ops Q (o :: rest) a w:=by
 obtain ⟨i,z,hi,hz,hsz,hby,hzs⟩:=T.info
 obtain ⟨v',w',hr',h2,h3,_,h5⟩:=run_append_own_at (P:=P) w base t o.type e i z 1 bytes T.und hi hz hsz hby hzs T.pos v n xs hown ad m cx news hl (fun j u hu=>by
  obtain ⟨ad',e1,_,e3⟩:=hr j u hu
  injection e1 with e1
  subst e1;exact e3) h1 h63 hbytes hbase
 rcases h2.2 with ⟨_,h0⟩ | ⟨g,cap,cur,rfl,_⟩
 ·omega
 ·refine qaZ (R:=fun v1 w1=>v1=.slice (some ⟨g,0,none⟩) (n+m) cap∧w1=w') hgd ho hs hx ⟨_,_,hr',rfl,rfl⟩ ?_;rintro v1 w1 ⟨rfl,rfl⟩;exact h _ _ _ h2 h3
theorem ownZ_nil (w:World) (e:TypeId):OwnZ (w.alloc (.cells #[] e)) w.heap.size e 1 (.slice (some ⟨w.heap.size,0,none⟩) 0 0) 0 [] :=
 ⟨rfl,.inr ⟨w.heap.size,0,#[],rfl,Nat.le_refl _,heap_alloc_new w _,Nat.le_refl _,Nat.zero_le _,rfl,rfl⟩⟩
theorem qb7 (b:List UInt8):∀ u ∈ bytesV b,u.oneCell'=true:=fun u h=>by
 rw [bytesV] at h;obtain ⟨x,_,rfl⟩:=List.mem_map.1 h;rfl
def clampL (L:List Nat):List Nat:=(L.set 0 (L.getD 0 0 - L.getD 0 0%8)).set 31 (L.getD 31 0%64+64)
def secD (data:List UInt8):List Nat:=digs (Sh.digS Sh.F64 data)
def secL (data:List UInt8):List Nat:=clampL (secD data)
theorem clampL_len (L:List Nat):(clampL L).length=L.length:=by rw [clampL,List.length_set,List.length_set]
theorem clampL_dg {L:List Nat} (h:Dg L):Dg (clampL L):=by
 have h0:=qaA h 0;have h1:=qaA h 31;exact qdr (qdr h 0 _ (by omega)) 31 _ (by omega)
structure SecW (w0:World) (g:Nat) (ys:List Value) (L:List Nat) (u:World):Prop where
 bel:Below w0.heap.size w0 u
 x:Blk u g 5 (bnV L++ys).toArray
 lo:w0.heap.size≤g
theorem SecW.put {w0 u u':World} {g:Nat} {ys:List Value} {L L':List Nat} (k:SecW w0 g ys L u) (hw:Wrote g u u') (hb:Blk u' g 5 (bnV L'++ys).toArray):SecW w0 g ys L' u' :=
 ⟨hw.below k.bel k.lo k.bel.size,hb,k.lo⟩
theorem SecW.drew {w0 u:World} {g:Nat} {ys:List Value} {L:List Nat} (k:SecW w0 g ys L u):SecW w0 g ys L u.drew:=⟨k.bel.drew,k.x,k.lo⟩
theorem sec_cell {L:List Nat} {ys:List Value} {i:Nat} (h:i<L.length):(bnV L++ys).toArray[i]?=some (.int .u8 ((L.getD i 0:Nat):Int)):=by
 rw [List.getElem?_toArray,List.getElem?_append_left (by rw [bnV,List.length_map]; exact h)];simp [bnV,List.getD_eq_getElem?_getD,List.getElem?_eq_getElem h]
theorem sec_set {L:List Nat} {ys:List Value} {i n:Nat} (h:i<L.length):(bnV L++ys).toArray.setIfInBounds i (.int .u8 (n:Int))=(bnV (L.set i n)++ys).toArray:=by
 rw [qcg (by rw [bnV,List.length_map]; exact h)];simp [bnV,List.map_set]
theorem sec_rd {u:World} {g:Nat} {K:List Nat} {ys:List Value} (hb:Blk u g 5 (bnV K++ys).toArray) :
  Rd u u.heap.size (some ⟨g,0,none⟩) (bnV (K.take 32))∧Rd u u.heap.size (some ⟨g,32,none⟩) (bnV (K.drop 32)):=by
 have h:=(Rd.of_blk hb hb.lt).front
 constructor
 ·rw [← List.take_append_drop 32 K] at h;rw [show bnV (K.take 32++K.drop 32)=bnV (K.take 32)++bnV (K.drop 32) by simp [bnV]] at h;exact h.front
 ·have h2:=qdf h 32;rw [Addr.add_lit,Nat.zero_add] at h2;rw [show bnV (K.drop 32)=(bnV K).drop 32 by simp [bnV,List.map_drop]];exact h2
def SecPost (K:List Nat) (w:World) (e:Ending) (w':World):Prop :=
 ∃ A c B d,e=.returned (.tuple #[.slice A 32 c,.slice B 32 d])∧32≤c∧32≤d∧Rd w' w'.heap.size A (bnV (K.take 32))∧Rd w' w'.heap.size B (bnV (K.drop 32))∧Below w.heap.size w w'
end Go.Proofs.YtdgheahbafnboaaGreatDoor
namespace Go.Proofs.YtdgheahbafnboaaGreatDoor.Sh
set_option linter.unusedSimpArgs false
set_option linter.unusedVariables false
set_option maxRecDepth 100000
set_option maxHeartbeats 4000000
open Go.RowKit
def f64C:Array Value:=#[.int .i64 64,.int .i64 80,.int .i64 28,.int .i64 34,.int .i64 39,.int .i64 14,.int .i64 18,.int .i64 41,.int .i64 1,.int .i64 8,.int .i64 7,.int .i64 19,.int .i64 61,.int .i64 6]
theorem below_new (w:World) (o:Obj):Below w.heap.size w (w.alloc o):=(Below.refl _ _).alloc (Nat.le_refl _) _
theorem qbw (x n:Nat) (w:World) (hx:x<18446744073709551616) (hn:n<64) :
  Calls Tryz.prog 105 #[.agg f64C,.int .u64 x,.int .i64 n] w fun e w'=>e=.returned (.int .u64 (turnedN 64 x n:Nat))∧Below w.heap.size w w':=by
 have c0:=(Blk.new w 109 f64C).cell 0;simp only [f64C,List.getElem?_toArray,List.getElem?_cons_zero] at c0;have hnn:(0:Int)≤(64:Int) - (n:Int):=by omega
 have hn1:(n:Int)<64:=by omega
 have hx1:(x:Int)<18446744073709551616:=by omega
 have HX:=zY hx;clear hx;rw [f64C];go_enter Tryz.func105,Tryz.ntmps105;go_wp2
 go_quiet (fail)
 go_wp2;go_ret;refine ⟨qbr ?_,qds (below_new _ _) _⟩;exact rot_walk64 x n HX.out
theorem qbi:(Tryz.prog.info? 109).map (·.size)=some 14:=by kernel_rfl
theorem qc9 (x p q c:Nat) (shift:Bool) (w:World) (hx:x<18446744073709551616) (hp:p<64) (hq:q<64) (hc:c<64) :
  Calls Tryz.prog 103 #[.agg f64C,.int .u64 x,.agg #[.int .i64 p,.int .i64 q,.int .i64 c],.bool shift] w fun e w'=>e=.returned (.int .u64 (allN 64 x p q c shift:Nat))∧Below w.heap.size w w':=by
 obtain ⟨W0,hW0⟩:=eX (((w.alloc (.cells f64C 109)).alloc (.cells #[.int .i64 p,.int .i64 q,.int .i64 c] 105)));have hb:Below w.heap.size w W0:=by rw [hW0]; exact (below_new _ _).alloc (by simp) _
 have hb4:Blk W0 w.heap.size 109 f64C:=by rw [hW0]; exact (Blk.new _ _ _).alloc _
 have hb6:Blk W0 (w.heap.size+1) 105 #[.int .i64 p,.int .i64 q,.int .i64 c]:=by
  have:=Blk.new (w.alloc (.cells f64C 109)) 105 #[.int .i64 p,.int .i64 q,.int .i64 c];rw [hW0]; simpa using this
 have hl4:=hb4.lt;have hl6:=hb6.lt;have HB:=zY hb;have H4:=zY hb4;have H6:=zY hb6;have HW:=zY hW0;have hu:=Tryz.underlying109;have hx1:(x:Int)<18446744073709551616:=by omega
 have HX:=zY hx;have hc1:(c:Int)<64:=by omega
 obtain ⟨L,hL⟩:∃ L:Nat,L=lastN 64 x c shift:=⟨_,rfl⟩;have HL:=zY hL;have c2:=hb6.cell 2;simp at c2;have hb40:=hb4;have c20:=c2;rw [hW0] at hb40 c20;have hHC:∀ (f:List Value),f=f:=fun _=>rfl;clear hb hb4 hb6 hW0 hx hL hHC
 cases shift with
 | false =>
  go_enter Tryz.func103,Tryz.ntmps103;go_wp2_with (refine qab (x:=.tmp 4) hb40 rfl rfl rfl hu rfl qbi ?_);rw [← HW.out];clear hb40 c20;refine qaa (qbw x c W0 HX.out hc) ?_;rintro e w1 ⟨rfl,hb1⟩;rw [show turnedN 64 x c=L from HL.out.symm];have g4:=H4.out.below hb1 hl4;have g6:=H6.out.below hb1 hl6;have hBw:=HB.out.trans (hb1.mono HB.out.size);have h14:=g4.lt;have h16:=g6.lt;have G4:=zY g4;have G6:=zY g6;have HBw:=zY hBw;clear g4 g6 hBw hb1 c2;go_wp2_with fail;have HC0:Below w1.heap.size w1 w1.drew:=(Below.refl _ _).drew;refine qal (fun u=>Below w1.heap.size w1 u) (fun u=>Below w1.heap.size w1 u) [(0,some 20),(1,some 21),(2,some 22),(3,some 23),(4,some 24),(5,some 25),(6,some 26),(7,some 27),(8,some 28),(9,some 29),(10,some 30),(11,some 31),(12,some 32),(13,some 8)] (by kernel_rfl) (by kernel_rfl) (by decide) (by kernel_rfl) (fun _=>rfl) HC0 ?_;apply yN_
  ·apply dP [];exact fun _=>rfl;rfl;rintro vals - w1 hC1 E hE;simp only [sP] at hE ⊢;refine qab (G4.out.below hC1 h14) rfl rfl rfl hu rfl qbi ?_;go_wp2_with fail;exact .mk (hE _ hC1)
  apply yN_
  ·apply dP [];exact fun _=>rfl;rfl;rintro vals ⟨-,-⟩ w1 hC1 E hE;simp only [sP] at hE ⊢;go_wp2;exact .mk (hE _ hC1)
  apply yN_
  ·apply dP [];exact fun _=>rfl;rfl;intro vals vq w1 hC1 E hE;clear vq;simp only [sP] at hE ⊢;go_wp2;exact .mk (hE _ hC1)
  apply yN_
  ·apply dP [(2,some 22)];exact fun _=>rfl;rfl;intro vals vq w1 hC1 E hE;have d0:=(G6.out.below hC1 h16).cell 0;simp at d0;simp only [sP,vq] at hE ⊢;clear vq;go_wp2;exact .mk (hE _ hC1)
  apply yN_
  ·apply dP [(0,some 20),(1,some 21),(3,some 23)];exact fun _=>rfl;rfl;intro vals vq w1 hC1 E hE;simp only [sP,vq] at hE ⊢;clear vq;go_wp2_with fail;refine qaa (qbw x p _ HX.out hp) ?_;rintro e w2 ⟨rfl,hb2⟩;go_wp2_with fail;exact .mk (hE _ (hC1.trans (hb2.mono hC1.size)))
  apply yN_
  ·apply dP [];exact fun _=>rfl;rfl;intro vals vq w1 hC1 E hE;clear vq;simp only [sP] at hE ⊢;refine qab (G4.out.below hC1 h14) rfl rfl rfl hu rfl qbi ?_;go_wp2_with fail;exact .mk (hE _ hC1)
  apply yN_
  ·apply dP [];exact fun _=>rfl;rfl;intro vals vq w1 hC1 E hE;clear vq;simp only [sP] at hE ⊢;go_wp2;exact .mk (hE _ hC1)
  apply yN_
  ·apply dP [];exact fun _=>rfl;rfl;intro vals vq w1 hC1 E hE;clear vq;simp only [sP] at hE ⊢;go_wp2;exact .mk (hE _ hC1)
  apply yN_
  ·apply dP [(7,some 27)];exact fun _=>rfl;rfl;intro vals vq w1 hC1 E hE;have d0:=(G6.out.below hC1 h16).cell 1;simp at d0;simp only [sP,vq] at hE ⊢;clear vq;go_wp2;exact .mk (hE _ hC1)
  apply yN_
  ·apply dP [(5,some 25),(6,some 26),(8,some 28),(4,some 24)];exact fun _=>rfl;rfl;intro vals vq w1 hC1 E hE;simp only [sP,vq] at hE ⊢;clear vq;go_wp2_with fail;refine qaa (qbw x q _ HX.out hq) ?_;rintro e w2 ⟨rfl,hb2⟩;go_wp2_with fail;exact .mk (hE _ (hC1.trans (hb2.mono hC1.size)))
  apply yN_
  ·apply dP [(4,some 24),(9,some 29)];exact fun _=>rfl;rfl;intro vals vq w1 hC1 E hE;simp only [sP,vq] at hE ⊢;clear vq;go_wp2;exact .mk (hE _ hC1)
  apply yN_
  ·apply dP [];exact fun _=>rfl;rfl;intro vals vq w1 hC1 E hE;clear vq;simp only [sP] at hE ⊢;go_wp2;exact .mk (hE _ hC1)
  apply yN_
  ·apply dP [(10,some 30),(11,some 31)];exact fun _=>rfl;rfl;intro vals vq w1 hC1 E hE;simp only [sP,vq] at hE ⊢;clear vq;go_wp2;exact .mk (hE _ hC1)
  apply yL_
  ·apply dP [(12,some 32),(9,some 29),(0,some 20),(1,some 21),(2,some 22),(3,some 23),(4,some 24),(5,some 25),(6,some 26),(7,some 27),(8,some 28),(9,some 29),(10,some 30),(11,some 31),(12,some 32)];exact fun _=>rfl;rfl;intro vals vq w1 hC1 E hE;simp only [sP,vq] at hE ⊢;clear vq;go_wp2;exact .mk (hE _ hC1)
  intro vals vq w1 hC1;simp only [sP,vq];clear vq;go_wp2_with fail;go_ret;refine ⟨qbr ?_,HBw.out.trans (hC1.mono HBw.out.size)⟩;rw [xor64 _ _ (qaW HX.out) (qaW HX.out),xor64 _ _ (qdw (qaW HX.out) (qaW HX.out)) (by rw [HL.out]; exact qdH HX.out),HL.out];rfl
 | true =>
  go_enter Tryz.func103,Tryz.ntmps103;go_wp2_with (refine qab (x:=.tmp 4) hb40 rfl rfl rfl hu rfl qbi ?_);rw [← HW.out];clear hb40 c20;refine qaa (qbw x c W0 HX.out hc) ?_;rintro e w1 ⟨rfl,hb1⟩;have g4:=H4.out.below hb1 hl4;have g6:=H6.out.below hb1 hl6;have hBw:=HB.out.trans (hb1.mono HB.out.size);have h14:=g4.lt;have h16:=g6.lt;have cc:=g6.cell 2;simp at cc;have G4:=zY g4;have G6:=zY g6;have HBw:=zY hBw;clear g4 g6 hBw hb1 c2;go_wp2_with fail;rw [show (x:Int)/2^c=(L:Int) by rw [HL.out,qcf]; rfl];clear cc;have HC0:Below w1.heap.size w1 w1.drew:=(Below.refl _ _).drew;refine qal (fun u=>Below w1.heap.size w1 u) (fun u=>Below w1.heap.size w1 u) [(0,some 20),(1,some 21),(2,some 22),(3,some 23),(4,some 24),(5,some 25),(6,some 26),(7,some 27),(8,some 28),(9,some 29),(10,some 30),(11,some 31),(12,some 32),(13,some 8)] (by kernel_rfl) (by kernel_rfl) (by decide) (by kernel_rfl) (fun _=>rfl) HC0 ?_;apply yN_
  ·apply dP [];exact fun _=>rfl;rfl;rintro vals - w1 hC1 E hE;simp only [sP] at hE ⊢;refine qab (G4.out.below hC1 h14) rfl rfl rfl hu rfl qbi ?_;go_wp2_with fail;exact .mk (hE _ hC1)
  apply yN_
  ·apply dP [];exact fun _=>rfl;rfl;rintro vals ⟨-,-⟩ w1 hC1 E hE;simp only [sP] at hE ⊢;go_wp2;exact .mk (hE _ hC1)
  apply yN_
  ·apply dP [];exact fun _=>rfl;rfl;intro vals vq w1 hC1 E hE;clear vq;simp only [sP] at hE ⊢;go_wp2;exact .mk (hE _ hC1)
  apply yN_
  ·apply dP [(2,some 22)];exact fun _=>rfl;rfl;intro vals vq w1 hC1 E hE;have d0:=(G6.out.below hC1 h16).cell 0;simp at d0;simp only [sP,vq] at hE ⊢;clear vq;go_wp2;exact .mk (hE _ hC1)
  apply yN_
  ·apply dP [(0,some 20),(1,some 21),(3,some 23)];exact fun _=>rfl;rfl;intro vals vq w1 hC1 E hE;simp only [sP,vq] at hE ⊢;clear vq;go_wp2_with fail;refine qaa (qbw x p _ HX.out hp) ?_;rintro e w2 ⟨rfl,hb2⟩;go_wp2_with fail;exact .mk (hE _ (hC1.trans (hb2.mono hC1.size)))
  apply yN_
  ·apply dP [];exact fun _=>rfl;rfl;intro vals vq w1 hC1 E hE;clear vq;simp only [sP] at hE ⊢;refine qab (G4.out.below hC1 h14) rfl rfl rfl hu rfl qbi ?_;go_wp2_with fail;exact .mk (hE _ hC1)
  apply yN_
  ·apply dP [];exact fun _=>rfl;rfl;intro vals vq w1 hC1 E hE;clear vq;simp only [sP] at hE ⊢;go_wp2;exact .mk (hE _ hC1)
  apply yN_
  ·apply dP [];exact fun _=>rfl;rfl;intro vals vq w1 hC1 E hE;clear vq;simp only [sP] at hE ⊢;go_wp2;exact .mk (hE _ hC1)
  apply yN_
  ·apply dP [(7,some 27)];exact fun _=>rfl;rfl;intro vals vq w1 hC1 E hE;have d0:=(G6.out.below hC1 h16).cell 1;simp at d0;simp only [sP,vq] at hE ⊢;clear vq;go_wp2;exact .mk (hE _ hC1)
  apply yN_
  ·apply dP [(5,some 25),(6,some 26),(8,some 28),(4,some 24)];exact fun _=>rfl;rfl;intro vals vq w1 hC1 E hE;simp only [sP,vq] at hE ⊢;clear vq;go_wp2_with fail;refine qaa (qbw x q _ HX.out hq) ?_;rintro e w2 ⟨rfl,hb2⟩;go_wp2_with fail;exact .mk (hE _ (hC1.trans (hb2.mono hC1.size)))
  apply yN_
  ·apply dP [(4,some 24),(9,some 29)];exact fun _=>rfl;rfl;intro vals vq w1 hC1 E hE;simp only [sP,vq] at hE ⊢;clear vq;go_wp2;exact .mk (hE _ hC1)
  apply yN_
  ·apply dP [];exact fun _=>rfl;rfl;intro vals vq w1 hC1 E hE;clear vq;simp only [sP] at hE ⊢;go_wp2;exact .mk (hE _ hC1)
  apply yN_
  ·apply dP [(10,some 30),(11,some 31)];exact fun _=>rfl;rfl;intro vals vq w1 hC1 E hE;simp only [sP,vq] at hE ⊢;clear vq;go_wp2;exact .mk (hE _ hC1)
  apply yL_
  ·apply dP [(12,some 32),(9,some 29),(0,some 20),(1,some 21),(2,some 22),(3,some 23),(4,some 24),(5,some 25),(6,some 26),(7,some 27),(8,some 28),(9,some 29),(10,some 30),(11,some 31),(12,some 32)];exact fun _=>rfl;rfl;intro vals vq w1 hC1 E hE;simp only [sP,vq] at hE ⊢;clear vq;go_wp2;exact .mk (hE _ hC1)
  intro vals vq w1 hC1;simp only [sP,vq];clear vq;go_wp2_with fail;go_ret;refine ⟨qbr ?_,HBw.out.trans (hC1.mono HBw.out.size)⟩;rw [xor64 _ _ (qaW HX.out) (qaW HX.out),xor64 _ _ (qdw (qaW HX.out) (qaW HX.out)) (by rw [HL.out]; exact qdH HX.out),HL.out];rfl
theorem qcn (x:Nat) (w:World) (hx:x<18446744073709551616):Calls Tryz.prog 95 #[.int .u64 x] w fun e w'=>e=.returned (.int .u64 x)∧w=w':=by
 have hx1:(x:Int)<18446744073709551616:=by omega
 clear hx;go_enter Tryz.func95,Tryz.ntmps95;go_wp2;go_ret;exact ⟨rfl,rfl⟩
theorem elem64:(Tryz.prog.info? 43).map (fun i=>(i.zero,i.size,i.bytes))=some (some (.int .u64 0),1,8):=by kernel_rfl
theorem one64:(Tryz.prog.info? 43).map (·.size)=some 1:=by kernel_rfl
theorem qcr:(Tryz.prog.info? 105).map (·.size)=some 3:=by kernel_rfl
def RowPost64 (blk:List UInt8) (w:World) (e:Ending) (w':World):Prop :=
 ∃ g,e=.returned (.slice (some ⟨g,0,none⟩) 80 80)∧w.heap.size≤g∧Blk w' g 43 (rowC .u64 (rowW F64 blk 80) 0)∧Below w.heap.size w w'
structure RowSt64 (w:World) (gf gw:Nat) (cs:Array Value) (u:World):Prop where
 below:Below gf w u
 form:Blk u gf 109 f64C
 row:Blk u gw 43 cs
 lw:gf<gw
theorem RowSt64.put {w u u':World} {gf gw:Nat} {cs cs':Array Value} (h:RowSt64 w gf gw cs u) (hw:Wrote gw u u') (hb:Blk u' gw 43 cs'):RowSt64 w gf gw cs' u' :=
 ⟨hw.below h.below (by have:=h.lw; omega) (by have:=h.form.lt; omega),hw.blk h.form (by have:=h.lw; omega),hb,h.lw⟩
theorem RowSt64.next {w u u':World} {gf gw:Nat} {cs:Array Value} (h:RowSt64 w gf gw cs u) (hb:Below u.heap.size u u'):RowSt64 w gf gw cs u' :=
 ⟨h.below.trans (hb.mono (by have:=h.form.lt; omega)),h.form.below hb h.form.lt,h.row.below hb h.row.lt,h.lw⟩
theorem RowSt64.drew {w u:World} {gf gw:Nat} {cs:Array Value} (h:RowSt64 w gf gw cs u):RowSt64 w gf gw cs u.drew:=⟨h.below.drew,h.form,h.row,h.lw⟩
theorem rowSt64_start (w:World) (cs:Array Value):RowSt64 w w.heap.size (w.heap.size+1) cs ((w.alloc (.cells f64C 109)).alloc (.cells cs 43)) :=
 ⟨(below_new _ _).alloc (by simp) _,(Blk.new _ _ _).alloc _,by have:=Blk.new (w.alloc (.cells f64C 109)) 43 cs; simpa using this,by omega⟩
theorem row64_any (blk:List UInt8) (A:Option Addr) (c B:Nat) (w:World) (hr:Rd w B A (bytesV blk)) (hB:B≤w.heap.size) (hl:blk.length=128) (hc:blk.length≤c) (hcm:c≤9223372036854775807) :
  Calls Tryz.prog 102 #[.agg f64C,.slice A blk.length c] w (RowPost64 blk w):=by
 obtain ⟨W0,hW0⟩:=eX (w.alloc (.cells f64C 109));have hb0:Below w.heap.size w W0:=by rw [hW0]; exact below_new _ _
 have hbf:Blk W0 w.heap.size 109 f64C:=by rw [hW0]; exact Blk.new _ _ _
 have hs0:W0.heap.size=w.heap.size+1:=by rw [hW0]; simp
 have c0:=hbf.cell 0;have c1:=hbf.cell 1;simp only [f64C,List.getElem?_toArray,List.getElem?_cons_zero,List.getElem?_cons_succ] at c0 c1;rw [hW0,f64C] at c0 c1;have HB:=zY hb0;have HF:=zY hbf;have HS:=zY hs0;have HR:=zY (hr.mono hB);have HL:=zY hl;have HW:=zY hW0;obtain ⟨ie,hie,hez,hes,heb⟩:=info_parts elem64;have hc2:128≤c:=by omega
 clear hb0 hbf hs0 hr hW0 HB HF HS hl hc;rw [HL.out];rw [f64C];have hmk:∀ u:World,(Instr.makeSlice 92 (.int .i64 80) (.int .i64 80)).run Tryz.prog u=.ok (.slice (some ⟨u.heap.size,0,none⟩) 80 80) (u.alloc (.cells (rowC .u64 [] 80) 43)):=fun _=>by kernel_rfl
 go_enter Tryz.func102,Tryz.ntmps102;go_wp2_with fail;have hst0:=rowSt64_start w (rowC .u64 (rowW F64 blk 0) (80 - 0));generalize hgw:w.heap.size+1=gw at *;generalize hgf:w.heap.size=gf at *;have HGF:=zY hgf;clear hgf hgw c0 c1 hmk
 go_loopw [20] (fun i wr=>∃ t:Nat,t≤80∧i=.int .i64 t∧RowSt64 w gf gw (rowC .u64 (rowW F64 blk t) (80 - t)) wr) (fun i _=>80 - (intOf i).toNat)
 case atStart=>exact ⟨0,by omega,rfl,hst0⟩
 case round =>
  obtain ⟨t,ht,rfl,hst⟩:=hrel;clear hst0;have hlen:=qa2 F64 blk t
  by_cases hlt:t<80
  ·have hlt':(t:Int)<80:=by omega
   by_cases h16:t<16
   ·have h16':(t:Int)<16:=by omega
    rw [show 80 - t=(80 - t - 1)+1 by omega,rowC_start] at hst;obtain ⟨l,hl'⟩:∃ l,l=rowW F64 blk t:=⟨_,rfl⟩;obtain ⟨m,hm⟩:=eX (80 - t - 1);rw [← hl'] at hst hlen;rw [← hm] at hst;have HL':=zY hl';have HM:=zY hm;have HLEN:=zY hlen;have HST:=zY hst;clear hl' hm hlen hst;obtain ⟨ad,rfl,hadB,_⟩:=(HR.out.below HST.out.below).at_ (k:=t*8) (by rw [qaq,HL.out]; omega);go_wp2_with fail;rw [show (t+1)*8 - t*8=8 by omega];obtain ⟨pc,hpc⟩:=eX ((blk.drop (t*8)).take 8);have hpl:pc.length=8:=by rw [hpc]; simp; rw [HL.out]; omega
    have hrp:Rd w gf (some (ad.add (t*8))) (bytesV pc):=by rw [hpc,bytesV,List.map_take,List.map_drop]; exact rd_take (qdf HR.out (t*8)) 8
    have HPC:=zY hpc;have HRP:=zY hrp;have HPL:=zY hpl;clear hpc hrp hpl;obtain ⟨wo,rfl⟩:∃ wo:World,wo=wr:=⟨_,rfl⟩
    go_loopw [35] (fun i wi=>∃ j:Nat,j≤8∧i=.int .i64 j∧RowSt64 w gf gw (rowP .u64 l (beN (pc.take j)) m) wi) (fun i _=>8 - (intOf i).toNat)
    case atStart=>exact ⟨0,by omega,rfl,by simpa [beN] using HST.out⟩
    case round =>
     obtain ⟨j,hj,rfl,hsi⟩:=hrel
     by_cases hjl:j<8
     ·have hjl':(j:Int)<8:=by omega
      have hpj:j<pc.length:=by rw [HPL.out]; exact hjl
      obtain ⟨ad',hae,_,hcell⟩:=(HRP.out.below hsi.below).at_ (k:=j) (by rw [qaq]; exact hpj)
      injection hae with hae
      subst hae;obtain ⟨z,hz⟩:=eX (pc[j]);have hcl:wr.cell? ((ad.add (t*8)).add j)=some (.int .u8 (z.toNat:Int)):=by rw [hcell,hz]; simp [bytesV,byteV]
      have hzl:=z.toNat_lt;have hzl2:(z.toNat:Int)<256:=by omega
      obtain ⟨x,hx⟩:=eX (beN (pc.take j))
      have hxl:x<256^j:=by
       rw [hx];have h1:=beN_lt (pc.take j);have h2:(pc.take j).length≤j:=List.length_take_le _ _;exact Nat.lt_of_lt_of_le h1 (Nat.pow_le_pow_right (by omega) h2)
      have hst:beN (pc.take (j+1))=x*256+z.toNat:=by
       rw [List.take_succ_eq_append_getElem hpj,beN_snoc,hx,hz]
      rw [← hx] at hsi;have crow:=hsi.row.cell t;rw [show (rowP .u64 l x m)[t]?=some (.int .u64 (x:Int)) by have:=rowP_at .u64 l x m; rwa [HLEN.out] at this] at crow;have frow:=hsi.row.free t;have HSI:=zY hsi;have HST2:=zY hst;have HXL:=zY hxl;clear hcell hz hx hst hsi hpj hxl;go_wp2_with fail;refine ⟨⟨j+1,hjl,by go_num,?_⟩,by simp [intOf]; omega⟩;have hx8:x<256^(8 - 1):=Nat.lt_of_lt_of_le HXL.out (Nat.pow_le_pow_right (by omega) (by omega));rw [or_byte64 x z.toNat hx8 hzl,HST2.out];refine HSI.out.put (qah _ _ _ _) ?_;have:=qaj (i:=t) HSI.out.row (.int .u64 ((x*256+z.toNat:Nat):Int));have h9:=rowP_set .u64 l x (x*256+z.toNat) m;rw [HLEN.out] at h9
      rwa [h9] at this
     ·have hjl':¬ (j:Int)<8:=by omega
      have hfin:RowSt64 w gf gw (rowC .u64 (rowW F64 blk (t+1)) (80 - (t+1))) wr:=by
       obtain rfl:j=8:=by omega
       rw [rowP_end,List.take_of_length_le (by rw [HPL.out]; omega)] at hsi;rw [rowW,if_pos h16,← HL'.out,show 80 - (t+1)=m by rw [HM.out]; omega];rw [show pieceN (F64.bits/8) blk t=beN pc by rw [HPC.out]; rfl];exact hsi
      have HFIN:=zY hfin;clear hfin hsi;go_wp2_with fail;exact ⟨⟨t+1,hlt,by go_num,HFIN.out⟩,by simp [intOf]; omega⟩
   ·have h16':¬ (t:Int)<16:=by omega
    rw [show 80 - t=(80 - t - 1)+1 by omega,rowC_start] at hst;obtain ⟨l,hl'⟩:∃ l,l=rowW F64 blk t:=⟨_,rfl⟩;obtain ⟨m,hm⟩:=eX (80 - t - 1);have hlw:∀ i,l.getD i 0<2^64:=by rw [hl']; exact qcl (qd0 F64 (by decide) blk t) (by decide)
    rw [← hl'] at hst hlen;rw [← hm] at hst;have HL':=zY hl';have HM:=zY hm;have HLEN:=zY hlen;have HLW:=zY hlw;obtain ⟨a15,h15⟩:=eX (l.getD (t - 15) 0);obtain ⟨a2,h2⟩:=eX (l.getD (t - 2) 0);obtain ⟨a16,h16e⟩:=eX (l.getD (t - 16) 0);obtain ⟨a7,h7⟩:=eX (l.getD (t - 7) 0);have w15:a15<2^64:=by rw [h15]; exact hlw _
    have w2:a2<2^64:=by rw [h2]; exact hlw _
    have w16:a16<2^64:=by rw [h16e]; exact hlw _
    have w7:a7<2^64:=by rw [h7]; exact hlw _
    have e15:(rowP .u64 l 0 m)[t - 15]?=some (.int .u64 (a15:Int)):=by rw [qdx _ _ _ _ _ (by omega),h15]
    have e2:(rowP .u64 l 0 m)[t - 2]?=some (.int .u64 (a2:Int)):=by rw [qdx _ _ _ _ _ (by omega),h2]
    have e16:(rowP .u64 l 0 m)[t - 16]?=some (.int .u64 (a16:Int)):=by rw [qdx _ _ _ _ _ (by omega),h16e]
    have e7:(rowP .u64 l 0 m)[t - 7]?=some (.int .u64 (a7:Int)):=by rw [qdx _ _ _ _ _ (by omega),h7]
    have E15:=zY e15;have E2:=zY e2;have E16:=zY e16;have E7:=zY e7;have W15:=zY (show a15<18446744073709551616 by omega);have W2:=zY (show a2<18446744073709551616 by omega);have W16:=zY w16;have W7:=zY w7;have H15:=zY h15;have H2:=zY h2;have H16:=zY h16e;have H7:=zY h7;have i15:(a15:Int)<18446744073709551616:=by omega
    have i2:(a2:Int)<18446744073709551616:=by omega
    clear hl' hm hlen hlw h15 h2 h16e h7 w15 w2 w16 w7 e15 e2 e16 e7;have hu:=Tryz.underlying109;have hu3:=Tryz.underlying105;have HC0:=hst.drew;clear hst;go_wp2_with fail;refine qal (fun u=>RowSt64 w gf gw (rowP .u64 l 0 m) u) (fun u=>RowSt64 w gf gw (rowP .u64 l 0 m) u) [(0,some 51),(1,some 52),(2,some 53),(3,some 54),(4,some 55),(5,some 56),(6,some 57),(7,some 58),(8,some 59),(9,some 60),(10,some 61),(11,some 62),(12,some 63),(13,some 64),(14,some 65),(15,some 66),(16,some 67),(17,some 68),(18,some 69),(19,some 70),(20,some 10),(21,some 11)] (by kernel_rfl) (by kernel_rfl) (by decide) (by kernel_rfl) (fun _=>rfl) HC0 ?_;apply yN_
    ·apply dP [];exact fun _=>rfl;rfl;rintro vals - w1 hC1 E hE;simp only [sP] at hE ⊢;refine qab hC1.form rfl rfl rfl hu rfl qbi ?_;go_wp2_with fail;exact .mk (hE _ hC1)
    apply yN_
    ·apply dP [];exact fun _=>rfl;rfl;rintro vals ⟨-,-⟩ w1 hC1 E hE;simp only [sP] at hE ⊢;go_wp2;exact .mk (hE _ hC1)
    apply yN_
    ·apply dP [];exact fun _=>rfl;rfl;intro vals vq w1 hC1 E hE;clear vq;simp only [sP] at hE ⊢;go_wp2;exact .mk (hE _ hC1)
    apply yN_
    ·apply dP [(2,some 53)];exact fun _=>rfl;rfl;intro vals vq w1 hC1 E hE;simp only [sP,vq] at hE ⊢;clear vq;go_wp2;exact .mk (hE _ hC1)
    apply yN_
    ·apply dP [(1,some 52),(3,some 54)];exact fun _=>rfl;rfl;intro vals vq w1 hC1 E hE;simp only [sP,vq] at hE ⊢;clear vq;go_wp2;exact .mk (hE _ hC1)
    apply yN_
    ·apply dP [(4,some 55)];exact fun _=>rfl;rfl;intro vals vq w1 hC1 E hE;have d0:=hC1.row.cell (t - 15);rw [E15.out] at d0;simp only [sP,vq] at hE ⊢;clear vq;go_wp2;exact .mk (hE _ hC1)
    apply yN_
    ·apply dP [];exact fun _=>rfl;rfl;intro vals vq w1 hC1 E hE;clear vq;simp only [sP] at hE ⊢;go_wp2;exact .mk (hE _ hC1)
    apply yN_
    ·apply dP [(6,some 57)];exact fun _=>rfl;rfl;intro vals vq w1 hC1 E hE;simp only [sP,vq] at hE ⊢;clear vq;go_wp2;exact .mk (hE _ hC1)
    apply yN_
    ·apply dP [(7,some 58)];exact fun _=>rfl;rfl;intro vals vq w1 hC1 E hE;simp only [sP,vq] at hE ⊢;clear vq;refine qan (n:=3) (r:=#[.int .i64 1,.int .i64 8,.int .i64 7]) hC1.form (by decide) rfl rfl rfl rfl hu3 rfl qcr ?_;go_wp2_with fail;exact .mk (hE _ hC1)
    apply yN_
    ·apply dP [(0,some 51),(5,some 56),(8,some 59)];exact fun _=>rfl;rfl;intro vals vq w1 hC1 E hE;simp only [sP,vq] at hE ⊢;clear vq;go_wp2_with fail;refine qaa (qc9 a15 1 8 7 true _ W15.out (by decide) (by decide) (by decide)) ?_;rintro e w2 ⟨rfl,hb2⟩;go_wp2_with fail;exact .mk (hE _ (hC1.next hb2))
    apply yN_
    ·apply dP [];exact fun _=>rfl;rfl;intro vals vq w1 hC1 E hE;clear vq;simp only [sP] at hE ⊢;refine qab hC1.form rfl rfl rfl hu rfl qbi ?_;go_wp2_with fail;exact .mk (hE _ hC1)
    apply yN_
    ·apply dP [];exact fun _=>rfl;rfl;intro vals vq w1 hC1 E hE;clear vq;simp only [sP] at hE ⊢;go_wp2;exact .mk (hE _ hC1)
    apply yN_
    ·apply dP [];exact fun _=>rfl;rfl;intro vals vq w1 hC1 E hE;clear vq;simp only [sP] at hE ⊢;go_wp2;exact .mk (hE _ hC1)
    apply yN_
    ·apply dP [(12,some 63)];exact fun _=>rfl;rfl;intro vals vq w1 hC1 E hE;simp only [sP,vq] at hE ⊢;clear vq;go_wp2;exact .mk (hE _ hC1)
    apply yN_
    ·apply dP [(11,some 62),(13,some 64)];exact fun _=>rfl;rfl;intro vals vq w1 hC1 E hE;simp only [sP,vq] at hE ⊢;clear vq;go_wp2;exact .mk (hE _ hC1)
    apply yN_
    ·apply dP [(14,some 65)];exact fun _=>rfl;rfl;intro vals vq w1 hC1 E hE;have d0:=hC1.row.cell (t - 2);rw [E2.out] at d0;simp only [sP,vq] at hE ⊢;clear vq;go_wp2;exact .mk (hE _ hC1)
    apply yN_
    ·apply dP [];exact fun _=>rfl;rfl;intro vals vq w1 hC1 E hE;clear vq;simp only [sP] at hE ⊢;go_wp2;exact .mk (hE _ hC1)
    apply yN_
    ·apply dP [(16,some 67)];exact fun _=>rfl;rfl;intro vals vq w1 hC1 E hE;simp only [sP,vq] at hE ⊢;clear vq;go_wp2;exact .mk (hE _ hC1)
    apply yN_
    ·apply dP [(17,some 68)];exact fun _=>rfl;rfl;intro vals vq w1 hC1 E hE;simp only [sP,vq] at hE ⊢;clear vq;refine qan (n:=3) (r:=#[.int .i64 19,.int .i64 61,.int .i64 6]) hC1.form (by decide) rfl rfl rfl rfl hu3 rfl qcr ?_;go_wp2_with fail;exact .mk (hE _ hC1)
    apply yN_
    ·apply dP [(10,some 61),(15,some 66),(18,some 69),(9,some 60)];exact fun _=>rfl;rfl;intro vals vq w1 hC1 E hE;simp only [sP,vq] at hE ⊢;clear vq;go_wp2_with fail;refine qaa (qc9 a2 19 61 6 true _ W2.out (by decide) (by decide) (by decide)) ?_;rintro e w2 ⟨rfl,hb2⟩;go_wp2_with fail;exact .mk (hE _ (hC1.next hb2))
    apply yN_
    ·apply dP [(9,some 60),(19,some 70),(0,some 51),(1,some 52),(2,some 53),(3,some 54),(4,some 55),(5,some 56),(6,some 57),(7,some 58),(8,some 59),(9,some 60)];exact fun _=>rfl;rfl;intro vals vq w1 hC1 E hE;simp only [sP,vq] at hE ⊢;clear vq;go_wp2;exact .mk (hE _ hC1)
    apply yL_
    ·apply dP [(19,some 70),(20,some 10),(0,some 51),(1,some 52),(2,some 53),(3,some 54),(4,some 55),(5,some 56),(6,some 57),(7,some 58),(8,some 59),(9,some 60),(10,some 61),(11,some 62),(12,some 63),(13,some 64),(14,some 65),(15,some 66),(16,some 67),(17,some 68),(18,some 69),(19,some 70),(20,some 10)];exact fun _=>rfl;rfl;intro vals vq w1 hC1 E hE;simp only [sP,vq] at hE ⊢;clear vq;go_wp2;exact .mk (hE _ hC1)
    intro vals vq w1 hC1;simp only [sP,vq];clear vq;obtain ⟨X,hX⟩:∃ X:Nat,X=allN 64 a15 1 8 7 true:=⟨_,rfl⟩;obtain ⟨Y,hY⟩:∃ X:Nat,X=allN 64 a2 19 61 6 true:=⟨_,rfl⟩;rw [← hX,← hY];obtain ⟨NV,hNV⟩:∃ v:Nat,v=(a16+a7+(X+Y))%2^64:=⟨_,rfl⟩;have HX:=zY hX;have HY:=zY hY;have HNV:=zY hNV;have lX:(X:Int)<18446744073709551616:=by have:=allN_lt (b:=64) (p:=1) (q:=8) (c:=7) (shift:=true) W15.out; rw [← HX.out] at this; omega
    have lY:(Y:Int)<18446744073709551616:=by have:=allN_lt (b:=64) (p:=19) (q:=61) (c:=6) (shift:=true) W2.out; rw [← HY.out] at this; omega
    have l16:(a16:Int)<18446744073709551616:=by have:=W16.out; omega
    have l7:(a7:Int)<18446744073709551616:=by have:=W7.out; omega
    clear HC0 hX hY hNV;go_wp2_with fail;have HC0:=hC1.drew;refine qal (fun u=>RowSt64 w gf gw (rowP .u64 l 0 m) u) (fun u=>RowSt64 w gf gw (rowP .u64 l NV m) u) [(0,some 71),(1,some 72),(2,some 73),(3,some 74),(4,some 75),(5,some 76),(6,some 77),(7,some 78),(8,some 79),(9,some 80),(10,some 81),(11,some 82),(12,some 83),(13,some 84),(14,some 85),(15,some 86),(16,some 87),(17,some 88),(18,some 89),(19,none)] (by kernel_rfl) (by kernel_rfl) (by decide) (by kernel_rfl) (fun _=>rfl) HC0 ?_;apply yN_
    ·apply dP [];exact fun _=>rfl;rfl;rintro vals - w1 hC1 E hE;simp only [sP] at hE ⊢;go_wp2;exact .mk (hE _ hC1)
    apply yN_
    ·apply dP [];exact fun _=>rfl;rfl;rintro vals ⟨-,-⟩ w1 hC1 E hE;simp only [sP] at hE ⊢;go_wp2;exact .mk (hE _ hC1)
    apply yN_
    ·apply dP [];exact fun _=>rfl;rfl;intro vals vq w1 hC1 E hE;clear vq;simp only [sP] at hE ⊢;go_wp2;exact .mk (hE _ hC1)
    apply yN_
    ·apply dP [];exact fun _=>rfl;rfl;intro vals vq w1 hC1 E hE;clear vq;simp only [sP] at hE ⊢;go_wp2;exact .mk (hE _ hC1)
    apply yN_
    ·apply dP [(3,some 74)];exact fun _=>rfl;rfl;intro vals vq w1 hC1 E hE;simp only [sP,vq] at hE ⊢;clear vq;go_wp2;exact .mk (hE _ hC1)
    apply yN_
    ·apply dP [(2,some 73),(4,some 75)];exact fun _=>rfl;rfl;intro vals vq w1 hC1 E hE;simp only [sP,vq] at hE ⊢;clear vq;go_wp2;exact .mk (hE _ hC1)
    apply yN_
    ·apply dP [(5,some 76)];exact fun _=>rfl;rfl;intro vals vq w1 hC1 E hE;have d0:=hC1.row.cell (t - 16);rw [E16.out] at d0;simp only [sP,vq] at hE ⊢;clear vq;go_wp2;exact .mk (hE _ hC1)
    apply yN_
    ·apply dP [];exact fun _=>rfl;rfl;intro vals vq w1 hC1 E hE;clear vq;simp only [sP] at hE ⊢;go_wp2;exact .mk (hE _ hC1)
    apply yN_
    ·apply dP [];exact fun _=>rfl;rfl;intro vals vq w1 hC1 E hE;clear vq;simp only [sP] at hE ⊢;go_wp2;exact .mk (hE _ hC1)
    apply yN_
    ·apply dP [(8,some 79)];exact fun _=>rfl;rfl;intro vals vq w1 hC1 E hE;simp only [sP,vq] at hE ⊢;clear vq;go_wp2;exact .mk (hE _ hC1)
    apply yN_
    ·apply dP [(7,some 78),(9,some 80)];exact fun _=>rfl;rfl;intro vals vq w1 hC1 E hE;simp only [sP,vq] at hE ⊢;clear vq;go_wp2;exact .mk (hE _ hC1)
    apply yN_
    ·apply dP [(10,some 81)];exact fun _=>rfl;rfl;intro vals vq w1 hC1 E hE;have d0:=hC1.row.cell (t - 7);rw [E7.out] at d0;simp only [sP,vq] at hE ⊢;clear vq;go_wp2;exact .mk (hE _ hC1)
    apply yN_
    ·apply dP [(6,some 77),(11,some 82)];exact fun _=>rfl;rfl;intro vals vq w1 hC1 E hE;simp only [sP,vq] at hE ⊢;clear vq;go_wp2;exact .mk (hE _ hC1)
    apply yN_
    ·apply dP [];exact fun _=>rfl;rfl;intro vals vq w1 hC1 E hE;clear vq;simp only [sP] at hE ⊢;go_wp2;exact .mk (hE _ hC1)
    apply yN_
    ·apply dP [];exact fun _=>rfl;rfl;intro vals vq w1 hC1 E hE;clear vq;simp only [sP] at hE ⊢;go_wp2;exact .mk (hE _ hC1)
    apply yN_
    ·apply dP [(13,some 84),(14,some 85)];exact fun _=>rfl;rfl;intro vals vq w1 hC1 E hE;simp only [sP,vq] at hE ⊢;clear vq;go_wp2;exact .mk (hE _ hC1)
    apply yN_
    ·apply dP [(15,some 86)];exact fun _=>rfl;rfl;intro vals vq w1 hC1 E hE;simp only [sP,vq] at hE ⊢;clear vq;go_wp2_with fail;rw [sum64w X Y];refine qaa (qcn _ _ (Nat.mod_lt _ (by decide))) ?_;rintro e w2 ⟨rfl,rfl⟩;go_wp2_with fail;exact .mk (hE _ hC1)
    apply yN_
    ·apply dP [(12,some 83),(16,some 87)];exact fun _=>rfl;rfl;intro vals vq w1 hC1 E hE;simp only [sP,vq] at hE ⊢;clear vq;go_wp2;rw [sum64f a16 a7 X Y,← HNV.out];exact .mk (hE _ hC1)
    apply yN_
    ·apply dP [(0,some 71),(1,some 72),(0,some 71),(1,some 72),(2,some 73),(3,some 74),(4,some 75),(5,some 76),(6,some 77),(7,some 78),(8,some 79),(9,some 80),(10,some 81),(11,some 82),(12,some 83),(13,some 84),(14,some 85),(15,some 86),(16,some 87),(17,some 88)];exact fun _=>rfl;rfl;intro vals vq w1 hC1 E hE;simp only [sP,vq] at hE ⊢;clear vq;go_wp2;exact .mk (hE _ hC1)
    apply yL_ (v:=undef)
    ·apply dP [(18,some 89),(17,some 88),(16,some 87),(0,some 71),(1,some 72),(2,some 73),(3,some 74),(4,some 75),(5,some 76),(6,some 77),(7,some 78),(8,some 79),(9,some 80),(10,some 81),(11,some 82),(12,some 83),(13,some 84),(14,some 85),(15,some 86),(16,some 87),(17,some 88)];exact fun _=>rfl;rfl;intro vals vq w1 hC1 E hE;simp only [sP,vq] at hE ⊢;clear vq;refine qam (i:=t) (v:=.int .u64 (NV:Int)) hC1.row rfl rfl rfl rfl one64 (by rw [rowP_size,HLEN.out]; omega) rfl ?_;intro w2 hb2 hw2;go_wp2_with fail;exact .mk (hE _ (hC1.put hw2 (by have h9:=rowP_set .u64 l 0 NV m; rw [HLEN.out] at h9; rw [h9] at hb2; exact hb2)))
    intro vals vq w1 hC1;simp only [sP,vq];clear vq
    have hfin:RowSt64 w gf gw (rowC .u64 (rowW F64 blk (t+1)) (80 - (t+1))) w1:=by
     rw [rowP_end] at hC1;rw [rowW,if_neg h16,← HL'.out,show 80 - (t+1)=m by rw [HM.out]; omega]
     have:nextW F64 l t=NV:=by
      rw [HNV.out,nextW,← H16.out,← H7.out,← H15.out,← H2.out,HX.out,HY.out]; rfl
     rw [this];exact hC1
    have HFIN:=zY hfin;clear hfin hC1 HC0;go_wp2_with fail;exact ⟨⟨t+1,hlt,by go_num,HFIN.out⟩,by simp [intOf]; omega⟩
  ·have hge:¬ (t:Int)<80:=by omega
   go_wp2_with fail;go_ret;obtain rfl:t=80:=by omega
   exact ⟨gw,rfl,by rw [HGF.out]; have:=hst.lw; omega,hst.row,by rw [HGF.out]; exact hst.below⟩
theorem qbc:(Tryz.prog.info? 120).map (·.size)=some 8:=by kernel_rfl
structure MixSt64 (w0:World) (gf gr:Nat) (s:S8) (r:Array Value) (v:Array Value) (u:World):Prop where
 bel:Below gf w0 u
 form:Blk u gf 109 f64C
 s:Blk u (gf+1) 120 (s8V .u64 s)
 res:Blk u (gf+1+1) 120 (s8V .u64 ⟨0,0,0,0,0,0,0,0⟩)
 v:Blk u (gf+1+1+1) 120 v
 row:Blk u gr 43 r
 lr:gf+1+1+1<gr
theorem MixSt64.next {w0:World} {gf gr:Nat} {s:S8} {r v:Array Value} {u u':World} (h:MixSt64 w0 gf gr s r v u) (hb:Below u.heap.size u u'):MixSt64 w0 gf gr s r v u' :=
 ⟨h.bel.trans (hb.mono (by have:=h.form.lt; omega)),h.form.below hb h.form.lt,h.s.below hb h.s.lt,h.res.below hb h.res.lt,h.v.below hb h.v.lt,h.row.below hb h.row.lt,h.lr⟩
theorem MixSt64.drew {w0:World} {gf gr:Nat} {s:S8} {r v:Array Value} {u:World} (h:MixSt64 w0 gf gr s r v u):MixSt64 w0 gf gr s r v u.drew :=
 ⟨h.bel.drew,h.form,h.s,h.res,h.v,h.row,h.lr⟩
theorem MixSt64.put {w0:World} {gf gr:Nat} {s:S8} {r v v':Array Value} {u u':World} (h:MixSt64 w0 gf gr s r v u) (hw:Wrote (gf+1+1+1) u u') (hb:Blk u' (gf+1+1+1) 120 v'):MixSt64 w0 gf gr s r v' u' :=
 ⟨hw.below h.bel (by omega) (by have:=h.form.lt; omega),hw.blk h.form (by omega),hw.blk h.s (by omega),hw.blk h.res (by omega),hb,hw.blk h.row (by have:=h.lr; omega),h.lr⟩
def MixPost64 (s:S8) (blk:List UInt8) (w:World) (e:Ending) (w':World):Prop :=
 e=.returned (.agg (s8V .u64 (mixS F64 s blk)))∧Below w.heap.size w w'
theorem mix64_any (s:S8) (blk:List UInt8) (A:Option Addr) (c B:Nat) (w:World) (hr:Rd w B A (bytesV blk)) (hB:B≤w.heap.size) (hl:blk.length=128) (hc:blk.length≤c) (hcm:c≤9223372036854775807) (hs:s.Lt (2^64)) (hG:TabG w) :
  Calls Tryz.prog 96 #[.agg f64C,.agg (s8V .u64 s),.slice A blk.length c] w (MixPost64 s blk w):=by
 obtain ⟨W0,hW0⟩:∃ W0,W0=((w.alloc (.cells f64C 109)).alloc (.cells (s8V .u64 s) 120)).alloc (.cells (s8V .u64 ⟨0,0,0,0,0,0,0,0⟩) 120):=⟨_,rfl⟩;have hb0:Below w.heap.size w W0:=by rw [hW0]; exact ((below_new _ _).alloc (by simp) _).alloc (by simp; omega) _
 have hs0:W0.heap.size=w.heap.size+1+1+1:=by rw [hW0]; simp
 have hf0:Blk W0 w.heap.size 109 f64C:=by rw [hW0]; exact ((Blk.new _ _ _).alloc _).alloc _
 have hbs0:Blk W0 (w.heap.size+1) 120 (s8V .u64 s):=by
  have:=(Blk.new (w.alloc (.cells f64C 109)) 120 (s8V .u64 s)).alloc (.cells (s8V .u64 ⟨0,0,0,0,0,0,0,0⟩) 120);rw [hW0]; simpa using this
 have hbr0:Blk W0 (w.heap.size+1+1) 120 (s8V .u64 ⟨0,0,0,0,0,0,0,0⟩):=by
  have:=Blk.new ((w.alloc (.cells f64C 109)).alloc (.cells (s8V .u64 s) 120)) 120 (s8V .u64 ⟨0,0,0,0,0,0,0,0⟩);rw [hW0]; simpa using this
 have hbv0:Blk (W0.alloc (.cells (s8V .u64 ⟨0,0,0,0,0,0,0,0⟩) 120)) (w.heap.size+1+1+1) 120 (s8V .u64 ⟨0,0,0,0,0,0,0,0⟩):=by
  have:=Blk.new W0 120 (s8V .u64 ⟨0,0,0,0,0,0,0,0⟩)
  rwa [hs0] at this
 have hbs1:=hbs0;rw [hW0] at hbs1;have HB0:=zY hb0;have HS0:=zY hs0;have HF0:=zY hf0;have HBS0:=zY hbs0;have HBR0:=zY hbr0;have HR:=zY (hr.mono hB);have HL:=zY hl;have HG:=zY hG;have HSL:=zY hs;have hu8:=Tryz.underlying120;have hu:=Tryz.underlying109;have hu3:=Tryz.underlying105;have hc2:128≤c:=by omega
 rw [hW0] at hbv0;have HW:=zY hW0;rw [HL.out];clear hb0 hs0 hf0 hbs0 hbr0 hr hl hG hs hc hW0;go_enter Tryz.func96,Tryz.ntmps96
 go_wp2_with (first
  | (refine qab (x:=.tmp 4) (o:=⟨some 16,_,_,_,_,_⟩) (hbs1) rfl rfl rfl hu8 rfl qbc ?_)
  | (refine qaf (x:=.tmp 7) hbv0 rfl rfl rfl rfl qbc rfl (by simp [s8V,Value.oneCell']) ?_; intro w1 hb1 hw1)
  | (refine qab (x:=.tmp 3) (hw1.blk (((Blk.new w 109 f64C).alloc _).alloc _ |>.alloc _) (by omega)) rfl rfl rfl hu rfl qbi ?_))
 have hf1:=hw1.blk (((Blk.new w 109 f64C).alloc (.cells (s8V .u64 s) 120)).alloc (.cells (s8V .u64 ⟨0,0,0,0,0,0,0,0⟩) 120) |>.alloc (.cells (s8V .u64 ⟨0,0,0,0,0,0,0,0⟩) 120)) (by omega);have hs1:Blk w1 (w.heap.size+1) 120 (s8V .u64 s):=hw1.blk (by have:=HBS0.out.alloc (.cells (s8V .u64 ⟨0,0,0,0,0,0,0,0⟩) 120); rwa [HW.out] at this) (by omega);have hr1:Blk w1 (w.heap.size+1+1) 120 (s8V .u64 ⟨0,0,0,0,0,0,0,0⟩):=hw1.blk (by have:=HBR0.out.alloc (.cells (s8V .u64 ⟨0,0,0,0,0,0,0,0⟩) 120); rwa [HW.out] at this) (by omega);have hbel1:Below w.heap.size w w1:=hw1.below (by have:=HB0.out.alloc HB0.out.size (.cells (s8V .u64 ⟨0,0,0,0,0,0,0,0⟩) 120); rwa [HW.out] at this) (by omega) (by simp; omega);have hz1:w1.heap.size=w.heap.size+1+1+1+1:=by rw [hw1.size]; simp
 have HF1:=zY hf1;have HS1:=zY hs1;have HR1:=zY hr1;have HV1:=zY hb1;have HBEL1:=zY hbel1;have HZ1:=zY hz1;have hrow:=row64_any blk A c w1.heap.size w1 ((HR.out.below hbel1).mono hbel1.size) (Nat.le_refl _) HL.out (by rw [HL.out]; exact hc2) hcm;rw [HL.out] at hrow;clear hf1 hs1 hr1 hb1 hbel1 hz1 hw1 hbv0 hbs1 HB0 HS0 HF0 HBS0 HBR0 HW W0;refine qaa hrow ?_;rintro e w2 ⟨gr,rfl,hgl,hbr,hbw⟩;clear hrow;obtain ⟨RW,hRW⟩:=eX (rowW F64 blk 80);rw [← hRW] at hbr
 have hst0:MixSt64 w w.heap.size gr s (rowC .u64 RW 0) (s8V .u64 s) w2 :=
  ⟨HBEL1.out.trans (hbw.mono HBEL1.out.size),HF1.out.below hbw HF1.out.lt,HS1.out.below hbw HS1.out.lt,HR1.out.below hbw HR1.out.lt,HV1.out.below hbw HV1.out.lt,hbr,by rw [HZ1.out] at hgl; omega⟩
 have HGP:=zY HG.out.size;have HRW:=zY hRW;clear hbr hbw hgl hRW HF1 HS1 HR1 HV1 HBEL1 HZ1 HR;generalize hgf:w.heap.size=gf at *;have HGF:=zY hgf;clear hgf;go_wp2_with fail
 go_loopw [21] (fun i wr=>∃ k:Nat,k≤80∧i=.int .i64 k∧MixSt64 w gf gr s (rowC .u64 RW 0) (s8V .u64 (mixTo F64 RW s k)) wr) (fun i _=>80 - (intOf i).toNat)
 case atStart=>exact ⟨0,by omega,rfl,hst0⟩
 case round =>
  obtain ⟨k,hk,rfl,hst⟩:=hrel;clear hst0
  by_cases hlt:k<80
  ·have hlt':(k:Int)<80:=by omega
   obtain ⟨vv,hvv⟩:=eX (mixTo F64 RW s k);have hvl:vv.Lt (2^64):=by rw [hvv]; exact mixTo_lt HSL.out k
   rw [← hvv] at hst;have HVV:=zY hvv;obtain ⟨va,vb,vc,vd,ve,vf,vg,vh⟩:=vv;obtain ⟨la,lb,lc,ld,le_,lf,lg,lh⟩:=hvl;dsimp only at la lb lc ld le_ lf lg lh;obtain ⟨wk,hwk⟩:=eX (RW.getD k 0);obtain ⟨kk,hkk⟩:=eX (stepsN.getD k 0);have hRL:RW.length=80:=by rw [HRW.out]; exact qa2 _ _ _
   have hwl:wk<2^64:=by rw [hwk,HRW.out]; exact qcl (qd0 F64 (by decide) blk 80) (by decide) k
   have hkl:kk<18446744073709551616:=by rw [hkk]; exact stepsN_lt k
   have hcr:(rowC .u64 RW 0)[k]?=some (.int .u64 (wk:Int)):=by rw [rowC_get _ _ _ _ (by rw [hRL]; exact hlt),hwk]
   have HGC:Hid (∀ u,Below gf w u→u.cell? ⟨0,k,none⟩=some (.int .u64 (kk:Int))):=zY fun u hu=>by
    rw [hkk]; exact (HG.out.below hu HGP.out).cell k (by omega)
   have crow:=hst.row.cell k;rw [hcr] at crow;have iwk:(wk:Int)<18446744073709551616:=by omega
   have ikk:(kk:Int)<18446744073709551616:=by omega
   have HWK:=zY hwk;have HKK:=zY hkk;have HL8:=zY (show S8.Lt ⟨va,vb,vc,vd,ve,vf,vg,vh⟩ (2^64) from ⟨la,lb,lc,ld,le_,lf,lg,lh⟩);have HWL:=zY hwl;have HKL:=zY hkl;clear hvv la lb lc ld le_ lf lg lh hwk hkk hRL hwl hkl hcr;have HST:=zY hst;clear hst;go_wp2_with fail;obtain ⟨kn,hkn⟩:=eX (kN F64 k);have hkn2:kn=kk:=by rw [hkn,kN,← HKK.out]; show kk/1%18446744073709551616=kk; have:=HKL.out; omega
   have hknl:kn<2^64:=by rw [hkn]; exact Nat.mod_lt _ (by decide)
   subst hkn2;have hkn2:kn<2^64:=hknl;have HKN:=zY hkn2;have HKNE:=zY hkn;have HKNL:=zY hknl;clear hkn2 hkn hknl;have HC0:=HST.out.drew;refine qal (fun u=>MixSt64 w gf gr s (rowC .u64 RW 0) (s8V .u64 ⟨va,vb,vc,vd,ve,vf,vg,vh⟩) u) (fun u=>MixSt64 w gf gr s (rowC .u64 RW 0) (s8V .u64 ⟨va,vb,vc,vd,ve,vf,vg,vh⟩) u) [(0,some 26),(1,some 27),(2,some 28),(3,some 29),(4,some 30),(5,some 31),(6,some 32),(7,some 33),(8,some 10)] (by kernel_rfl) (by kernel_rfl) (by decide) (by kernel_rfl) (fun _=>rfl) HC0 ?_;apply yN_
   ·apply dP [];exact fun _=>rfl;rfl;rintro vals - w1 hC1 E hE;simp only [sP] at hE ⊢;go_wp2;exact .mk (hE _ hC1)
   apply yN_
   ·apply dP [(0,some 26)];exact fun _=>rfl;rfl;intro vals vq w1 hC1 E hE;simp only [sP,vq] at hE ⊢;clear vq;go_wp2;exact .mk (hE _ hC1)
   apply yN_
   ·apply dP [(1,some 27)];exact fun _=>rfl;rfl;intro vals vq w1 hC1 E hE;have d0:=HGC.out _ hC1.bel;simp only [sP,vq] at hE ⊢;clear vq;go_wp2;exact .mk (hE _ hC1)
   apply yN_
   ·apply dP [];exact fun _=>rfl;rfl;intro vals vq w1 hC1 E hE;clear vq;simp only [sP] at hE ⊢;go_wp2;exact .mk (hE _ hC1)
   apply yN_
   ·apply dP [(3,some 29)];exact fun _=>rfl;rfl;intro vals vq w1 hC1 E hE;have d0:=hC1.form.cell 0;simp [f64C] at d0;simp only [sP,vq] at hE ⊢;clear vq;go_wp2;exact .mk (hE _ hC1)
   apply yN_
   ·apply dP [(4,some 30)];exact fun _=>rfl;rfl;intro vals vq w1 hC1 E hE;simp only [sP,vq] at hE ⊢;clear vq;go_wp2;exact .mk (hE _ hC1)
   apply yN_
   ·apply dP [(2,some 28),(5,some 31)];exact fun _=>rfl;rfl;intro vals vq w1 hC1 E hE;simp only [sP,vq] at hE ⊢;clear vq;go_wp2;exact .mk (hE _ hC1)
   apply yN_
   ·apply dP [(6,some 32)];exact fun _=>rfl;rfl;intro vals vq w1 hC1 E hE;simp only [sP,vq] at hE ⊢;clear vq;go_wp2_with fail
    skip
    refine qaa (qcn _ _ (by have:=HKL.out; omega)) ?_;rintro e w2 ⟨rfl,rfl⟩
    skip
    go_wp2_with fail;exact .mk (hE _ hC1)
   apply yL_
   ·apply dP [(7,some 33),(7,some 33),(0,some 26),(1,some 27),(2,some 28),(3,some 29),(4,some 30),(5,some 31),(6,some 32),(7,some 33)];exact fun _=>rfl;rfl;intro vals vq w1 hC1 E hE;simp only [sP,vq] at hE ⊢;clear vq;go_wp2;exact .mk (hE _ hC1)
   intro vals vq w1 hC1;simp only [sP,vq];clear vq;clear HC0 crow;go_wp2_with fail;have HC0:=hC1.drew;clear hC1;refine qal (fun u=>MixSt64 w gf gr s (rowC .u64 RW 0) (s8V .u64 ⟨va,vb,vc,vd,ve,vf,vg,vh⟩) u) (fun u=>MixSt64 w gf gr s (rowC .u64 RW 0) (s8V .u64 ⟨va,vb,vc,vd,ve,vf,vg,vh⟩) u) [(0,some 34),(1,some 35),(2,some 36),(3,some 37),(4,some 11),(5,some 12)] (by kernel_rfl) (by kernel_rfl) (by decide) (by kernel_rfl) (fun _=>rfl) HC0 ?_;apply yN_
   ·apply dP [];exact fun _=>rfl;rfl;rintro vals - w1 hC1 E hE;simp only [sP] at hE ⊢;go_wp2;exact .mk (hE _ hC1)
   apply yN_
   ·apply dP [(0,some 34)];exact fun _=>rfl;rfl;intro vals vq w1 hC1 E hE;have d0:=hC1.v.cell 0;simp [s8V] at d0;simp only [sP,vq] at hE ⊢;clear vq;go_wp2;exact .mk (hE _ hC1)
   apply yN_
   ·apply dP [];exact fun _=>rfl;rfl;intro vals vq w1 hC1 E hE;clear vq;simp only [sP] at hE ⊢;go_wp2;exact .mk (hE _ hC1)
   apply yN_
   ·apply dP [(2,some 36)];exact fun _=>rfl;rfl;intro vals vq w1 hC1 E hE;have d0:=hC1.v.cell 4;simp [s8V] at d0;simp only [sP,vq] at hE ⊢;clear vq;go_wp2;exact .mk (hE _ hC1)
   apply yN_
   ·apply dP [(1,some 35),(0,some 34),(1,some 35)];exact fun _=>rfl;rfl;intro vals vq w1 hC1 E hE;simp only [sP,vq] at hE ⊢;clear vq;go_wp2;exact .mk (hE _ hC1)
   apply yL_
   ·apply dP [(3,some 37),(4,some 11),(0,some 34),(1,some 35),(2,some 36),(3,some 37),(4,some 11)];exact fun _=>rfl;rfl;intro vals vq w1 hC1 E hE;simp only [sP,vq] at hE ⊢;clear vq;go_wp2;exact .mk (hE _ hC1)
   intro vals vq w1 hC1;simp only [sP,vq];clear vq;clear HC0;have ive:(ve:Int)<18446744073709551616:=by have:=HL8.out.e; dsimp only at this; omega
   have iva:(va:Int)<18446744073709551616:=by have:=HL8.out.a; dsimp only at this; omega
   go_wp2_with fail;have HC0:=hC1.drew;clear hC1;obtain ⟨ca,hXA⟩:=eX (allN 64 ve 14 18 41 false);have lXA:ca<18446744073709551616:=by rw [hXA]; exact allN_lt (by have:=HL8.out.e; dsimp only at this; omega)
   obtain ⟨af,haf⟩:=eX (ve &&& vf);obtain ⟨ne,hne⟩:=eX (18446744073709551615 - ve);obtain ⟨ng,hng⟩:=eX (ne &&& vg);obtain ⟨ch,hch⟩:=eX (af ^^^ ng);obtain ⟨p1,hp1⟩:=eX ((vh+ca)%2^64);obtain ⟨p2,hp2⟩:=eX ((p1+ch)%2^64);obtain ⟨p3,hp3⟩:=eX ((p2+kn)%2^64);obtain ⟨xx,hxx⟩:=eX ((p3+wk)%2^64);have HP1:=zY hp1;have HP2:=zY hp2;have HP3:=zY hp3;have HXA:=zY hXA;have LXA:=zY lXA;have HAF:=zY haf;have HNE:=zY hne;have HNG:=zY hng;have HCH:=zY hch;have AFL:Hid (af<2^64):=zY (by rw [haf]; exact qcD HL8.out.e);have NEL:Hid (ne<2^64):=zY (by rw [hne]; omega);have NGL:Hid (ng<2^64):=zY (by rw [hng]; exact qcD NEL.out);have HXX:=zY hxx;clear hXA lXA haf hne hng hch hxx hp1 hp2 hp3;refine qal (fun u=>MixSt64 w gf gr s (rowC .u64 RW 0) (s8V .u64 ⟨va,vb,vc,vd,ve,vf,vg,vh⟩) u) (fun u=>MixSt64 w gf gr s (rowC .u64 RW 0) (s8V .u64 ⟨va,vb,vc,vd,ve,vf,vg,vh⟩) u) [(0,some 38),(1,some 39),(2,some 40),(3,some 41),(4,some 42),(5,some 43),(6,some 44),(7,some 45),(8,some 46),(9,some 47),(10,some 48),(11,some 49),(12,some 50),(13,some 51),(14,some 52),(15,some 53),(16,some 54),(17,some 55),(18,some 56),(19,some 57),(20,some 58),(21,some 59),(22,some 60),(23,some 61),(24,some 62),(25,some 13)] (by kernel_rfl) (by kernel_rfl) (by decide) (by kernel_rfl) (fun _=>rfl) HC0 ?_;apply yN_
   ·apply dP [];exact fun _=>rfl;rfl;rintro vals - w1 hC1 E hE;simp only [sP] at hE ⊢;go_wp2;exact .mk (hE _ hC1)
   apply yN_
   ·apply dP [(0,some 38)];exact fun _=>rfl;rfl;intro vals vq w1 hC1 E hE;have d0:=hC1.v.cell 7;simp [s8V] at d0;simp only [sP,vq] at hE ⊢;clear vq;go_wp2;exact .mk (hE _ hC1)
   apply yN_
   ·apply dP [];exact fun _=>rfl;rfl;intro vals vq w1 hC1 E hE;clear vq;simp only [sP] at hE ⊢;refine qab hC1.form rfl rfl rfl hu rfl qbi ?_;go_wp2_with fail;exact .mk (hE _ hC1)
   apply yN_
   ·apply dP [];exact fun _=>rfl;rfl;intro vals vq w1 hC1 E hE;clear vq;simp only [sP] at hE ⊢;go_wp2;exact .mk (hE _ hC1)
   apply yN_
   ·apply dP [];exact fun _=>rfl;rfl;intro vals vq w1 hC1 E hE;clear vq;simp only [sP] at hE ⊢;go_wp2;exact .mk (hE _ hC1)
   apply yN_
   ·apply dP [(4,some 42)];exact fun _=>rfl;rfl;intro vals vq w1 hC1 E hE;simp only [sP,vq] at hE ⊢;clear vq;go_wp2;exact .mk (hE _ hC1)
   apply yN_
   ·apply dP [(5,some 43)];exact fun _=>rfl;rfl;intro vals vq w1 hC1 E hE;simp only [sP,vq] at hE ⊢;clear vq;refine qan (n:=3) (r:=#[.int .i64 14,.int .i64 18,.int .i64 41]) hC1.form (by decide) rfl rfl rfl rfl hu3 rfl qcr ?_;go_wp2_with fail;exact .mk (hE _ hC1)
   apply yN_
   ·apply dP [(2,some 40),(3,some 41),(6,some 44)];exact fun _=>rfl;rfl;intro vals vq w1 hC1 E hE;simp only [sP,vq] at hE ⊢;clear vq;go_wp2_with fail;refine qaa (qc9 ve 14 18 41 false _ (by have:=HL8.out.e; dsimp only at this; omega) (by decide) (by decide) (by decide)) ?_;rintro e w2 ⟨rfl,hb2⟩;rw [← HXA.out];go_wp2_with fail;exact .mk (hE _ (hC1.next hb2))
   apply yN_
   ·apply dP [(7,some 45),(7,some 45)];exact fun _=>rfl;rfl;intro vals vq w1 hC1 E hE;simp only [sP,vq] at hE ⊢;clear vq;go_wp2_with fail;refine qaa (qcn ca _ LXA.out) ?_;rintro e w2 ⟨rfl,rfl⟩
    skip
    go_wp2_with fail;exact .mk (hE _ hC1)
   apply yN_
   ·apply dP [(1,some 39),(8,some 46)];exact fun _=>rfl;rfl;intro vals vq w1 hC1 E hE;simp only [sP,vq] at hE ⊢;clear vq;go_wp2;rw [qbg vh ca,← HP1.out];exact .mk (hE _ hC1)
   apply yN_
   ·apply dP [];exact fun _=>rfl;rfl;intro vals vq w1 hC1 E hE;clear vq;simp only [sP] at hE ⊢;go_wp2;exact .mk (hE _ hC1)
   apply yN_
   ·apply dP [];exact fun _=>rfl;rfl;intro vals vq w1 hC1 E hE;clear vq;simp only [sP] at hE ⊢;go_wp2;exact .mk (hE _ hC1)
   apply yN_
   ·apply dP [(11,some 49)];exact fun _=>rfl;rfl;intro vals vq w1 hC1 E hE;have d0:=hC1.v.cell 5;simp [s8V] at d0;simp only [sP,vq] at hE ⊢;clear vq;go_wp2;exact .mk (hE _ hC1)
   apply yN_
   ·apply dP [(10,some 48),(12,some 50)];exact fun _=>rfl;rfl;intro vals vq w1 hC1 E hE;simp only [sP,vq] at hE ⊢;clear vq;go_wp2;rw [and64 ve vf HL8.out.e HL8.out.f,← HAF.out];exact .mk (hE _ hC1)
   apply yN_
   ·apply dP [];exact fun _=>rfl;rfl;intro vals vq w1 hC1 E hE;clear vq;simp only [sP] at hE ⊢;go_wp2;exact .mk (hE _ hC1)
   apply yN_
   ·apply dP [(14,some 52)];exact fun _=>rfl;rfl;intro vals vq w1 hC1 E hE;simp only [sP,vq] at hE ⊢;clear vq;refine wpList_unary (run_not64 ve HL8.out.e) rfl rfl rfl ?_;rw [← HNE.out];go_wp2_with fail;exact .mk (hE _ hC1)
   apply yN_
   ·apply dP [];exact fun _=>rfl;rfl;intro vals vq w1 hC1 E hE;clear vq;simp only [sP] at hE ⊢;go_wp2;exact .mk (hE _ hC1)
   apply yN_
   ·apply dP [(16,some 54)];exact fun _=>rfl;rfl;intro vals vq w1 hC1 E hE;have d0:=hC1.v.cell 6;simp [s8V] at d0;simp only [sP,vq] at hE ⊢;clear vq;go_wp2;exact .mk (hE _ hC1)
   apply yN_
   ·apply dP [(15,some 53),(17,some 55)];exact fun _=>rfl;rfl;intro vals vq w1 hC1 E hE;simp only [sP,vq] at hE ⊢;clear vq;go_wp2;rw [and64 ne vg NEL.out HL8.out.g,← HNG.out];exact .mk (hE _ hC1)
   apply yN_
   ·apply dP [(13,some 51),(18,some 56)];exact fun _=>rfl;rfl;intro vals vq w1 hC1 E hE;simp only [sP,vq] at hE ⊢;clear vq;go_wp2;rw [xor64 af ng AFL.out NGL.out,← HCH.out];exact .mk (hE _ hC1)
   apply yN_
   ·apply dP [(9,some 47),(19,some 57)];exact fun _=>rfl;rfl;intro vals vq w1 hC1 E hE;simp only [sP,vq] at hE ⊢;clear vq;go_wp2;rw [qbg p1 ch,← HP2.out];exact .mk (hE _ hC1)
   apply yN_
   ·apply dP [];exact fun _=>rfl;rfl;intro vals vq w1 hC1 E hE;clear vq;simp only [sP] at hE ⊢;go_wp2;exact .mk (hE _ hC1)
   apply yN_
   ·apply dP [(20,some 58),(21,some 59)];exact fun _=>rfl;rfl;intro vals vq w1 hC1 E hE;simp only [sP,vq] at hE ⊢;clear vq;go_wp2;rw [qbg p2 kn,← HP3.out];exact .mk (hE _ hC1)
   apply yN_
   ·apply dP [];exact fun _=>rfl;rfl;intro vals vq w1 hC1 E hE;clear vq;simp only [sP] at hE ⊢;go_wp2;exact .mk (hE _ hC1)
   apply yN_
   ·apply dP [(22,some 60),(23,some 61)];exact fun _=>rfl;rfl;intro vals vq w1 hC1 E hE;simp only [sP,vq] at hE ⊢;clear vq;go_wp2;rw [qbg p3 wk,← HXX.out];exact .mk (hE _ hC1)
   apply yL_
   ·apply dP [(24,some 62),(8,some 46),(0,some 38),(1,some 39),(2,some 40),(3,some 41),(4,some 42),(5,some 43),(6,some 44),(7,some 45),(8,some 46),(9,some 47),(10,some 48),(11,some 49),(12,some 50),(13,some 51),(14,some 52),(15,some 53),(16,some 54),(17,some 55),(18,some 56),(19,some 57),(20,some 58),(21,some 59),(22,some 60),(23,some 61),(24,some 62)];exact fun _=>rfl;rfl;intro vals vq w1 hC1 E hE;simp only [sP,vq] at hE ⊢;clear vq;go_wp2;exact .mk (hE _ hC1)
   intro vals vq w1 hC1;simp only [sP,vq];clear vq;clear HC0;go_wp2_with fail;have HC0:=hC1.drew;clear hC1;obtain ⟨cy,hYA⟩:=eX (allN 64 va 28 34 39 false);have lYA:cy<18446744073709551616:=by rw [hYA]; exact allN_lt (by have:=HL8.out.a; dsimp only at this; omega)
   obtain ⟨ab,hab⟩:=eX (va &&& vb);obtain ⟨ac,hac⟩:=eX (va &&& vc);obtain ⟨bc,hbc⟩:=eX (vb &&& vc);obtain ⟨x1,hx1⟩:=eX (ab ^^^ ac);obtain ⟨mj,hmj⟩:=eX (x1 ^^^ bc);obtain ⟨yy,hyy⟩:=eX ((cy+mj)%2^64);have HYA:=zY hYA;have LYA:=zY lYA;have HAB:=zY hab;have HAC:=zY hac;have HBC:=zY hbc;have HX1:=zY hx1;have HMJ:=zY hmj;have HYY:=zY hyy;have ABL:Hid (ab<2^64):=zY (by rw [hab]; exact qcD HL8.out.a);have ACL:Hid (ac<2^64):=zY (by rw [hac]; exact qcD HL8.out.a);have BCL:Hid (bc<2^64):=zY (by rw [hbc]; exact qcD HL8.out.b);have X1L:Hid (x1<2^64):=zY (by rw [hx1]; exact Nat.xor_lt_two_pow ABL.out ACL.out);clear hYA lYA hab hac hbc hx1 hmj hyy;refine qal (fun u=>MixSt64 w gf gr s (rowC .u64 RW 0) (s8V .u64 ⟨va,vb,vc,vd,ve,vf,vg,vh⟩) u) (fun u=>MixSt64 w gf gr s (rowC .u64 RW 0) (s8V .u64 ⟨va,vb,vc,vd,ve,vf,vg,vh⟩) u) [(0,some 63),(1,some 64),(2,some 65),(3,some 66),(4,some 67),(5,some 68),(6,some 69),(7,some 70),(8,some 71),(9,some 72),(10,some 73),(11,some 74),(12,some 75),(13,some 76),(14,some 77),(15,some 78),(16,some 79),(17,some 80),(18,some 81),(19,some 82),(20,some 83),(21,some 84),(22,some 85),(23,some 14)] (by kernel_rfl) (by kernel_rfl) (by decide) (by kernel_rfl) (fun _=>rfl) HC0 ?_;apply yN_
   ·apply dP [];exact fun _=>rfl;rfl;rintro vals - w1 hC1 E hE;simp only [sP] at hE ⊢;refine qab hC1.form rfl rfl rfl hu rfl qbi ?_;go_wp2_with fail;exact .mk (hE _ hC1)
   apply yN_
   ·apply dP [];exact fun _=>rfl;rfl;rintro vals ⟨-,-⟩ w1 hC1 E hE;simp only [sP] at hE ⊢;go_wp2;exact .mk (hE _ hC1)
   apply yN_
   ·apply dP [];exact fun _=>rfl;rfl;intro vals vq w1 hC1 E hE;clear vq;simp only [sP] at hE ⊢;go_wp2;exact .mk (hE _ hC1)
   apply yN_
   ·apply dP [(2,some 65)];exact fun _=>rfl;rfl;intro vals vq w1 hC1 E hE;simp only [sP,vq] at hE ⊢;clear vq;go_wp2;exact .mk (hE _ hC1)
   apply yN_
   ·apply dP [(3,some 66)];exact fun _=>rfl;rfl;intro vals vq w1 hC1 E hE;simp only [sP,vq] at hE ⊢;clear vq;refine qan (n:=3) (r:=#[.int .i64 28,.int .i64 34,.int .i64 39]) hC1.form (by decide) rfl rfl rfl rfl hu3 rfl qcr ?_;go_wp2_with fail;exact .mk (hE _ hC1)
   apply yN_
   ·apply dP [(0,some 63),(1,some 64),(4,some 67)];exact fun _=>rfl;rfl;intro vals vq w1 hC1 E hE;simp only [sP,vq] at hE ⊢;clear vq;go_wp2_with fail;refine qaa (qc9 va 28 34 39 false _ (by have:=HL8.out.a; dsimp only at this; omega) (by decide) (by decide) (by decide)) ?_;rintro e w2 ⟨rfl,hb2⟩;rw [← HYA.out];go_wp2_with fail;exact .mk (hE _ (hC1.next hb2))
   apply yN_
   ·apply dP [(5,some 68),(5,some 68)];exact fun _=>rfl;rfl;intro vals vq w1 hC1 E hE;simp only [sP,vq] at hE ⊢;clear vq;go_wp2_with fail;refine qaa (qcn cy _ LYA.out) ?_;rintro e w2 ⟨rfl,rfl⟩
    skip
    go_wp2_with fail;exact .mk (hE _ hC1)
   apply yN_
   ·apply dP [];exact fun _=>rfl;rfl;intro vals vq w1 hC1 E hE;clear vq;simp only [sP] at hE ⊢;go_wp2;exact .mk (hE _ hC1)
   apply yN_
   ·apply dP [];exact fun _=>rfl;rfl;intro vals vq w1 hC1 E hE;clear vq;simp only [sP] at hE ⊢;go_wp2;exact .mk (hE _ hC1)
   apply yN_
   ·apply dP [(8,some 71)];exact fun _=>rfl;rfl;intro vals vq w1 hC1 E hE;have d0:=hC1.v.cell 1;simp [s8V] at d0;simp only [sP,vq] at hE ⊢;clear vq;go_wp2;exact .mk (hE _ hC1)
   apply yN_
   ·apply dP [(7,some 70),(9,some 72)];exact fun _=>rfl;rfl;intro vals vq w1 hC1 E hE;simp only [sP,vq] at hE ⊢;clear vq;go_wp2;rw [and64 va vb HL8.out.a HL8.out.b,← HAB.out];exact .mk (hE _ hC1)
   apply yN_
   ·apply dP [];exact fun _=>rfl;rfl;intro vals vq w1 hC1 E hE;clear vq;simp only [sP] at hE ⊢;go_wp2;exact .mk (hE _ hC1)
   apply yN_
   ·apply dP [];exact fun _=>rfl;rfl;intro vals vq w1 hC1 E hE;clear vq;simp only [sP] at hE ⊢;go_wp2;exact .mk (hE _ hC1)
   apply yN_
   ·apply dP [(12,some 75)];exact fun _=>rfl;rfl;intro vals vq w1 hC1 E hE;have d0:=hC1.v.cell 2;simp [s8V] at d0;simp only [sP,vq] at hE ⊢;clear vq;go_wp2;exact .mk (hE _ hC1)
   apply yN_
   ·apply dP [(11,some 74),(13,some 76)];exact fun _=>rfl;rfl;intro vals vq w1 hC1 E hE;simp only [sP,vq] at hE ⊢;clear vq;go_wp2;rw [and64 va vc HL8.out.a HL8.out.c,← HAC.out];exact .mk (hE _ hC1)
   apply yN_
   ·apply dP [(10,some 73),(14,some 77)];exact fun _=>rfl;rfl;intro vals vq w1 hC1 E hE;simp only [sP,vq] at hE ⊢;clear vq;go_wp2;rw [xor64 ab ac ABL.out ACL.out,← HX1.out];exact .mk (hE _ hC1)
   apply yN_
   ·apply dP [];exact fun _=>rfl;rfl;intro vals vq w1 hC1 E hE;clear vq;simp only [sP] at hE ⊢;go_wp2;exact .mk (hE _ hC1)
   apply yN_
   ·apply dP [(16,some 79)];exact fun _=>rfl;rfl;intro vals vq w1 hC1 E hE;have d0:=hC1.v.cell 1;simp [s8V] at d0;simp only [sP,vq] at hE ⊢;clear vq;go_wp2;exact .mk (hE _ hC1)
   apply yN_
   ·apply dP [];exact fun _=>rfl;rfl;intro vals vq w1 hC1 E hE;clear vq;simp only [sP] at hE ⊢;go_wp2;exact .mk (hE _ hC1)
   apply yN_
   ·apply dP [(18,some 81)];exact fun _=>rfl;rfl;intro vals vq w1 hC1 E hE;have d0:=hC1.v.cell 2;simp [s8V] at d0;simp only [sP,vq] at hE ⊢;clear vq;go_wp2;exact .mk (hE _ hC1)
   apply yN_
   ·apply dP [(17,some 80),(19,some 82)];exact fun _=>rfl;rfl;intro vals vq w1 hC1 E hE;simp only [sP,vq] at hE ⊢;clear vq;go_wp2;rw [and64 vb vc HL8.out.b HL8.out.c,← HBC.out];exact .mk (hE _ hC1)
   apply yN_
   ·apply dP [(15,some 78),(20,some 83)];exact fun _=>rfl;rfl;intro vals vq w1 hC1 E hE;simp only [sP,vq] at hE ⊢;clear vq;go_wp2;rw [xor64 x1 bc X1L.out BCL.out,← HMJ.out];exact .mk (hE _ hC1)
   apply yN_
   ·apply dP [(6,some 69),(21,some 84)];exact fun _=>rfl;rfl;intro vals vq w1 hC1 E hE;simp only [sP,vq] at hE ⊢;clear vq;go_wp2;rw [qbg cy mj,← HYY.out];exact .mk (hE _ hC1)
   apply yL_
   ·apply dP [(22,some 85),(6,some 69),(0,some 63),(1,some 64),(2,some 65),(3,some 66),(4,some 67),(5,some 68),(6,some 69),(7,some 70),(8,some 71),(9,some 72),(10,some 73),(11,some 74),(12,some 75),(13,some 76),(14,some 77),(15,some 78),(16,some 79),(17,some 80),(18,some 81),(19,some 82),(20,some 83),(21,some 84),(22,some 85)];exact fun _=>rfl;rfl;intro vals vq w1 hC1 E hE;simp only [sP,vq] at hE ⊢;clear vq;go_wp2;exact .mk (hE _ hC1)
   intro vals vq w1 hC1;simp only [sP,vq];clear vq;clear HC0;go_wp2_with fail;have HC0:=hC1.drew;clear hC1;refine qal (fun u=>MixSt64 w gf gr s (rowC .u64 RW 0) (s8V .u64 ⟨va,vb,vc,vd,ve,vf,vg,vh⟩) u) (fun u=>MixSt64 w gf gr s (rowC .u64 RW 0) (s8V .u64 ⟨va,va,vb,vc,vd,ve,vf,vg⟩) u) [(0,some 86),(1,some 87),(2,some 88)] (by kernel_rfl) (by kernel_rfl) (by decide) (by kernel_rfl) (fun _=>rfl) HC0 ?_;apply yN_
   ·apply dP [];exact fun _=>rfl;rfl;rintro vals - w1 hC1 E hE;simp only [sP] at hE ⊢;go_wp2;exact .mk (hE _ hC1)
   apply yN_
   ·apply dP [];exact fun _=>rfl;rfl;rintro vals ⟨-,-⟩ w1 hC1 E hE;simp only [sP] at hE ⊢;go_wp2;exact .mk (hE _ hC1)
   apply yL_
   ·apply dP [(0,some 86),(1,some 87)];exact fun _=>rfl;rfl;intro vals vq w1 hC1 E hE;simp only [sP,vq] at hE ⊢;clear vq;refine qdO ((s8V .u64 ⟨va,vb,vc,vd,ve,vf,vg,vh⟩).toList.take 7) (new:=s8V .u64 ⟨va,va,vb,vc,vd,ve,vf,vg⟩) hC1.v rfl rfl Tryz.underlying92 one64 rfl rfl rfl (blk_src hC1.v 7) (by simp [s8V]) (by simp [s8V,Value.oneCell']) rfl ?_;intro w2 hb2 hw2;go_wp2_with fail;exact .mk (hE _ (hC1.put hw2 hb2))
   intro vals vq w1 hC1;simp only [sP,vq];clear vq;clear HC0;have d4:=hC1.v.cell 4;simp [s8V] at d4;have d0:=hC1.v.cell 0;simp [s8V] at d0;have g4:=hC1.v.free 4;have g0:=hC1.v.free 0;have HC1:=zY hC1;clear hC1 iwk ikk ive iva;have hu8':=zY hu8;have hu':=zY hu;have hu3':=zY hu3;clear hu8 hu hu3;obtain ⟨dx,hdx⟩:=eX ((vd+xx)%2^64);obtain ⟨xy,hxy⟩:=eX ((xx+yy)%2^64);have HDX:=zY hdx;have HXY:=zY hxy;clear hdx hxy
   have hfin:∀ u,u=(w1.setCell ⟨gf+1+1+1,4,none⟩ (.int .u64 (dx:Int))).setCell ⟨gf+1+1+1,0,none⟩ (.int .u64 (xy:Int))→MixSt64 w gf gr s (rowC .u64 RW 0) (s8V .u64 (mixTo F64 RW s (k+1))) u:=by
    intro u hu;rw [hu,mixTo,← HVV.out];have h1:=HC1.out.put (v':=s8V .u64 ⟨va,va,vb,vc,dx,ve,vf,vg⟩) (qah w1 (gf+1+1+1) 4 (.int .u64 (dx:Int))) (qaj (i:=4) HC1.out.v (.int .u64 (dx:Int)));have h2:=h1.put (v':=s8V .u64 ⟨xy,va,vb,vc,dx,ve,vf,vg⟩) (qah _ (gf+1+1+1) 0 (.int .u64 (xy:Int))) (qaj (i:=0) h1.v (.int .u64 (xy:Int)))
    have e1:mixX F64 ⟨va,vb,vc,vd,ve,vf,vg,vh⟩ (kN F64 k) (RW.getD k 0)=xx:=by
     rw [HXX.out,HP3.out,HP2.out,HP1.out,HCH.out,HNG.out,HNE.out,HAF.out,HXA.out,HWK.out,HKNE.out];exact mixX_64 _ _ _ _ _
    have e2:mixY F64 ⟨va,vb,vc,vd,ve,vf,vg,vh⟩=yy:=by
     rw [HYY.out,HMJ.out,HX1.out,HAB.out,HAC.out,HBC.out,HYA.out];exact mixY_64 _ _
    have e3:stepS F64 ⟨va,vb,vc,vd,ve,vf,vg,vh⟩ (kN F64 k) (RW.getD k 0)=⟨xy,va,vb,vc,dx,ve,vf,vg⟩:=by
     rw [stepS,e1,e2,HDX.out,HXY.out];rfl
    rw [e3];exact h2
   have HFIN:=zY hfin;clear hfin;go_wp2_with fail;rw [qbg vd xx,qbg xx yy,← HDX.out,← HXY.out];exact ⟨⟨k+1,hlt,by go_num,HFIN.out _ rfl⟩,by simp [intOf]; omega⟩
  ·have hge:¬ (k:Int)<80:=by omega
   obtain rfl:k=80:=by omega
   have HST:=zY hst;clear hst;go_wp2_with fail;obtain ⟨vv,hvv⟩:=eX (mixTo F64 RW s 80);have HVV:=zY hvv;have hst9:MixSt64 w gf gr s (rowC .u64 RW 0) (addC .u64 F64 s vv 0) wr:=by rw [addC_zero,HVV.out]; exact HST.out
   clear hvv HST;obtain ⟨wo,rfl⟩:∃ wo:World,wo=wr:=⟨_,rfl⟩
   go_loopw [99] (fun i wr=>∃ j:Nat,j≤8∧i=.int .i64 j∧MixSt64 w gf gr s (rowC .u64 RW 0) (addC .u64 F64 s vv j) wr) (fun i _=>8 - (intOf i).toNat)
   case atStart=>exact ⟨0,by omega,rfl,hst9⟩
   case round =>
    obtain ⟨j,hj,rfl,hsj⟩:=hrel;clear hst9
    by_cases hj8:j<8
    ·have hj8':(j:Int)<8:=by omega
     obtain ⟨vj,hvj⟩:=eX ((s8L vv).getD j 0);obtain ⟨sj,hsj'⟩:∃ x,x=(s8L s).getD j 0:=⟨_,rfl⟩;obtain ⟨aj,haj⟩:=eX ((vj+sj)%2^64);have E1:Hid ((addC .u64 F64 s vv j)[j]?=some (.int .u64 (vj:Int))):=zY (by rw [addC_at .u64 F64 s vv j hj8,hvj]);have E2:Hid ((s8V .u64 s)[j]?=some (.int .u64 (sj:Int))):=zY (by rw [s8V_at .u64 s j hj8,hsj']);have E3:Hid ((addC .u64 F64 s vv j).setIfInBounds j (.int .u64 (aj:Int))=addC .u64 F64 s vv (j+1)):=zY (by rw [haj,hvj,hsj']; exact addC_set .u64 F64 s vv j hj8);have HAJ:=zY haj;clear hvj hsj' haj;go_wp2_with fail;have HC0:=hsj.drew;clear hsj;refine qal (fun u=>MixSt64 w gf gr s (rowC .u64 RW 0) (addC .u64 F64 s vv j) u) (fun u=>MixSt64 w gf gr s (rowC .u64 RW 0) (addC .u64 F64 s vv (j+1)) u) [(0,some 102),(1,some 103),(2,some 104),(3,some 105),(4,some 106),(5,some 107),(6,some 108),(7,some 109),(8,none)] (by kernel_rfl) (by kernel_rfl) (by decide) (by kernel_rfl) (fun _=>rfl) HC0 ?_;apply yN_
     ·apply dP [];exact fun _=>rfl;rfl;rintro vals - w1 hC1 E hE;simp only [sP] at hE ⊢;go_wp2;exact .mk (hE _ hC1)
     apply yN_
     ·apply dP [(0,some 102)];exact fun _=>rfl;rfl;intro vals vq w1 hC1 E hE;simp only [sP,vq] at hE ⊢;clear vq;go_wp2;exact .mk (hE _ hC1)
     apply yN_
     ·apply dP [(1,some 103)];exact fun _=>rfl;rfl;intro vals vq w1 hC1 E hE;have d0:=hC1.v.cell j;rw [E1.out] at d0;simp only [sP,vq] at hE ⊢;clear vq;go_wp2;exact .mk (hE _ hC1)
     apply yN_
     ·apply dP [];exact fun _=>rfl;rfl;intro vals vq w1 hC1 E hE;clear vq;simp only [sP] at hE ⊢;go_wp2;exact .mk (hE _ hC1)
     apply yN_
     ·apply dP [(3,some 105)];exact fun _=>rfl;rfl;intro vals vq w1 hC1 E hE;simp only [sP,vq] at hE ⊢;clear vq;go_wp2;exact .mk (hE _ hC1)
     apply yN_
     ·apply dP [(4,some 106)];exact fun _=>rfl;rfl;intro vals vq w1 hC1 E hE;have d0:=hC1.s.cell j;rw [E2.out] at d0;simp only [sP,vq] at hE ⊢;clear vq;go_wp2;exact .mk (hE _ hC1)
     apply yN_
     ·apply dP [(2,some 104),(5,some 107)];exact fun _=>rfl;rfl;intro vals vq w1 hC1 E hE;simp only [sP,vq] at hE ⊢;clear vq;go_wp2;rw [qbg vj sj,← HAJ.out];exact .mk (hE _ hC1)
     apply yN_
     ·apply dP [(0,some 102),(0,some 102),(1,some 103),(2,some 104),(3,some 105),(4,some 106),(5,some 107),(6,some 108)];exact fun _=>rfl;rfl;intro vals vq w1 hC1 E hE;simp only [sP,vq] at hE ⊢;clear vq;go_wp2;exact .mk (hE _ hC1)
     apply yL_ (v:=undef)
     ·apply dP [(7,some 109),(6,some 108),(0,some 102),(1,some 103),(2,some 104),(3,some 105),(4,some 106),(5,some 107),(6,some 108)];exact fun _=>rfl;rfl;intro vals vq w1 hC1 E hE;simp only [sP,vq] at hE ⊢;clear vq;refine qam (i:=j) (v:=.int .u64 (aj:Int)) hC1.v rfl rfl rfl rfl one64 (by rw [addC_size]; exact hj8) rfl ?_;intro w2 hb2 hw2;go_wp2_with fail;exact .mk (hE _ (hC1.put hw2 (by rw [E3.out] at hb2; exact hb2)))
     intro vals vq w1 hC1;simp only [sP,vq];clear vq;clear HC0;have HC1:=zY hC1;clear hC1;go_wp2_with fail;exact ⟨⟨j+1,hj8,by go_num,HC1.out⟩,by simp [intOf]; omega⟩
    ·have hge:¬ (j:Int)<8:=by omega
     obtain rfl:j=8:=by omega
     rw [addC_end] at hsj
     go_wp2_with (first
      | (refine qab (x:=.tmp 7) hsj.v rfl rfl rfl hu8 rfl qbc ?_)
      | (refine qaf (x:=.tmp 6) hsj.res rfl rfl rfl rfl qbc rfl (by simp [s8V,Value.oneCell']) ?_; intro w5 hb5 hw5))
     refine bodyPost_ret (qau (P:=Tryz.prog) rfl rfl hb5 hu8 rfl qbc) rfl ?_;refine ⟨?_,?_⟩
     ·rw [mixS,HVV.out,HRW.out]; rfl
     ·rw [HGF.out];exact hw5.below hsj.bel (by omega) (by have:=hsj.form.lt; omega)
theorem sl_bytes:SlT Tryz.prog 22 5 1 1:=SlT.mk1 (z:=.int .u8 0) Tryz.underlying22 (by kernel_rfl) rfl (by decide)
def lenOf:Value→Nat | .slice _ n _=>n | _=>0
def firstV:Array Value:=#[.int .u64 7640891576956012808,.int .u64 13503953896175478587,.int .u64 4354685564936845355,.int .u64 11912009170470909681,.int .u64 5840696475078001361,.int .u64 11170449401992604703,.int .u64 2270897969802886507,.int .u64 6620516959819538809]
theorem firstV_at (k:Nat) (h:k<8):firstV[k]?=some (.int .u64 ((firstN.getD k 0:Nat):Int)):=by
 match k,h with
 | 0,_=>rfl
 | 1,_=>rfl
 | 2,_=>rfl
 | 3,_=>rfl
 | 4,_=>rfl
 | 5,_=>rfl
 | 6,_=>rfl
 | 7,_=>rfl
def outW (b e:Nat) (s:S8) (k:Nat):List UInt8:=((s8L s).take k).flatMap fun x=>wordB b x e
theorem qaC (b x:Nat):∀ k,(wordB b x k).length=k
 | 0=>rfl
 | k+1=>by simp [wordB,qaC b x k]
theorem outW_length (b e:Nat) (s:S8) (k:Nat) (h:k≤8):(outW b e s k).length=k*e:=by
 match k,h with
 | 0,_=>simp [outW,s8L]
 | 1,_=>simp [outW,s8L,qaC]
 | 2,_=>simp [outW,s8L,qaC]; omega
 | 3,_=>simp [outW,s8L,qaC]; omega
 | 4,_=>simp [outW,s8L,qaC]; omega
 | 5,_=>simp [outW,s8L,qaC]; omega
 | 6,_=>simp [outW,s8L,qaC]; omega
 | 7,_=>simp [outW,s8L,qaC]; omega
 | 8,_=>simp [outW,s8L,qaC]; omega
theorem outW_succ (b e:Nat) (s:S8) (k:Nat) (h:k<8):outW b e s (k+1)=outW b e s k++wordB b ((s8L s).getD k 0) e:=by
 match k,h with
 | 0,_=>simp [outW,s8L]
 | 1,_=>simp [outW,s8L]
 | 2,_=>simp [outW,s8L]
 | 3,_=>simp [outW,s8L]
 | 4,_=>simp [outW,s8L]
 | 5,_=>simp [outW,s8L]
 | 6,_=>simp [outW,s8L]
 | 7,_=>simp [outW,s8L]
theorem wordB_val (x sh b k:Nat) (h:sh=b - 8 - 8*k):(Value.int .u8 ((x:Int)/2^sh%256))=.int .u8 ((UInt8.ofNat (x/2^(b - 8 - 8*k))).toNat:Int):=by
 subst h;rw [qcf]
 congr 1
theorem first_any (w:World):Calls Tryz.prog 94 #[] w fun e w'=>e=.returned (.agg firstV)∧Below w.heap.size w w':=by
 have hb:=Blk.new w 120 (s8V .u64 ⟨0,0,0,0,0,0,0,0⟩);have hu8:=Tryz.underlying120;go_enter Tryz.func94,Tryz.ntmps94;go_wp2_with (refine qaf (x:=.tmp 0) (cells:=firstV) hb rfl rfl rfl rfl (by kernel_rfl) rfl (by simp [firstV,Value.oneCell']) ?_; intro w1 hb1 hw1);refine bodyPost_ret (qau (P:=Tryz.prog) rfl rfl hb1 hu8 rfl (by kernel_rfl)) rfl ⟨rfl,?_⟩;exact hw1.below (below_new _ _) (Nat.le_refl _) (by simp)
def oneZ (data:List UInt8) (k:Nat):List UInt8:=data++[128]++List.replicate k 0
theorem qaP (data:List UInt8) (k:Nat):(oneZ data k).length=data.length+1+k:=by simp [oneZ]; omega
theorem oneZ_zero (data:List UInt8):oneZ data 0=data++[128]:=by simp [oneZ]
theorem oneZ_succ (data:List UInt8) (k:Nat):oneZ data (k+1)=oneZ data k++[0]:=by simp [oneZ,List.replicate_succ']
theorem qbu (l:List UInt8) (b:UInt8):bytesV (l++[b])=bytesV l++[.int .u8 (b.toNat:Int)]:=by simp [bytesV,byteV]
theorem qbF (n:Nat):∀ k,(be8 n k).length=k
 | 0=>rfl
 | k+1=>by simp [be8,qbF n k]
theorem be8_val (n sh k:Nat) (h:sh=56 - 8*k):(Value.int .u8 ((n:Int)*8/2^sh%256))=.int .u8 ((UInt8.ofNat (n*8/2^(56 - 8*k))).toNat:Int):=by
 subst h;rw [show (n:Int)*8=((n*8:Nat):Int) by omega,qcf]
 congr 1
theorem own_empty (w:World) {B:Nat} {e:TypeId} (hB:B≤w.heap.size):OwnX (w.alloc (.cells #[] e)) B e 1 (.slice (some ⟨w.heap.size,0,none⟩) 0 0) 0 (bytesV []) :=
 ⟨rfl,.inr ⟨w.heap.size,0,#[],(0,0),rfl,hB,heap_alloc_new w _,Nat.le_refl _,by unfold maxLen; omega,rfl,rfl,.inl rfl⟩⟩
theorem u8_zero:∃ i,Tryz.prog.info? 5=some i∧i.zero=some (.int .u8 0):=by
 obtain ⟨i,hi,h0,_,_⟩:=info_parts (show (Tryz.prog.info? 5).map (fun i=>(i.zero,i.size,i.bytes))=some (some (.int .u8 0),1,1) by kernel_rfl);exact ⟨i,hi,h0⟩
theorem qci (data:List UInt8):prepS F64 data=oneZ data (zeroN F64 data.length)++List.replicate (moreN F64 data.length) 0:=by simp [prepS,oneZ]
theorem prep64_le {data:List UInt8} (h:data.length≤40000):(prepS F64 data).length≤60000:=by
 rw [qci,List.length_append,qaP,List.length_replicate];have:zeroN F64 data.length<128:=Nat.mod_lt _ (by decide);have:moreN F64 data.length≤128:=by unfold moreN; split <;> simp [F64]
 omega
structure SumSt64 (w0:World) (gf:Nat) (xs:List UInt8) (v:Value) (u:World):Prop where
 bel:Below gf w0 u
 form:Blk u gf 109 f64C
 own:OwnX u (gf+1) 5 1 v xs.length (bytesV xs)
theorem SumSt64.grow {w0 u u':World} {gf:Nat} {xs ys:List UInt8} {v v':Value} (h:SumSt64 w0 gf xs v u) (hg:u.grownBy u' v.ownBlock) (ho:OwnX u' (gf+1) 5 1 v' ys.length (bytesV ys)):SumSt64 w0 gf ys v' u' :=
 ⟨h.bel.grown hg (by have:=h.form.lt; omega) (fun k hk=>by have:=(h.own.lt k hk).1; omega),h.form.grown hg (fun e=>by have:=(h.own.lt gf e.symm).1; omega),ho⟩
theorem zero64_ne (n k:Nat) (h:k<zeroN F64 n):((((n+1+k:Nat):Int)%128) != 120)=true:=by
 simp only [zeroN,F64] at h;rw [bne_iff_ne];omega
theorem zero64_eq (n:Nat):((((n+1+zeroN F64 n:Nat):Int)%128) != 120)=false:=by
 have h:zeroN F64 n=(2*64 - 8+2*64 - (n+1)%(2*64))%(2*64):=rfl;rw [bne_eq_false_iff_eq];omega
theorem qdo (data:List UInt8):(padS F64 data).length%128=0:=by
 have hz:zeroN F64 data.length=(2*64 - 8+2*64 - (data.length+1)%(2*64))%(2*64):=rfl
 have hm:moreN F64 data.length=0∨moreN F64 data.length=128:=by
  unfold moreN
  split
  ·exact .inr rfl
  ·exact .inl rfl
 simp only [padS,List.length_append,List.length_replicate,List.length_singleton,qbF];omega
structure SumT64 (w0:World) (gf gs:Nat) (A:Option Addr) (xs:List UInt8) (cs:Array Value) (u:World):Prop where
 bel:Below gf w0 u
 form:Blk u gf 109 f64C
 rd:Rd u gs A (bytesV xs)
 s:Blk u gs 120 cs
 lg:gf<gs
theorem SumT64.next {w0 u u':World} {gf gs:Nat} {A:Option Addr} {xs:List UInt8} {cs:Array Value} (h:SumT64 w0 gf gs A xs cs u) (hb:Below u.heap.size u u'):SumT64 w0 gf gs A xs cs u' :=
 ⟨h.bel.trans (hb.mono (by have:=h.form.lt; omega)),h.form.below hb h.form.lt,h.rd.below (hb.mono (by have:=h.s.lt; omega)),h.s.below hb h.s.lt,h.lg⟩
theorem SumT64.drew {w0 u:World} {gf gs:Nat} {A:Option Addr} {xs:List UInt8} {cs:Array Value} (h:SumT64 w0 gf gs A xs cs u):SumT64 w0 gf gs A xs cs u.drew :=
 ⟨h.bel.drew,h.form,h.rd.below ((Below.refl _ _).drew),h.s,h.lg⟩
theorem SumT64.put {w0 u u':World} {gf gs:Nat} {A:Option Addr} {xs:List UInt8} {cs cs':Array Value} (h:SumT64 w0 gf gs A xs cs u) (hw:Wrote gs u u') (hb:Blk u' gs 120 cs'):SumT64 w0 gf gs A xs cs' u' :=
 ⟨hw.below h.bel (by have:=h.lg; omega) (by have:=h.form.lt; omega),hw.blk h.form (by have:=h.lg; omega),h.rd.below (hw.below (Below.refl _ _) (Nat.le_refl _) (by have:=h.s.lt; omega)),hb,h.lg⟩
structure SumO64 (w0:World) (gf gb:Nat) (xs:List UInt8) (v:Value) (u:World):Prop where
 bel:Below gf w0 u
 form:Blk u gf 109 f64C
 own:u.ownsRow gb 5 1 v xs.length (bytesV xs)
 lb:gb≤u.heap.size
theorem SumO64.grow {w0 u u':World} {gf gb:Nat} {xs ys:List UInt8} {v v':Value} (h:SumO64 w0 gf gb xs v u) (hlt:gf<gb) (hg:u.grownBy u' v.ownBlock) (ho:u'.ownsRow gb 5 1 v' ys.length (bytesV ys)):SumO64 w0 gf gb ys v' u' :=
 ⟨h.bel.grown hg (by have:=h.form.lt; omega) (fun k hk=>by have:=(own_lt h.own k hk).1; omega),h.form.grown hg (fun e=>by have:=(own_lt h.own gf e.symm).1; omega),ho,by have:=h.lb; have:=hg.size; omega⟩
def SumPost64 (data:List UInt8) (w:World) (e:Ending) (w':World):Prop :=
 ∃ A c,e=.returned (.slice A (8*8) c)∧w'.ownsRow w.heap.size 5 1 (.slice A (8*8) c) (8*8) (bytesV (digS F64 data))∧Below w.heap.size w w'
theorem sum64_any (data:List UInt8) (A:Option Addr) (c B:Nat) (w:World) (hr:Rd w B A (bytesV data)) (hB:B≤w.heap.size) (hl:data.length≤40000) (hc:data.length≤c) (hcm:c≤9223372036854775807) (hG:TabG w) :
  Calls Tryz.prog 83 #[.agg f64C,.slice A data.length c] w (SumPost64 data w):=by
 obtain ⟨W0,hW0⟩:=eX (w.alloc (.cells f64C 109));have hb0:Below w.heap.size w W0:=by rw [hW0]; exact below_new _ _
 have hf0:Blk W0 w.heap.size 109 f64C:=by rw [hW0]; exact Blk.new _ _ _
 have hs0:W0.heap.size=w.heap.size+1:=by rw [hW0]; simp
 have c0:=hf0.cell 0;simp [f64C] at c0;rw [hW0] at c0;have HB0:=zY hb0;have HF0:=zY hf0;have HS0:=zY hs0;have HR:=zY (hr.mono hB);have HW:=zY hW0;have HG:=zY hG;have hl':(data.length:Int)≤40000:=by omega
 clear hb0 hf0 hs0 hr hW0 hG;go_enter Tryz.func83,Tryz.ntmps83;go_wp2
 go_quiet (fail)
 have hb1:Below w.heap.size w ((w.alloc (.cells f64C 109)).drewN nq):=qds (below_new _ _) nq;have hf1:Blk ((w.alloc (.cells f64C 109)).drewN nq) w.heap.size 109 f64C:=Blk.new _ _ _;have hz1:((w.alloc (.cells f64C 109)).drewN nq).heap.size=w.heap.size+1:=by simp
 generalize (w.alloc (.cells f64C 109)).drewN nq=W1 at *;have hr1:=HR.out.below hb1;generalize hgf:w.heap.size=gf at *;have HGF:=zY hgf
 have hst0:SumSt64 w gf [] (.slice (some ⟨W1.heap.size,0,none⟩) 0 0) (W1.alloc (.cells #[] 5)) :=
  ⟨hb1.alloc (by omega) _,hf1.alloc _,own_empty W1 (by omega)⟩
 have hr2:Rd (W1.alloc (.cells #[] 5)) gf A (bytesV data):=hr1.below ((Below.refl _ _).alloc (by omega) _);have HST0:=zY hst0;have HR2:=zY hr2;have HZ1:=zY hz1;clear hb1 hf1 hz1 hr1 hst0 hr2 hgf c0 HB0 HF0 HS0 HW;have HOWN0:Hid (OwnX (W1.alloc (.cells #[] 5)) (gf+1) 5 1 (.slice (some ⟨W1.heap.size,0,none⟩) 0 0) 0 []):=zY HST0.out.own
 go_wp2_with (first
  | (refine qaF (o:=⟨some 25,_,_,_,_,_⟩) sl_bytes rfl rfl HOWN0.out rfl rfl (by simp [bytesV]) HR2.out (by intro u hu; simp [bytesV,byteV] at hu; obtain ⟨_,_,rfl⟩:=hu; rfl) (by unfold maxLen; omega) (by omega) (by have:=HST0.out.form.lt; omega) ?_; intro A1 c1 w1 hown1 hg1 hn1; have HOWN1:Hid (OwnX w1 (gf+1) 5 1 (.slice A1 data.length c1) data.length (bytesV data)):=zY (by simpa using hown1); have H1281:Hid (gf+1≤w1.heap.size):=zY (by have:=hg1.size; have:=HZ1.out; simp at *; omega); have HG1:=zY hg1; clear hown1 hg1 hn1)
  | (refine qas (o:=⟨some 28,_,_,_,_,_⟩) sl_bytes rfl rfl HOWN1.out rfl rfl rfl rfl (by unfold maxLen; omega) (by omega) H1281.out ?_; intro A2 c2 w2 hown2 hg2 hn2; have HOWN2:=zY hown2; have HG2:=zY hg2; clear hown2 hg2 hn2))
 have hst2:SumSt64 w gf (oneZ data 0) (.slice A2 (data.length+1) c2) w2 :=
  (HST0.out.grow (ys:=data) HG1.out HOWN1.out).grow HG2.out (by rw [qaP,oneZ_zero,qbu]; exact HOWN2.out)
 have hzl:zeroN F64 data.length<128:=Nat.mod_lt _ (by decide);clear HST0 HOWN0 HR2 HZ1 HOWN1 H1281 HG1 HOWN2 HG2
 go_loopw [7] (fun v wr=>∃ (k n:Nat) (A3:Option Addr) (c3:Nat),k≤zeroN F64 data.length∧n=data.length+1+k∧v=.slice A3 n c3∧SumSt64 w gf (oneZ data k) (.slice A3 n c3) wr) (fun v _=>data.length+1+zeroN F64 data.length - lenOf v)
 case atStart=>exact ⟨0,data.length+1,A2,c2,Nat.zero_le _,rfl,rfl,hst2⟩
 case round =>
  obtain ⟨k,n,A3,c3,hk,hn,rfl,hst⟩:=hrel;clear hst2;have hn2:n≤50000:=by omega
  by_cases hlt:k<zeroN F64 data.length
  ·have hne:(((n:Nat):Int)%128 != 120)=true:=by rw [hn]; exact zero64_ne _ _ hlt
   have ho:OwnX wr (gf+1) 5 1 (.slice A3 n c3) n (bytesV (oneZ data k)):=by have:=hst.own; rwa [qaP,← hn] at this
   have HO:=zY ho;have HN:=zY hn;have HST:=zY hst;clear ho hn hst;go_wp2_with (refine qas (o:=⟨some 38,_,_,_,_,_⟩) sl_bytes rfl rfl HO.out rfl rfl rfl rfl (by unfold maxLen; omega) (by omega) (by have:=HST.out.form.lt; omega) ?_; intro A4 c4 w4 hown4 hg4 hn4; have HOWN4:=zY hown4; have HG4:=zY hg4; clear hown4 hg4 hn4);exact ⟨⟨k+1,n+1,A4,c4,hlt,by rw [HN.out]; omega,rfl,HST.out.grow HG4.out (by rw [qaP,oneZ_succ,qbu,← Nat.add_assoc,← HN.out]; exact HOWN4.out)⟩,by simp only [lenOf]; have:=HN.out; omega⟩
  ·obtain rfl:k=zeroN F64 data.length:=by omega
   have hne:(((n:Nat):Int)%128 != 120)=false:=by rw [hn]; exact zero64_eq _
   have HN:=zY hn;have HST:=zY hst;clear hn hst;obtain ⟨pl,hpl⟩:=eX ((prepS F64 data).length);have hpl3:pl≤60000:=by rw [hpl]; exact prep64_le hl
   have hne2:((((n:Nat):Int)%128 != 120))=false:=hne
   go_upto_region 6 with (fail)
   go_cut [5,59] (fun s5 b wx=>∃ sz:Nat,sz=128∧s5=.int .i64 (sz:Int)∧b=.bool (decide (112≤data.length%128∧data.length%128<120))∧wx=wr)
   case first =>
    by_cases h1:112≤data.length%128
    ·have h1':(112:Int)≤(data.length:Int)%128:=by omega
     by_cases h2:data.length%128<120
     ·have h2':(data.length:Int)%128<120:=by omega
      go_wp2_with fail
      go_meet
      exact ⟨128,rfl,rfl,congrArg Value.bool (decide_eq_true ⟨h1,h2⟩).symm,rfl⟩
     ·have h2':¬ (data.length:Int)%128<120:=by omega
      go_wp2_with fail
      go_meet
      exact ⟨128,rfl,rfl,congrArg Value.bool (decide_eq_false (fun h=>h2 h.2)).symm,rfl⟩
    ·have h1':¬ (112:Int)≤(data.length:Int)%128:=by omega
     go_wp2_with fail
     go_meet
     exact ⟨128,rfl,rfl,congrArg Value.bool (decide_eq_false (fun h=>h1 h.1)).symm,rfl⟩
   case rest =>
   obtain ⟨sz,hsz,rfl,rfl,rfl⟩:=hcut;have H128:=zY hsz;clear hsz;obtain ⟨bb,hbb⟩:=eX (decide (112≤data.length%128∧data.length%128<120));rw [← hbb];have H64:=zY hbb;have HPL0:=zY hpl;clear hbb hpl
   go_upto_if 59 with (fail)
   go_cut [7] (fun v wx=>∃ A4 c4,v=.slice A4 pl c4∧SumSt64 w gf (prepS F64 data) (.slice A4 pl c4) wx)
   case first =>
    by_cases hbt:bb=true
    ·subst hbt;have hmore:moreN F64 data.length=128:=if_pos (show _∧_∧_ from ⟨by decide,(of_decide_eq_true H64.out.symm).1,(of_decide_eq_true H64.out.symm).2⟩);have HMORE:=zY hmore;clear hmore;have HO:Hid (OwnX wc (gf+1) 5 1 (.slice A3 n c3) n (bytesV (oneZ data (zeroN F64 data.length)))):=zY (by have:=HST.out.own; rwa [qaP,← HN.out] at this);go_wp2_with (refine qcE (m:=sz) sl_bytes u8_zero Tryz.underlying3 rfl rfl HO.out rfl rfl (by have:=HN.out; omega) (by rw [H128.out]; decide) (by have:=H128.out; omega) (by have:=HST.out.form.lt; omega) ?_; intro A4 c4 w4 hown4 hg4 hn4; have HOWN4:=zY hown4; have HG4:=zY hg4; clear hown4 hg4 hn4)
     go_meet
     have hpe:pl=n+sz:=by rw [HPL0.out,qci,List.length_append,qaP,List.length_replicate,HMORE.out,H128.out,HN.out]
     refine ⟨A4,c4,by rw [hpe],HST.out.grow HG4.out ?_⟩;rw [← HPL0.out,hpe,qci,HMORE.out,qaK,← H128.out];have h:=HOWN4.out
     rwa [show List.replicate sz (Value.int .u8 0)=bytesV (List.replicate sz 0) from by simp [bytesV,byteV]] at h
    ·have hbf:bb=false:=by simpa using hbt
     subst hbf;have hmore:moreN F64 data.length=0:=if_neg (fun h=>of_decide_eq_false H64.out.symm ⟨h.2.1,h.2.2⟩);have HMORE:=zY hmore;clear hmore hbt;go_wp2_with fail
     go_meet
     have hpe:pl=n:=by rw [HPL0.out,qci,List.length_append,qaP,List.length_replicate,HMORE.out,HN.out]; rfl
     refine ⟨A3,c3,by rw [hpe],?_⟩;have h:=HST.out;have e:prepS F64 data=oneZ data (zeroN F64 data.length):=by rw [qci,HMORE.out]; simp
     rw [e,hpe];exact h
   case rest =>
   obtain ⟨A3,c3,rfl,hst3⟩:=hcut;obtain rfl:sz=128:=H128.out;rw [show ((128:Nat):Int)=128 from rfl];clear HST;obtain ⟨wr,rfl⟩:=eX wc
   have hst3':SumSt64 w gf (prepS F64 data++be8 (data.length*8) 0) (.slice A3 (pl+0) c3) wr:=by
    simp only [be8,List.append_nil];exact hst3
   clear hst3;obtain ⟨n,hn3⟩:=eX (pl+0);rw [show pl=n from hn3.symm];rw [← hn3] at hst3';have HST3:=zY hst3';have HN30:=zY hn3;clear hst3' hn3;go_wp2_with fail;have hst3:=HST3.out;have hn3:=HN30.out;have hpl:pl=(prepS F64 data).length:=HPL0.out;have hn:True:=trivial;have hn2:True:=trivial;have HPL:=zY hpl;have HN3:=zY hn3;clear hpl hn3 hn2 hn;obtain ⟨wo,rfl⟩:∃ wo:World,wo=wr:=⟨_,rfl⟩
   go_loopw [7,8] (fun v i wr=>∃ (k m:Nat) (A4:Option Addr) (c4:Nat),k≤8∧m=pl+k∧v=.slice A4 m c4∧i=.int .i64 (56 - 8*(k:Int))∧SumSt64 w gf (prepS F64 data++be8 (data.length*8) k) (.slice A4 m c4) wr) (fun _ i _=>(intOf i+8).toNat)
   case atStart=>exact ⟨0,n,A3,c3,by omega,HN3.out,rfl,rfl,hst3⟩
   case round =>
    obtain ⟨k,m,A4,c4,hk8,hm,rfl,rfl,hs4⟩:=hrel;clear hst3
    by_cases hlt8:k<8
    ·obtain ⟨sh,hsh⟩:∃ sh:Nat,(56 - 8*(k:Int))=(sh:Int):=⟨56 - 8*k,by omega⟩;rw [hsh];have hsh2:sh=56 - 8*k:=by omega
     have hsl:(sh:Int)<64:=by omega
     have HSH:=zY hsh2;have HM:=zY hm;have HS4:=zY hs4
     have ho4:OwnX wr (gf+1) 5 1 (.slice A4 m c4) m (bytesV (prepS F64 data++be8 (data.length*8) k)):=by
      have:=hs4.own
      rwa [List.length_append,qbF,← HPL.out,← hm] at this
     have HO4:=zY ho4;have hm3:m≤70000:=by omega
     clear hsh hsh2 hm hs4 ho4;go_wp2_with (refine qas (o:=⟨some 76,_,_,_,_,_⟩) sl_bytes rfl rfl HO4.out rfl rfl rfl rfl (by unfold maxLen; omega) (by omega) (by have:=HS4.out.form.lt; omega) ?_; intro A5 c5 w5 hown5 hg5 hn5; have HOWN5:=zY hown5; have HG5:=zY hg5; clear hown5 hg5 hn5)
     have hfin:SumSt64 w gf (prepS F64 data++be8 (data.length*8) (k+1)) (.slice A5 (m+1) c5) w5:=by
      refine HS4.out.grow HG5.out ?_;have h:=HOWN5.out;rw [be8_val _ _ _ HSH.out,← qbu,List.append_assoc] at h;rw [List.length_append,qbF,← HPL.out,show pl+(k+1)=m+1 by rw [HM.out]; omega];exact h
     exact ⟨⟨k+1,m+1,A5,c5,hlt8,by rw [HM.out]; omega,rfl,by have:=HSH.out; exact congrArg (Value.int .i64) (by omega),hfin⟩,by have:=HSH.out; simp [intOf]; omega⟩
    ·obtain rfl:k=8:=by omega
     have HM:=zY hm;have HS4:=zY hs4;clear hm hs4;go_wp2_with fail;obtain ⟨A128,hA128⟩:=eX (padS F64 data);have hAll:A128=prepS F64 data++be8 (data.length*8) 8:=by rw [hA128]; rfl
     have hal:A128.length=m:=by rw [hAll,List.length_append,qbF,← HPL.out,HM.out]
     obtain ⟨gs,hgs⟩:=eX (wr.heap.size)
     have hst5:SumT64 w gf gs A4 A128 (setC .u64 (startS F64) 0) (wr.alloc (.cells (s8V .u64 ⟨0,0,0,0,0,0,0,0⟩) 120)) :=
      ⟨HS4.out.bel.alloc (by have:=HS4.out.form.lt; omega) _,HS4.out.form.alloc _,by
       have ho:OwnX wr (gf+1) 5 1 (.slice A4 m c4) m (bytesV A128):=by have:=HS4.out.own; rwa [← hAll,hal] at this
       have h:=Rd.of_own ho (Nat.le_refl _);rw [← hgs] at h;exact h.below ((Below.refl _ _).alloc (by omega) _),by rw [hgs]; exact Blk.new _ _ _,by have:=HS4.out.form.lt; omega⟩
     rw [← hgs];have HOWN4:Hid (OwnX wr (gf+1) 5 1 (.slice A4 m c4) m (bytesV A128)):=zY (by have:=HS4.out.own; rwa [← hAll,hal] at this);have HA128:=zY hA128;have HAL:=zY hal;have HGS:=zY hgs;have HS5:=zY hst5;clear hA128 hAll hal hgs hst5;refine qaa (first_any _) ?_;rintro e w6 ⟨rfl,hb6⟩;have hst6:=HS5.out.next hb6;clear HS5 hb6;go_wp2_with fail;have hu42:=Tryz.underlying120;have hst6':=hst6;clear hst6
     go_loopw [78] (fun i wr=>∃ k:Nat,k≤8∧i=.int .i64 k∧SumT64 w gf gs A4 A128 (setC .u64 (startS F64) k) wr) (fun i _=>8 - (intOf i).toNat)
     case atStart=>exact ⟨0,by omega,rfl,hst6'⟩
     case round =>
      obtain ⟨k,hk,rfl,hsk⟩:=hrel;clear hst6'
      by_cases hk8:k<8
      ·have hk8':(k:Int)<8:=by omega
       obtain ⟨x,hx⟩:=eX (firstN.getD k 0);obtain ⟨y,hy⟩:=eX ((s8L (startS F64)).getD k 0);have hxl:x<18446744073709551616:=by rw [hx]; exact firstN_lt k
       have hxl':(x:Int)<18446744073709551616:=by omega
       have hyx:y=x:=by rw [hy,hx,startS_at _ _ hk8]; show _/1%18446744073709551616=_; have:=firstN_lt k; omega
       have hix:∀ u:World,(Instr.index 120 (.agg firstV) (.int .i64 (k:Int))).run Tryz.prog u=.ok (.int .u64 (x:Int)) u:=fun u =>
        qaX (n:=8) (e:=43) hu42 hk8 (by rw [hx]; exact firstV_at k hk8) (by kernel_rfl) (by kernel_rfl) ⟨_,Tryz.underlying43⟩
       have f0:=hsk.form.cell 0;simp [f64C] at f0;have d0:=hsk.s.cell k;rw [setC_at _ _ _ hk8] at d0;have g0:=hsk.s.free k
       have hfin:SumT64 w gf gs A4 A128 (setC .u64 (startS F64) (k+1)) (wr.setCell ⟨gs,k,none⟩ (.int .u64 (y:Int))) :=
        hsk.put (qah _ _ _ _) (by have:=qaj (i:=k) hsk.s (.int .u64 (y:Int)); rwa [hy,setC_set _ _ _ hk8,← hy] at this)
       have HFIN:=zY hfin;have HYX:=zY hyx;have HXL:=zY hxl;clear hfin hyx hxl hx hy hsk;go_wp2_with fail
       skip
       refine qaa (qcn _ _ (by have:=HXL.out; omega)) ?_;rintro e w7 ⟨rfl,rfl⟩;rw [← HYX.out];go_wp2_with fail;exact ⟨⟨k+1,hk8,by go_num,HFIN.out⟩,by simp [intOf]; omega⟩
      ·have hge:¬ (k:Int)<8:=by omega
       obtain rfl:k=8:=by omega
       rw [setC_end] at hsk;obtain ⟨nb,hnb⟩:∃ nb,m=nb*128:=⟨m/128,by have:=qdo data; rw [← HA128.out,HAL.out] at this; omega⟩;have hm4:m≤70000:=by have:=HM.out; omega
       have hcap:m≤c4∧c4≤9223372036854775807:=by
        have ho:OwnX _ (gf+1) 5 1 (.slice A4 m c4) m (bytesV A128):=HOWN4.out;exact qbZ ho
       obtain ⟨hcap1,hcap2⟩:=hcap;have hst8:SumT64 w gf gs A4 A128 (s8V .u64 (runS F64 A128 0)) wr:=hsk;have HNB:=zY hnb;have HS8:=zY hst8;clear hnb hst8 hsk hu42;obtain ⟨wo3,rfl⟩:∃ wo3:World,wo3=wr:=⟨_,rfl⟩;go_wp2_with fail
       go_loopw [12] (fun i wr=>∃ j a:Nat,j≤nb∧a=j*128∧i=.int .i64 (a:Int)∧SumT64 w gf gs A4 A128 (s8V .u64 (runS F64 A128 j)) wr) (fun i _=>m - (intOf i).toNat)
       case atStart=>exact ⟨0,0,by omega,rfl,rfl,HS8.out⟩
       case round =>
        obtain ⟨j,a,hj,ha,rfl,hsj⟩:=hrel
        by_cases hjn:j<nb
        ·have ham:a+128≤m:=by rw [HNB.out,ha]; omega
         have hlt:a<m:=by omega
         have hle1:a+128≤c4:=by omega
         obtain ⟨ad,hAd,_,_⟩:=(hsj.rd).at_ (k:=a) (by rw [qaq,HAL.out]; omega);subst hAd;obtain ⟨bk,hbk⟩:=eX ((A128.drop a).take 128);have hbl:bk.length=128:=by rw [hbk]; simp; rw [HAL.out]; omega
         have HRB:Hid (∀ u,SumT64 w gf gs (some ad) A128 (s8V .u64 (runS F64 A128 j)) u→Rd u gs (some (ad.add a)) (bytesV bk)):=zY fun u hu=>by
          rw [hbk,bytesV,List.map_take,List.map_drop]; exact rd_take (qdf hu.rd a) 128
         obtain ⟨sj,hsj2⟩:=eX (runS F64 A128 j);obtain ⟨sn,hsn⟩:=eX (mixS F64 sj bk);have hsl:sj.Lt (2^64):=by rw [hsj2]; exact runS_lt F64 A128 j
         have hs1:runS F64 A128 (j+1)=sn:=by rw [hsn,hsj2,hbk,ha]; rfl
         rw [← hsj2] at hsj;have HRB2:Hid (∀ u,SumT64 w gf gs (some ad) A128 (s8V .u64 sj) u→Rd u gs (some (ad.add a)) (bytesV bk)):=zY (by rw [hsj2]; exact HRB.out);have HBL:=zY hbl;have HSN:=zY hsn;have HSL:=zY hsl;have HS1:=zY hs1;have HA:=zY ha;clear HRB hbl hsn hsl hs1 hbk hsj2 ha;have HC0:=hsj.drew;clear hsj;have hu8:=Tryz.underlying120;have hu:=Tryz.underlying109;go_wp2_with fail;refine qal (fun u=>SumT64 w gf gs (some ad) A128 (s8V .u64 sj) u) (fun u=>SumT64 w gf gs (some ad) A128 (s8V .u64 sn) u) [(0,some 98),(1,some 99),(2,some 100),(3,some 101),(4,some 102),(5,some 103),(6,some 104),(7,some 105),(8,some 106),(9,none)] (by kernel_rfl) (by kernel_rfl) (by decide) (by kernel_rfl) (fun _=>rfl) HC0 ?_;apply yN_
         ·apply dP [];exact fun _=>rfl;rfl;rintro vals - w1 hC1 E hE;simp only [sP] at hE ⊢;refine qab hC1.form rfl rfl rfl hu rfl qbi ?_;go_wp2_with fail;exact .mk (hE _ hC1)
         apply yN_
         ·apply dP [];exact fun _=>rfl;rfl;rintro vals ⟨-,-⟩ w1 hC1 E hE;simp only [sP] at hE ⊢;refine qab hC1.s rfl rfl rfl hu8 rfl qbc ?_;go_wp2_with fail;exact .mk (hE _ hC1)
         apply yN_
         ·apply dP [];exact fun _=>rfl;rfl;intro vals vq w1 hC1 E hE;clear vq;simp only [sP] at hE ⊢;go_wp2;exact .mk (hE _ hC1)
         apply yN_
         ·apply dP [];exact fun _=>rfl;rfl;intro vals vq w1 hC1 E hE;clear vq;simp only [sP] at hE ⊢;go_wp2;exact .mk (hE _ hC1)
         apply yN_
         ·apply dP [];exact fun _=>rfl;rfl;intro vals vq w1 hC1 E hE;clear vq;simp only [sP] at hE ⊢;go_wp2;exact .mk (hE _ hC1)
         apply yN_
         ·apply dP [];exact fun _=>rfl;rfl;intro vals vq w1 hC1 E hE;clear vq;simp only [sP] at hE ⊢;go_wp2;exact .mk (hE _ hC1)
         apply yN_
         ·apply dP [(4,some 102),(5,some 103)];exact fun _=>rfl;rfl;intro vals vq w1 hC1 E hE;simp only [sP,vq] at hE ⊢;clear vq;go_wp2;exact .mk (hE _ hC1)
         apply yN_
         ·apply dP [(2,some 100),(3,some 101),(6,some 104)];exact fun _=>rfl;rfl;intro vals vq w1 hC1 E hE;simp only [sP,vq] at hE ⊢;clear vq;go_wp2;rw [show a+128 - a=128 by omega];exact .mk (hE _ hC1)
         apply yN_
         ·apply dP [(0,some 98),(1,some 99),(7,some 105)];exact fun _=>rfl;rfl;intro vals vq w1 hC1 E hE;simp only [sP,vq] at hE ⊢;clear vq;go_wp2_with fail;have hmx:=mix64_any sj bk (some (ad.add a)) (c4 - a) gs w1 (HRB2.out _ hC1) (by have:=hC1.s.lt; omega) HBL.out (by rw [HBL.out]; omega) (by omega) HSL.out (HG.out.below hC1.bel (by rw [← HGF.out]; exact HG.out.size));rw [HBL.out] at hmx;refine qaa hmx ?_;rintro e w2 ⟨rfl,hb2⟩;rw [← HSN.out];go_wp2_with fail;exact .mk (hE _ (hC1.next hb2))
         apply yL_ (v:=undef)
         ·apply dP [(8,some 106),(8,some 106),(0,some 98),(1,some 99),(2,some 100),(3,some 101),(4,some 102),(5,some 103),(6,some 104),(7,some 105),(8,some 106)];exact fun _=>rfl;rfl;intro vals vq w1 hC1 E hE;simp only [sP,vq] at hE ⊢;clear vq;refine qaf hC1.s rfl rfl rfl rfl qbc rfl (by simp [s8V,Value.oneCell']) ?_;intro w2 hb2 hw2;go_wp2_with fail;exact .mk (hE _ (hC1.put hw2 hb2))
         intro vals vq w1 hC1;simp only [sP,vq];clear vq;clear HC0;have hfin:SumT64 w gf gs (some ad) A128 (s8V .u64 (runS F64 A128 (j+1))) w1:=by rw [HS1.out]; exact hC1
         have HFIN:=zY hfin;clear hfin hC1;go_wp2_with fail;exact ⟨⟨j+1,a+128,hjn,by rw [HA.out]; omega,by go_num,HFIN.out⟩,by simp [intOf]; omega⟩
        ·obtain rfl:j=nb:=by omega
         have hge:¬ a<m:=by rw [HNB.out,ha]; omega
         have HA:=zY ha;obtain ⟨sv,hsv⟩:=eX (runS F64 A128 j);have hsl:sv.Lt (2^64):=by rw [hsv]; exact runS_lt F64 A128 j
         rw [← hsv] at hsj;have hu8:=Tryz.underlying120;have HSV:=zY hsv;have HSL:=zY hsl;clear ha hsv hsl;go_wp2_with (refine qab (x:=.tmp 9) hsj.s rfl rfl rfl hu8 rfl qbc ?_);obtain ⟨g2,hg2⟩:=eX (wr.heap.size);have hso:SumO64 w gf (gf+1) [] (.slice none 0 0) wr:=⟨hsj.bel,hsj.form,World.ownsRow_nil _ _ _ _,by have:=hsj.form.lt; omega⟩;have HSO:=zY hso;clear hso hsj;obtain ⟨wo4,rfl⟩:∃ wo4:World,wo4=wr:=⟨_,rfl⟩
         go_loopw [13,108] (fun v i wr=>∃ (k q:Nat) (A5:Option Addr) (c5:Nat),k≤8∧q=k*8∧i=.int .i64 k∧v=.slice A5 q c5∧SumO64 w gf (gf+1) (outW 64 8 sv k) (.slice A5 q c5) wr) (fun _ i _=>8 - (intOf i).toNat)
         case atStart=>exact ⟨0,0,none,0,by omega,by omega,rfl,rfl,HSO.out⟩
         case round =>
          obtain ⟨k,q,A5,c5,hk,hq,rfl,rfl,hso⟩:=hrel
          by_cases hk8:k<8
          ·have hk8':(k:Int)<8:=by omega
           obtain ⟨x,hx⟩:=eX ((s8L sv).getD k 0);have hxl:x<2^64:=by rw [hx]; exact s8L_lt HSL.out (by decide) k
           have hxl':(x:Int)<18446744073709551616:=by omega
           have hix:∀ u:World,(Instr.index 120 (.agg (s8V .u64 sv)) (.int .i64 (k:Int))).run Tryz.prog u=.ok (.int .u64 (x:Int)) u:=fun u =>
            qaX (n:=8) (e:=43) hu8 hk8 (by rw [hx]; exact s8V_at .u64 sv k hk8) (by kernel_rfl) (by kernel_rfl) ⟨_,Tryz.underlying43⟩
           have f0:=hso.form.cell 0;simp [f64C] at f0;have hs6:SumO64 w gf (gf+1) (outW 64 8 sv k++wordB 64 x 0) (.slice A5 q c5) wr:=by simpa [wordB] using hso
           have HX:=zY hx;have HQ:=zY hq;have HS6:=zY hs6;have HU8:=zY hu8;have hq9:q≤64:=by omega
           clear hx hq hs6 hso hxl hu8;go_wp2_with fail;clear hix f0;obtain ⟨wo5,rfl⟩:∃ wo5:World,wo5=wr:=⟨_,rfl⟩
           go_loopw [13,16] (fun v i wr=>∃ (p r:Nat) (A6:Option Addr) (c6:Nat),p≤8∧r=q+p∧v=.slice A6 r c6∧i=.int .i64 (64 - 8 - 8*(p:Int))∧SumO64 w gf (gf+1) (outW 64 8 sv k++wordB 64 x p) (.slice A6 r c6) wr) (fun _ i _=>(intOf i+8).toNat)
           case atStart=>exact ⟨0,q,A5,c5,by omega,by omega,rfl,rfl,HS6.out⟩
           case round =>
            obtain ⟨p,r,A6,c6,hp,hr6,rfl,rfl,hs7⟩:=hrel
            by_cases hp8:p<8
            ·obtain ⟨sh,hsh⟩:∃ sh:Nat,(64 - 8 - 8*(p:Int))=(sh:Int):=⟨64 - 8 - 8*p,by omega⟩;rw [hsh];have hsh2:sh=64 - 8 - 8*p:=by omega
             have hsl:(sh:Int)<64:=by omega
             have HSH:=zY hsh2;have HR6:=zY hr6;have HS7:=zY hs7
             have ho7:wr.ownsRow (gf+1) 5 1 (.slice A6 r c6) r (bytesV (outW 64 8 sv k++wordB 64 x p)):=by
              have:=hs7.own
              rwa [List.length_append,qaC,outW_length _ _ _ _ (by omega),← HQ.out,← hr6] at this
             have HO7:=zY ho7;have hr9:r≤100:=by omega
             clear hsh hsh2 hr6 hs7 ho7;go_wp2_with (refine qbW sl_bytes rfl rfl HO7.out rfl rfl rfl rfl (by unfold maxLen; omega) (by omega) HS7.out.lb ?_; intro A8 c8 w8 hown8 hg8; have HOWN8:=zY hown8; have HG8:=zY hg8; clear hown8 hg8)
             have hfin:SumO64 w gf (gf+1) (outW 64 8 sv k++wordB 64 x (p+1)) (.slice A8 (r+1) c8) w8:=by
              refine HS7.out.grow (by omega) HG8.out ?_;have h:=HOWN8.out;rw [wordB_val _ _ _ _ HSH.out,← qbu,List.append_assoc] at h;rw [List.length_append,qaC,outW_length _ _ _ _ (by omega),← HQ.out,show q+(p+1)=r+1 by rw [HR6.out]; omega];exact h
             exact ⟨⟨p+1,r+1,A8,c8,hp8,by rw [HR6.out]; omega,rfl,by have:=HSH.out; exact congrArg (Value.int .i64) (by omega),hfin⟩,by have:=HSH.out; simp [intOf]; omega⟩
            ·obtain rfl:p=8:=by omega
             have hfin:SumO64 w gf (gf+1) (outW 64 8 sv (k+1)) (.slice A6 r c6) wr:=by rw [outW_succ _ _ _ _ hk8,← HX.out]; exact hs7
             have HFIN:=zY hfin;have HR6:=zY hr6;clear hfin hr6 hs7;go_wp2_with fail;exact ⟨⟨k+1,r,A6,c6,hk8,by rw [HR6.out,HQ.out]; omega,by go_num,rfl,HFIN.out⟩,by simp [intOf]; omega⟩
          ·have hge:¬ (k:Int)<8:=by omega
           obtain rfl:k=8:=by omega
           have HSO:=zY hso;obtain rfl:q=8*8:=hq;clear hso;go_wp2_with fail;go_ret;refine ⟨A5,c5,rfl,?_,by rw [HGF.out]; exact HSO.out.bel⟩;have h:=HSO.out.own;rw [outW_length _ _ _ _ (by omega)] at h
           have hd:outW 64 8 sv 8=digS F64 data:=by
            rw [HSV.out,digS,← HA128.out,HAL.out,HNB.out];show _=(s8L (runS F64 A128 (j*128/128))).flatMap _;rw [Nat.mul_div_cancel _ (by decide)];rfl
           rw [← hd];exact own_mono h (by rw [HGF.out]; omega)
theorem p512_any (data:List UInt8) (A:Option Addr) (c B:Nat) (w:World) (hr:Rd w B A (bytesV data)) (hB:B≤w.heap.size) (hl:data.length≤40000) (hc:data.length≤c) (hcm:c≤9223372036854775807) (hG:TabG w) :
  Calls Tryz.prog 57 #[.slice A data.length c] w (SumPost64 data w):=by
 have hs:=sum64_any data A c B w hr hB hl hc hcm hG;rw [f64C] at hs;go_enter Tryz.func57,Tryz.ntmps57;go_wp2_with fail;refine qaa hs ?_;rintro e w' ⟨A2,c2,rfl,ho,hb⟩;have HO:=zY ho;have HB:=zY hb;clear ho hb hs;go_wp2_with fail;go_ret;exact ⟨A2,c2,rfl,HO.out,HB.out⟩
end Go.Proofs.YtdgheahbafnboaaGreatDoor.Sh
namespace Go.Proofs.YtdgheahbafnboaaGreatDoor
set_option linter.unusedSimpArgs false
set_option linter.unusedVariables false
set_option maxRecDepth 100000
set_option maxHeartbeats 4000000
open Go.RowKit
theorem qcH (bs:List (List UInt8)) (vs:List Value) (o:Nat) (w:World) (hs:Segs w bs vs) (hb:Blk w o 22 vs.toArray) (hl:bs.flatten.length≤40000) (hn:bs.length≤4) (hG:Sh.TabG w) :
  Calls Tryz.prog 20 #[.slice (some ⟨o,0,none⟩) bs.length bs.length] w (Sh.SumPost64 bs.flatten w):=by
 have hc:=concat_any bs vs o w hs hb hl hn;have HC:=zY hc;have HG:=zY hG;have HL:=zY hl;clear hc hG hl hn hs hb;obtain ⟨n,hn0⟩:=eX (bs.length);rw [← hn0] at HC ⊢;clear hn0;go_enter Tryz.func20,Tryz.ntmps20;go_wp2_with fail;refine qaa HC.out ?_;rintro e w1 ⟨A1,c1,rfl,ho,hb⟩;have hcap:=qbZ ho;have hs:=Sh.p512_any bs.flatten A1 c1 w1.heap.size w1 (Rd.of_own ho (Nat.le_refl _)) (Nat.le_refl _) HL.out hcap.1 hcap.2 (HG.out.below hb HG.out.size);have HS:=zY hs;have HB:=zY hb;clear hs hcap ho hb;obtain ⟨m,hm⟩:=eX (bs.flatten.length);rw [← hm] at HS ⊢;clear hm;go_wp2_with fail;refine qaa HS.out ?_;rintro e w2 ⟨A2,c2,rfl,ho2,hb2⟩;have HF:=zY (And.intro (own_mono ho2 HB.out.size) (HB.out.trans (hb2.mono HB.out.size)));clear ho2 hb2;go_wp2_with fail;go_ret;exact ⟨A2,c2,rfl,HF.out⟩
theorem and248:∀ x,x<256→x &&& (255 - 7)=x - x%8:=by decide +kernel
theorem and127:∀ x,x<256→x &&& (255 - 128)=x%128:=by decide +kernel
theorem or64s:∀ x,x<256→(x%128) ||| 64=x%64+64:=by decide +kernel
theorem bits_an7 {x:Nat} (h:x<256):bits .andNot .u8 (x:Int) 7=((x - x%8:Nat):Int):=by
 rw [← and248 x h];exact u8_andNot_nat x 7 h (by decide)
theorem bits_an128 {x:Nat} (h:x<256):bits .andNot .u8 (x:Int) 128=((x%128:Nat):Int):=by
 rw [← and127 x h];exact u8_andNot_nat x 128 h (by decide)
theorem bits_or64 {x:Nat} (h:x<256):bits .or .u8 ((x%128:Nat):Int) 64=((x%64+64:Nat):Int):=by
 rw [← or64s x h];exact u8_or_nat (x%128) 64 (by omega) (by decide)
theorem segs1 {w:World} {b:List UInt8} {A:Option Addr} {c:Nat} (h:Rd w w.heap.size A (bytesV b)):Segs w [b] [.slice A b.length c] :=
 ⟨rfl,fun i x hi=>by
  match i with
  | 0=>injection hi with hi; subst hi; exact ⟨A,c,rfl,h⟩
  | i+1=>cases hi⟩
theorem ssecret_any (data:List UInt8) (A:Option Addr) (c:Nat) (w:World) (hr:Rd w w.heap.size A (bytesV data)) (hl:data.length≤200) (hc:data.length≤c) (hG:Sh.TabG w) :
  Calls Tryz.prog 64 #[.slice A data.length c] w (SecPost (secL data) w):=by
 obtain ⟨n,hn⟩:=eX (data.length);have HR:=zY hr;have HG:=zY hG;have HL:=zY hl;have HN:=zY hn;rw [← hn] at hc ⊢;clear hr hG hl hn;go_enter Tryz.func64,Tryz.ntmps64;go_wp2_with fail;obtain ⟨w0,hw0⟩:=eX (w.alloc (.cells #[.slice A n c] 22));have hb0:Below w.heap.size w w0:=by rw [hw0]; exact below_new _ _
 have hk0:Blk w0 w.heap.size 22 [Value.slice A n c].toArray:=by rw [hw0]; exact Blk.new _ _ _
 have hs0:=qcH [data] [.slice A data.length c] w.heap.size w0 (segs1 (qae HR.out hb0)) (by rw [← HN.out]; exact hk0) (by simpa using Nat.le_trans HL.out (by decide)) (by show 1≤4; decide) (HG.out.below hb0 HG.out.size);rw [show [data].flatten=data by simp] at hs0;rw [← hw0];have HS:=zY hs0;have HB0:=zY hb0;clear hs0 hk0 hb0 hw0;refine qaa HS.out ?_;rintro e w1 ⟨A1,c1,rfl,ho,hb⟩;have hcap:=qbZ (OwnX.of ho);obtain ⟨g,ys,rfl,hg,_,hblk⟩:=OwnZ.blk ho (by decide)
 have hlen:(secD data).length=64:=by
  have h:=ho.1;rw [qaq] at h;rw [secD,digs,List.length_map,h]
 rw [← qbJ] at hblk;obtain ⟨L,hL⟩:=eX (secD data);have hdg:Dg L:=by rw [hL]; exact qca _
 rw [← hL] at hlen;have hst:SecW w g ys L w1:=⟨HB0.out.trans (hb.mono HB0.out.size),by rw [hL]; exact hblk,Nat.le_trans HB0.out.size hg⟩;have hkl:secL data=clampL L:=by rw [hL]; rfl
 obtain ⟨x,hx⟩:=eX (L.getD 0 0);obtain ⟨y,hy⟩:=eX (L.getD 31 0);have hxl:x<256:=by rw [hx]; exact qaA hdg 0
 have hyl:y<256:=by rw [hy]; exact qaA hdg 31
 obtain ⟨s,hss⟩:=eX (x - x%8);obtain ⟨t,ht⟩:=eX (y%128);obtain ⟨z,hz⟩:=eX (y%64+64);have hb1:bits .andNot .u8 (x:Int) 7=(s:Int):=by rw [hss]; exact bits_an7 hxl
 have hb2:bits .andNot .u8 (y:Int) 128=(t:Int):=by rw [ht]; exact bits_an128 hyl
 have hb3:bits .or .u8 (t:Int) 64=(z:Int):=by rw [ht,hz]; exact bits_or64 hyl
 have hkl2:secL data=(((L.set 0 s).set 31 t).set 31 z):=by
  rw [hkl,clampL,← hx,← hy,← hss,← hz,List.set_set]
 have d0:w1.cell? ⟨g,0,none⟩=some (.int .u8 (x:Int)):=by rw [hst.x.cell,sec_cell (by omega),hx]
 have d1:∀ u,SecW w g ys (L.set 0 s) u→u.cell? ⟨g,31,none⟩=some (.int .u8 (y:Int)):=fun u h=>by
  rw [h.x.cell,sec_cell (by rw [List.length_set]; omega),List.getD_eq_getElem?_getD,List.getElem?_set_ne (by decide),← List.getD_eq_getElem?_getD,hy]
 have d2:∀ u,SecW w g ys ((L.set 0 s).set 31 t) u→u.cell? ⟨g,31,none⟩=some (.int .u8 (t:Int)):=fun u h=>by
  rw [h.x.cell,sec_cell (by rw [List.length_set,List.length_set]; omega),List.getD_eq_getElem?_getD,List.getElem?_set_self (by rw [List.length_set]; omega)];rfl
 have q0:=hst.x.free 0
 have hst1:SecW w g ys (L.set 0 s) (w1.setCell ⟨g,0,none⟩ (.int .u8 (s:Int))):=by
  refine hst.put (qah _ _ _ _) ?_;have h:=qaj (i:=0) hst.x (.int .u8 (s:Int));rw [sec_set (by omega)] at h;exact h
 have e1:=d1 _ hst1;have q1:=hst1.x.free 31
 have hst2:SecW w g ys ((L.set 0 s).set 31 t) ((w1.setCell ⟨g,0,none⟩ (.int .u8 (s:Int))).setCell ⟨g,31,none⟩ (.int .u8 (t:Int))):=by
  refine hst1.put (qah _ _ _ _) ?_;have h:=qaj (i:=31) hst1.x (.int .u8 (t:Int));rw [sec_set (by rw [List.length_set]; omega)] at h;exact h
 have e2:=d2 _ hst2;have q2:=hst2.x.free 31
 have hst3:SecW w g ys (secL data) (((w1.setCell ⟨g,0,none⟩ (.int .u8 (s:Int))).setCell ⟨g,31,none⟩ (.int .u8 (t:Int))).setCell ⟨g,31,none⟩ (.int .u8 (z:Int))):=by
  rw [hkl2];refine hst2.put (qah _ _ _ _) ?_;have h:=qaj (i:=31) hst2.x (.int .u8 (z:Int));rw [sec_set (by rw [List.length_set,List.length_set]; omega)] at h;exact h
 have hxl':(x:Int)<256:=by omega
 have hsl':(s:Int)<256:=by omega
 have hyl':(y:Int)<256:=by omega
 have htl':(t:Int)<256:=by omega
 have hzl':(z:Int)<256:=by omega
 have hc64:64≤c1:=hcap.1;have hc63:c1≤9223372036854775807:=hcap.2;have HST:=zY hst3;clear d1 d2 hst hst1 hst2 hst3 hkl hkl2 hx hy hss ht hz hL hdg hlen ho hb hg hblk hxl hyl hcap;go_wp2_with fail;have HC0:=HST.out.drew;refine qal (fun u=>SecW w g ys (secL data) u) (fun u=>SecW w g ys (secL data) u) [(0,some 23),(1,some 24),(2,some 25),(3,some 26),(4,some 2),(5,some 3)] (by kernel_rfl) (by kernel_rfl) (by decide) (by kernel_rfl) (fun _=>rfl) HC0 ?_;apply yN_
 ·apply dP [];exact fun _=>rfl;rfl;rintro vals - w1 hC1 E hE;simp only [sP] at hE ⊢;go_wp2;exact .mk (hE _ hC1)
 apply yN_
 ·apply dP [(0,some 23)];exact fun _=>rfl;rfl;intro vals vq w1 hC1 E hE;simp only [sP,vq] at hE ⊢;clear vq;go_wp2;exact .mk (hE _ hC1)
 apply yN_
 ·apply dP [];exact fun _=>rfl;rfl;intro vals vq w1 hC1 E hE;clear vq;simp only [sP] at hE ⊢;go_wp2;exact .mk (hE _ hC1)
 apply yN_
 ·apply dP [(2,some 25)];exact fun _=>rfl;rfl;intro vals vq w1 hC1 E hE;simp only [sP,vq] at hE ⊢;clear vq;go_wp2;exact .mk (hE _ hC1)
 apply yN_
 ·apply dP [(1,some 24),(0,some 23),(1,some 24)];exact fun _=>rfl;rfl;intro vals vq w1 hC1 E hE;simp only [sP,vq] at hE ⊢;clear vq;go_wp2;exact .mk (hE _ hC1)
 apply yL_
 ·apply dP [(3,some 26),(4,some 2),(0,some 23),(1,some 24),(2,some 25),(3,some 26),(4,some 2)];exact fun _=>rfl;rfl;intro vals vq w1 hC1 E hE;simp only [sP,vq] at hE ⊢;clear vq;go_wp2;exact .mk (hE _ hC1)
 intro vals vq w1 hC1;simp only [sP,vq];clear vq;obtain ⟨h1,h2⟩:=sec_rd hC1.x;have HF:=zY (And.intro h1 (And.intro h2 hC1.bel));clear HC0 hC1 h1 h2 HST;go_wp2_with fail;go_ret2;exact ⟨_,_,_,_,rfl,by omega,by omega,HF.out⟩
def axN (p:Pt4):Nat:=(mulE p.x (invE p.z)).val%PN
theorem oddP_ax (p:Pt4):oddP p=decide (axN p%2=1):=rfl
theorem set_self {l:List Nat} {k:Nat} (h:k<l.length):l.set k (l.getD k 0)=l:=by
 rw [List.getD_eq_getElem?_getD,List.getElem?_eq_getElem h];exact List.set_getElem_self h
def ayN (p:Pt4):Nat:=(leastE (mulE p.y (invE p.z))).val
theorem bytP_ax (p:Pt4):bytP p=if oddP p then (byN (ayN p)).set 31 ((byN (ayN p)).getD 31 0 ||| 128) else byN (ayN p):=rfl
theorem qes (p:Pt4):(bytP p).length=32:=by
 rw [bytP_ax]
 split
 ·rw [List.length_set,qa0]
 ·exact qa0 _
end Go.Proofs.YtdgheahbafnboaaGreatDoor
namespace Go.Proofs.YtdgheahbafnboaaGreatDoor.Ed
set_option linter.unusedSimpArgs false
set_option linter.unusedVariables false
set_option maxRecDepth 100000
set_option maxHeartbeats 4000000
variable {n:Nat} [NeZero n]
structure Fld (n:Nat) [NeZero n] (d:Fin n) (iv:Fin n→Fin n):Prop where
 iv1:∀ a:Fin n,a≠0→a*iv a=1
 one:(1:Fin n)≠0
 two:(2:Fin n)≠0
 i:∃ i:Fin n,i*i=-1
 ns:∀ w:Fin n,w*w≠d
theorem Fld.inv {d:Fin n} {iv:Fin n→Fin n} (F:Fld n d iv) (a:Fin n) (h:a≠0):∃ b,a*b=1:=⟨iv a,F.iv1 a h⟩
theorem mul_ne {d:Fin n} {iv:Fin n→Fin n} (F:Fld n d iv) {a b:Fin n} (ha:a≠0) (hb:b≠0):a*b≠0:=by
 intro h;obtain ⟨a',h1⟩:=F.inv a ha;obtain ⟨b',h2⟩:=F.inv b hb;apply F.one
 grind
theorem cancel {d:Fin n} {iv:Fin n→Fin n} (F:Fld n d iv) {a b c:Fin n} (hc:c≠0) (h:a*c=b*c):a=b:=by
 obtain ⟨c',h1⟩:=F.inv c hc
 grind
def On (d x y:Fin n):Prop:=y*y - x*x=1+d*x*x*y*y
theorem no_sq {d:Fin n} {iv:Fin n→Fin n} (F:Fld n d iv) {u v:Fin n} (hv:v≠0) (h:u*u=d*(v*v)):False:=by
 obtain ⟨v',h1⟩:=F.inv v hv;apply F.ns (u*v')
 grind
theorem complete {d:Fin n} {iv:Fin n→Fin n} (F:Fld n d iv) {x1 y1 x2 y2 e:Fin n} (h1:On d x1 y1) (h2:On d x2 y2) (he:e*e=1) (hk:d*x1*x2*y1*y2=e):False:=by
 obtain ⟨i,hi⟩:=F.i;unfold On at h1 h2;have he0:e≠0:=by intro h; apply F.one; grind
 have hx1:x1≠0:=by intro h; apply he0; grind
 have hy1:y1≠0:=by intro h; apply he0; grind
 have hy2:y2≠0:=by intro h; apply he0; grind
 have a1:(i*x1+e*y1)*(i*x1+e*y1)=d*((x1*y1*(i*x2+y2))*(x1*y1*(i*x2+y2))):=by grind
 have a2:(i*x1 - e*y1)*(i*x1 - e*y1)=d*((x1*y1*(i*x2 - y2))*(x1*y1*(i*x2 - y2))):=by grind
 by_cases z1:i*x2+y2=0
 ·by_cases z2:i*x2 - y2=0
  ·apply mul_ne F F.two hy2; grind
  ·exact no_sq F (mul_ne F (mul_ne F hx1 hy1) z2) a2
 ·exact no_sq F (mul_ne F (mul_ne F hx1 hy1) z1) a1
theorem den_p {d:Fin n} {iv:Fin n→Fin n} (F:Fld n d iv) {x1 y1 x2 y2:Fin n} (h1:On d x1 y1) (h2:On d x2 y2):1+d*x1*x2*y1*y2≠0:=by
 intro h;exact complete F h1 h2 (e:=-1) (by grind) (by grind)
theorem den_m {d:Fin n} {iv:Fin n→Fin n} (F:Fld n d iv) {x1 y1 x2 y2:Fin n} (h1:On d x1 y1) (h2:On d x2 y2):1 - d*x1*x2*y1*y2≠0:=by
 intro h;exact complete F h1 h2 (e:=1) (by grind) (by grind)
structure Sum (d x1 y1 x2 y2 x y:Fin n):Prop where
 x:x*(1+d*x1*x2*y1*y2)=x1*y2+y1*x2
 y:y*(1 - d*x1*x2*y1*y2)=y1*y2+x1*x2
theorem on_key {d x1 y1 x2 y2:Fin n} (h1:y1*y1 - x1*x1=1+d*x1*x1*y1*y1) (h2:y2*y2 - x2*x2=1+d*x2*x2*y2*y2) :
 (y1*y2+x1*x2)*(y1*y2+x1*x2)*((1+d*x1*x2*y1*y2)*(1+d*x1*x2*y1*y2)) - (x1*y2+y1*x2)*(x1*y2+y1*x2)*((1 - d*x1*x2*y1*y2)*(1 - d*x1*x2*y1*y2))=(1+d*x1*x2*y1*y2)*(1+d*x1*x2*y1*y2)*((1 - d*x1*x2*y1*y2)*(1 - d*x1*x2*y1*y2))+d*(x1*y2+y1*x2)*(x1*y2+y1*x2)*(y1*y2+x1*x2)*(y1*y2+x1*x2):=by grind -lia
theorem sum_on {d:Fin n} {iv:Fin n→Fin n} (F:Fld n d iv) {x1 y1 x2 y2 x y:Fin n} (h1:On d x1 y1) (h2:On d x2 y2) (s:Sum d x1 y1 x2 y2 x y):On d x y:=by
 have p:=den_p F h1 h2;have m:=den_m F h1 h2;obtain ⟨sx,sy⟩:=s;have key:=on_key h1 h2;unfold On;generalize hk:d*x1*x2*y1*y2=k at *;generalize hX:x1*y2+y1*x2=X at *;generalize hY:y1*y2+x1*x2=Y at *;refine cancel F (c:=(1+k)*(1+k)*((1 - k)*(1 - k))) (mul_ne F (mul_ne F p p) (mul_ne F m m)) ?_;clear h1 h2 hk hX hY p m
 grind -lia
theorem assoc_x {d x1 y1 x2 y2 x3 y3:Fin n}
 (e1:On d x1 y1) (e2:On d x2 y2) (e3:On d x3 y3) :
 ((x1*y2+y1*x2)*(1 - d*x1*x2*y1*y2)*y3+(y1*y2+x1*x2)*(1+d*x1*x2*y1*y2)*x3)*((1 - d*x2*x3*y2*y3)*(1+d*x2*x3*y2*y3)+d*x1*y1*(x2*y3+y2*x3)*(y2*y3+x2*x3))
 = (x1*(y2*y3+x2*x3)*(1+d*x2*x3*y2*y3)+y1*(x2*y3+y2*x3)*(1 - d*x2*x3*y2*y3))*((1 - d*x1*x2*y1*y2)*(1+d*x1*x2*y1*y2)+d*(x1*y2+y1*x2)*(y1*y2+x1*x2)*x3*y3):=by
 unfold On at *
 grind
theorem assoc_y {d x1 y1 x2 y2 x3 y3:Fin n}
 (e1:On d x1 y1) (e2:On d x2 y2) (e3:On d x3 y3) :
 ((y1*y2+x1*x2)*(1+d*x1*x2*y1*y2)*y3+(x1*y2+y1*x2)*(1 - d*x1*x2*y1*y2)*x3)*((1 - d*x2*x3*y2*y3)*(1+d*x2*x3*y2*y3) - d*x1*y1*(x2*y3+y2*x3)*(y2*y3+x2*x3))
 = (y1*(y2*y3+x2*x3)*(1+d*x2*x3*y2*y3)+x1*(x2*y3+y2*x3)*(1 - d*x2*x3*y2*y3))*((1 - d*x1*x2*y1*y2)*(1+d*x1*x2*y1*y2) - d*(x1*y2+y1*x2)*(y1*y2+x1*x2)*x3*y3):=by
 unfold On at *
 grind
theorem fac {d:Fin n} {iv:Fin n→Fin n} (F:Fld n d iv) {a b:Fin n} (h:a*b=0) (hb:b≠0):a=0:=cancel F hb (by grind)
theorem sum_assoc {d:Fin n} {iv:Fin n→Fin n} (F:Fld n d iv) {x1 y1 x2 y2 x3 y3 xs ys xt yt x y x' y':Fin n} (h1:On d x1 y1) (h2:On d x2 y2) (h3:On d x3 y3)
  (s:Sum d x1 y1 x2 y2 xs ys) (l:Sum d xs ys x3 y3 x y) (t:Sum d x2 y2 x3 y3 xt yt) (r:Sum d x1 y1 xt yt x' y'):x=x'∧y=y':=by
 have ax:=assoc_x h1 h2 h3;have ay:=assoc_y h1 h2 h3;have hs:=sum_on F h1 h2 s;have ht:=sum_on F h2 h3 t;have p1:=den_p F h1 h2;have m1:=den_m F h1 h2;have p2:=den_p F h2 h3;have m2:=den_m F h2 h3;have pl:=den_p F hs h3;have ml:=den_m F hs h3;have pr:=den_p F h1 ht;have mr:=den_m F h1 ht;obtain ⟨sx,sy⟩:=s;obtain ⟨lx,ly⟩:=l;obtain ⟨tx,ty⟩:=t;obtain ⟨rx,ry⟩:=r;clear h1 h2 h3 hs ht;have c1:=mul_ne F p1 m1;have c2:=mul_ne F p2 m2
 have e1:(1+d*x1*x2*y1*y2)*(1 - d*x1*x2*y1*y2)*(1+d*xs*x3*ys*y3)=(1 - d*x1*x2*y1*y2)*(1+d*x1*x2*y1*y2)+d*(x1*y2+y1*x2)*(y1*y2+x1*x2)*x3*y3:=by
  rw [← sx,← sy]; grind -lia
 have e2:(1+d*x1*x2*y1*y2)*(1 - d*x1*x2*y1*y2)*(1 - d*xs*x3*ys*y3)=(1 - d*x1*x2*y1*y2)*(1+d*x1*x2*y1*y2) - d*(x1*y2+y1*x2)*(y1*y2+x1*x2)*x3*y3:=by
  rw [← sx,← sy]; grind -lia
 have e3:(1+d*x2*x3*y2*y3)*(1 - d*x2*x3*y2*y3)*(1+d*x1*xt*y1*yt)=(1 - d*x2*x3*y2*y3)*(1+d*x2*x3*y2*y3)+d*x1*y1*(x2*y3+y2*x3)*(y2*y3+x2*x3):=by
  rw [← tx,← ty]; grind -lia
 have e4:(1+d*x2*x3*y2*y3)*(1 - d*x2*x3*y2*y3)*(1 - d*x1*xt*y1*yt)=(1 - d*x2*x3*y2*y3)*(1+d*x2*x3*y2*y3) - d*x1*y1*(x2*y3+y2*x3)*(y2*y3+x2*x3):=by
  rw [← tx,← ty]; grind -lia
 rw [← e1,← e3,← sx,← sy,← tx,← ty] at ax;rw [← e2,← e4,← sx,← sy,← tx,← ty] at ay;clear e1 e2 e3 e4 sx sy tx ty;generalize 1+d*x1*x2*y1*y2=u1 at *;generalize 1 - d*x1*x2*y1*y2=v1 at *;generalize 1+d*x2*x3*y2*y3=u2 at *;generalize 1 - d*x2*x3*y2*y3=v2 at *;generalize 1+d*xs*x3*ys*y3=u3 at *;generalize 1 - d*xs*x3*ys*y3=v3 at *;generalize 1+d*x1*xt*y1*yt=u4 at *;generalize 1 - d*x1*xt*y1*yt=v4 at *;have q1:((xs*y3+ys*x3)*(u1*v1))*(u2*v2*u4)=((x1*yt+y1*xt)*(u2*v2))*(u1*v1*u3):=by grind -lia
 have q2:((ys*y3+xs*x3)*(u1*v1))*(u2*v2*v4)=((y1*yt+x1*xt)*(u2*v2))*(u1*v1*v3):=by grind -lia
 rw [← lx,← rx] at q1;rw [← ly,← ry] at q2
 constructor
 ·refine cancel F (c:=(u1*v1)*(u2*v2)*(u3*u4)) (mul_ne F (mul_ne F c1 c2) (mul_ne F pl pr)) ?_;clear ax ay q2 lx ly rx ry
  grind -lia
 ·refine cancel F (c:=(u1*v1)*(u2*v2)*(v3*v4)) (mul_ne F (mul_ne F c1 c2) (mul_ne F ml mr)) ?_;clear ax ay q1 lx ly rx ry
  grind -lia
theorem sum_one {d:Fin n} {iv:Fin n→Fin n} (F:Fld n d iv) {x1 y1 x2 y2 x y x' y':Fin n} (h1:On d x1 y1) (h2:On d x2 y2) (s:Sum d x1 y1 x2 y2 x y) (t:Sum d x1 y1 x2 y2 x' y'):x=x'∧y=y' :=
 ⟨cancel F (den_p F h1 h2) (s.x.trans t.x.symm),cancel F (den_m F h1 h2) (s.y.trans t.y.symm)⟩
theorem sum_comm {d x1 y1 x2 y2 x y:Fin n} (s:Sum d x1 y1 x2 y2 x y):Sum d x2 y2 x1 y1 x y:=by
 obtain ⟨sx,sy⟩:=s
 constructor
 ·grind -lia
 ·grind -lia
theorem zero_on (d:Fin n):On d 0 1:=by unfold On; grind -lia
theorem neg_on {d x y:Fin n} (h:On d x y):On d (-x) y:=by unfold On at *; grind -lia
theorem sum_zero (d x y:Fin n):Sum d x y 0 1 x y:=by constructor <;> grind -lia
structure Pn (n:Nat) [NeZero n] (d:Fin n) where
 x:Fin n
 y:Fin n
 on:On d x y
theorem Pn.eq {d:Fin n} {P Q:Pn n d} (h:P.x=Q.x) (k:P.y=Q.y):P=Q:=by
 cases P; cases Q; subst h; subst k; rfl
def sumX (d:Fin n) (iv:Fin n→Fin n) (x1 y1 x2 y2:Fin n):Fin n:=(x1*y2+y1*x2)*iv (1+d*x1*x2*y1*y2)
def sumY (d:Fin n) (iv:Fin n→Fin n) (x1 y1 x2 y2:Fin n):Fin n:=(y1*y2+x1*x2)*iv (1 - d*x1*x2*y1*y2)
theorem sum_is {d:Fin n} {iv:Fin n→Fin n} (F:Fld n d iv) {x1 y1 x2 y2:Fin n} (h1:On d x1 y1) (h2:On d x2 y2):Sum d x1 y1 x2 y2 (sumX d iv x1 y1 x2 y2) (sumY d iv x1 y1 x2 y2):=by
 have ha:=F.iv1 _ (den_p F h1 h2);have hb:=F.iv1 _ (den_m F h1 h2)
 constructor
 ·unfold sumX; generalize iv (1+d*x1*x2*y1*y2)=v at *; grind -lia
 ·unfold sumY; generalize iv (1 - d*x1*x2*y1*y2)=v at *; grind -lia
section
variable {d:Fin n} {iv:Fin n→Fin n} (F:Fld n d iv)
def add (P Q:Pn n d):Pn n d:=⟨sumX d iv P.x P.y Q.x Q.y,sumY d iv P.x P.y Q.x Q.y,sum_on F P.on Q.on (sum_is F P.on Q.on)⟩
theorem add_sum (P Q:Pn n d):Sum d P.x P.y Q.x Q.y (add F P Q).x (add F P Q).y:=sum_is F P.on Q.on
theorem add_eq {P Q R:Pn n d} (h:Sum d P.x P.y Q.x Q.y R.x R.y):add F P Q=R:=Pn.eq (sum_one F P.on Q.on (add_sum F P Q) h).1 (sum_one F P.on Q.on (add_sum F P Q) h).2
def zero (d:Fin n):Pn n d:=⟨0,1,zero_on d⟩
def neg (P:Pn n d):Pn n d:=⟨-P.x,P.y,neg_on P.on⟩
theorem add_assoc (P Q R:Pn n d):add F (add F P Q) R=add F P (add F Q R) :=
 have h:=sum_assoc F P.on Q.on R.on (add_sum F P Q) (add_sum F (add F P Q) R) (add_sum F Q R) (add_sum F P (add F Q R))
 Pn.eq h.1 h.2
theorem add_comm (P Q:Pn n d):add F P Q=add F Q P:=add_eq F (sum_comm (add_sum F Q P))
theorem add_zero (P:Pn n d):add F P (zero d)=P:=add_eq F (sum_zero d P.x P.y)
theorem zero_add (P:Pn n d):add F (zero d) P=P:=by rw [add_comm,add_zero]
include F in
def mul (P:Pn n d):Nat→Pn n d
 | 0=>zero d
 | k+1=>add F (mul P k) P
theorem mul_add (P:Pn n d) (a:Nat):∀ b,mul F P (a+b)=add F (mul F P a) (mul F P b)
 | 0=>(add_zero F _).symm
 | b+1=>by
  show add F (mul F P (a+b)) P=add F (mul F P a) (add F (mul F P b) P);rw [mul_add P a b,add_assoc]
theorem mul_one (P:Pn n d):mul F P 1=P:=zero_add F P
theorem mul_two (P:Pn n d) (k:Nat):mul F P (2*k)=add F (mul F P k) (mul F P k):=by rw [Nat.two_mul,mul_add]
theorem mul_zero:∀ b:Nat,mul F (zero d) b=zero d
 | 0=>rfl
 | b+1=>(add_zero F _).trans (mul_zero b)
end
theorem four {d:Fin n} {iv:Fin n→Fin n} (F:Fld n d iv) {x1 y1 z1 x2 y2 z2 x y a b c z e f g h X1 Y1 T1 X2 Y2 T2 tw:Fin n} (h1:On d x1 y1) (h2:On d x2 y2) (s:Sum d x1 y1 x2 y2 x y)
  (hz1:z1≠0) (hz2:z2≠0) (hX1:X1=x1*z1) (hY1:Y1=y1*z1) (hT1:T1=x1*y1*z1) (hX2:X2=x2*z2) (hY2:Y2=y2*z2) (hT2:T2=x2*y2*z2) (htw:tw=d+d)
  (ha:a=(Y1 - X1)*(Y2 - X2)) (hb:b=(Y1+X1)*(Y2+X2)) (hc:c=T1*tw*T2) (hz:z=z1*z2) (he:e=b - a) (hh:h=b+a) (hf:f=z+z - c) (hg:g=z+z+c) :
  f*g≠0∧e*f=x*(f*g)∧g*h=y*(f*g)∧e*h=x*y*(f*g):=by
 have p:=den_p F h1 h2;have m:=den_m F h1 h2;have h2z:=mul_ne F F.two (mul_ne F hz1 hz2);obtain ⟨sx,sy⟩:=s;subst ha hb hc hz he hh hf hg hX1 hY1 hT1 hX2 hY2 hT2 htw;have f1:z1*z2+z1*z2 - x1*y1*z1*(d+d)*(x2*y2*z2)=2*(z1*z2)*(1 - d*x1*x2*y1*y2):=by clear sx sy p m h2z; grind -lia
 have g1:z1*z2+z1*z2+x1*y1*z1*(d+d)*(x2*y2*z2)=2*(z1*z2)*(1+d*x1*x2*y1*y2):=by clear sx sy p m h2z; grind -lia
 have e1:(y1*z1+x1*z1)*(y2*z2+x2*z2) - (y1*z1 - x1*z1)*(y2*z2 - x2*z2)=2*(z1*z2)*(x*(1+d*x1*x2*y1*y2)):=by rw [sx]; clear sx sy p m h2z; grind -lia
 have i1:(y1*z1+x1*z1)*(y2*z2+x2*z2)+(y1*z1 - x1*z1)*(y2*z2 - x2*z2)=2*(z1*z2)*(y*(1 - d*x1*x2*y1*y2)):=by rw [sy]; clear sx sy p m h2z; grind -lia
 rw [f1,g1,e1,i1];clear sx sy f1 g1 e1 i1 h1 h2;generalize 1+d*x1*x2*y1*y2=u at *;generalize 1 - d*x1*x2*y1*y2=v at *;refine ⟨mul_ne F (mul_ne F h2z m) (mul_ne F h2z p),?_,?_,?_⟩ <;> clear F h2z m p hz1 hz2 <;> grind -lia
end Go.Proofs.YtdgheahbafnboaaGreatDoor.Ed
namespace Go.Proofs.YtdgheahbafnboaaGreatDoor
set_option linter.unusedSimpArgs false
set_option linter.unusedVariables false
set_option maxRecDepth 100000
set_option maxHeartbeats 4000000
open Go.RowKit
section
variable {n:Nat} [NeZero n]
theorem gn_add (a b:Nat):Fin.ofNat n (a+b)=Fin.ofNat n a+Fin.ofNat n b:=by
 apply Fin.ext;rw [Fin.val_add];simp only [Fin.ofNat];rw [← Nat.add_mod]
theorem gn_mul (a b:Nat):Fin.ofNat n (a*b)=Fin.ofNat n a*Fin.ofNat n b:=by
 apply Fin.ext;rw [Fin.val_mul];simp only [Fin.ofNat];rw [← Nat.mul_mod]
theorem gn_eq {a b:Nat}:Fin.ofNat n a=Fin.ofNat n b↔a%n=b%n:=by
 constructor
 ·intro h;have:=congrArg Fin.val h
  simpa only [Fin.ofNat] using this
 ·intro h;apply Fin.ext
  simpa only [Fin.ofNat] using h
theorem gn_val (x:Fin n):Fin.ofNat n x.val=x:=Fin.ext (Nat.mod_eq_of_lt x.isLt)
theorem gn_mod (a:Nat):Fin.ofNat n (a%n)=Fin.ofNat n a:=gn_eq.2 (Nat.mod_mod _ _)
theorem gn_sub {a b c:Nat} (h:(a+b)%n=c%n):Fin.ofNat n a=Fin.ofNat n c - Fin.ofNat n b:=by
 have h1:Fin.ofNat n a+Fin.ofNat n b=Fin.ofNat n c:=by rw [← gn_add]; exact gn_eq.2 h
 rw [← h1];generalize Fin.ofNat n a=x;generalize Fin.ofNat n b=y
 grind -lia
end
instance:NeZero PN:=⟨by decide⟩
abbrev FP:=Fin PN
def fn (a:Nat):FP:=Fin.ofNat PN a
theorem fn_add (a b:Nat):fn (a+b)=fn a+fn b:=gn_add a b
theorem fn_mul (a b:Nat):fn (a*b)=fn a*fn b:=gn_mul a b
theorem fn_eq {a b:Nat}:fn a=fn b↔a%PN=b%PN:=gn_eq
theorem qbo (x:FP):fn x.val=x:=gn_val x
theorem qen (a:Nat):fn (a%PN)=fn a:=gn_mod a
theorem val_fn (a:Nat):(fn a).val=a%PN:=rfl
theorem fn_one:fn 1=1:=rfl
theorem fn_zero:fn 0=0:=rfl
theorem fn_ne {a:Nat}:fn a≠0↔a%PN≠0:=by
 rw [← fn_zero,Ne,fn_eq,Nat.zero_mod]
def dF:FP:=fn dN
def ivF (a:FP):FP:=fn (a.val^(PN - 2))
theorem iv_one (a:FP) (h:a≠0):a*ivF a=1:=by
 obtain ⟨e,he⟩:=eX (PN - 2);have he1:PN - 1=e+1:=by rw [he]; decide
 have h1:a.val%PN≠0:=by rw [← fn_ne,qbo]; exact h
 have h2:=fermatP a.val h1;rw [he1,Nat.pow_succ] at h2;rw [ivF,← he]
 conv=>lhs; lhs; rw [← qbo a]
 rw [← fn_mul,← fn_one,fn_eq,Nat.mul_comm,h2]
 decide
def rootN:Nat:=19681161376707505956807079304988542015446066515923890162744021073123829784752
def halfL:List Nat:=(List.range 32).map fun j=>(PN - 1)/2/256^j%256
theorem half_val:leV halfL=(PN - 1)/2:=by decide
theorem d_half:dN^((PN - 1)/2)%PN=PN - 1:=by
 rw [← half_val,← pm_eq]
 decide
theorem d_none (w:FP):w*w≠dF:=by
 intro h;obtain ⟨k,hk⟩:=eX ((PN - 1)/2);have hk2:PN - 1=k+k:=by rw [hk]; decide
 have hd:=d_half;rw [← hk] at hd;have h1:w.val*w.val%PN=dN%PN:=by rw [← fn_eq,fn_mul,qbo]; exact h
 by_cases hw:w.val%PN=0
 ·rw [Nat.mul_mod,hw] at h1;exact absurd h1 (by decide)
 ·have h2:=fermatP w.val hw;rw [hk2,Nat.pow_add,← Nat.mul_pow,Nat.pow_mod,h1,← Nat.pow_mod,hd] at h2;exact absurd h2 (by decide)
theorem FF:Ed.Fld PN dF ivF where
 iv1:=iv_one
 one:=by decide
 two:=by decide
 i:=⟨fn rootN,by decide⟩
 ns:=d_none
abbrev PtF:=Ed.Pn PN dF
def fv (x:E5):FP:=fn x.val
theorem qem (x y:E5):fv (addE x y)=fv x+fv y:=by rw [fv,fv,fv,← fn_add]; exact fn_eq.2 (sm_add x y)
theorem qa3 (x y:E5):fv (mulE x y)=fv x*fv y:=by rw [fv,fv,fv,← fn_mul]; exact fn_eq.2 (sm_mul x y)
theorem qcC {x y:E5} (hy:y.Ok):fv (subE x y)=fv x - fv y:=gn_sub (sm_sub hy)
theorem fv_inv (x:E5):fv (invE x)=ivF (fv x):=by
 rw [fv,fv,ivF];refine fn_eq.2 ?_;rw [invE_val,val_fn];generalize PN - 2=e;rw [Nat.pow_mod]
theorem fv_int (n:Nat):fv (intE (n:Int))=fn n:=by rw [fv,intE_nat,natE_val]
theorem fv_z:fv zE=0:=rfl
structure Is (p:Pt4) (P:PtF):Prop where
 z:fv p.z≠0
 x:fv p.x=P.x*fv p.z
 y:fv p.y=P.y*fv p.z
 t:fv p.t=P.x*P.y*fv p.z
def plus (P Q:PtF):PtF:=Ed.add FF P Q
def times (P:PtF) (k:Nat):PtF:=Ed.mul FF P k
def zeroF:PtF:=Ed.zero dF
theorem Is.sum {p q:Pt4} {P Q:PtF} {tw:E5} (hp:p.Ok) (hq:q.Ok) (hw:tw.Ok) (ht:fv tw=dF+dF) (h:Is p P) (k:Is q Q):Is (sumP p q tw) (plus P Q):=by
 have okA:=qax (qbb hp.y hp.x) (qbb hq.y hq.x);have okC:=qax (qax hp.t hw) hq.t;obtain ⟨r1,r2,r3,r4⟩:=Ed.four FF P.on Q.on (Ed.add_sum FF P Q) h.z k.z h.x h.y h.t k.x k.y k.t ht rfl rfl rfl rfl rfl rfl rfl rfl;rw [← qcC hp.x,← qcC hq.x,← qem,← qem,← qa3,← qa3,← qa3,← qa3,← qa3,← qcC okA,← qem,← qem,← qcC okC,← qem] at *;exact ⟨by rw [sumP,qa3]; exact r1,by rw [sumP,qa3,qa3]; exact r2,by rw [sumP,qa3,qa3]; exact r3,by rw [sumP,qa3,qa3]; exact r4⟩
theorem Is.neg {p:Pt4} {P:PtF} (hp:p.Ok) (h:Is p P):Is (negP p) (Ed.neg P):=by
 refine ⟨h.z,?_,h.y,?_⟩
 ·show fv (subE zE p.x)=-P.x*fv p.z;rw [qcC hp.x,fv_z,h.x]
  grind -lia
 ·show fv (subE zE p.t)=-P.x*P.y*fv p.z;rw [qcC hp.t,fv_z,h.t]
  grind -lia
theorem is_of {x y:E5} {P:PtF} (hx:fv x=P.x) (hy:fv y=P.y):Is (ofP x y) P:=by
 have h1:fv (intE 1)=1:=fv_int 1;refine ⟨?_,?_,?_,?_⟩
 ·show fv (intE 1)≠0;rw [h1]; exact FF.one
 ·show fv x=P.x*fv (intE 1);rw [h1,hx]; grind -lia
 ·show fv y=P.y*fv (intE 1);rw [h1,hy]; grind -lia
 ·show fv (mulE x y)=P.x*P.y*fv (intE 1);rw [h1,qa3,hx,hy]; grind -lia
theorem is_zero:Is zeroP zeroF:=is_of (fv_int 0) (fv_int 1)
theorem base_on:Ed.On dF (fn bxN) (fn byNN):=by unfold Ed.On; decide
def baseF:PtF:=⟨fn bxN,fn byNN,base_on⟩
theorem is_base:Is baseP baseF:=by
 have h:∀ x y,fn x.val=baseF.x→fn y.val=baseF.y→Is (ofP x y) baseF:=fun x y hx hy=>is_of hx hy;exact h _ _ (by rw [bx_val]; rfl) (by rw [by_val]; rfl)
theorem fv_d:fv dE=dF:=by rw [fv,dE_val,dF]
theorem fv_d2:fv (addE dE dE)=dF+dF:=by rw [qem,fv_d]
theorem Is.add {p q:Pt4} {P Q:PtF} (hp:p.Ok) (hq:q.Ok) (h:Is p P) (k:Is q Q):Is (addP p q) (plus P Q):=Is.sum hp hq d2_ok fv_d2 h k
section
variable {p:Pt4} {P:PtF} {T:E5} (hT:T.Ok) (ht:fv T=dF+dF) (hp:p.Ok) (h:Is p P)
include hT ht hp h
theorem is_S {out:Pt4} {n bit:Nat} (ho:out.Ok) (k:Is out (times P n)) (hb:bit<2):Is (pmS T p out bit) (times P (2*n+bit)):=by
 have h2:Is (sumP out out T) (times P (2*n)):=by
  have:=Is.sum ho ho hT ht k k
  rwa [show plus (times P n) (times P n)=times P (2*n) from (Ed.mul_two FF P n).symm] at this
 unfold pmS
 split
 ·next e =>
  rw [e];exact Is.sum (qdb ho ho hT) hp hT ht h2 h
 ·next e =>
  obtain rfl:bit=0:=by omega
  exact h2
theorem is_B {out:Pt4} {n:Nat} (ho:out.Ok) (k:Is out (times P n)) (b:Nat):∀ j,j≤8→Is (pmB T p out b j) (times P (n*2^j+b%256/2^(8 - j)))
 | 0,_=>by
  have e:b%256/2^(8 - 0)=0:=Nat.div_eq_of_lt (Nat.mod_lt _ (by decide));rw [e,Nat.pow_zero,Nat.mul_one,Nat.add_zero];exact k
 | j+1,hj=>by
  have ih:=is_B ho k b j (by omega);have e:=is_S hT ht hp h (bit:=b/2^(7 - j)%2) (pmB_ok hT hp ho b j) ih (Nat.mod_lt _ (by decide));rw [pmB];have hp:2^(8 - j)=2^(7 - j)*2:=by rw [← Nat.pow_succ]; congr 1; omega
  have h1:b%256/2^(8 - j)=b%256/2^(7 - j)/2:=by rw [hp,Nat.div_div_eq_div_mul]
  have h2:b/2^(7 - j)%2=b%256/2^(7 - j)%2:=by
   obtain ⟨d,hd⟩:∃ d,8=(7 - j)+(1+d):=⟨j,by omega⟩
   have h8:2^(7 - j)*(2*2^d)=256:=by
    have h9:2^((7 - j)+(1+d))=256:=by rw [← hd]
    rw [Nat.pow_add,Nat.pow_add,Nat.pow_one] at h9;exact h9
   obtain ⟨c,hc⟩:=eX (b/256);have e4:2^(7 - j)*(2*(2^d*c))=256*c:=by rw [← h8]; simp only [Nat.mul_assoc]
   have e3:b=b%256+2^(7 - j)*(2*(2^d*c)):=by rw [e4,hc]; exact (Nat.mod_add_div b 256).symm
   conv=>lhs; rw [e3,Nat.add_mul_div_left _ _ (Nat.two_pow_pos _),Nat.add_mul_mod_self_left]
  have e6:2*(n*2^j+b%256/2^(8 - j))+b/2^(7 - j)%2=n*2^(j+1)+b%256/2^(8 - (j+1)):=by
   rw [h1,h2,show 8 - (j+1)=7 - j by omega,Nat.pow_succ]
   have e5:2*(n*2^j+b%256/2^(7 - j)/2)=n*(2^j*2)+2*(b%256/2^(7 - j)/2):=by
    rw [Nat.mul_add,← Nat.mul_assoc n,Nat.mul_comm 2 (n*2^j)]
   rw [e5];omega
  rwa [e6] at e
theorem is_L (l:List Nat) (hl:∀ d ∈ l,d<256):∀ j,j≤l.length→Is (pmL T p l j) (times P (leV (l.drop (l.length - j))))
 | 0,_=>by
  rw [Nat.sub_zero,List.drop_length,leV,pmL];exact is_zero
 | j+1,hj=>by
  have hlt:l.length - 1 - j<l.length:=by omega
  have hd:l.getD (l.length - 1 - j) 0=l[l.length - 1 - j]:=by rw [List.getD_eq_getElem?_getD,List.getElem?_eq_getElem hlt]; rfl
  have hb:l[l.length - 1 - j]<256:=hl _ (List.getElem_mem hlt);have e:=is_B hT ht hp h (pmL_ok hT hp l j) (is_L l hl j (by omega)) l[l.length - 1 - j] 8 (Nat.le_refl _);rw [pmL,hd,show l.length - (j+1)=l.length - 1 - j by omega,List.drop_eq_getElem_cons hlt,leV,show l.length - 1 - j+1=l.length - j by omega];rw [Nat.mod_eq_of_lt hb,show 8 - 8=0 from rfl,Nat.pow_zero,Nat.div_one,show (2:Nat)^8=256 from rfl,Nat.mul_comm,Nat.add_comm] at e;exact e
end
theorem Is.mul {p:Pt4} {P:PtF} (hp:p.Ok) (h:Is p P) (l:List UInt8):Is (mulP p l) (times P (leV (digs (l.take 32)))):=by
 have e:=is_L d2_ok fv_d2 hp h (digs (l.take 32)) (digs_lt _) (min l.length 32) (by rw [digs,List.length_map,List.length_take,Nat.min_comm]; exact Nat.le_refl _);rw [show (digs (l.take 32)).length - min l.length 32=0 by rw [digs,List.length_map,List.length_take,Nat.min_comm,Nat.sub_self],List.drop_zero] at e;exact e
section
variable {n:Nat} [NeZero n]
def pwG (x:Fin n):Nat→Fin n
 | 0=>1
 | k+1=>pwG x k*x
theorem pwG_one (x:Fin n):pwG x 1=x:=by show 1*x=x; grind -lia
theorem pwG_add (x:Fin n) (a:Nat):∀ b,pwG x (a+b)=pwG x a*pwG x b
 | 0=>by show pwG x a=pwG x a*1; grind -lia
 | b+1=>by
  show pwG x (a+b)*x=pwG x a*(pwG x b*x);rw [pwG_add x a b]
  grind -lia
theorem pwG_pw (x:Fin n) (a:Nat):∀ b,pwG x (a*b)=pwG (pwG x a) b
 | 0=>rfl
 | b+1=>by rw [Nat.mul_succ,pwG_add,pwG_pw x a b]; rfl
theorem gn_pow (a:Nat):∀ k,Fin.ofNat n (a^k)=pwG (Fin.ofNat n a) k
 | 0=>rfl
 | k+1=>by rw [Nat.pow_succ,gn_mul,gn_pow a k]; rfl
end
def pw (x:FP) (k:Nat):FP:=pwG x k
theorem fn_pow (a k:Nat):fn (a^k)=pw (fn a) k:=gn_pow a k
theorem pw_pw (x:FP) (a b:Nat):pw x (a*b)=pw (pw x a) b:=pwG_pw x a b
theorem qdn (x:FP) (a b:Nat):pw x (a+b)=pw x a*pw x b:=pwG_add x a b
theorem pw_one (x:FP):pw x 1=x:=pwG_one x
theorem pw_fermat {x:FP} (h:x≠0):pw x (PN - 1)=1:=by
 have h1:x.val%PN≠0:=by rw [← fn_ne,qbo]; exact h
 have h2:=fermatP x.val h1;rw [← qbo x,← fn_pow,← fn_one,fn_eq,h2]
 decide
section
variable {n:Nat} [NeZero n] {d:Fin n} {iv:Fin n→Fin n} (F:Ed.Fld n d iv)
include F
theorem g_zero {a b:Fin n} (h:a*b=0):a=0∨b=0:=by
 by_cases hb:b=0
 ·exact .inr hb
 ·exact .inl (Ed.fac F h hb)
theorem g_one {w:Fin n} (h:w*w=1):w=1∨w=-1:=by
 have h1:(w - 1)*(w+1)=0:=by grind -lia
 rcases g_zero F h1 with h2 | h2
 ·left; clear h1 h; grind -lia
 ·right; clear h1 h; grind -lia
theorem g_two {v x y u:Fin n} (hv:v≠0) (h:v*(x*x)=u) (k:v*(y*y)=u):y=x∨y=-x:=by
 have h1:(y - x)*(y+x)*v=0:=by grind -lia
 have h2:=Ed.fac F h1 hv
 rcases g_zero F h2 with h3 | h3
 ·left; clear h1 h2 h k; grind -lia
 ·right; clear h1 h2 h k; grind -lia
theorem g_den (y:Fin n):y*y*d+1≠0:=by
 intro h;obtain ⟨i,hi⟩:=F.i
 by_cases hy:y=0
 ·apply F.one; subst hy; grind -lia
 ·exact Ed.no_sq F (u:=i) (v:=y) hy (by grind -lia)
omit F
theorem g_on (x y:Fin n):Ed.On d x y↔(y*y*d+1)*(x*x)=y*y - 1:=by
 unfold Ed.On
 constructor
 ·intro h; grind -lia
 ·intro h; grind -lia
theorem g_h1 {u v x t:Fin n} (ht:t*t=-1) (h:v*x*x=u):v*(x*x)=u:=by grind -lia
theorem g_h2 {u v x t:Fin n} (ht:t*t=-1) (h:v*x*x=0 - u):v*((x*t)*(x*t))=u:=by grind -lia
theorem g_pow {u v p:Fin n}:v*(u*(v*v*v)*p)*(u*(v*v*v)*p)=u*(p*p*(u*(v*v*v)*(v*v*v)*v)):=by grind -lia
theorem g_sq {u v z:Fin n} (h:v*(z*z)=u):u*(v*v*v)*(v*v*v)*v=(z*(v*v*v*v))*(z*(v*v*v*v)):=by rw [← h]; grind -lia
theorem qdp (x:Fin n):x*1=x:=by grind -lia
theorem g_mulm (x:Fin n):x*-1=0 - x:=by grind -lia
theorem g_neg2 {a q:Fin n} (hq:q*q=-1) {x:Fin n} (h:x*x=a*-1):(x*q)*(x*q)=a:=by grind -lia
theorem g_mz (x:Fin n):x*0=0:=by grind -lia
theorem g_zm (x:Fin n):0*x=0:=by grind -lia
theorem g_z0 (x:Fin n):(0:Fin n) - x=-x:=by grind -lia
theorem g_div {u v i a z:Fin n} (hi:v*i=1) (ha:a=u*i):v*(z*z)=u↔z*z=a:=by
 constructor
 ·intro h; grind -lia
 ·intro h; grind -lia
end
theorem f_one {w:FP} (h:w*w=1):w=1∨w=-1:=g_one FF h
def kQ:Nat:=(PN - 1)/4
theorem kQ4:kQ*4=PN - 1:=by decide
theorem pw_quarter {z:FP} (h:z≠0):pw z (kQ*2)=1∨pw z (kQ*2)=-1:=by
 refine f_one ?_;rw [← qdn,← Nat.mul_add,kQ4];exact pw_fermat h
def byP (x y:Nat):List Nat:=if x%2=1 then (byN y).set 31 ((byN y).getD 31 0+128) else byN y
theorem qdM {V:Nat} (h:V<PN):(byN V).getD 31 0<128:=by
 have e:=byN_at V 31 (by decide);rw [List.getD_eq_getElem?_getD,e];show V/256^31%256<128;have h2:V/256^31<128:=Nat.div_lt_of_lt_mul (Nat.lt_trans h (by decide));omega
theorem or_add:∀ x,x<128→x ||| 128=x+128:=by decide
def byF (P:PtF):List Nat:=byP P.x.val P.y.val
theorem ax_is {p:Pt4} {P:PtF} (h:Is p P):axN p=P.x.val:=by
 have e:fv (mulE p.x (invE p.z))=P.x:=by
  rw [qa3,fv_inv,h.x];have:=FF.iv1 _ h.z;generalize ivF (fv p.z)=i at *;generalize fv p.z=z at *;rw [Fin.mul_assoc,this,qdp]
 rw [← e]; rfl
theorem ay_is {p:Pt4} {P:PtF} (hp:p.Ok) (h:Is p P):ayN p=P.y.val:=by
 have e:fv (mulE p.y (invE p.z))=P.y:=by
  rw [qa3,fv_inv,h.y];have:=FF.iv1 _ h.z;generalize ivF (fv p.z)=i at *;generalize fv p.z=z at *;rw [Fin.mul_assoc,this,qdp]
 rw [ayN,qcj (qax hp.y (invE_ok hp.z)).big,← e]; rfl
theorem bytP_is {p:Pt4} {P:PtF} (hp:p.Ok) (h:Is p P):bytP p=byF P:=by
 rw [bytP_ax,oddP_ax,ax_is h,ay_is hp h,byF,byP];have hx:=qdM P.y.isLt;rw [or_add _ hx]
 by_cases ho:P.x.val%2=1
 ·rw [if_pos ho,if_pos (decide_eq_true ho)]
 ·rw [if_neg ho,if_neg (by simpa using ho)]
theorem byP_len (x y:Nat):(byP x y).length=32:=by
 rw [byP]
 split
 ·rw [List.length_set,qa0]
 ·exact qa0 _
theorem byP_dg {x y:Nat} (hy:y<PN):Dg (byP x y):=by
 rw [byP]
 split
 ·exact qdr (byN_lt _) _ _ (by have:=qdM hy; omega)
 ·exact byN_lt _
theorem fn_sub {a b:Nat} (hb:b≤PN):fn ((a+PN - b)%PN)=fn a - fn b:=by
 refine gn_sub ?_;rw [Nat.mod_add_mod,show a+PN - b+b=a+PN by omega,Nat.add_mod_right]
theorem fn_inv {v:Nat} (h:v<PN):fn (v^(PN - 2)%PN)=ivF (fn v):=by
 rw [qen,ivF,val_fn,Nat.mod_eq_of_lt h]
theorem qaL (a b:Nat):fn (a*b%PN)=fn a*fn b:=by rw [qen,fn_mul]
theorem qcM (a b:Nat):fn ((a+b)%PN)=fn a+fn b:=by rw [qen,fn_add]
theorem qbj {a:Nat} (h:a<PN):(fn a).val=a:=by rw [val_fn,Nat.mod_eq_of_lt h]
theorem qep (l:List UInt8) (A:Option Addr) (c:Nat) (w:World) (hr:Rd w w.heap.size A (bytesV l)) (hc:l.length≤c) (hl:l.length≤1000000) :
  Calls Tryz.prog 29 #[.slice A l.length c] w (OwnPostZ 3 l.length (dV (digs l)) w):=by
 obtain ⟨n,hn⟩:=eX (l.length);rw [← hn];have hn63:(n:Int)≤1000000:=by omega
 have hown0:OwnZ w w.heap.size 3 1 (.slice none 0 0) 0 (dV ((digs l).take 0)):=OwnZ.nil _ _ _ _;have HR:=zY hr;have HN:=zY hn;have HOWN0:=zY hown0;clear hr hn hc hl hown0;go_enter Tryz.func29,Tryz.ntmps29;go_wp2_with fail;generalize hg:w.heap.size=g at *;have HHG:=zY hg;clear hg
 go_loopw [3,4] (fun v i wr=>∃ (k:Nat) (A1:Option Addr) (c1:Nat),k≤n∧i=.int .i64 k∧v=.slice A1 k c1∧OwnZ wr g 3 1 (.slice A1 k c1) k (dV ((digs l).take k))∧Below g w wr) (fun _ i _=>n - (intOf i).toNat)
 case atStart=>exact ⟨0,none,0,by omega,rfl,rfl,HOWN0.out,Below.refl _ _⟩
 case round =>
  clear HOWN0;obtain ⟨k,A1,c1,hk,rfl,rfl,hown,hbel⟩:=hrel
  by_cases hlt:k<n
  ·have hlt':(k:Int)<(n:Int):=by omega
   have hkl:k<l.length:=by rw [← HN.out]; exact hlt
   have hrd:=HR.out.below hbel;obtain ⟨ad,rfl,hadl,hcell⟩:=hrd.at_ (k:=k) (by rw [qaq]; exact hkl);obtain ⟨b,hb⟩:=eX (l[k].toNat);have hbl:(b:Int)<256:=by have:=l[k].toNat_lt; omega
   have hbv:(bytesV l)[k]'(by rw [qaq]; exact hkl)=.int .u8 (b:Int):=by
    rw [hb]; simp [bytesV,byteV]
   rw [hbv] at hcell
   have hnext:(digs l).take (k+1)=(digs l).take k++[b]:=by
    rw [qbA (by rw [digs,List.length_map]; exact hkl),hb];simp [digs]
   have hsz:g≤wr.heap.size:=by rw [← HHG.out]; exact (by rw [← HHG.out] at hbel; exact hbel.size)
   have HOWN:=zY hown;have HBEL:=zY hbel;have HNEXT:=zY hnext;have HSZ:=zY hsz;clear hown hbel hnext hrd hbv hb hkl hsz;go_wp2_with (refine qby qdX rfl rfl HOWN.out rfl rfl rfl rfl (by unfold maxLen; omega) (by omega) HSZ.out ?_; intro A2 c2 w2 hown2 hg2 hn2; have HOWN2:=zY hown2; have HG2:=zY hg2; clear hown2 hg2 hn2);refine ⟨⟨k+1,A2,c2,by omega,by go_num,rfl,?_,qaT HBEL.out HOWN.out.x HSZ.out HG2.out⟩,by simp [intOf]; omega⟩;rw [HNEXT.out,qb5];exact HOWN2.out
  ·obtain rfl:k=n:=by omega
   have HOWN:=zY hown;have HBEL:=zY hbel;clear hown hbel;go_wp2_with fail;go_ret;refine ⟨A1,c1,rfl,?_,by rw [HHG.out]; exact HBEL.out⟩;rw [HHG.out];have h:=HOWN.out;rw [List.take_of_length_le (by rw [digs,List.length_map,HN.out]; exact Nat.le_refl _)] at h;exact h
theorem rbytesz_any (l:List Nat) (hd:∀ d ∈ l,d<256) (A:Option Addr) (c:Nat) (w:World) (hr:Rd w w.heap.size A (dV l)) (hc:l.length≤c) (hl:l.length≤1000000) :
  Calls Tryz.prog 44 #[.slice A l.length c] w (OwnPostZ 5 32 (bytesV (refB l)) w):=by
 obtain ⟨n,hn⟩:=eX (l.length);rw [← hn];have hn63:(n:Int)≤1000000:=by omega
 have hown0:OwnZ w w.heap.size 5 1 (.slice none 0 0) 0 (bytesV ((refB l).take 0)):=OwnZ.nil _ _ _ _
 have hd':∀ k,l.getD k 0<256:=fun k=>by
  rw [List.getD_eq_getElem?_getD]
  by_cases h:k<l.length
  ·rw [List.getElem?_eq_getElem h]; exact hd _ (List.getElem_mem h)
  ·rw [List.getElem?_eq_none (by omega)]; decide
 have HR:=zY hr;have HN:=zY hn;have HD:=zY hd';have HOWN0:=zY hown0;clear hr hn hc hl hown0 hd hd';go_enter Tryz.func44,Tryz.ntmps44;go_wp2_with fail;generalize hg:w.heap.size=g at *;have HHG:=zY hg;clear hg
 go_loopw [3,4] (fun v i wr=>∃ (k:Nat) (A1:Option Addr) (c1:Nat),k≤32∧i=.int .i64 k∧v=.slice A1 k c1∧OwnZ wr g 5 1 (.slice A1 k c1) k (bytesV ((refB l).take k))∧Below g w wr) (fun _ i _=>32 - (intOf i).toNat)
 case atStart=>exact ⟨0,none,0,by omega,rfl,rfl,HOWN0.out,Below.refl _ _⟩
 case round =>
  clear HOWN0;obtain ⟨k,A1,c1,hk,rfl,rfl,hown,hbel⟩:=hrel
  by_cases hlt:k<32
  ·have hlt':(k:Int)<32:=by omega
   have hrd:=HR.out.below hbel;obtain ⟨b,hb⟩:=eX (l.getD k 0);have hbl:(b:Int)<256:=by have:=HD.out k; omega
   have hnext:(refB l).take (k+1)=(refB l).take k++[UInt8.ofNat b]:=by
    rw [qbA (by rw [refB,List.length_map,List.length_range]; exact hlt),hb];simp [refB]
   have hbv:byteV (UInt8.ofNat b)=.int .u8 (b:Int):=by
    rw [byteV,UInt8.toNat_ofNat',Nat.mod_eq_of_lt (by omega)]
   have hsz:g≤wr.heap.size:=by rw [← HHG.out]; exact (by rw [← HHG.out] at hbel; exact hbel.size)
   have HOWN:=zY hown;have HBEL:=zY hbel;have HNEXT:=zY hnext;have HSZ:=zY hsz;have HBV:=zY hbv
   by_cases hkn:k<n
   ·have hkn':(k:Int)<(n:Int):=by omega
    have hkl:k<l.length:=by rw [← HN.out]; exact hkn
    obtain ⟨ad,rfl,hadl,hcell⟩:=hrd.at_ (k:=k) (by rw [qbq]; exact hkl);rw [dV_at hkl,show l[k]=b by rw [hb,List.getD_eq_getElem?_getD,List.getElem?_eq_getElem hkl]; rfl] at hcell;clear hown hbel hnext hrd hb hkl hsz hbv;go_wp2_with (refine qby sl_bytes rfl rfl HOWN.out rfl rfl rfl rfl (by unfold maxLen; omega) (by omega) HSZ.out ?_; intro A2 c2 w2 hown2 hg2 hn2; have HOWN2:=zY hown2; have HG2:=zY hg2; clear hown2 hg2 hn2);refine ⟨⟨k+1,A2,c2,by omega,by go_num,rfl,?_,qaT HBEL.out HOWN.out.x HSZ.out HG2.out⟩,by simp [intOf]; omega⟩;rw [HNEXT.out,qaK,show bytesV [UInt8.ofNat b]=[byteV (UInt8.ofNat b)] from rfl,HBV.out];exact HOWN2.out
   ·have hkn':¬ (k:Int)<(n:Int):=by omega
    have hb0:b=0:=by rw [hb,List.getD_eq_getElem?_getD,List.getElem?_eq_none (by rw [← HN.out]; omega)]; rfl
    subst hb0;clear hown hbel hnext hrd hb hsz hbv;go_wp2_with (refine qby sl_bytes rfl rfl HOWN.out rfl rfl rfl rfl (by unfold maxLen; omega) (by omega) HSZ.out ?_; intro A2 c2 w2 hown2 hg2 hn2; have HOWN2:=zY hown2; have HG2:=zY hg2; clear hown2 hg2 hn2);refine ⟨⟨k+1,A2,c2,by omega,by go_num,rfl,?_,qaT HBEL.out HOWN.out.x HSZ.out HG2.out⟩,by simp [intOf]; omega⟩;rw [HNEXT.out,qaK];exact HOWN2.out
  ·obtain rfl:k=32:=by omega
   have HOWN:=zY hown;have HBEL:=zY hbel;clear hown hbel;go_wp2_with fail;go_ret;refine ⟨A1,c1,rfl,?_,by rw [HHG.out]; exact HBEL.out⟩;rw [HHG.out];have h:=HOWN.out;rw [List.take_of_length_le (by rw [refB,List.length_map,List.length_range]; exact Nat.le_refl _)] at h;exact h
def smD:List Nat:=[2,7,7,4,2,3,1,7,7,7,7,3,7,2,3,5,3,5,3,5,8,5,1,9,3,7,7,9,0,8,8,3,6,4,8,4,9,3]
def smS:ByteArray:=⟨#[50,55,55,52,50,51,49,55,55,55,55,51,55,50,51,53,51,53,51,53,56,53,49,57,51,55,55,57,48,56,56,51,54,52,56,52,57,51]⟩
def smV:Nat→Nat
 | 0=>0
 | k+1=>smV k*10+smD.getD k 0
theorem smV_lt:∀ k,k<39→smV k<256^16:=by decide
theorem smD_lt:∀ k,smD.getD k 0<10:=fun k=>by
 by_cases h:k<38
 ·revert k; decide
 ·rw [List.getD_eq_getElem?_getD,List.getElem?_eq_none (by simp [smD]; omega)]; decide
theorem smV_end:smV 38=27742317777372353535851937790883648493:=by decide
theorem sm_index:∀ (i:Nat),i<38→∀ u:World,(Instr.index 9 (.string smS) (.int .i64 (i:Int))).run Tryz.prog u=.ok (.int .u8 ((48+smD.getD i 0:Nat):Int)) u
 | 0,_=>fun u=>by kernel_rfl
 | 1,_=>fun u=>by kernel_rfl
 | 2,_=>fun u=>by kernel_rfl
 | 3,_=>fun u=>by kernel_rfl
 | 4,_=>fun u=>by kernel_rfl
 | 5,_=>fun u=>by kernel_rfl
 | 6,_=>fun u=>by kernel_rfl
 | 7,_=>fun u=>by kernel_rfl
 | 8,_=>fun u=>by kernel_rfl
 | 9,_=>fun u=>by kernel_rfl
 | 10,_=>fun u=>by kernel_rfl
 | 11,_=>fun u=>by kernel_rfl
 | 12,_=>fun u=>by kernel_rfl
 | 13,_=>fun u=>by kernel_rfl
 | 14,_=>fun u=>by kernel_rfl
 | 15,_=>fun u=>by kernel_rfl
 | 16,_=>fun u=>by kernel_rfl
 | 17,_=>fun u=>by kernel_rfl
 | 18,_=>fun u=>by kernel_rfl
 | 19,_=>fun u=>by kernel_rfl
 | 20,_=>fun u=>by kernel_rfl
 | 21,_=>fun u=>by kernel_rfl
 | 22,_=>fun u=>by kernel_rfl
 | 23,_=>fun u=>by kernel_rfl
 | 24,_=>fun u=>by kernel_rfl
 | 25,_=>fun u=>by kernel_rfl
 | 26,_=>fun u=>by kernel_rfl
 | 27,_=>fun u=>by kernel_rfl
 | 28,_=>fun u=>by kernel_rfl
 | 29,_=>fun u=>by kernel_rfl
 | 30,_=>fun u=>by kernel_rfl
 | 31,_=>fun u=>by kernel_rfl
 | 32,_=>fun u=>by kernel_rfl
 | 33,_=>fun u=>by kernel_rfl
 | 34,_=>fun u=>by kernel_rfl
 | 35,_=>fun u=>by kernel_rfl
 | 36,_=>fun u=>by kernel_rfl
 | 37,_=>fun u=>by kernel_rfl
 | i+38,h=>absurd h (by omega)
theorem leV_top {l:List Nat} (h0:0<l.length) (h:l.getD (l.length - 1) 0≠0):256^(l.length - 1)≤leV l:=by
 obtain ⟨p,hp⟩:∃ p,l.length=p+1:=⟨l.length - 1,by omega⟩;rw [hp,Nat.add_sub_cancel] at h ⊢;have hs:=qaI l p;rw [show l.take (p+1)=l from List.take_of_length_le (by omega)] at hs;rw [hs];have:1≤l.getD p 0:=by omega
 have h2:256^p*1≤256^p*l.getD p 0:=Nat.mul_le_mul_left _ this;omega
theorem sm_len {l:List Nat} {k:Nat} (hk:k<39) (h0:0<l.length) (hv:leV l=smV k) (ht:l.length=1∨l.getD (l.length - 1) 0≠0):l.length≤16:=by
 rcases ht with h | h
 ·omega
 ·have h1:=leV_top h0 h;rw [hv] at h1;have h2:=Nat.lt_of_le_of_lt h1 (smV_lt k hk);have h3:l.length - 1<16:=(Nat.pow_lt_pow_iff_right (by decide)).1 h2;omega
structure SmL (i:Nat) (l:List Nat):Prop where
 dg:Dg l
 pos:0<l.length
 val:leV l=smV i
 top:l.length=1∨l.getD (l.length - 1) 0≠0
def SmallPost (w:World) (e:Ending) (w':World):Prop:=∃ l A c,e=.returned (.slice A l.length c)∧SmL 38 l∧l.length≤c∧Rd w' w'.heap.size A (dV l)∧Below w.heap.size w w'
theorem small_any (w:World):Calls Tryz.prog 68 #[] w (SmallPost w):=by
 obtain ⟨S,hS⟩:=eX smS;have hsz:S.size=38:=by rw [hS]; rfl
 have HIX:=zY (show ∀ (i:Nat),i<38→∀ u:World,(Instr.index 9 (.string S) (.int .i64 (i:Int))).run Tryz.prog u=.ok (.int .u8 ((48+smD.getD i 0:Nat):Int)) u from by rw [hS]; exact sm_index);have HB0:=zY (below_new w (.cells (dV [0]).toArray 3));have HN0:=zY (Blk.new w 3 (dV [0]).toArray);have hst:SmL 0 [0]:=⟨by unfold Dg; decide,by decide,rfl,.inl rfl⟩;have HL0:=zY hst;clear hst;go_enter Tryz.func68,Tryz.ntmps68;go_wp2_with fail;rw [show (ByteArray.mk #[50,55,55,52,50,51,49,55,55,55,55,51,55,50,51,53,51,53,51,53,56,53,49,57,51,55,55,57,48,56,56,51,54,52,56,52,57,51])=S from hS.symm];clear hS
 have hst0:∃ (k:Nat) (l:List Nat) (A1:Option Addr) (c1:Nat),k≤38∧(Value.int .i64 0)=.int .i64 (k:Int)∧Value.slice (some ⟨w.heap.size,0,none⟩) 1 1=.slice A1 l.length c1∧SmL k l∧l.length≤c1∧Rd (w.alloc (.cells (dV [0]).toArray 3)) (w.alloc (.cells (dV [0]).toArray 3)).heap.size A1 (dV l)∧Below w.heap.size w (w.alloc (.cells (dV [0]).toArray 3)) :=
  ⟨0,[0],some ⟨w.heap.size,0,none⟩,1,by omega,rfl,rfl,HL0.out,Nat.le_refl _,Rd.of_blk HN0.out HN0.out.lt,HB0.out⟩
 have HST0:=zY hst0;clear hst0 HL0 HN0 HB0
 go_loopw [2,3] (fun v i wr=>∃ (k:Nat) (l:List Nat) (A1:Option Addr) (c1:Nat),k≤38∧i=.int .i64 (k:Int)∧v=.slice A1 l.length c1∧SmL k l∧l.length≤c1∧Rd wr wr.heap.size A1 (dV l)∧Below w.heap.size w wr) (fun _ i _=>38 - (intOf i).toNat)
 case atStart=>exact HST0.out
 case round =>
  clear HST0;obtain ⟨k,l,A1,c1,hk,rfl,rfl,hl,hlc,hrd,hbel⟩:=hrel;have hl16:=sm_len (by omega) hl.pos hl.val hl.top;obtain ⟨m,hm⟩:=eX (l.length);rw [← hm];have hm16:m≤16:=by omega
  have HRD:=zY hrd;have HBEL:=zY hbel;have HL:=zY hl;have HM:=zY hm;have HLC:=zY hlc;clear hl hlc hrd hbel
  by_cases hlt:k<38
  ·have hlt':(k:Int)<38:=by omega
   obtain ⟨d,hd⟩:=eX (smD.getD k 0);have hd10:d<10:=by rw [hd]; exact smD_lt k
   obtain ⟨ch,hch⟩:=eX (48+d);have hix:∀ u:World,(Instr.index 9 (.string S) (.int .i64 (k:Int))).run Tryz.prog u=.ok (.int .u8 (ch:Int)) u:=fun u=>by rw [hch,hd]; exact HIX.out k hlt u
   have hchd:(ch:Int) - 48=(d:Int):=by omega
   have hch1:(48:Int)≤(ch:Int):=by omega
   have hch2:(ch:Int)<58:=by omega
   obtain ⟨l1,hl1⟩:=eX (digN (m+1+1) (leV l*leV [10]));have h10:Dg [10]:=by unfold Dg; decide
   have hdd:Dg [d]:=fun x hx=>by simp at hx; omega
   have hl1v:leV l1=leV l*10:=by
    have h:=qdS HL.out.dg h10;rw [← hm] at h;rw [hl1]; exact h
   have hl1d:Dg l1:=by rw [hl1]; exact qaE _ _
   have hl1l:l1.length=m+2:=by rw [hl1,qai]
   obtain ⟨l2,hl2⟩:=eX (digN (max (m+2) 1+1) (leV l1+leV [d]))
   have hl2v:leV l2=smV (k+1):=by
    have h:=qdD hl1d hdd;rw [hl1l] at h;rw [hl2];refine h.trans ?_;rw [hl1v,HL.out.val,smV,← hd];simp [leV]
   have hl2d:Dg l2:=by rw [hl2]; exact qaE _ _
   have hl2l:l2.length=m+3:=by rw [hl2,qai]; omega
   have CT:=zY (show ∀ (u:World) A3 c3 A4 c4,Rd u u.heap.size A3 (dV l)→Rd u u.heap.size A4 (dV [10])→Calls Tryz.prog 74 #[.slice A3 m c3,.slice A4 1 c4] u (DigPost l1 u) from fun u A3 c3 A4 c4 h3 h4=>by
    have h:=qdT l [10] HL.out.dg h10 A3 A4 c3 c4 u h3 h4 (by omega) (by decide);rw [← hm] at h;rw [hl1]; exact h)
   have CP:=zY (show ∀ (u:World) A3 c3 A4 c4,Rd u u.heap.size A3 (dV l1)→Rd u u.heap.size A4 (dV [d])→Calls Tryz.prog 42 #[.slice A3 (m+2) c3,.slice A4 1 c4] u (DigPost l2 u) from fun u A3 c3 A4 c4 h3 h4=>by
    have h:=qcR l1 [d] hl1d hdd A3 A4 c3 c4 u h3 h4 (by omega) (by simp);rw [hl1l] at h;rw [hl2]; exact h)
   have HL1L:=zY hl1l;have HL2V:=zY hl2v;have HL2D:=zY hl2d;have HL2L:=zY hl2l;have HC0:Cs [.rd A1 (dV l)] w wr.drew:=⟨⟨HRD.out,trivial⟩,HBEL.out.drew⟩;clear hd hd10 hch hl1 h10 hdd hl1v hl1d hl1l hl2 hl2v hl2d hl2l hm;go_wp2_with fail
   refine qar (fun u=>Cs [.rd A1 (dV l)] w u) (fun | false=>(fun _=>True) | true=>(fun _=>True)) (fun | false,_=>false | true,_=>false)
    [fun z _=>z 0=.slice A1 m c1,
     fun z u=>(RdV 1 (dV [10])) (z 1) u,
     fun z u=>(RdV l1.length (dV l1)) (z 2) u,
     fun z _=>z 3=.string S,
     fun z _=>z 4=.int .i64 (k:Int),
     fun z _=>z 5=.int .u8 (ch:Int),
     fun z _=>z 6=.int .u8 (d:Int),
     fun z _=>z 7=.int .i64 (d:Int),
     fun z u=>(RdV 1 (dV [d])) (z 8) u,
     fun z u=>(RdV l2.length (dV l2)) (z 9) u,
     fun z u=>(RdV l2.length (dV l2)) (z 10) u]
    [Eq,fun u u'=>Below u.heap.size u u',fun u u'=>Below u.heap.size u u',Eq,Eq,Eq,Eq,Eq,fun u u'=>Below u.heap.size u u',fun u u'=>Below u.heap.size u u',Eq]
    (fun _ _=>false) [(0,some 11),(1,some 12),(2,some 13),(3,some 14),(4,some 15),(5,some 16),(6,some 17),(7,some 18),(8,some 19),(9,some 20),(10,some 2)] (by kernel_rfl) (by kernel_rfl) rfl (fun _=>rfl) ?_ ?_ ?_ ?_ ?_ ?_
   ·exact HC0
   ·intro m; cases m; exact trivial; exact trivial
   ·intro m; cases m
    ·refine ⟨?_,?_,?_,?_,?_,?_,?_,?_,?_,?_,?_,trivial⟩ <;> first | exact .inr fun _ _ h h0=>h▸h0 | exact .inr fun _ _ _ h=>h
    ·refine ⟨?_,?_,?_,?_,?_,?_,?_,?_,?_,?_,?_,trivial⟩ <;> first | exact .inr fun _ _ h h0=>h▸h0 | exact .inr fun _ _ _ h=>h
   ·refine ⟨⟨.inl rfl,?_,?_,?_,?_,?_,?_,?_,?_,?_,?_,trivial⟩,⟨?_,.inl rfl,?_,?_,?_,?_,?_,?_,.inr (.inr (.inr (fun _ _ _ _ h h0=>h0.next h))),?_,?_,trivial⟩,⟨?_,.inr (.inr (.inr (fun _ _ _ _ h h0=>h0.next h))),.inl rfl,?_,?_,?_,?_,?_,.inr (.inr (.inr (fun _ _ _ _ h h0=>h0.next h))),?_,?_,trivial⟩,⟨?_,?_,?_,.inl rfl,?_,?_,?_,?_,?_,?_,?_,trivial⟩,⟨?_,?_,?_,?_,.inl rfl,?_,?_,?_,?_,?_,?_,trivial⟩,⟨?_,?_,?_,?_,?_,.inl rfl,?_,?_,?_,?_,?_,trivial⟩,⟨?_,?_,?_,?_,?_,?_,.inl rfl,?_,?_,?_,?_,trivial⟩,⟨?_,?_,?_,?_,?_,?_,?_,.inl rfl,?_,?_,?_,trivial⟩,⟨?_,.inr (.inr (.inr (fun _ _ _ _ h h0=>h0.next h))),.inr (.inr (.inr (fun _ _ _ _ h h0=>h0.next h))),?_,?_,?_,?_,?_,.inl rfl,?_,?_,trivial⟩,⟨?_,.inr (.inr (.inr (fun _ _ _ _ h h0=>h0.next h))),.inr (.inr (.inr (fun _ _ _ _ h h0=>h0.next h))),?_,?_,?_,?_,?_,.inr (.inr (.inr (fun _ _ _ _ h h0=>h0.next h))),.inl rfl,?_,trivial⟩,⟨?_,?_,?_,?_,?_,?_,?_,?_,?_,?_,.inl rfl,trivial⟩,trivial⟩ <;> first | exact .inr (.inr (.inl rfl)) | exact .inr (.inr (.inr fun _ _ _ _ _ h=>h)) | exact .inr (.inr (.inr fun _ _ _ _ h h0=>by cases h; exact h0))
   ·refine ⟨?_,?_,?_,?_,?_,?_,?_,?_,?_,?_,?_,trivial⟩
    ·refine qac [] (fun _=>rfl) rfl ?_;intro w1 vals hC1 hi0 hf E hE;clear hi0;clear hf;simp only [sP] at hE ⊢;go_wp2;exact .mk (hE _ _ rfl hC1 rfl)
    ·refine qac [] (fun _=>rfl) rfl ?_;intro w1 vals hC1 hi0 hf E hE;clear hi0;clear hf;simp only [sP] at hE ⊢;go_wp2;have hnew:=Blk.new w1 3 (dV [10]).toArray;exact .mk (hE _ _ ⟨_,1,rfl,Nat.le_refl _,Rd.of_blk hnew hnew.lt⟩ (hC1.next (below_new _ _)) (below_new _ _))
    ·refine qac [(0,some 11),(1,some 12)] (fun _=>rfl) rfl ?_;intro w1 vals hC1 hi0 hf E hE;clear hi0;have f0:vals 0=_:=hf 0 rfl;have f1:(RdV 1 (dV [10])) (vals 1) w1:=hf 1 rfl
     try dsimp only at f0 f1
     clear hf;obtain ⟨A4,c4,hx4,hc4,hr4⟩:=f1;simp only [sP,f0,hx4] at hE ⊢;clear f0;clear hx4;go_wp2_with fail;refine qaa (CT.out _ _ _ _ _ (hC1.1.1) hr4) ?_;rintro e w2 ⟨A5,c5,rfl,hc5,hr5,hb5⟩;go_wp2_with fail;exact .mk (hE _ _ ⟨A5,c5,rfl,hc5,hr5⟩ (hC1.next hb5) hb5)
    ·refine qac [] (fun _=>rfl) rfl ?_;intro w1 vals hC1 hi0 hf E hE;clear hi0;clear hf;simp only [sP] at hE ⊢;go_wp2;exact .mk (hE _ _ rfl hC1 rfl)
    ·refine qac [] (fun _=>rfl) rfl ?_;intro w1 vals hC1 hi0 hf E hE;clear hi0;clear hf;simp only [sP] at hE ⊢;go_wp2;exact .mk (hE _ _ rfl hC1 rfl)
    ·refine qac [(3,some 14),(4,some 15)] (fun _=>rfl) rfl ?_;intro w1 vals hC1 hi0 hf E hE;clear hi0;have f3:vals 3=_:=hf 3 rfl;have f4:vals 4=_:=hf 4 rfl
     try dsimp only at f3 f4
     clear hf;simp only [sP,f3,f4] at hE ⊢;clear f3 f4;go_wp2;exact .mk (hE _ _ rfl hC1 rfl)
    ·refine qac [(5,some 16)] (fun _=>rfl) rfl ?_;intro w1 vals hC1 hi0 hf E hE;clear hi0;have f5:vals 5=_:=hf 5 rfl
     try dsimp only at f5
     clear hf;simp only [sP,f5] at hE ⊢;clear f5;go_wp2;exact .mk (hE _ _ rfl hC1 rfl)
    ·refine qac [(6,some 17)] (fun _=>rfl) rfl ?_;intro w1 vals hC1 hi0 hf E hE;clear hi0;have f6:vals 6=_:=hf 6 rfl
     try dsimp only at f6
     clear hf;simp only [sP,f6] at hE ⊢;clear f6;go_wp2;exact .mk (hE _ _ rfl hC1 rfl)
    ·refine qac [(7,some 18)] (fun _=>rfl) rfl ?_;intro w1 vals hC1 hi0 hf E hE;clear hi0;have f7:vals 7=_:=hf 7 rfl
     try dsimp only at f7
     clear hf;simp only [sP,f7] at hE ⊢;clear f7;go_wp2;have hnew:=Blk.new w1 3 (dV [d]).toArray;exact .mk (hE _ _ ⟨_,1,rfl,Nat.le_refl _,Rd.of_blk hnew hnew.lt⟩ (hC1.next (below_new _ _)) (below_new _ _))
    ·refine qac [(2,some 13),(8,some 19),(2,some 13)] (fun _=>rfl) rfl ?_;intro w1 vals hC1 hi0 hf E hE;clear hi0;have f2:(RdV l1.length (dV l1)) (vals 2) w1:=hf 2 rfl;have f8:(RdV 1 (dV [d])) (vals 8) w1:=hf 8 rfl
     try dsimp only at f2 f8
     clear hf;obtain ⟨A3,c3,hx3,hc3,hr3⟩:=f2;obtain ⟨A4,c4,hx4,hc4,hr4⟩:=f8;rw [HL1L.out] at hx3;simp only [sP,hx3,hx4] at hE ⊢;clear hx3 hx4;go_wp2_with fail;refine qaa (CP.out _ _ _ _ _ hr3 hr4) ?_;rintro e w2 ⟨A5,c5,rfl,hc5,hr5,hb5⟩;go_wp2_with fail;exact .mk (hE _ _ ⟨A5,c5,rfl,hc5,hr5⟩ (hC1.next hb5) hb5)
    ·refine qac [(9,some 20),(9,some 20),(0,some 11),(1,some 12),(2,some 13),(3,some 14),(4,some 15),(5,some 16),(6,some 17),(7,some 18),(8,some 19),(9,some 20)] (fun _=>rfl) rfl ?_;intro w1 vals hC1 hi0 hf E hE;clear hi0;have f0:vals 0=_:=hf 0 rfl;have f1:(RdV 1 (dV [10])) (vals 1) w1:=hf 1 rfl;have f2:(RdV l1.length (dV l1)) (vals 2) w1:=hf 2 rfl;have f3:vals 3=_:=hf 3 rfl;have f4:vals 4=_:=hf 4 rfl;have f5:vals 5=_:=hf 5 rfl;have f6:vals 6=_:=hf 6 rfl;have f7:vals 7=_:=hf 7 rfl;have f8:(RdV 1 (dV [d])) (vals 8) w1:=hf 8 rfl;have f9:(RdV l2.length (dV l2)) (vals 9) w1:=hf 9 rfl
     try dsimp only at f0 f1 f2 f3 f4 f5 f6 f7 f8 f9
     clear hf;obtain ⟨A4,c4,hx4,hc4,hr4⟩:=f9;simp only [sP,f0,f3,f4,f5,f6,f7,hx4] at hE ⊢;clear f0 f3 f4 f5 f6 f7;clear hx4;go_wp2;exact .mk (hE _ _ ⟨A4,c4,rfl,hc4,hr4⟩ hC1 rfl)
   intro w1 vals hC1 hf;have f0:vals 0=_:=hf 0 (by decide) rfl;have f1:(RdV 1 (dV [10])) (vals 1) w1:=hf 1 (by decide) rfl;have f2:(RdV l1.length (dV l1)) (vals 2) w1:=hf 2 (by decide) rfl;have f3:vals 3=_:=hf 3 (by decide) rfl;have f4:vals 4=_:=hf 4 (by decide) rfl;have f5:vals 5=_:=hf 5 (by decide) rfl;have f6:vals 6=_:=hf 6 (by decide) rfl;have f7:vals 7=_:=hf 7 (by decide) rfl;have f8:(RdV 1 (dV [d])) (vals 8) w1:=hf 8 (by decide) rfl;have f9:(RdV l2.length (dV l2)) (vals 9) w1:=hf 9 (by decide) rfl;have f10:(RdV l2.length (dV l2)) (vals 10) w1:=hf 10 (by decide) rfl
   try dsimp only at f0 f1 f2 f3 f4 f5 f6 f7 f8 f9 f10
   clear hf;simp only [sP,f0,f3,f4,f5,f6,f7];clear f0 f3 f4 f5 f6 f7;generalize vals 1=x1 at *;generalize vals 2=x2 at *;generalize vals 8=x8 at *;generalize vals 9=x9 at *;generalize vals 10=x10 at *;obtain ⟨A5,c5,rfl,hc5,hr5⟩:=f10;obtain ⟨q,hq⟩:=eX (l2.length);rw [← hq];have hqm:q=m+3:=by rw [hq]; exact HL2L.out
   have hq63:(q:Int)≤1000:=by omega
   have hqc:(q:Int)≤(c5:Int):=by omega
   have HQ:=zY hq;have HR5:=zY hr5;have HB5:=zY hC1.2;have HST:=zY (show ∃ p:Nat,1≤p∧p≤q∧Value.slice A5 q c5=.slice A5 p c5∧leV (l2.take p)=leV l2 from ⟨q,by omega,Nat.le_refl _,rfl,qbH _ _ (by rw [hq]; exact Nat.le_refl _)⟩);clear hq hr5 hC1 HC0 hc5 hix hchd hch1 hch2 CT CP HL1L hqm;go_wp2_with fail
   go_loop [2] (fun v=>∃ p:Nat,1≤p∧p≤q∧v=.slice A5 p c5∧leV (l2.take p)=leV l2) (fun v=>lenF v)
   case atStart=>exact HST.out
   case round =>
    clear HST;obtain ⟨p,hp1,hpq,rfl,hin⟩:=hrel
    have hnew:∀ ad,A5=some ad→p≤c5→(p=1∨l2.getD (p - 1) 0≠0)→∃ (k':Nat) (l:List Nat) (A1:Option Addr) (c1:Nat),k'≤38∧(Value.int .i64 ((k:Int)+1))=.int .i64 (k':Int)∧Value.slice (some ad) p c5=.slice A1 l.length c1∧SmL k' l∧l.length≤c1∧Rd w1 w1.heap.size A1 (dV l)∧Below w.heap.size w w1:=fun ad had hpc ht=>by
     have hlen:(l2.take p).length=p:=by rw [List.length_take,Nat.min_eq_left (by rw [← HQ.out]; exact hpq)]
     refine ⟨k+1,l2.take p,A5,c5,by omega,by simp,by rw [had,hlen],⟨qeq HL2D.out p,by omega,by rw [hin]; exact HL2V.out,?_⟩,by rw [hlen]; exact hpc,rd_digs HR5.out,HB5.out⟩;rw [hlen]
     rcases ht with h | h
     ·exact .inl h
     ·right
      rw [List.getD_eq_getElem?_getD,List.getElem?_take,if_pos (by omega),← List.getD_eq_getElem?_getD];exact h
    have HNEW:=zY hnew;clear hnew;have hpq2:(p:Int)≤(q:Int):=by omega
    obtain ⟨r,hr⟩:∃ r,p=r+1:=⟨p - 1,by omega⟩;obtain ⟨ad,rfl,hcell⟩:=qa4 HR5.out (k:=r) (by rw [← HQ.out]; omega)
    by_cases h1:1<p
    ·have h1':(p:Int) > 1:=by omega
     have hri:(p:Int) - 1=(r:Int):=by omega
     have hrp:(r:Int)<(p:Int):=by omega
     obtain ⟨x,hx⟩:=eX (l2.getD r 0);rw [← hx] at hcell
     by_cases hx0:x=0
     ·subst hx0
      have hnext:leV (l2.take r)=leV l2:=by
       rw [← hin,hr,qaI,← hx]; simp
      have HNEXT:=zY hnext;have HRR:=zY hr;have HP:=zY (show 1≤r∧r≤q by omega);clear hnext hx hin hr hp1 hpq h1;go_wp2_with fail;exact ⟨⟨r,HP.out.1,HP.out.2,rfl,HNEXT.out⟩,by have:=HRR.out; simp [lenF]; omega⟩
     ·have hx0':¬ (x:Int)=0:=by omega
      have HN:=zY (HNEW.out ad rfl (by omega) (.inr (by rw [hr,Nat.add_sub_cancel,← hx]; exact hx0)));clear hx0 hx hr hin hp1 hpq h1 HNEW;go_wp2_with fail;exact ⟨HN.out,by simp [intOf]; omega⟩
    ·obtain rfl:p=1:=by omega
     have HN:=zY (HNEW.out ad rfl (by omega) (.inl rfl));clear hr hin hp1 hpq h1 HNEW hcell;go_wp2_with fail;exact ⟨HN.out,by simp [intOf]; omega⟩
  ·obtain rfl:k=38:=by omega
   clear hk hlt;rw [hm];go_wp2_with fail;go_ret;exact ⟨l,A1,c1,rfl,HL.out,HLC.out,HRD.out,HBEL.out⟩
def LN:Nat:=7237005577332262213973186563042994240857116359379907606001950938285454250989
def oL (l:List Nat) (j:Nat):List Nat:=l.take j++(List.replicate (31 - j) 0++[16])
theorem oL_len {l:List Nat} {j:Nat} (h:j≤l.length) (h2:j≤16):(oL l j).length=32:=by
 rw [oL,List.length_append,List.length_append,List.length_take,List.length_replicate,List.length_singleton]; omega
theorem oL_at {l:List Nat} {j:Nat} (h:j≤l.length) (h2:j≤16):(oL l j)[j]?=some 0:=by
 rw [oL,List.getElem?_append_right (by rw [List.length_take]; omega),List.length_take,Nat.min_eq_left h,Nat.sub_self,List.getElem?_append_left (by rw [List.length_replicate]; omega),List.getElem?_replicate,if_pos (by omega)]
theorem oL_set {l:List Nat} {j:Nat} (h:j<l.length) (h2:j<16):(oL l j).set j l[j]=oL l (j+1):=by
 rw [oL,List.set_append_right _ _ (by rw [List.length_take]; omega),List.length_take,Nat.min_eq_left (by omega),Nat.sub_self];have e:List.replicate (31 - j) 0=0 :: List.replicate (31 - (j+1)) 0:=by rw [← List.replicate_succ]; congr 1; omega
 rw [e,List.cons_append,List.set_cons_zero,oL,List.take_succ_eq_append_getElem h,List.append_assoc];rfl
theorem oL_zero (l:List Nat):((List.replicate 32 0).set 31 16)=oL l 0:=by rw [oL,List.take_zero]; rfl
theorem small_first:27742317777372353535851937790883648493%256=237:=by decide
theorem oL_dn {l:List Nat} (h:SmL 38 l) (h16:l.length≤16):oL l l.length=digN 32 LN:=by
 refine qcb ?_ (oL_len (Nat.le_refl _) h16) ?_
 ·rw [oL,List.take_length];intro x hx
  rcases List.mem_append.1 hx with hx | hx
  ·exact h.dg x hx
  ·rcases List.mem_append.1 hx with hx | hx
   ·rw [List.eq_of_mem_replicate hx]; decide
   ·rw [List.mem_singleton.1 hx]; decide
 ·rw [oL,List.take_length,qa9,qa9,qbm,h.val,smV_end,List.length_replicate,Nat.zero_add,← Nat.mul_assoc,← Nat.pow_add,show l.length+(31 - l.length)=31 by omega]
  decide
theorem Rd.wrote_ne {w w':World} {B g:Nat} {ad:Addr} {xs:List Value} (h:Rd w B (some ad) xs) (hw:Wrote g w w') (hB:B≤w.heap.size) (hne:ad.block≠g):Rd w' B (some ad) xs:=fun i u hi=>by
 obtain ⟨a2,ha,hlt,hc⟩:=h i u hi
 injection ha with ha
 subst ha;refine ⟨ad,rfl,hlt,?_⟩;have e:w'.heap[ad.block]?=w.heap[ad.block]?:=hw.grown.block ad.block (Nat.lt_of_lt_of_le hlt hB) (by simpa using hne);unfold World.cell? at hc ⊢;rw [qbd] at hc ⊢;rw [e]; exact hc
structure LS (w0:World) (o:Nat) (l:List Nat) (ad:Addr) (j:Nat) (u:World):Prop where
 bel:Below w0.heap.size w0 u
 out:Blk u o 3 (dV (oL l j)).toArray
 s:Rd u u.heap.size (some ad) (dV l)
theorem LS.drew {w0 u:World} {o:Nat} {l:List Nat} {ad:Addr} {j:Nat} (k:LS w0 o l ad j u):LS w0 o l ad j u.drew:=⟨k.bel.drew,k.out,k.s⟩
theorem rl_any (w:World):Calls Tryz.prog 33 #[] w (DigPost (digN 32 LN) w):=by
 have hmk:∀ u:World,(Instr.makeSlice 30 (.int .i64 32) (.int .i64 32)).run Tryz.prog u=.ok (.slice (some ⟨u.heap.size,0,none⟩) 32 32) (u.alloc (.cells (dV (List.replicate 32 0)).toArray 3)):=fun _=>by kernel_rfl
 have hst0:=qcm (List.replicate 32 0) (Below.refl w.heap.size w);have HST0:=zY hst0;clear hst0;go_enter Tryz.func33,Tryz.ntmps33;go_wp2_with (refine qam (x:=.tmp 6) (i:=31) (v:=.int .i64 16) HST0.out.out rfl rfl rfl rfl qaS (by rw [qbf]; decide) rfl ?_; intro w1 hb1 hw1; have HST1:=zY (HST0.out.put (l':=oL [] 0) hw1 (by rw [show (Value.int IntKind.i64 16)=.int .i64 ((16:Nat):Int) from rfl,qaY,oL_zero []] at hb1; exact hb1)); clear hb1 hw1 HST0);generalize ho:w.heap.size=o at HST1 ⊢;have HO:=zY ho;clear ho hmk;refine qaa (small_any _) ?_;rintro e w2 ⟨l,A,c,rfl,hl,hlc,hrd,hb⟩;have hst2:=HST1.out.next hb;have hl16:=sm_len (by omega) hl.pos hl.val hl.top;obtain ⟨ad,rfl,hcell⟩:=qa4 hrd (k:=0) hl.pos
 have h237:l.getD 0 0=237:=by
  have h:=qc0 l hl.dg 0;rw [hl.val,smV_end,Nat.pow_zero,Nat.div_one,small_first] at h;exact h.symm
 have hne:ad.block≠o:=by
  intro e;rw [h237] at hcell;unfold World.cell? at hcell;rw [qbd,e,show w2.heap[o]?=_ from hst2.out] at hcell
  by_cases hs:(ad.add 0).spot.isSome=true
  ·simp [hs] at hcell
  ·simp only [hs,if_false] at hcell;have hm:=List.mem_of_getElem? (by rw [List.getElem?_toArray] at hcell; exact hcell);obtain ⟨n,hn,e2⟩:=List.mem_map.1 (show _ ∈ (oL [] 0).map numV from hm)
   have e3:n=237:=by
    simp only [numV,Value.int.injEq,true_and] at e2;omega
   rw [e3,oL,List.take_nil] at hn
   revert hn
   decide
 have hst:LS w o l ad 0 w2:=⟨hst2.bel,by have h:=hst2.out; rwa [show oL [] 0=oL l 0 from rfl] at h,hrd⟩;obtain ⟨m,hm⟩:=eX (l.length);rw [← hm];have hm16:(m:Int)≤16:=by omega
 have HS:=zY hst;have HL:=zY hl;have HM:=zY hm;have HNE:=zY hne;have H16:=zY hl16;clear hst hst2 hl hlc hrd hb hcell h237 hne hm hl16 HST1;go_wp2_with fail
 go_loopw [3] (fun i wr=>∃ j:Nat,j≤m∧i=.int .i64 j∧LS w o l ad j wr) (fun i _=>m - (intOf i).toNat)
 case atStart=>exact ⟨0,by omega,rfl,HS.out⟩
 case round =>
  clear HS;obtain ⟨j,hj,rfl,hst⟩:=hrel;have HS:=zY hst;clear hst
  by_cases hlt:j<m
  ·have hlt':(j:Int)<(m:Int):=by omega
   have hj32:(j:Int)<32:=by omega
   obtain ⟨x,hx⟩:=eX (l.getD j 0);have hjl:j<l.length:=by rw [← HM.out]; exact hlt
   have hxe:l[j]=x:=by rw [hx,List.getD_eq_getElem?_getD,List.getElem?_eq_getElem hjl]; rfl
   have hx256:(x:Int)<256:=by
    have:=HL.out.dg l[j] (List.getElem_mem hjl);omega
   have hset:(oL l j).set j x=oL l (j+1):=by rw [← hxe]; exact oL_set hjl (by omega)
   have hol:(oL l j).length=32:=oL_len (by omega) (by omega)
   have h0:(dV (oL l j)).toArray[j]?=some (.int .i64 0):=by
    rw [List.getElem?_toArray,dV,List.getElem?_map,oL_at (by omega) (by omega)]; rfl
   have HSET:=zY hset;have HOL:=zY hol;have H0:=zY h0;have HJL:=zY hjl;have HXE:=zY hxe;clear hset hol h0 hx;go_wp2_with fail;have HC0:=HS.out.drew;refine qal (fun u=>LS w o l ad j u) (fun u=>LS w o l ad (j+1) u) [(0,some 14),(1,some 15),(2,some 16),(3,some 17),(4,some 18),(5,some 19),(6,some 20),(7,some 21),(8,some 22),(9,some 23),(10,some 24),(11,some 25),(12,none)] (by kernel_rfl) (by kernel_rfl) (by decide) (by kernel_rfl) (fun _=>rfl) HC0 ?_;apply yN_
   ·apply dP [];exact fun _=>rfl;rfl;rintro vals - w1 hC1 E hE;simp only [sP] at hE ⊢;go_wp2;exact .mk (hE _ hC1)
   apply yN_
   ·apply dP [];exact fun _=>rfl;rfl;rintro vals ⟨-,-⟩ w1 hC1 E hE;simp only [sP] at hE ⊢;go_wp2;exact .mk (hE _ hC1)
   apply yN_
   ·apply dP [];exact fun _=>rfl;rfl;intro vals vq w1 hC1 E hE;clear vq;simp only [sP] at hE ⊢;go_wp2;exact .mk (hE _ hC1)
   apply yN_
   ·apply dP [];exact fun _=>rfl;rfl;intro vals vq w1 hC1 E hE;clear vq;simp only [sP] at hE ⊢;go_wp2;exact .mk (hE _ hC1)
   apply yN_
   ·apply dP [(2,some 16),(3,some 17)];exact fun _=>rfl;rfl;intro vals vq w1 hC1 E hE;simp only [sP,vq] at hE ⊢;clear vq;go_wp2;exact .mk (hE _ hC1)
   apply yN_
   ·apply dP [(4,some 18)];exact fun _=>rfl;rfl;intro vals vq w1 hC1 E hE;have d0:=hC1.out.cell j;rw [H0.out] at d0;simp only [sP,vq] at hE ⊢;clear vq;go_wp2;exact .mk (hE _ hC1)
   apply yN_
   ·apply dP [];exact fun _=>rfl;rfl;intro vals vq w1 hC1 E hE;clear vq;simp only [sP] at hE ⊢;go_wp2;exact .mk (hE _ hC1)
   apply yN_
   ·apply dP [];exact fun _=>rfl;rfl;intro vals vq w1 hC1 E hE;clear vq;simp only [sP] at hE ⊢;go_wp2;exact .mk (hE _ hC1)
   apply yN_
   ·apply dP [(6,some 20),(7,some 21)];exact fun _=>rfl;rfl;intro vals vq w1 hC1 E hE;simp only [sP,vq] at hE ⊢;clear vq;go_wp2;exact .mk (hE _ hC1)
   apply yN_
   ·apply dP [(8,some 22)];exact fun _=>rfl;rfl;intro vals vq w1 hC1 E hE;have d0:=hC1.s.atc (k:=j) (by rw [qbq]; exact HJL.out);rw [dV_at HJL.out,HXE.out] at d0;simp only [sP,vq] at hE ⊢;clear vq;go_wp2;exact .mk (hE _ hC1)
   apply yN_
   ·apply dP [(5,some 19),(9,some 23)];exact fun _=>rfl;rfl;intro vals vq w1 hC1 E hE;simp only [sP,vq] at hE ⊢;clear vq;go_wp2;exact .mk (hE _ hC1)
   apply yN_
   ·apply dP [(0,some 14),(1,some 15),(0,some 14),(1,some 15),(2,some 16),(3,some 17),(4,some 18),(5,some 19),(6,some 20),(7,some 21),(8,some 22),(9,some 23),(10,some 24)];exact fun _=>rfl;rfl;intro vals vq w1 hC1 E hE;simp only [sP,vq] at hE ⊢;clear vq;go_wp2;exact .mk (hE _ hC1)
   apply yL_ (v:=undef)
   ·apply dP [(11,some 25),(10,some 24),(0,some 14),(1,some 15),(2,some 16),(3,some 17),(4,some 18),(5,some 19),(6,some 20),(7,some 21),(8,some 22),(9,some 23),(10,some 24)];exact fun _=>rfl;rfl;intro vals vq w1 hC1 E hE;simp only [sP,vq] at hE ⊢;clear vq;refine qam (i:=j) (v:=.int .i64 (x:Int)) hC1.out rfl rfl rfl rfl qaS (by rw [qbf,HOL.out]; omega) rfl ?_;intro w6 hb6 hw6;have HB6:=zY hb6;have HW6:=zY hw6;clear hb6 hw6;go_wp2_with fail;exact .mk (hE _ ⟨HW6.out.below hC1.bel (Nat.le_of_eq HO.out) hC1.bel.size,by have h:=HB6.out; rwa [qaY,HSET.out] at h,by have h:=hC1.s.wrote_ne HW6.out (Nat.le_refl _) HNE.out; rwa [← HW6.out.size] at h⟩)
   intro vals vq w1 hC1;simp only [sP,vq];clear vq;have HS1:=zY hC1;clear hC1 HC0 HS;go_wp2_with fail;exact ⟨⟨j+1,by omega,by go_num,HS1.out⟩,by simp [intOf]; omega⟩
  ·obtain rfl:j=m:=by omega
   go_wp2_with fail;go_ret;have h:=HS.out.out;rw [HM.out,oL_dn HL.out H16.out] at h;exact ⟨some ⟨o,0,none⟩,32,by rw [qai]; rfl,by rw [qai]; exact Nat.le_refl _,Rd.of_blk h h.lt,HS.out.bel⟩
def vI:List Int→Int
 | []=>0
 | x :: r=>x+256*vI r
theorem qdR:∀ (l:List Int) (j:Nat) (v:Int),j<l.length→vI (l.set j v)=vI l+(v - l.getD j 0)*256^j
 | [],_,_,h=>absurd h (Nat.not_lt_zero _)
 | x :: r,0,v,_=>by simp [vI]; omega
 | x :: r,j+1,v,h=>by
  have ih:=qdR r j v (by simpa using h);show x+256*vI (r.set j v)=x+256*vI r+(v - (x :: r).getD (j+1) 0)*256^(j+1);rw [ih,show (x :: r).getD (j+1) 0=r.getD j 0 by simp,Int.pow_succ];generalize v - r.getD j 0=t;generalize (256:Int)^j=p
  grind
theorem getD_set_same {l:List Int} {j:Nat} (v:Int) (h:j<l.length):(l.set j v).getD j 0=v:=by
 rw [List.getD_eq_getElem?_getD,List.getElem?_set_self h]; rfl
theorem getD_set_ne {l:List Int} {j m:Nat} (v:Int) (h:j≠m):(l.set j v).getD m 0=l.getD m 0:=by
 rw [List.getD_eq_getElem?_getD,List.getElem?_set_ne h,← List.getD_eq_getElem?_getD]
def odL:List Int:=[237,211,245,92,26,99,18,88,214,156,247,162,222,249,222,20,0,0,0,0,0,0,0,0,0,0,0,0,0,0,0,16]
theorem od_lt:∀ k,0≤odL.getD k 0∧odL.getD k 0≤255:=fun k=>by
 by_cases h:k<32
 ·revert k; decide
 ·rw [List.getD_eq_getElem?_getD,List.getElem?_eq_none (by simp [odL]; omega)]; decide
theorem od_zero':∀ k,k<31→16≤k→odL.getD k 0=0:=by decide
theorem od_zero (k:Nat) (h:16≤k) (h2:k<31):odL.getD k 0=0:=od_zero' k h2 h
def lowV:Nat→Int
 | 0=>0
 | k+1=>lowV k+odL.getD k 0*256^k
theorem low_end:16*lowV 20+256^32=16*(LN:Int):=by decide
theorem od_sum:lowV 32=(LN:Int):=by decide
def inS (X:List Int) (j:Nat) (y c:Int):List Int × Int :=
 (X.set j (X.getD j 0+(c - y) - (X.getD j 0+(c - y)+128)/256*256),(X.getD j 0+(c - y)+128)/256)
def inL (X:List Int) (i:Nat):Nat→List Int × Int
 | 0=>(X,0)
 | k+1=>inS (inL X i k).1 (i - 32+k) (16*X.getD i 0*odL.getD k 0) (inL X i k).2
def outS (X:List Int) (i:Nat):List Int:=((inL X i 20).1.set (i - 12) ((inL X i 20).1.getD (i - 12) 0+(inL X i 20).2)).set i 0
def ph1 (X:List Int):Nat→List Int
 | 0=>X
 | n+1=>outS (ph1 X n) (63 - n)
def cB (s:Bool) (k:Nat):Int:=if k≤16 then 268435456 else if k=17 then 2097152 else if s then (if k=18 then 8194 else if k=19 then 34 else 1) else 65536
structure In (X:List Int) (i k:Nat) (s:Bool):Prop where
 len:(inL X i k).1.length=64
 out:∀ j,j<i - 32∨i - 32+k≤j→(inL X i k).1.getD j 0=X.getD j 0
 norm:∀ j,i - 32≤j→j<i - 32+k→-128≤(inL X i k).1.getD j 0∧(inL X i k).1.getD j 0≤127
 car:-cB s k≤(inL X i k).2∧(inL X i k).2≤cB s k
 val:vI (inL X i k).1+(inL X i k).2*256^(i - 32+k)=vI X - 16*X.getD i 0*256^(i - 32)*lowV k
structure Pre (X:List Int) (i:Nat) (s:Bool):Prop where
 len:X.length=64
 big:∀ j,-8388608≤X.getD j 0∧X.getD j 0≤8388608
 sml:s=true→∀ j,i - 31≤j→j≤i - 12→-128≤X.getD j 0∧X.getD j 0≤127
theorem prod_bound {x o:Int} (h:-8388608≤x∧x≤8388608) (k:0≤o∧o≤255):-34225520640≤16*x*o∧16*x*o≤34225520640:=by
 obtain ⟨h1,h2⟩:=h;obtain ⟨k1,k2⟩:=k;have a1:16*x*o≤134217728*o:=Int.mul_le_mul_of_nonneg_right (by omega) k1;have a2:-134217728*o≤16*x*o:=Int.mul_le_mul_of_nonneg_right (by omega) k1;omega
theorem in_step {X:List Int} {i k:Nat} {s:Bool} (hi:32≤i) (hi2:i≤63) (hk:k<20) (P:Pre X i s) (h:In X i k s):In X i (k+1) s:=by
 obtain ⟨hl,ho,hn,hc,hv⟩:=h;have hj:(inL X i k).1.getD (i - 32+k) 0=X.getD (i - 32+k) 0:=ho _ (.inr (Nat.le_refl _));have hb:=P.big (i - 32+k);have hp:=prod_bound (P.big i) (od_lt k);obtain ⟨Y,hY⟩:=eX ((inL X i k).1);obtain ⟨c,hcc⟩:=eX ((inL X i k).2);obtain ⟨y,hy⟩:=eX (16*X.getD i 0*odL.getD k 0);obtain ⟨r,hr⟩:=eX (Y.getD (i - 32+k) 0+(c - y));have hE:inL X i (k+1)=(Y.set (i - 32+k) (r - (r+128)/256*256),(r+128)/256):=by rw [hr,hY,hcc,hy]; rfl
 have hjl:i - 32+k<Y.length:=by rw [hY,hl]; omega
 rw [← hY] at hl ho hn hv hj;rw [← hcc] at hc hv;rw [← hy] at hp;have hrv:r=X.getD (i - 32+k) 0+(c - y):=by rw [hr,hj]
 constructor
 ·rw [hE,List.length_set]; exact hl
 ·intro j h;rw [hE,getD_set_ne _ (by omega)];exact ho j (by omega)
 ·intro j h1 h2;rw [hE]
  by_cases hjj:j=i - 32+k
  ·subst hjj;rw [getD_set_same _ hjl];omega
  ·rw [getD_set_ne _ (by omega)];exact hn j h1 (by omega)
 ·rw [hE];show -cB s (k+1)≤(r+128)/256∧(r+128)/256≤cB s (k+1)
  by_cases h16:k<16
  ·have e1:cB s k=268435456:=by rw [cB,if_pos (by omega)]
   have e2:cB s (k+1)=268435456:=by rw [cB,if_pos (by omega)]
   rw [e1] at hc;rw [e2];omega
  ·have hz:y=0:=by rw [hy,od_zero k (by omega) (by omega),Int.mul_zero]
   rw [hz] at hrv;have hs:s=true→k≠16∨True→-128≤X.getD (i - 32+k) 0∧X.getD (i - 32+k) 0≤127:=fun h _=>P.sml h _ (by omega) (by omega);have hk4:k=16∨k=17∨k=18∨k=19:=by omega
   cases s
   ·rcases hk4 with rfl | rfl | rfl | rfl <;> simp [cB] at hc ⊢ <;> omega
   ·have hs2:=hs rfl (.inr trivial)
    rcases hk4 with rfl | rfl | rfl | rfl <;> simp [cB] at hc ⊢ <;> omega
 ·rw [hE,qdR _ _ _ hjl];show vI Y+(r - (r+128)/256*256 - Y.getD (i - 32+k) 0)*256^(i - 32+k)+(r+128)/256*256^(i - 32+k+1)=_;rw [lowV,Int.mul_add,← Int.sub_sub,← hv,hr,hy,Int.pow_add (256:Int) (i - 32) k,Int.pow_succ,Int.pow_add];generalize (Y.getD (i - 32+k) 0+(c - 16*X.getD i 0*odL.getD k 0)+128)/256=q;generalize Y.getD (i - 32+k) 0=a;generalize (256:Int)^(i - 32)=p;generalize (256:Int)^k=t;generalize X.getD i 0=x;generalize odL.getD k 0=o
  grind
theorem in_all {X:List Int} {i:Nat} {s:Bool} (hi:32≤i) (hi2:i≤63) (P:Pre X i s):∀ k,k≤20→In X i k s
 | 0,_=>⟨P.len,fun _ _=>rfl,fun j h1 h2=>by omega,by simp [inL,cB],by simp [inL,lowV]⟩
 | k+1,h=>in_step hi hi2 (by omega) P (in_all hi hi2 P k (by omega))
structure Aft (X:List Int) (i:Nat):Prop where
 len:X.length=64
 big:∀ j,-8388608≤X.getD j 0∧X.getD j 0≤8388608
 top:∀ j,i<j→X.getD j 0=0
 low:i≤62→∀ j,i - 31≤j→j≤i - 12→-128≤X.getD j 0∧X.getD j 0≤127
 mid:i≤62→∀ j,i - 12<j→j≤50→-129≤X.getD j 0∧X.getD j 0≤129
theorem fin_alg {Y X c t x p w m L a:Int} (hv:Y+c*t=X - 16*x*p*w) (e3:16*w+m=16*L):Y+(a+c - a)*t+(0 - x)*(p*m)=X - 16*x*p*L:=by grind
theorem out_step {X:List Int} {i:Nat} (hi:32≤i) (hi2:i≤63) (A:Aft X i) (h51:i=63→∀ j,-4194304≤X.getD j 0∧X.getD j 0≤4194304) :
  Aft (outS X i) (i - 1)∧∃ q:Int,vI (outS X i)=vI X - q*(LN:Int):=by
 obtain ⟨s,hs⟩:=eX (decide (i≤62));have P:Pre X i s:=⟨A.len,A.big,fun h=>A.low (by rw [hs] at h; exact of_decide_eq_true h)⟩;have I:=in_all hi hi2 P 20 (Nat.le_refl _);obtain ⟨Y,hY⟩:=eX ((inL X i 20).1);obtain ⟨c,hcc⟩:=eX ((inL X i 20).2);obtain ⟨hl,ho,hn,hc,hv⟩:=I;have hE:outS X i=(Y.set (i - 12) (Y.getD (i - 12) 0+c)).set i 0:=by rw [outS,hY,hcc]
 rw [← hY] at hl ho hn hv;rw [← hcc] at hc hv;have h12:Y.getD (i - 12) 0=X.getD (i - 12) 0:=ho _ (.inr (by omega));have hxi:Y.getD i 0=X.getD i 0:=ho _ (.inr (by omega));have hl1:i - 12<Y.length:=by rw [hl]; omega
 have hl2:i<(Y.set (i - 12) (Y.getD (i - 12) 0+c)).length:=by rw [List.length_set,hl]; omega
 have hat:∀ j,(outS X i).getD j 0=if j=i then 0 else if j=i - 12 then X.getD (i - 12) 0+c else Y.getD j 0:=fun j=>by
  rw [hE]
  by_cases h1:j=i
  ·subst h1; rw [if_pos rfl,getD_set_same _ hl2]
  ·rw [if_neg h1,getD_set_ne _ (by omega)]
   by_cases h2:j=i - 12
   ·subst h2; rw [if_pos rfl,getD_set_same _ hl1,h12]
   ·rw [if_neg h2,getD_set_ne _ (by omega)]
 have hcar:(i≤62→-1≤c∧c≤1)∧-65536≤c∧c≤65536:=by
  rw [hs] at hc
  by_cases h:i≤62
  ·rw [decide_eq_true h] at hc;simp [cB] at hc;omega
  ·rw [decide_eq_false h] at hc;simp [cB] at hc;omega
 have hY':∀ j,(i - 32≤j∧j<i - 12→-128≤Y.getD j 0∧Y.getD j 0≤127)∧(j<i - 32∨i - 12≤j→Y.getD j 0=X.getD j 0):=fun j =>
  ⟨fun h=>hn j h.1 (by omega),fun h=>ho j (by omega)⟩
 refine ⟨⟨by rw [hE,List.length_set,List.length_set]; exact hl,fun j=>?_,fun j hj=>?_,fun _ j h1 h2=>?_,fun _ j h1 h2=>?_⟩,16*X.getD i 0*256^(i - 32),?_⟩
 ·rw [hat];have hb:=A.big j;have hy:=hY' j;have hb12:=A.big (i - 12)
  split
  ·omega
  ·split
   ·by_cases h62:i≤62
    ·have:=A.low h62 (i - 12) (by omega) (Nat.le_refl _);have:=hcar.1 h62;omega
    ·have:=h51 (by omega) (i - 12);have:=hcar.2;omega
   ·by_cases h:i - 32≤j∧j<i - 12
    ·have:=hy.1 h; omega
    ·rw [hy.2 (by omega)]; exact hb
 ·rw [hat]
  by_cases h1:j=i
  ·rw [if_pos h1]
  ·rw [if_neg h1,if_neg (by omega),(hY' j).2 (by omega)];exact A.top j (by omega)
 ·rw [hat,if_neg (by omega),if_neg (by omega)];exact (hY' j).1 (by omega)
 ·rw [hat]
  by_cases h3:j=i
  ·rw [if_pos h3]; omega
  ·rw [if_neg h3]
   by_cases h4:j=i - 12
   ·rw [if_pos h4];have h62:i≤62:=by omega
    have:=A.low h62 (i - 12) (by omega) (Nat.le_refl _);have:=hcar.1 h62;omega
   ·rw [if_neg h4,(hY' j).2 (by omega)]
    by_cases h62:i≤62
    ·exact A.mid h62 j (by omega) h2
    ·omega
 ·rw [hE,qdR _ _ _ hl2,qdR _ _ _ hl1,getD_set_ne _ (by omega),hxi];have e1:i - 32+20=i - 12:=by omega
  rw [e1] at hv;have e2:(256:Int)^i=256^(i - 32)*256^32:=by rw [← Int.pow_add,Nat.sub_add_cancel hi]
  rw [e2];exact fin_alg hv low_end
theorem ph1_all {X:List Int} (hl:X.length=64) (hb:∀ j,-4194304≤X.getD j 0∧X.getD j 0≤4194304):∀ n,n≤32→Aft (ph1 X n) (63 - n)∧∃ q:Int,vI (ph1 X n)=vI X - q*(LN:Int)
 | 0,_=>⟨⟨hl,fun j=>(show -8388608≤X.getD j 0∧X.getD j 0≤8388608 by have:=hb j; omega),fun j hj=>by
   show X.getD j 0=0;rw [List.getD_eq_getElem?_getD,List.getElem?_eq_none (by omega)]; rfl,fun h=>by omega,fun h=>by omega⟩,0,by simp [ph1]⟩
 | n+1,h=>by
  obtain ⟨A,q,hq⟩:=ph1_all hl hb n (by omega)
  obtain ⟨B,r,hr⟩:=out_step (X:=ph1 X n) (i:=63 - n) (by omega) (by omega) A (fun h0=>by
   obtain rfl:n=0:=by omega
   exact hb)
  refine ⟨by rw [show 63 - (n+1)=63 - n - 1 by omega]; exact B,q+r,?_⟩;show vI (outS (ph1 X n) (63 - n))=_;rw [hr,hq];generalize (LN:Int)=L
  grind
theorem vI_zero:∀ (l:List Int),(∀ j,l.getD j 0=0)→vI l=0
 | [],_=>rfl
 | x :: r,h=>by
  have h0:x=0:=h 0;have ih:=vI_zero r fun j=>by have:=h (j+1); simpa using this
  rw [vI,h0,ih]; rfl
theorem vI_split:∀ (l:List Int) (k:Nat),vI l=vI (l.take k)+256^k*vI (l.drop k)
 | l,0=>by simp [vI]
 | [],k+1=>by simp [vI]
 | x :: r,k+1=>by
  have ih:=vI_split r k;rw [List.take_succ_cons,List.drop_succ_cons,vI,vI,ih,Int.pow_succ];generalize vI (r.take k)=a;generalize vI (r.drop k)=b;generalize (256:Int)^k=p
  grind
theorem vI_bound (lo hi:Int):∀ (l:List Int),(∀ j,j<l.length→lo≤l.getD j 0∧l.getD j 0≤hi)→lo*(256^l.length - 1)≤255*vI l∧255*vI l≤hi*(256^l.length - 1)
 | [],_=>by simp [vI]
 | x :: r,h=>by
  have h0:lo≤x∧x≤hi:=h 0 (by simp);have ih:=vI_bound lo hi r fun j hj=>by have:=h (j+1) (by simpa using hj); simpa using this
  rw [vI,List.length_cons,Int.pow_succ];generalize (256:Int)^r.length=p at *;generalize vI r=v at *;have e1:lo*(p*256 - 1)=256*(lo*(p - 1))+255*lo:=by grind
  have e2:hi*(p*256 - 1)=256*(hi*(p - 1))+255*hi:=by grind
  rw [e1,e2];omega
theorem getD_take {l:List Int} {k j:Nat} (h:j<k):(l.take k).getD j 0=l.getD j 0:=by
 rw [List.getD_eq_getElem?_getD,List.getElem?_take,if_pos h,← List.getD_eq_getElem?_getD]
theorem getD_drop' {l:List Int} {k j:Nat}:(l.drop k).getD j 0=l.getD (k+j) 0:=by
 rw [List.getD_eq_getElem?_getD,List.getElem?_drop,← List.getD_eq_getElem?_getD]
def p2 (X:List Int) (t:Int):Nat→List Int × Int
 | 0=>(X,0)
 | j+1=>((p2 X t j).1.set j (((p2 X t j).1.getD j 0+((p2 X t j).2 - t*odL.getD j 0))%256),((p2 X t j).1.getD j 0+((p2 X t j).2 - t*odL.getD j 0))/256)
structure P2 (X:List Int) (t:Int) (k:Nat):Prop where
 len:(p2 X t k).1.length=64
 out:∀ j,k≤j→(p2 X t k).1.getD j 0=X.getD j 0
 norm:∀ j,j<k→0≤(p2 X t k).1.getD j 0∧(p2 X t k).1.getD j 0≤255
 car:-20≤(p2 X t k).2∧(p2 X t k).2≤20
 val:vI (p2 X t k).1+(p2 X t k).2*256^k=vI X - t*lowV k
theorem t_bound {t o:Int} (h:-9≤t∧t≤9) (k:0≤o∧o≤255):-2295≤t*o∧t*o≤2295:=by
 obtain ⟨h1,h2⟩:=h;obtain ⟨k1,k2⟩:=k;have a1:t*o≤9*o:=Int.mul_le_mul_of_nonneg_right h2 k1;have a2:-9*o≤t*o:=Int.mul_le_mul_of_nonneg_right h1 k1;omega
theorem p2_all {X:List Int} {t:Int} (hl:X.length=64) (hb:∀ j,j<32→-129≤X.getD j 0∧X.getD j 0≤129) (ht:-9≤t∧t≤9):∀ k,k≤32→P2 X t k
 | 0,_=>⟨hl,fun _ _=>rfl,fun j h=>by omega,by simp [p2],by simp [p2,lowV]⟩
 | k+1,h=>by
  obtain ⟨h1,h2,h3,h4,h5⟩:=p2_all hl hb ht k (by omega);have hj:(p2 X t k).1.getD k 0=X.getD k 0:=h2 k (Nat.le_refl _);have hbk:=hb k (by omega);have htb:=t_bound ht (od_lt k);obtain ⟨Y,hY⟩:=eX ((p2 X t k).1);obtain ⟨c,hcc⟩:=eX ((p2 X t k).2);obtain ⟨y,hy⟩:=eX (t*odL.getD k 0);obtain ⟨r,hr⟩:=eX (Y.getD k 0+(c - y));have hE:p2 X t (k+1)=(Y.set k (r%256),r/256):=by rw [hr,hY,hcc,hy]; rfl
  rw [← hY] at h1 h2 h3 h5 hj;rw [← hcc] at h4 h5;rw [← hy] at htb;have hkl:k<Y.length:=by rw [h1]; omega
  have hrv:r=X.getD k 0+(c - y):=by rw [hr,hj]
  constructor
  ·rw [hE,List.length_set]; exact h1
  ·intro j h;rw [hE,getD_set_ne _ (by omega)];exact h2 j (by omega)
  ·intro j h;rw [hE]
   by_cases hjj:j=k
   ·subst hjj; rw [getD_set_same _ hkl]; omega
   ·rw [getD_set_ne _ (by omega)]; exact h3 j (by omega)
  ·rw [hE];show -20≤r/256∧r/256≤20;omega
  ·rw [hE,qdR _ _ _ hkl];show vI Y+(r%256 - Y.getD k 0)*256^k+r/256*256^(k+1)=_;have em:r%256=r - 256*(r/256):=by omega
   rw [lowV,Int.mul_add,← Int.sub_sub,← h5,em,hr,hy,Int.pow_succ];generalize (Y.getD k 0+(c - t*odL.getD k 0))/256=q;generalize Y.getD k 0=a;generalize (256:Int)^k=p;generalize odL.getD k 0=o
   grind
def p3 (X:List Int) (c:Int):Nat→List Int
 | 0=>X
 | j+1=>(p3 X c j).set j ((p3 X c j).getD j 0 - c*odL.getD j 0)
structure P3 (X:List Int) (c:Int) (k:Nat):Prop where
 len:(p3 X c k).length=64
 out:∀ j,k≤j→(p3 X c k).getD j 0=X.getD j 0
 norm:∀ j,j<k→0≤(p3 X c k).getD j 0∧(p3 X c k).getD j 0≤510
 val:vI (p3 X c k)=vI X - c*lowV k
theorem p3_all {X:List Int} {c:Int} (hl:X.length=64) (hb:∀ j,j<32→0≤X.getD j 0∧X.getD j 0≤255) (hc:c=0∨c=-1):∀ k,k≤32→P3 X c k
 | 0,_=>⟨hl,fun _ _=>rfl,fun j h=>by omega,by simp [p3,lowV]⟩
 | k+1,h=>by
  obtain ⟨h1,h2,h3,h5⟩:=p3_all hl hb hc k (by omega);have hj:(p3 X c k).getD k 0=X.getD k 0:=h2 k (Nat.le_refl _);have hbk:=hb k (by omega);have hod:=od_lt k;have hkl:k<(p3 X c k).length:=by rw [h1]; omega
  have hE:p3 X c (k+1)=(p3 X c k).set k ((p3 X c k).getD k 0 - c*odL.getD k 0):=rfl
  constructor
  ·rw [hE,List.length_set]; exact h1
  ·intro j h;rw [hE,getD_set_ne _ (by omega)];exact h2 j (by omega)
  ·intro j h;rw [hE]
   by_cases hjj:j=k
   ·subst hjj;rw [getD_set_same _ hkl,hj]
    rcases hc with rfl | rfl <;> omega
   ·rw [getD_set_ne _ (by omega)]; exact h3 j (by omega)
  ·rw [hE,qdR _ _ _ hkl,h5,lowV];generalize (p3 X c k).getD k 0=a;generalize odL.getD k 0=o;generalize (256:Int)^k=p;generalize lowV k=w
   grind
def p4 (X:List Int):Nat→List Int × List Nat
 | 0=>(X,[])
 | i+1=>((p4 X i).1.set (i+1) ((p4 X i).1.getD (i+1) 0+(p4 X i).1.getD i 0/256),(p4 X i).2++[((p4 X i).1.getD i 0%256).toNat])
structure P4 (X:List Int) (k:Nat):Prop where
 len:(p4 X k).1.length=64
 out:∀ j,k<j→(p4 X k).1.getD j 0=X.getD j 0
 cur:0≤(p4 X k).1.getD k 0∧(p4 X k).1.getD k 0≤520
 ol:(p4 X k).2.length=k
 dg:Dg (p4 X k).2
 val:(leV (p4 X k).2:Int)+256^k*vI ((p4 X k).1.drop k)=vI X
theorem qc5 {l:List Int} {k:Nat} (h:k<l.length):l.drop k=l.getD k 0 :: l.drop (k+1):=by
 rw [List.drop_eq_getElem_cons h,List.getD_eq_getElem?_getD,List.getElem?_eq_getElem h]; rfl
theorem p4_all {X:List Int} (hl:X.length=64) (hb:∀ j,0≤X.getD j 0∧X.getD j 0≤510):∀ k,k≤32→P4 X k
 | 0,_=>⟨hl,fun _ _=>rfl,by have:=hb 0; simp [p4]; exact ⟨this.1,Int.le_trans this.2 (by decide)⟩,rfl,fun d h=>by simp [p4] at h,by simp [p4,leV]⟩
 | k+1,h=>by
  obtain ⟨h1,h2,h3,h4,h5,h6⟩:=p4_all hl hb k (by omega);obtain ⟨Y,hY⟩:=eX ((p4 X k).1);obtain ⟨o,ho⟩:=eX ((p4 X k).2);obtain ⟨x,hx⟩:=eX (Y.getD k 0);have hE:p4 X (k+1)=(Y.set (k+1) (Y.getD (k+1) 0+x/256),o++[(x%256).toNat]):=by rw [hx,hY,ho]; rfl
  rw [← hY] at h1 h2 h3 h6;rw [← ho] at h4 h5 h6;rw [← hx] at h3;have hkl:k+1<Y.length:=by rw [h1]; omega
  have hn:Y.getD (k+1) 0=X.getD (k+1) 0:=h2 (k+1) (Nat.lt_succ_self _);have hbn:=hb (k+1)
  constructor
  ·rw [hE,List.length_set]; exact h1
  ·intro j h;rw [hE,getD_set_ne _ (by omega)];exact h2 j (by omega)
  ·rw [hE,getD_set_same _ hkl,hn];omega
  ·rw [hE,List.length_append,h4]; rfl
  ·rw [hE];exact qcO h5 (by omega)
  ·rw [hE,← h6,qa9,h4];show ((leV o+256^k*leV [(x%256).toNat]:Nat):Int)+256^(k+1)*vI ((Y.set (k+1) (Y.getD (k+1) 0+x/256)).drop (k+1))=_;rw [qc5 (l:=Y) (k:=k) (by omega),← hx,qc5 (l:=Y) hkl,qc5 (by rw [List.length_set]; exact hkl),getD_set_same _ hkl,List.drop_set_of_lt (by omega)]
   have e:((leV [(x%256).toNat]:Nat):Int)=x - 256*(x/256):=by
    simp [leV];omega
   have e0:((leV o+256^k*leV [(x%256).toNat]:Nat):Int)=(leV o:Int)+256^k*((leV [(x%256).toNat]:Nat):Int):=by rw [Int.natCast_add,Int.natCast_mul,Int.natCast_pow]; rfl
   rw [e0,e,vI,vI,vI,Int.pow_succ];generalize x/256=q;generalize Y.getD (k+1) 0=a;generalize vI (Y.drop (k+1+1))=v;generalize (256:Int)^k=p;generalize (leV o:Int)=w
   grind
def topD (X:List Int):Int:=(ph1 X 32).getD 31 0/16
def ph2 (X:List Int):List Int × Int:=p2 (ph1 X 32) (topD X) 32
def leftL (X:List Int):List Nat:=(p4 (p3 (ph2 X).1 (ph2 X).2 32) 32).2
theorem small_low:(LN:Int)=16*256^31+27742317777372353535851937790883648493:=by decide
structure LeftP (X:List Int):Prop where
 aft:Aft (ph1 X 32) 31
 top:-9≤topD X∧topD X≤9
 q2:∀ k,k≤32→P2 (ph1 X 32) (topD X) k
 car:(ph2 X).2=0∨(ph2 X).2=-1
 q3:∀ k,k≤32→P3 (ph2 X).1 (ph2 X).2 k
 q4:∀ k,k≤32→P4 (p3 (ph2 X).1 (ph2 X).2 32) k
 val:(leV (leftL X):Int)=vI X%(LN:Int)
theorem mod_pick {v q L:Int} (h1:-L<v) (h2:v<L):(if v<0 then v+L else v)=(v+q*L)%L:=by
 rw [Int.add_mul_emod_self_right]
 split
 ·rw [← Int.add_emod_right,Int.emod_eq_of_lt (by omega) (by omega)]
 ·rw [Int.emod_eq_of_lt (by omega) (by omega)]
theorem left_ok {X:List Int} (hl:X.length=64) (hb:∀ j,-4194304≤X.getD j 0∧X.getD j 0≤4194304):LeftP X:=by
 obtain ⟨A,q,hq⟩:=ph1_all hl hb 32 (Nat.le_refl _);rw [show 63 - 32=31 from rfl] at A;obtain ⟨Y,hY⟩:=eX (ph1 X 32);obtain ⟨t,ht⟩:=eX (topD X);have ht2:t=Y.getD 31 0/16:=by rw [ht,hY]; rfl
 rw [← hY] at A hq
 have hY129:∀ j,j<32→-129≤Y.getD j 0∧Y.getD j 0≤129:=fun j hj=>by
  by_cases h:j≤19
  ·have:=A.low (by omega) j (by omega) (by omega); omega
  ·exact A.mid (by omega) j (by omega) (by omega)
 have ht9:-9≤t∧t≤9:=by
  have:=hY129 31 (by omega);rw [ht2]; omega
 have H2:=p2_all A.len hY129 ht9;have h2:=H2 32 (Nat.le_refl _);obtain ⟨Z,hZ⟩:=eX ((p2 Y t 32).1);obtain ⟨c,hc⟩:=eX ((p2 Y t 32).2);obtain ⟨z1,z2,z3,z4,z5⟩:=h2;rw [← hZ] at z1 z2 z3 z5;rw [← hc] at z4 z5;rw [od_sum] at z5;obtain ⟨v,hv⟩:=eX (vI Y - t*(LN:Int));have hsplit:=vI_split Y 31
 have hdrop:vI (Y.drop 31)=Y.getD 31 0:=by
  rw [qc5 (by rw [A.len]; omega),vI,vI_zero _ fun j=>by rw [getD_drop']; exact A.top _ (by omega)];omega
 have hlow:=vI_bound (-129) 129 (Y.take 31) (fun j hj=>by
  rw [List.length_take,A.len] at hj;rw [getD_take (by omega)];exact hY129 j (by omega))
 rw [List.length_take,A.len,show min 31 64=31 from rfl] at hlow
 have hrange:-(LN:Int)<v∧v<(LN:Int):=by
  rw [hv,hsplit,hdrop,small_low];generalize vI (Y.take 31)=w at *;have hm:Y.getD 31 0=16*t+Y.getD 31 0%16:=by rw [ht2]; omega
  have hs:0≤Y.getD 31 0%16∧Y.getD 31 0%16≤15:=by omega
  generalize Y.getD 31 0%16=s at *;rw [hm]
  have e:w+256^31*(16*t+s) - t*(16*256^31+27742317777372353535851937790883648493)=w+256^31*s - t*27742317777372353535851937790883648493:=by
   generalize (256:Int)^31=p
   grind
  rw [e];have hp:(256:Int)^31=452312848583266388373324160190187140051835877600158453279131187530910662656:=by decide
  rw [hp] at hlow ⊢;omega
 have hzl:vI Z=vI (Z.take 32):=by
  rw [vI_split Z 32,vI_zero (Z.drop 32) fun j=>by rw [getD_drop',z2 _ (by omega)]; exact A.top _ (by omega)];omega
 have hzb:=vI_bound 0 255 (Z.take 32) (fun j hj=>by
  rw [List.length_take,z1] at hj;rw [getD_take (by omega)];exact z3 j (by omega))
 rw [List.length_take,z1,show min 32 64=32 from rfl,← hzl] at hzb;have hp32:(256:Int)^32=115792089237316195423570985008687907853269984665640564039457584007913129639936:=by decide
 have hLN:(LN:Int)=7237005577332262213973186563042994240857116359379907606001950938285454250989:=by decide
 rw [← hv] at z5
 have hc01:(v<0∧c=-1)∨(0≤v∧c=0):=by
  rw [hp32] at hzb z5;rw [hLN] at hrange;omega
 have hc0:c=0∨c=-1:=by omega
 have H3:=p3_all (X:=Z) (c:=c) z1 z3 hc0;have h3:=H3 32 (Nat.le_refl _);obtain ⟨T,hT⟩:=eX (p3 Z c 32);obtain ⟨y1,y2,y3,y5⟩:=h3;rw [← hT] at y1 y2 y3 y5;rw [od_sum] at y5
 have H4:=p4_all (X:=T) y1 (fun j=>by
  by_cases h:j<32
  ·exact y3 j h
  ·rw [y2 j (by omega),z2 j (by omega),A.top j (by omega)]; decide)
 have h4:=H4 32 (Nat.le_refl _);obtain ⟨O,hO⟩:=eX ((p4 T 32).2)
 have hval:(leV O:Int)=if v<0 then v+(LN:Int) else v:=by
  have hle:=qcB O (by rw [hO]; exact h4.dg);rw [show O.length=32 by rw [hO]; exact h4.ol] at hle;have h6:=h4.val;rw [← hO,y5] at h6;generalize vI ((p4 T 32).1.drop 32)=d at *;rw [show (256:Nat)^32=115792089237316195423570985008687907853269984665640564039457584007913129639936 by decide] at hle;have hle2:(leV O:Int)<115792089237316195423570985008687907853269984665640564039457584007913129639936:=by omega
  rw [hp32] at h6 z5
  split
  ·obtain rfl:c=-1:=by omega
   omega
  ·obtain rfl:c=0:=by omega
   omega
 have hph:ph2 X=(Z,c):=by rw [ph2,← hY,← ht,hZ,hc]
 have hleft:leftL X=O:=by rw [leftL,hph,← hT,hO]
 refine ⟨by rw [← hY]; exact A,by rw [← ht]; exact ht9,by rw [← hY,← ht]; exact H2,by rw [hph]; exact hc0,by rw [hph]; exact H3,by rw [hph,← hT]; exact H4,?_⟩;rw [hleft,hval]
 have hvX:vI X=v+(q+t)*(LN:Int):=by
  rw [hv,hq];generalize (LN:Int)=L
  grind
 rw [hvX];exact mod_pick hrange.1 hrange.2
theorem leftL_len {X:List Int} (h:LeftP X):(leftL X).length=32:=(h.q4 32 (Nat.le_refl _)).ol
theorem leftL_dg {X:List Int} (h:LeftP X):Dg (leftL X):=(h.q4 32 (Nat.le_refl _)).dg
theorem and255 (r:Int):Go.bits .and .i64 r 255=r%256:=by
 have h2:(BitVec.ofInt 64 (255:Int)).toNat=255:=by decide
 show IntKind.i64.wrap ((BitVec.ofInt 64 r &&& BitVec.ofInt 64 255).toNat:Int)=_;rw [BitVec.toNat_and,h2,BitVec.toNat_ofInt,show (255:Nat)=2^8 - 1 from rfl,Nat.and_two_pow_sub_one_eq_mod]
 have h3:((r%((2^64:Nat):Int)).toNat:Int)=r%18446744073709551616:=by
  rw [Int.toNat_of_nonneg (Int.emod_nonneg _ (by decide))]; rfl
 have h4:(((r%((2^64:Nat):Int)).toNat%2^8:Nat):Int)=r%256:=by
  rw [show (2:Nat)^8=256 from rfl];omega
 rw [h4,IntKind.wrap_i64];omega
def iV (l:List Int):List Value:=l.map fun x=>Value.int .i64 x
theorem iV_at {l:List Int} {k:Nat} (h:k<l.length):(iV l).toArray[k]?=some (.int .i64 (l.getD k 0)):=by
 simp [iV,List.getD_eq_getElem?_getD,List.getElem?_eq_getElem h]
theorem qck (l:List Int) (j:Nat) (n:Int):(iV l).toArray.setIfInBounds j (.int .i64 n)=(iV (l.set j n)).toArray:=by simp [iV,List.map_set]
theorem qej (l:List Int):(iV l).toArray.size=l.length:=by simp [iV]
theorem oarr_size:(Tryz.prog.info? 102).map (·.size)=some (iV odL).toArray.size:=by rw [qej]; kernel_rfl
theorem order_build (u:World):(Instr.build 102 #[(0,.int .i64 237),(1,.int .i64 211),(2,.int .i64 245),(3,.int .i64 92),(4,.int .i64 26),(5,.int .i64 99),(6,.int .i64 18),(7,.int .i64 88),(8,.int .i64 214),(9,.int .i64 156),(10,.int .i64 247),(11,.int .i64 162),(12,.int .i64 222),(13,.int .i64 249),(14,.int .i64 222),(15,.int .i64 20),(31,.int .i64 16)]).run Tryz.prog u=.ok (.agg (iV odL).toArray) u:=by kernel_rfl
theorem qdP {w:World} {ops:Array Oper} {rest:List Oper} {o:Oper} {a:Act} {Q:Exit→Act→World→Prop} {od:Array Value} (hod:od=(iV odL).toArray)
  (hgd:o.guard=none) (ho:o.op=.build 102 #[(0,.const (.int .i64 237)),(1,.const (.int .i64 211)),(2,.const (.int .i64 245)),(3,.const (.int .i64 92)),(4,.const (.int .i64 26)),(5,.const (.int .i64 99)),(6,.const (.int .i64 18)),(7,.const (.int .i64 88)),(8,.const (.int .i64 214)),(9,.const (.int .i64 156)),(10,.const (.int .i64 247)),(11,.const (.int .i64 162)),(12,.const (.int .i64 222)),(13,.const (.int .i64 249)),(14,.const (.int .i64 222)),(15,.const (.int .i64 20)),(31,.const (.int .i64 16))])
  (h:wpList Tryz.prog ops Q rest (a.put o.dst (.agg od)) w):wpList Tryz.prog ops Q (o :: rest) a w:=by
 refine wpList_plain hgd fun K hK=>?_;unfold Oper.wp execOp;simp only [ho,List.map_toArray,List.map_cons,List.map_nil,Act.eval,Sem.run_bind,Sem.run_pure,Result.andThen_ok,order_build];rw [← hod];exact hK _ _ h
theorem order_new (w:World):Blk (w.alloc (.cells (iV (List.replicate 32 0)).toArray 102)) w.heap.size 102 (iV (List.replicate 32 0)).toArray:=Blk.new _ _ _
theorem order_any (w:World):Calls Tryz.prog 82 #[] w (fun e w'=>e=.returned (.agg (iV odL).toArray)∧Below w.heap.size w w'):=by
 have hu:=Tryz.underlying102;have HB:=zY (order_new w);obtain ⟨od,hod⟩:=eX ((iV odL).toArray);have hsz:(Tryz.prog.info? 102).map (·.size)=some od.size:=by rw [hod]; exact oarr_size
 have h32:(iV (List.replicate 32 0)).toArray.size=od.size:=by rw [hod,qej,qej]; rfl
 have hall:od.all (·.oneCell')=true:=by rw [hod]; simp [iV,odL,Value.oneCell']
 rw [← hod];have HOD:=zY hod;have HALL:=zY hall;have H32:=zY h32;have HSZ:=zY hsz;clear hod hall h32 hsz;go_enter Tryz.func82,Tryz.ntmps82
 go_wp2_with (first
  | (refine qdP HOD.out rfl rfl ?_)
  | (refine qaf (cells:=od) HB.out rfl rfl rfl rfl HSZ.out H32.out HALL.out ?_; intro w5 hb5 hw5))
 refine bodyPost_ret (qau (P:=Tryz.prog) rfl rfl hb5 hu rfl HSZ.out) rfl ⟨rfl,hw5.below (below_new w _) (Nat.le_refl _) (by simp)⟩
structure LW (w0:World) (g o:Nat) (OD:Array Value) (X:List Int) (u:World):Prop where
 bel:Below g w0 u
 x:Blk u g 80 (iV X).toArray
 l:Blk u o 102 OD
 lo:w0.heap.size≤o
 gl:g<w0.heap.size
theorem LW.sz {w0 u:World} {g o:Nat} {OD:Array Value} {X:List Int} (k:LW w0 g o OD X u):w0.heap.size≤u.heap.size:=by
 have:=k.l.lt; have:=k.lo; have:=k.bel.size; omega
theorem LW.put {w0 u u':World} {g o:Nat} {OD:Array Value} {X X':List Int} (k:LW w0 g o OD X u) (hw:Wrote g u u') (hb:Blk u' g 80 (iV X').toArray):LW w0 g o OD X' u' :=
 ⟨hw.below k.bel (Nat.le_refl _) (Nat.le_of_lt (Nat.lt_of_lt_of_le k.gl k.sz)),hb,hw.blk k.l (by have:=k.lo; have:=k.gl; omega),k.lo,k.gl⟩
theorem LW.drew {w0 u:World} {g o:Nat} {OD:Array Value} {X:List Int} (k:LW w0 g o OD X u):LW w0 g o OD X u.drew:=⟨k.bel.drew,k.x,k.l,k.lo,k.gl⟩
structure LV (w0:World) (g o oo:Nat) (OD:Array Value) (X:List Int) (L:List Nat) (u:World):Prop where
 a:LW w0 g o OD X u
 out:Blk u oo 5 (bnV L).toArray
 lo:w0.heap.size≤oo
 ne:o≠oo
theorem LV.gne {w0 u:World} {g o oo:Nat} {OD:Array Value} {X:List Int} {L:List Nat} (k:LV w0 g o oo OD X L u):oo≠g:=by have:=k.lo; have:=k.a.gl; omega
theorem LV.put {w0 u u':World} {g o oo:Nat} {OD:Array Value} {X X':List Int} {L:List Nat} (k:LV w0 g o oo OD X L u) (hw:Wrote g u u') (hb:Blk u' g 80 (iV X').toArray):LV w0 g o oo OD X' L u' :=
 ⟨k.a.put hw hb,hw.blk k.out k.gne,k.lo,k.ne⟩
theorem LV.putO {w0 u u':World} {g o oo:Nat} {OD:Array Value} {X:List Int} {L L':List Nat} (k:LV w0 g o oo OD X L u) (hw:Wrote oo u u') (hb:Blk u' oo 5 (bnV L').toArray):LV w0 g o oo OD X L' u' :=
 ⟨⟨hw.below k.a.bel (by have:=k.lo; have:=k.a.gl; omega) (Nat.le_of_lt (Nat.lt_of_lt_of_le k.a.gl k.a.sz)),hw.blk k.a.x (Ne.symm k.gne),hw.blk k.a.l k.ne,k.a.lo,k.a.gl⟩,hb,k.lo,k.ne⟩
theorem LV.drew {w0 u:World} {g o oo:Nat} {OD:Array Value} {X:List Int} {L:List Nat} (k:LV w0 g o oo OD X L u):LV w0 g o oo OD X L u.drew:=⟨k.a.drew,k.out,k.lo,k.ne⟩
theorem lv_new {w0 u:World} {g o:Nat} {OD:Array Value} {X:List Int} {L:List Nat} (k:LW w0 g o OD X u):LV w0 g o u.heap.size OD X L (u.alloc (.cells (bnV L).toArray 5)) :=
 ⟨⟨k.bel.alloc (Nat.le_of_lt (Nat.lt_of_lt_of_le k.gl k.sz)) _,k.x.alloc _,k.l.alloc _,k.lo,k.gl⟩,Blk.new _ _ _,k.sz,Nat.ne_of_lt k.l.lt⟩
theorem cB_le (s:Bool) (k:Nat):cB s k≤268435456:=by
 unfold cB
 repeat' split
 all_goals decide
theorem aft_pre {X:List Int} {i:Nat} (A:Aft X i):Pre X i (decide (i≤62)):=⟨A.len,A.big,fun h=>A.low (of_decide_eq_true h)⟩
def LeftPost (g:Nat) (X:List Int) (w:World) (e:Ending) (w':World):Prop :=
 ∃ o,e=.returned (.slice (some ⟨o,0,none⟩) 32 32)∧w.heap.size≤o∧Blk w' o 5 (bnV (leftL X)).toArray∧Below g w w'
theorem left_any (X:List Int) (hl:X.length=64) (hb:∀ j,-4194304≤X.getD j 0∧X.getD j 0≤4194304) (g:Nat) (w:World) (hx:Blk w g 80 (iV X).toArray) :
  Calls Tryz.prog 56 #[.pointer (some ⟨g,0,none⟩)] w (LeftPost g X w):=by
 have hu:=Tryz.underlying102;have LP:=zY (left_ok hl hb);have PH:=zY (fun n (h:n≤32)=>(ph1_all hl hb n h).1);have HX0:=zY hx;have HG:=zY hx.lt;have HSZ:=oarr_size;have hoc:∀ k,k<32→(iV odL).toArray[k]?=some (.int .i64 (odL.getD k 0)):=fun k h=>iV_at h;have h32:(iV (List.replicate 32 0)).toArray.size=(iV odL).toArray.size:=by rw [qej,qej]; rfl
 have hall:(iV odL).toArray.all (·.oneCell')=true:=by simp [iV,odL,Value.oneCell']
 have CO:=order_any;generalize (iV odL).toArray=OD at CO HSZ hoc h32 hall;have HOC:=zY hoc;have H32:=zY h32;have HALL:=zY hall;have HSZ':=zY HSZ;have CO':=zY CO;clear hl hb hx hoc h32 hall HSZ CO;go_enter Tryz.func56,Tryz.ntmps56;go_wp2_with fail;refine qaa (CO'.out _) ?_;rintro e w1 ⟨rfl,hb1⟩;have HX1:=zY (HX0.out.below hb1 HX0.out.lt);have HB1:=zY hb1;have HO1:=zY (order_new w1);clear hb1 HX0;go_wp2_with (refine qaf (cells:=OD) HO1.out rfl rfl rfl rfl HSZ'.out H32.out HALL.out ?_; intro w5 hb5 hw5; have HB5:=zY hb5; have HW5:=zY hw5; clear hb5 hw5);generalize ho:w1.heap.size=o at HB5 HW5 HO1 ⊢
 have hst0:LW w g o OD (ph1 X 0) w5:=by
  have hg:=HG.out;have hs:=HB1.out.size;exact ⟨HW5.out.below ((HB1.out.mono (Nat.le_of_lt hg)).alloc (by omega) _) (by omega) (by simp; omega),HW5.out.blk (HX1.out.alloc _) (by omega),HB5.out,by omega,hg⟩
 have HST0:=zY hst0;clear hst0 HB5 HW5 HO1 HX1 HB1 ho
 go_loopw [4] (fun iv wr=>∃ n i:Nat,n≤32∧i+n=63∧iv=.int .i64 (i:Int)∧LW w g o OD (ph1 X n) wr) (fun iv _=>(intOf iv - 31).toNat)
 case atStart=>exact ⟨0,63,by omega,by omega,rfl,HST0.out⟩
 case round =>
  clear HST0;obtain ⟨n,i,hn,hin,rfl,hst⟩:=hrel
  by_cases hlt:n<32
  ·have hge:(32:Int)≤(i:Int):=by omega
   have hi63:(i:Int)≤63:=by omega
   obtain ⟨b,hbb⟩:∃ b:Nat,b+32=i:=⟨i - 32,by omega⟩;have hbi:(i:Int) - 32=(b:Int):=by omega
   have hb31:(b:Int)≤31:=by omega
   obtain ⟨Z,hZ⟩:=eX (ph1 X n);have hA:Aft Z i:=by have h:=PH.out n hn; rw [show 63 - n=i by omega,← hZ] at h; exact h
   have hI:=in_all (by omega) (by omega) (aft_pre hA);have hnx:ph1 X (n+1)=outS Z i:=by rw [hZ,show i=63 - n by omega]; rfl
   rw [← hZ] at hst;have HA:=zY hA;have HI:=zY hI;have HNX:=zY hnx;have HST:=zY hst;have HIN:=zY hin;have HBB:=zY hbb;clear hA hI hnx hst hZ hin hbb;go_wp2_with fail;obtain ⟨wo,rfl⟩:∃ x:World,x=wr:=⟨_,rfl⟩
   go_loopw [5,6] (fun cv jv wr=>∃ (k p:Nat) (c:Int) (Y:List Int),k≤20∧p=b+k∧jv=.int .i64 (p:Int)∧cv=.int .i64 c∧(Y,c)=inL Z i k∧LW w g o OD Y wr) (fun _ jv _=>((b:Int)+20 - intOf jv).toNat)
   case atStart=>exact ⟨0,b,0,Z,by omega,by omega,rfl,rfl,rfl,HST.out⟩
   case round =>
    clear HST;obtain ⟨k,p,c,Y,hk,hp,rfl,rfl,hY,hst⟩:=hrel;obtain ⟨hY1,hY2⟩:Y=(inL Z i k).1∧c=(inL Z i k).2:=by rw [← hY]; exact ⟨rfl,rfl⟩
    have I:=HI.out k hk;have hYl:Y.length=64:=by rw [hY1]; exact I.len
    have hbb:=HBB.out;have hyi:Y.getD i 0=Z.getD i 0:=by rw [hY1]; exact I.out i (.inr (by omega))
    have hyp:Y.getD p 0=Z.getD p 0:=by rw [hY1]; exact I.out p (.inr (by omega))
    have hcl:-268435456≤c∧c≤268435456:=by have h:=I.car; rw [← hY2] at h; have:=cB_le (decide (i≤62)) k; omega
    by_cases hlt2:k<20
    ·have hpl:(p:Int)<(b:Int)+20:=by omega
     have hpb:(p:Int) - (b:Int)=(k:Int):=by omega
     have hk32:(k:Int)<32:=by omega
     have hp64:(p:Int)<64:=by omega
     have hip:i - 32+k=p:=by omega
     obtain ⟨xi,hxi⟩:=eX (Z.getD i 0);obtain ⟨a,ha⟩:=eX (Z.getD p 0);obtain ⟨d,hd⟩:=eX (odL.getD k 0);have hxb:=HA.out.big i;have hab:=HA.out.big p;have hdb:=od_lt k;have hyb:=prod_bound hxb hdb;rw [← hxi] at hxb hyb hyi;rw [← ha] at hab hyp;rw [← hd] at hdb hyb;obtain ⟨x16,hx16⟩:∃ z,16*xi=z:=⟨_,rfl⟩;have hx16b:-134217728≤x16∧x16≤134217728:=by omega
     obtain ⟨y,hy⟩:∃ z,x16*d=z:=⟨_,rfl⟩;rw [hx16,hy] at hyb;obtain ⟨s,hs⟩:∃ z,c - y=z:=⟨_,rfl⟩;have hsb:-35000000000≤s∧s≤35000000000:=by omega
     obtain ⟨r,hr⟩:∃ z,a+s=z:=⟨_,rfl⟩;have hrb:-36000000000≤r∧r≤36000000000:=by omega
     obtain ⟨c2,hc2⟩:∃ z,(r+128)/256=z:=⟨_,rfl⟩;have hc2b:-200000000≤c2∧c2≤200000000:=by omega
     obtain ⟨v,hv⟩:∃ z,r - c2*256=z:=⟨_,rfl⟩
     have hstep:inL Z i (k+1)=(Y.set p v,c2):=by
      show inS (inL Z i k).1 (i - 32+k) (16*Z.getD i 0*odL.getD k 0) (inL Z i k).2=_;rw [← hY1,← hY2,hip,← hxi,← hd,hx16,hy,inS,hyp,hs,hr,hc2,hv]
     have d0:∀ u,LW w g o OD Y u→u.cell? ⟨g,p,none⟩=some (.int .i64 a):=fun u h=>by rw [h.x.cell,iV_at (by omega),hyp]
     have d1:∀ u,LW w g o OD Y u→u.cell? ⟨g,i,none⟩=some (.int .i64 xi):=fun u h=>by rw [h.x.cell,iV_at (by omega),hyi]
     have d2:∀ u,LW w g o OD Y u→u.cell? ⟨o,k,none⟩=some (.int .i64 d):=fun u h=>by rw [h.l.cell,HOC.out k (by omega),hd]
     have d3:∀ z u,LW w g o OD (Y.set p z) u→u.cell? ⟨g,p,none⟩=some (.int .i64 z):=fun z u h=>by rw [h.x.cell,iV_at (by rw [List.length_set]; omega),getD_set_same _ (by omega)]
     have D0:=zY d0;have D1:=zY d1;have D2:=zY d2;have D3:=zY d3;have HSTEP:=zY hstep;have HP:=zY hp;have HK:=zY hlt2;have HC0:=hst.drew;obtain ⟨lx,hx1⟩:=hx16b;obtain ⟨ly,hy1⟩:=hyb;obtain ⟨ls,hs1⟩:=hsb;obtain ⟨lr,hr1⟩:=hrb;obtain ⟨lc,hc1⟩:=hc2b;obtain ⟨la,ha1⟩:=hab;obtain ⟨lxb,hxb1⟩:=hxb;obtain ⟨ldb,hdb1⟩:=hdb;obtain ⟨lcb,hcb1⟩:=hcl;have HC2:=zY hc2;have HV:=zY hv;clear d0 d1 d2 d3 hstep hst hY hY1 hY2 hyi hyp hxi ha hd I hYl hp hk hlt2 hip hbb;go_wp2_with fail;refine qal (fun u=>LW w g o OD Y u) (fun u=>LW w g o OD (Y.set p r) u) [(0,some 27),(1,some 28),(2,some 29),(3,some 30),(4,some 31),(5,some 32),(6,some 33),(7,some 34),(8,some 35),(9,some 36),(10,some 37),(11,some 38),(12,some 39),(13,some 40),(14,some 41),(15,some 42),(16,some 43),(17,some 44),(18,some 45),(19,some 46),(20,some 47),(21,some 48),(22,some 49),(23,none)] (by kernel_rfl) (by kernel_rfl) (by decide) (by kernel_rfl) (fun _=>rfl) HC0 ?_;apply yN_
     ·apply dP [];exact fun _=>rfl;rfl;rintro vals - w1 hC1 E hE;simp only [sP] at hE ⊢;go_wp2;exact .mk (hE _ hC1)
     apply yN_
     ·apply dP [];exact fun _=>rfl;rfl;rintro vals ⟨-,-⟩ w1 hC1 E hE;simp only [sP] at hE ⊢;go_wp2;exact .mk (hE _ hC1)
     apply yN_
     ·apply dP [(0,some 27)];exact fun _=>rfl;rfl;intro vals vq w1 hC1 E hE;simp only [sP,vq] at hE ⊢;clear vq;go_wp2;exact .mk (hE _ hC1)
     apply yN_
     ·apply dP [(2,some 29),(1,some 28)];exact fun _=>rfl;rfl;intro vals vq w1 hC1 E hE;simp only [sP,vq] at hE ⊢;clear vq;go_wp2;exact .mk (hE _ hC1)
     apply yN_
     ·apply dP [(3,some 30)];exact fun _=>rfl;rfl;intro vals vq w1 hC1 E hE;have d0:=D0.out _ hC1;simp only [sP,vq] at hE ⊢;clear vq;go_wp2;exact .mk (hE _ hC1)
     apply yN_
     ·apply dP [];exact fun _=>rfl;rfl;intro vals vq w1 hC1 E hE;clear vq;simp only [sP] at hE ⊢;go_wp2;exact .mk (hE _ hC1)
     apply yN_
     ·apply dP [];exact fun _=>rfl;rfl;intro vals vq w1 hC1 E hE;clear vq;simp only [sP] at hE ⊢;go_wp2;exact .mk (hE _ hC1)
     apply yN_
     ·apply dP [];exact fun _=>rfl;rfl;intro vals vq w1 hC1 E hE;clear vq;simp only [sP] at hE ⊢;go_wp2;exact .mk (hE _ hC1)
     apply yN_
     ·apply dP [(6,some 33)];exact fun _=>rfl;rfl;intro vals vq w1 hC1 E hE;simp only [sP,vq] at hE ⊢;clear vq;go_wp2;exact .mk (hE _ hC1)
     apply yN_
     ·apply dP [(8,some 35),(7,some 34)];exact fun _=>rfl;rfl;intro vals vq w1 hC1 E hE;simp only [sP,vq] at hE ⊢;clear vq;go_wp2;exact .mk (hE _ hC1)
     apply yN_
     ·apply dP [(9,some 36)];exact fun _=>rfl;rfl;intro vals vq w1 hC1 E hE;have d0:=D1.out _ hC1;simp only [sP,vq] at hE ⊢;clear vq;go_wp2;exact .mk (hE _ hC1)
     apply yN_
     ·apply dP [(10,some 37)];exact fun _=>rfl;rfl;intro vals vq w1 hC1 E hE;simp only [sP,vq] at hE ⊢;clear vq;go_wp2;exact .mk (hE _ hC1)
     apply yN_
     ·apply dP [];exact fun _=>rfl;rfl;intro vals vq w1 hC1 E hE;clear vq;simp only [sP] at hE ⊢;go_wp2;exact .mk (hE _ hC1)
     apply yN_
     ·apply dP [];exact fun _=>rfl;rfl;intro vals vq w1 hC1 E hE;clear vq;simp only [sP] at hE ⊢;go_wp2;exact .mk (hE _ hC1)
     apply yN_
     ·apply dP [(13,some 40)];exact fun _=>rfl;rfl;intro vals vq w1 hC1 E hE;simp only [sP,vq] at hE ⊢;clear vq;go_wp2;exact .mk (hE _ hC1)
     apply yN_
     ·apply dP [(12,some 39),(14,some 41)];exact fun _=>rfl;rfl;intro vals vq w1 hC1 E hE;simp only [sP,vq] at hE ⊢;clear vq;go_wp2;exact .mk (hE _ hC1)
     apply yN_
     ·apply dP [(15,some 42)];exact fun _=>rfl;rfl;intro vals vq w1 hC1 E hE;simp only [sP,vq] at hE ⊢;clear vq;go_wp2;exact .mk (hE _ hC1)
     apply yN_
     ·apply dP [(16,some 43)];exact fun _=>rfl;rfl;intro vals vq w1 hC1 E hE;have d0:=D2.out _ hC1;simp only [sP,vq] at hE ⊢;clear vq;go_wp2;exact .mk (hE _ hC1)
     apply yN_
     ·apply dP [(11,some 38),(17,some 44)];exact fun _=>rfl;rfl;intro vals vq w1 hC1 E hE;simp only [sP,vq] at hE ⊢;clear vq;go_wp2;exact .mk (hE _ hC1)
     apply yN_
     ·apply dP [(5,some 32),(18,some 45)];exact fun _=>rfl;rfl;intro vals vq w1 hC1 E hE;simp only [sP,vq] at hE ⊢;clear vq;go_wp2;exact .mk (hE _ hC1)
     apply yN_
     ·apply dP [(4,some 31),(19,some 46)];exact fun _=>rfl;rfl;intro vals vq w1 hC1 E hE;simp only [sP,vq] at hE ⊢;clear vq;go_wp2;exact .mk (hE _ hC1)
     apply yN_
     ·apply dP [(0,some 27)];exact fun _=>rfl;rfl;intro vals vq w1 hC1 E hE;simp only [sP,vq] at hE ⊢;clear vq;go_wp2;exact .mk (hE _ hC1)
     apply yN_
     ·apply dP [(21,some 48),(1,some 28),(0,some 27),(1,some 28),(2,some 29),(3,some 30),(4,some 31),(5,some 32),(6,some 33),(7,some 34),(8,some 35),(9,some 36),(10,some 37),(11,some 38),(12,some 39),(13,some 40),(14,some 41),(15,some 42),(16,some 43),(17,some 44),(18,some 45),(19,some 46),(20,some 47)];exact fun _=>rfl;rfl;intro vals vq w1 hC1 E hE;simp only [sP,vq] at hE ⊢;clear vq;go_wp2;exact .mk (hE _ hC1)
     apply yL_ (v:=undef)
     ·apply dP [(22,some 49),(20,some 47),(0,some 27),(1,some 28),(2,some 29),(3,some 30),(4,some 31),(5,some 32),(6,some 33),(7,some 34),(8,some 35),(9,some 36),(10,some 37),(11,some 38),(12,some 39),(13,some 40),(14,some 41),(15,some 42),(16,some 43),(17,some 44),(18,some 45),(19,some 46),(20,some 47)];exact fun _=>rfl;rfl;intro vals vq w1 hC1 E hE;have d0:=D0.out _ hC1;have q0:=hC1.x.free p;simp only [sP,vq] at hE ⊢;clear vq;go_wp2;refine .mk (hE _ (hC1.put (qah _ _ _ _) ?_));have h:=qaj (i:=p) hC1.x (.int .i64 r);rw [qck] at h;exact h
     intro vals vq w1 hC1;simp only [sP,vq];clear vq;have d0:=D3.out _ _ hC1;have HW1:=zY hC1;clear HC0 hC1;go_wp2_with fail;have HC0:=HW1.out.drew;clear HW1 d0;refine qal (fun u=>LW w g o OD (Y.set p r) u) (fun u=>LW w g o OD (Y.set p v) u) [(0,some 57),(1,some 58),(2,some 59),(3,some 60),(4,some 61),(5,some 62),(6,some 63),(7,some 64),(8,some 65),(9,some 66),(10,none)] (by kernel_rfl) (by kernel_rfl) (by decide) (by kernel_rfl) (fun _=>rfl) HC0 ?_;apply yN_
     ·apply dP [];exact fun _=>rfl;rfl;rintro vals - w1 hC1 E hE;simp only [sP] at hE ⊢;go_wp2;exact .mk (hE _ hC1)
     apply yN_
     ·apply dP [];exact fun _=>rfl;rfl;rintro vals ⟨-,-⟩ w1 hC1 E hE;simp only [sP] at hE ⊢;go_wp2;exact .mk (hE _ hC1)
     apply yN_
     ·apply dP [(0,some 57)];exact fun _=>rfl;rfl;intro vals vq w1 hC1 E hE;simp only [sP,vq] at hE ⊢;clear vq;go_wp2;exact .mk (hE _ hC1)
     apply yN_
     ·apply dP [(2,some 59),(1,some 58)];exact fun _=>rfl;rfl;intro vals vq w1 hC1 E hE;simp only [sP,vq] at hE ⊢;clear vq;go_wp2;exact .mk (hE _ hC1)
     apply yN_
     ·apply dP [(3,some 60)];exact fun _=>rfl;rfl;intro vals vq w1 hC1 E hE;have d0:=D3.out _ _ hC1;simp only [sP,vq] at hE ⊢;clear vq;go_wp2;exact .mk (hE _ hC1)
     apply yN_
     ·apply dP [];exact fun _=>rfl;rfl;intro vals vq w1 hC1 E hE;clear vq;simp only [sP] at hE ⊢;go_wp2;exact .mk (hE _ hC1)
     apply yN_
     ·apply dP [(5,some 62)];exact fun _=>rfl;rfl;intro vals vq w1 hC1 E hE;simp only [sP,vq] at hE ⊢;clear vq;go_wp2;exact .mk (hE _ hC1)
     apply yN_
     ·apply dP [(4,some 61),(6,some 63)];exact fun _=>rfl;rfl;intro vals vq w1 hC1 E hE;simp only [sP,vq] at hE ⊢;clear vq;go_wp2;exact .mk (hE _ hC1)
     apply yN_
     ·apply dP [(0,some 57)];exact fun _=>rfl;rfl;intro vals vq w1 hC1 E hE;simp only [sP,vq] at hE ⊢;clear vq;go_wp2;exact .mk (hE _ hC1)
     apply yN_
     ·apply dP [(8,some 65),(1,some 58),(0,some 57),(1,some 58),(2,some 59),(3,some 60),(4,some 61),(5,some 62),(6,some 63),(7,some 64)];exact fun _=>rfl;rfl;intro vals vq w1 hC1 E hE;simp only [sP,vq] at hE ⊢;clear vq;go_wp2;exact .mk (hE _ hC1)
     apply yL_ (v:=undef)
     ·apply dP [(9,some 66),(7,some 64),(0,some 57),(1,some 58),(2,some 59),(3,some 60),(4,some 61),(5,some 62),(6,some 63),(7,some 64)];exact fun _=>rfl;rfl;intro vals vq w1 hC1 E hE;have d0:=D3.out _ _ hC1;have q0:=hC1.x.free p;simp only [sP,vq] at hE ⊢;clear vq;go_wp2;refine .mk (hE _ (hC1.put (qah _ _ _ _) ?_));have h:=qaj (i:=p) hC1.x (.int .i64 v);rw [qck,List.set_set] at h;exact h
     intro vals vq w1 hC1;simp only [sP,vq];clear vq;have HW2:=zY hC1;clear HC0 hC1;go_wp2_with fail;refine ⟨⟨k+1,p+1,c2,Y.set p v,HK.out,by rw [HP.out]; omega,by go_num,rfl,HSTEP.out.symm,HW2.out⟩,by have:=HK.out; simp [intOf]; omega⟩
    ·obtain rfl:k=20:=by omega
     have hpl:¬ (p:Int)<(b:Int)+20:=by omega
     have hpi:(b:Int)+20=(p:Int):=by omega
     have hp64:(p:Int)<64:=by omega
     obtain ⟨a,ha⟩:=eX (Z.getD p 0);have hab:=HA.out.big p;rw [← ha] at hab hyp;obtain ⟨r,hr⟩:∃ z,a+c=z:=⟨_,rfl⟩;have hrb:-36000000000≤r∧r≤36000000000:=by omega
     have hip:i - 12=p:=by omega
     have hstep:outS Z i=(Y.set p r).set i 0:=by
      rw [outS,← hY1,← hY2,hip,hyp,hr]
     have d0:∀ u,LW w g o OD Y u→u.cell? ⟨g,p,none⟩=some (.int .i64 a):=fun u h=>by rw [h.x.cell,iV_at (by omega),hyp]
     have d1:∀ u,LW w g o OD (Y.set p r) u→∃ z,u.cell? ⟨g,i,none⟩=some (.int .i64 z):=fun u h=>⟨_,by rw [h.x.cell,iV_at (by rw [List.length_set]; omega)]⟩;have D0:=zY d0;have D1:=zY d1;have HSTEP:=zY hstep;have HC0:=hst.drew;obtain ⟨lr,hr1⟩:=hrb;obtain ⟨la,ha1⟩:=hab;obtain ⟨lcb,hcb1⟩:=hcl;clear d0 d1 hstep hst hY hY1 hY2 hyi hyp ha I hYl hp hip hbb;go_wp2_with fail;refine qal (fun u=>LW w g o OD Y u) (fun u=>LW w g o OD (Y.set p r) u) [(0,some 67),(1,some 68),(2,some 69),(3,some 70),(4,some 71),(5,some 72),(6,some 73),(7,some 74),(8,some 75),(9,some 76),(10,some 77),(11,none)] (by kernel_rfl) (by kernel_rfl) (by decide) (by kernel_rfl) (fun _=>rfl) HC0 ?_;apply yN_
     ·apply dP [];exact fun _=>rfl;rfl;rintro vals - w1 hC1 E hE;simp only [sP] at hE ⊢;go_wp2;exact .mk (hE _ hC1)
     apply yN_
     ·apply dP [];exact fun _=>rfl;rfl;rintro vals ⟨-,-⟩ w1 hC1 E hE;simp only [sP] at hE ⊢;go_wp2;exact .mk (hE _ hC1)
     apply yN_
     ·apply dP [(1,some 68)];exact fun _=>rfl;rfl;intro vals vq w1 hC1 E hE;simp only [sP,vq] at hE ⊢;clear vq;go_wp2;exact .mk (hE _ hC1)
     apply yN_
     ·apply dP [(2,some 69)];exact fun _=>rfl;rfl;intro vals vq w1 hC1 E hE;simp only [sP,vq] at hE ⊢;clear vq;go_wp2;exact .mk (hE _ hC1)
     apply yN_
     ·apply dP [(0,some 67)];exact fun _=>rfl;rfl;intro vals vq w1 hC1 E hE;simp only [sP,vq] at hE ⊢;clear vq;go_wp2;exact .mk (hE _ hC1)
     apply yN_
     ·apply dP [(4,some 71),(3,some 70)];exact fun _=>rfl;rfl;intro vals vq w1 hC1 E hE;simp only [sP,vq] at hE ⊢;clear vq;go_wp2;exact .mk (hE _ hC1)
     apply yN_
     ·apply dP [(5,some 72)];exact fun _=>rfl;rfl;intro vals vq w1 hC1 E hE;have d0:=D0.out _ hC1;simp only [sP,vq] at hE ⊢;clear vq;go_wp2;exact .mk (hE _ hC1)
     apply yN_
     ·apply dP [];exact fun _=>rfl;rfl;intro vals vq w1 hC1 E hE;clear vq;simp only [sP] at hE ⊢;go_wp2;exact .mk (hE _ hC1)
     apply yN_
     ·apply dP [(6,some 73),(7,some 74)];exact fun _=>rfl;rfl;intro vals vq w1 hC1 E hE;simp only [sP,vq] at hE ⊢;clear vq;go_wp2;exact .mk (hE _ hC1)
     apply yN_
     ·apply dP [(0,some 67)];exact fun _=>rfl;rfl;intro vals vq w1 hC1 E hE;simp only [sP,vq] at hE ⊢;clear vq;go_wp2;exact .mk (hE _ hC1)
     apply yN_
     ·apply dP [(9,some 76),(3,some 70),(0,some 67),(1,some 68),(2,some 69),(3,some 70),(4,some 71),(5,some 72),(6,some 73),(7,some 74),(8,some 75)];exact fun _=>rfl;rfl;intro vals vq w1 hC1 E hE;simp only [sP,vq] at hE ⊢;clear vq;go_wp2;exact .mk (hE _ hC1)
     apply yL_ (v:=undef)
     ·apply dP [(10,some 77),(8,some 75),(0,some 67),(1,some 68),(2,some 69),(3,some 70),(4,some 71),(5,some 72),(6,some 73),(7,some 74),(8,some 75)];exact fun _=>rfl;rfl;intro vals vq w1 hC1 E hE;have d0:=D0.out _ hC1;have q0:=hC1.x.free p;simp only [sP,vq] at hE ⊢;clear vq;go_wp2;refine .mk (hE _ (hC1.put (qah _ _ _ _) ?_));have h:=qaj (i:=p) hC1.x (.int .i64 r);rw [qck] at h;exact h
     intro vals vq w1 hC1;simp only [sP,vq];clear vq;obtain ⟨z0,d0⟩:=D1.out _ hC1;have q0:=hC1.x.free i;have HW1:=zY hC1;have hi64:(i:Int)<64:=by omega
     clear HC0 hC1;go_wp2_with fail;refine ⟨⟨n+1,i - 1,by omega,by have:=HIN.out; omega,by go_num,?_⟩,by simp [intOf]; omega⟩;have h:=qaj (i:=i) HW1.out.x (.int .i64 0);rw [qck] at h;rw [HNX.out,HSTEP.out];exact HW1.out.put (qah _ _ _ _) h
  ·obtain rfl:n=32:=by omega
   obtain rfl:i=31:=by omega
   obtain ⟨X1,hX1⟩:=eX (ph1 X 32);obtain ⟨tp,htp⟩:=eX (topD X);have hA:Aft X1 31:=by rw [hX1]; exact LP.out.aft
   have ht9:=LP.out.top;rw [← htp] at ht9;obtain ⟨a,ha⟩:=eX (X1.getD 31 0);have hat:a/16=tp:=by rw [ha,hX1,htp]; rfl
   have hab:=hA.big 31;rw [← ha] at hab;rw [← hX1] at hst;have d0:∀ u,LW w g o OD X1 u→u.cell? ⟨g,31,none⟩=some (.int .i64 a):=fun u h=>by rw [h.x.cell,iV_at (by rw [hA.len]; decide),ha]
   have D0:=zY d0;have HQ2:=zY (show ∀ k,k≤32→P2 X1 tp k by rw [hX1,htp]; exact LP.out.q2);have HP2:=zY (show ph2 X=p2 X1 tp 32 by rw [hX1,htp]; rfl);have HA:=zY hA;have HTB:=zY ht9;have HC0:=hst.drew;obtain ⟨la,ha1⟩:=hab;obtain ⟨lt1,ht1⟩:=ht9;clear d0 hX1 htp hA ha hst;go_wp2_with fail;refine qal (fun u=>LW w g o OD X1 u) (fun u=>LW w g o OD X1 u) [(0,some 82),(1,some 83),(2,some 84),(3,some 85),(4,some 86),(5,some 7),(6,some 8)] (by kernel_rfl) (by kernel_rfl) (by decide) (by kernel_rfl) (fun _=>rfl) HC0 ?_;apply yN_
   ·apply dP [];exact fun _=>rfl;rfl;rintro vals - w1 hC1 E hE;simp only [sP] at hE ⊢;go_wp2;exact .mk (hE _ hC1)
   apply yN_
   ·apply dP [(0,some 82)];exact fun _=>rfl;rfl;intro vals vq w1 hC1 E hE;simp only [sP,vq] at hE ⊢;clear vq;go_wp2;exact .mk (hE _ hC1)
   apply yN_
   ·apply dP [(1,some 83)];exact fun _=>rfl;rfl;intro vals vq w1 hC1 E hE;simp only [sP,vq] at hE ⊢;clear vq;go_wp2;exact .mk (hE _ hC1)
   apply yN_
   ·apply dP [(2,some 84)];exact fun _=>rfl;rfl;intro vals vq w1 hC1 E hE;have d0:=D0.out _ hC1;simp only [sP,vq] at hE ⊢;clear vq;go_wp2;exact .mk (hE _ hC1)
   apply yN_
   ·apply dP [(3,some 85)];exact fun _=>rfl;rfl;intro vals vq w1 hC1 E hE;simp only [sP,vq] at hE ⊢;clear vq;go_wp2;exact .mk (hE _ hC1)
   apply yN_
   ·apply dP [];exact fun _=>rfl;rfl;intro vals vq w1 hC1 E hE;clear vq;simp only [sP] at hE ⊢;go_wp2;exact .mk (hE _ hC1)
   apply yL_
   ·apply dP [(4,some 86),(5,some 7),(0,some 82),(1,some 83),(2,some 84),(3,some 85),(4,some 86),(5,some 7)];exact fun _=>rfl;rfl;intro vals vq w1 hC1 E hE;simp only [sP,vq] at hE ⊢;clear vq;go_wp2;exact .mk (hE _ hC1)
   intro vals vq w1 hC1;simp only [sP,vq];clear vq;have HST:=zY hC1;clear HC0 hC1 D0;go_wp2_with fail;obtain ⟨wo,rfl⟩:∃ x:World,x=w1:=⟨_,rfl⟩
   go_loopw [7,87] (fun cv jv wr=>∃ (k:Nat) (c:Int) (Y:List Int),k≤32∧jv=.int .i64 (k:Int)∧cv=.int .i64 c∧(Y,c)=p2 X1 tp k∧LW w g o OD Y wr) (fun _ jv _=>(32 - intOf jv).toNat)
   case atStart=>exact ⟨0,0,X1,by omega,rfl,rfl,rfl,HST.out⟩
   case round =>
    clear HST;obtain ⟨k,c,Y,hk,rfl,rfl,hY,hst⟩:=hrel;obtain ⟨hY1,hY2⟩:Y=(p2 X1 tp k).1∧c=(p2 X1 tp k).2:=by rw [← hY]; exact ⟨rfl,rfl⟩
    have I:=HQ2.out k hk;have hYl:Y.length=64:=by rw [hY1]; exact I.len
    have hcl:=I.car;rw [← hY2] at hcl
    by_cases hlt2:k<32
    ·have hk32:(k:Int)<32:=by omega
     have hk64:(k:Int)<64:=by omega
     have hyp:Y.getD k 0=X1.getD k 0:=by rw [hY1]; exact I.out k (Nat.le_refl _)
     obtain ⟨a,ha⟩:=eX (X1.getD k 0);obtain ⟨d,hd⟩:=eX (odL.getD k 0);have hab:=HA.out.big k;have hdb:=od_lt k;have hyb:=t_bound HTB.out hdb;rw [← ha] at hab hyp;rw [← hd] at hdb hyb;obtain ⟨y,hy⟩:∃ z,tp*d=z:=⟨_,rfl⟩;rw [hy] at hyb;obtain ⟨s,hs⟩:∃ z,c - y=z:=⟨_,rfl⟩;have hsb:-3000≤s∧s≤3000:=by omega
     obtain ⟨r,hr⟩:∃ z,a+s=z:=⟨_,rfl⟩;have hrb:-9000000≤r∧r≤9000000:=by omega
     obtain ⟨c2,hc2⟩:∃ z,r/256=z:=⟨_,rfl⟩;obtain ⟨v,hv⟩:∃ z,r%256=z:=⟨_,rfl⟩;have han:Go.bits .and .i64 r 255=v:=by rw [and255,hv]
     have hstep:p2 X1 tp (k+1)=(Y.set k v,c2):=by
      rw [p2,← hY1,← hY2,hyp,← hd,hy,hs,hr,hc2,hv]
     have d0:∀ u,LW w g o OD Y u→u.cell? ⟨g,k,none⟩=some (.int .i64 a):=fun u h=>by rw [h.x.cell,iV_at (by omega),hyp]
     have d2:∀ u,LW w g o OD Y u→u.cell? ⟨o,k,none⟩=some (.int .i64 d):=fun u h=>by rw [h.l.cell,HOC.out k (by omega),hd]
     have d3:∀ z u,LW w g o OD (Y.set k z) u→u.cell? ⟨g,k,none⟩=some (.int .i64 z):=fun z u h=>by rw [h.x.cell,iV_at (by rw [List.length_set]; omega),getD_set_same _ (by omega)]
     have D0:=zY d0;have D2:=zY d2;have D3:=zY d3;have HSTEP:=zY hstep;have HK:=zY hlt2;have HAN:=zY han;have HC0:=hst.drew;obtain ⟨ly,hy1⟩:=hyb;obtain ⟨ls,hs1⟩:=hsb;obtain ⟨lr,hr1⟩:=hrb;obtain ⟨la,ha1⟩:=hab;obtain ⟨ldb,hdb1⟩:=hdb;obtain ⟨lcb,hcb1⟩:=hcl;clear d0 d2 d3 hstep hst hY hY1 hY2 hyp ha hd I hYl hk hlt2 hv han;go_wp2_with fail;refine qal (fun u=>LW w g o OD Y u) (fun u=>LW w g o OD (Y.set k r) u) [(0,some 90),(1,some 91),(2,some 92),(3,some 93),(4,some 94),(5,some 95),(6,some 96),(7,some 97),(8,some 98),(9,some 99),(10,some 100),(11,some 101),(12,some 102),(13,some 103),(14,some 104),(15,none)] (by kernel_rfl) (by kernel_rfl) (by decide) (by kernel_rfl) (fun _=>rfl) HC0 ?_;apply yN_
     ·apply dP [];exact fun _=>rfl;rfl;rintro vals - w1 hC1 E hE;simp only [sP] at hE ⊢;go_wp2;exact .mk (hE _ hC1)
     apply yN_
     ·apply dP [];exact fun _=>rfl;rfl;rintro vals ⟨-,-⟩ w1 hC1 E hE;simp only [sP] at hE ⊢;go_wp2;exact .mk (hE _ hC1)
     apply yN_
     ·apply dP [(0,some 90)];exact fun _=>rfl;rfl;intro vals vq w1 hC1 E hE;simp only [sP,vq] at hE ⊢;clear vq;go_wp2;exact .mk (hE _ hC1)
     apply yN_
     ·apply dP [(2,some 92),(1,some 91)];exact fun _=>rfl;rfl;intro vals vq w1 hC1 E hE;simp only [sP,vq] at hE ⊢;clear vq;go_wp2;exact .mk (hE _ hC1)
     apply yN_
     ·apply dP [(3,some 93)];exact fun _=>rfl;rfl;intro vals vq w1 hC1 E hE;have d0:=D0.out _ hC1;simp only [sP,vq] at hE ⊢;clear vq;go_wp2;exact .mk (hE _ hC1)
     apply yN_
     ·apply dP [];exact fun _=>rfl;rfl;intro vals vq w1 hC1 E hE;clear vq;simp only [sP] at hE ⊢;go_wp2;exact .mk (hE _ hC1)
     apply yN_
     ·apply dP [];exact fun _=>rfl;rfl;intro vals vq w1 hC1 E hE;clear vq;simp only [sP] at hE ⊢;go_wp2;exact .mk (hE _ hC1)
     apply yN_
     ·apply dP [];exact fun _=>rfl;rfl;intro vals vq w1 hC1 E hE;clear vq;simp only [sP] at hE ⊢;go_wp2;exact .mk (hE _ hC1)
     apply yN_
     ·apply dP [(7,some 97)];exact fun _=>rfl;rfl;intro vals vq w1 hC1 E hE;simp only [sP,vq] at hE ⊢;clear vq;go_wp2;exact .mk (hE _ hC1)
     apply yN_
     ·apply dP [(8,some 98)];exact fun _=>rfl;rfl;intro vals vq w1 hC1 E hE;have d0:=D2.out _ hC1;simp only [sP,vq] at hE ⊢;clear vq;go_wp2;exact .mk (hE _ hC1)
     apply yN_
     ·apply dP [(6,some 96),(9,some 99)];exact fun _=>rfl;rfl;intro vals vq w1 hC1 E hE;simp only [sP,vq] at hE ⊢;clear vq;go_wp2;exact .mk (hE _ hC1)
     apply yN_
     ·apply dP [(5,some 95),(10,some 100)];exact fun _=>rfl;rfl;intro vals vq w1 hC1 E hE;simp only [sP,vq] at hE ⊢;clear vq;go_wp2;exact .mk (hE _ hC1)
     apply yN_
     ·apply dP [(4,some 94),(11,some 101)];exact fun _=>rfl;rfl;intro vals vq w1 hC1 E hE;simp only [sP,vq] at hE ⊢;clear vq;go_wp2;exact .mk (hE _ hC1)
     apply yN_
     ·apply dP [(0,some 90)];exact fun _=>rfl;rfl;intro vals vq w1 hC1 E hE;simp only [sP,vq] at hE ⊢;clear vq;go_wp2;exact .mk (hE _ hC1)
     apply yN_
     ·apply dP [(13,some 103),(1,some 91),(0,some 90),(1,some 91),(2,some 92),(3,some 93),(4,some 94),(5,some 95),(6,some 96),(7,some 97),(8,some 98),(9,some 99),(10,some 100),(11,some 101),(12,some 102)];exact fun _=>rfl;rfl;intro vals vq w1 hC1 E hE;simp only [sP,vq] at hE ⊢;clear vq;go_wp2;exact .mk (hE _ hC1)
     apply yL_ (v:=undef)
     ·apply dP [(14,some 104),(12,some 102),(0,some 90),(1,some 91),(2,some 92),(3,some 93),(4,some 94),(5,some 95),(6,some 96),(7,some 97),(8,some 98),(9,some 99),(10,some 100),(11,some 101),(12,some 102)];exact fun _=>rfl;rfl;intro vals vq w1 hC1 E hE;have d0:=D0.out _ hC1;have q0:=hC1.x.free k;simp only [sP,vq] at hE ⊢;clear vq;go_wp2;refine .mk (hE _ (hC1.put (qah _ _ _ _) ?_));have h:=qaj (i:=k) hC1.x (.int .i64 r);rw [qck] at h;exact h
     intro vals vq w1 hC1;simp only [sP,vq];clear vq;have d0:=D3.out _ _ hC1;have HW1:=zY hC1;clear HC0 hC1;go_wp2_with fail;have HC0:=HW1.out.drew;clear HW1 d0;refine qal (fun u=>LW w g o OD (Y.set k r) u) (fun u=>LW w g o OD (Y.set k v) u) [(0,some 111),(1,some 112),(2,some 113),(3,some 114),(4,some 115),(5,some 116),(6,some 117),(7,some 118),(8,none)] (by kernel_rfl) (by kernel_rfl) (by decide) (by kernel_rfl) (fun _=>rfl) HC0 ?_;apply yN_
     ·apply dP [];exact fun _=>rfl;rfl;rintro vals - w1 hC1 E hE;simp only [sP] at hE ⊢;go_wp2;exact .mk (hE _ hC1)
     apply yN_
     ·apply dP [];exact fun _=>rfl;rfl;rintro vals ⟨-,-⟩ w1 hC1 E hE;simp only [sP] at hE ⊢;go_wp2;exact .mk (hE _ hC1)
     apply yN_
     ·apply dP [(0,some 111)];exact fun _=>rfl;rfl;intro vals vq w1 hC1 E hE;simp only [sP,vq] at hE ⊢;clear vq;go_wp2;exact .mk (hE _ hC1)
     apply yN_
     ·apply dP [(2,some 113),(1,some 112)];exact fun _=>rfl;rfl;intro vals vq w1 hC1 E hE;simp only [sP,vq] at hE ⊢;clear vq;go_wp2;exact .mk (hE _ hC1)
     apply yN_
     ·apply dP [(3,some 114)];exact fun _=>rfl;rfl;intro vals vq w1 hC1 E hE;have d0:=D3.out _ _ hC1;simp only [sP,vq] at hE ⊢;clear vq;go_wp2;exact .mk (hE _ hC1)
     apply yN_
     ·apply dP [(4,some 115)];exact fun _=>rfl;rfl;intro vals vq w1 hC1 E hE;simp only [sP,vq] at hE ⊢;clear vq;go_wp2;rw [HAN.out];exact .mk (hE _ hC1)
     apply yN_
     ·apply dP [(0,some 111)];exact fun _=>rfl;rfl;intro vals vq w1 hC1 E hE;simp only [sP,vq] at hE ⊢;clear vq;go_wp2;exact .mk (hE _ hC1)
     apply yN_
     ·apply dP [(6,some 117),(1,some 112),(0,some 111),(1,some 112),(2,some 113),(3,some 114),(4,some 115),(5,some 116)];exact fun _=>rfl;rfl;intro vals vq w1 hC1 E hE;simp only [sP,vq] at hE ⊢;clear vq;go_wp2;exact .mk (hE _ hC1)
     apply yL_ (v:=undef)
     ·apply dP [(7,some 118),(5,some 116),(0,some 111),(1,some 112),(2,some 113),(3,some 114),(4,some 115),(5,some 116)];exact fun _=>rfl;rfl;intro vals vq w1 hC1 E hE;have d0:=D3.out _ _ hC1;have q0:=hC1.x.free k;simp only [sP,vq] at hE ⊢;clear vq;go_wp2;refine .mk (hE _ (hC1.put (qah _ _ _ _) ?_));have h:=qaj (i:=k) hC1.x (.int .i64 v);rw [qck,List.set_set] at h;exact h
     intro vals vq w1 hC1;simp only [sP,vq];clear vq;have HW2:=zY hC1;clear HC0 hC1;go_wp2_with fail;refine ⟨⟨k+1,c2,Y.set k v,HK.out,by go_num,rfl,HSTEP.out.symm,HW2.out⟩,by have:=HK.out; simp [intOf]; omega⟩
    ·obtain rfl:k=32:=by omega
     have hc0:=LP.out.car;have hq3:=LP.out.q3;have hq4:=LP.out.q4;have hlf:leftL X=(p4 (p3 Y c 32) 32).2:=by rw [leftL,HP2.out,← hY1,← hY2]
     rw [HP2.out,← hY1,← hY2] at hq4;rw [HP2.out,← hY2] at hc0;rw [HP2.out,← hY1,← hY2] at hq3;have hcb:-1≤c∧c≤0:=by omega
     have hyb:∀ j,j<32→0≤Y.getD j 0∧Y.getD j 0≤255:=fun j h=>by rw [hY1]; exact I.norm j h
     have hpd:∀ k,-255≤c*odL.getD k 0∧c*odL.getD k 0≤0:=fun k=>by
      have:=od_lt k
      rcases hc0 with h | h <;> rw [h] <;> omega
     have hyg:∀ j,32≤j→-8388608≤Y.getD j 0∧Y.getD j 0≤8388608:=fun j h=>by rw [hY1,I.out j h]; exact HA.out.big j
     have HYG:=zY hyg;have HQ3:=zY hq3;have HQ4:=zY hq4;have HLF:=zY hlf;have HPD:=zY hpd;have HYB:=zY hyb;have HYL:=zY hYl;have HST:=zY (show LW w g o OD (p3 Y c 0) wr from hst);obtain ⟨lcb,hcb1⟩:=hcb;clear hyg hc0 hq3 hq4 hlf hpd hyb hY hY1 hY2 I hYl hcl hst;go_wp2_with fail;obtain ⟨wo2,rfl⟩:∃ x:World,x=wr:=⟨_,rfl⟩
     go_loopw [120] (fun jv wr=>∃ k:Nat,k≤32∧jv=.int .i64 (k:Int)∧LW w g o OD (p3 Y c k) wr) (fun jv _=>(32 - intOf jv).toNat)
     case atStart=>exact ⟨0,by omega,rfl,HST.out⟩
     case round =>
      clear HST;obtain ⟨k,hk,rfl,hst⟩:=hrel;obtain ⟨V,hV⟩:=eX (p3 Y c k);have I:=HQ3.out k hk;rw [← hV] at hst;have hVl:V.length=64:=by rw [hV]; exact I.len
      by_cases hlt3:k<32
      ·have hk32:(k:Int)<32:=by omega
       have hk64:(k:Int)<64:=by omega
       have hyp:V.getD k 0=Y.getD k 0:=by rw [hV]; exact I.out k (Nat.le_refl _)
       obtain ⟨a,ha⟩:=eX (Y.getD k 0);obtain ⟨d,hd⟩:=eX (odL.getD k 0);have hab:=HYB.out k hlt3;have hyb:=HPD.out k;have hdb:=od_lt k;rw [← ha] at hab hyp;rw [← hd] at hyb hdb;obtain ⟨y,hy⟩:∃ z,c*d=z:=⟨_,rfl⟩;rw [hy] at hyb;obtain ⟨r,hr⟩:∃ z,a - y=z:=⟨_,rfl⟩;have hrb:-9000000≤r∧r≤9000000:=by omega
       have hstep:p3 Y c (k+1)=V.set k r:=by rw [p3,← hV,hyp,← hd,hy,hr]
       have d0:∀ u,LW w g o OD V u→u.cell? ⟨g,k,none⟩=some (.int .i64 a):=fun u h=>by rw [h.x.cell,iV_at (by omega),hyp]
       have d2:∀ u,LW w g o OD V u→u.cell? ⟨o,k,none⟩=some (.int .i64 d):=fun u h=>by rw [h.l.cell,HOC.out k (by omega),hd]
       have D0:=zY d0;have D2:=zY d2;have HSTEP:=zY hstep;have HK:=zY hlt3;have HC0:=hst.drew;obtain ⟨ly,hy1⟩:=hyb;obtain ⟨lr,hr1⟩:=hrb;obtain ⟨la,ha1⟩:=hab;obtain ⟨ldb,hdb1⟩:=hdb;clear d0 d2 hstep hst hV hyp ha hd I hVl hk hlt3;go_wp2_with fail;refine qal (fun u=>LW w g o OD V u) (fun u=>LW w g o OD (V.set k r) u) [(0,some 123),(1,some 124),(2,some 125),(3,some 126),(4,some 127),(5,some 128),(6,some 129),(7,some 130),(8,some 131),(9,some 132),(10,some 133),(11,some 134),(12,some 135),(13,none)] (by kernel_rfl) (by kernel_rfl) (by decide) (by kernel_rfl) (fun _=>rfl) HC0 ?_;apply yN_
       ·apply dP [];exact fun _=>rfl;rfl;rintro vals - w1 hC1 E hE;simp only [sP] at hE ⊢;go_wp2;exact .mk (hE _ hC1)
       apply yN_
       ·apply dP [];exact fun _=>rfl;rfl;rintro vals ⟨-,-⟩ w1 hC1 E hE;simp only [sP] at hE ⊢;go_wp2;exact .mk (hE _ hC1)
       apply yN_
       ·apply dP [(0,some 123)];exact fun _=>rfl;rfl;intro vals vq w1 hC1 E hE;simp only [sP,vq] at hE ⊢;clear vq;go_wp2;exact .mk (hE _ hC1)
       apply yN_
       ·apply dP [(2,some 125),(1,some 124)];exact fun _=>rfl;rfl;intro vals vq w1 hC1 E hE;simp only [sP,vq] at hE ⊢;clear vq;go_wp2;exact .mk (hE _ hC1)
       apply yN_
       ·apply dP [(3,some 126)];exact fun _=>rfl;rfl;intro vals vq w1 hC1 E hE;have d0:=D0.out _ hC1;simp only [sP,vq] at hE ⊢;clear vq;go_wp2;exact .mk (hE _ hC1)
       apply yN_
       ·apply dP [];exact fun _=>rfl;rfl;intro vals vq w1 hC1 E hE;clear vq;simp only [sP] at hE ⊢;go_wp2;exact .mk (hE _ hC1)
       apply yN_
       ·apply dP [];exact fun _=>rfl;rfl;intro vals vq w1 hC1 E hE;clear vq;simp only [sP] at hE ⊢;go_wp2;exact .mk (hE _ hC1)
       apply yN_
       ·apply dP [(6,some 129)];exact fun _=>rfl;rfl;intro vals vq w1 hC1 E hE;simp only [sP,vq] at hE ⊢;clear vq;go_wp2;exact .mk (hE _ hC1)
       apply yN_
       ·apply dP [(7,some 130)];exact fun _=>rfl;rfl;intro vals vq w1 hC1 E hE;have d0:=D2.out _ hC1;simp only [sP,vq] at hE ⊢;clear vq;go_wp2;exact .mk (hE _ hC1)
       apply yN_
       ·apply dP [(5,some 128),(8,some 131)];exact fun _=>rfl;rfl;intro vals vq w1 hC1 E hE;simp only [sP,vq] at hE ⊢;clear vq;go_wp2;exact .mk (hE _ hC1)
       apply yN_
       ·apply dP [(4,some 127),(9,some 132)];exact fun _=>rfl;rfl;intro vals vq w1 hC1 E hE;simp only [sP,vq] at hE ⊢;clear vq;go_wp2;exact .mk (hE _ hC1)
       apply yN_
       ·apply dP [(0,some 123)];exact fun _=>rfl;rfl;intro vals vq w1 hC1 E hE;simp only [sP,vq] at hE ⊢;clear vq;go_wp2;exact .mk (hE _ hC1)
       apply yN_
       ·apply dP [(11,some 134),(1,some 124),(0,some 123),(1,some 124),(2,some 125),(3,some 126),(4,some 127),(5,some 128),(6,some 129),(7,some 130),(8,some 131),(9,some 132),(10,some 133)];exact fun _=>rfl;rfl;intro vals vq w1 hC1 E hE;simp only [sP,vq] at hE ⊢;clear vq;go_wp2;exact .mk (hE _ hC1)
       apply yL_ (v:=undef)
       ·apply dP [(12,some 135),(10,some 133),(0,some 123),(1,some 124),(2,some 125),(3,some 126),(4,some 127),(5,some 128),(6,some 129),(7,some 130),(8,some 131),(9,some 132),(10,some 133)];exact fun _=>rfl;rfl;intro vals vq w1 hC1 E hE;have d0:=D0.out _ hC1;have q0:=hC1.x.free k;simp only [sP,vq] at hE ⊢;clear vq;go_wp2;refine .mk (hE _ (hC1.put (qah _ _ _ _) ?_));have h:=qaj (i:=k) hC1.x (.int .i64 r);rw [qck] at h;exact h
       intro vals vq w1 hC1;simp only [sP,vq];clear vq;have HW2:=zY hC1;clear HC0 hC1;go_wp2_with fail;refine ⟨⟨k+1,HK.out,by go_num,by rw [HSTEP.out]; exact HW2.out⟩,by have:=HK.out; simp [intOf]; omega⟩
      ·obtain rfl:k=32:=by omega
       have hmk:∀ u:World,(Instr.makeSlice 22 (.int .i64 32) (.int .i64 32)).run Tryz.prog u=.ok (.slice (some ⟨u.heap.size,0,none⟩) 32 32) (u.alloc (.cells (bnV (partL [] 32)).toArray 5)):=fun _=>by kernel_rfl
       have hvb:∀ j,-8388608≤V.getD j 0∧V.getD j 0≤8388608:=fun j=>by
        by_cases h:j<32
        ·have:=I.norm j h; rw [← hV] at this; omega
        ·have h2:=I.out j (by omega); rw [← hV] at h2; rw [h2]; exact HYG.out j (by omega)
       have HVB:=zY hvb;have HQ4':=zY (show ∀ k,k≤32→P4 V k by rw [hV]; exact HQ4.out);have HLF':=zY (show leftL X=(p4 V 32).2 by rw [hV]; exact HLF.out);have hst':LV w g o wr.heap.size OD V (partL [] 32) (wr.alloc (.cells (bnV (partL [] 32)).toArray 5)):=lv_new hst;have HST:=zY hst';clear hvb hst hst' I hVl hV HQ4 HLF HQ3 HPD HYB HYL;go_wp2_with fail;clear hmk;generalize hoo:wr.heap.size=oo at HST ⊢;clear hoo
       go_loopw [138] (fun jv wr=>∃ k:Nat,k≤32∧jv=.int .i64 (k:Int)∧LV w g o oo OD (p4 V k).1 (partL (p4 V k).2 32) wr) (fun jv _=>(32 - intOf jv).toNat)
       case atStart=>exact ⟨0,by omega,rfl,HST.out⟩
       case round =>
        clear HST;obtain ⟨k,hk,rfl,hst⟩:=hrel;obtain ⟨Z,hZ⟩:=eX ((p4 V k).1);obtain ⟨L,hL⟩:=eX ((p4 V k).2);have I:=HQ4'.out k hk;rw [← hZ,← hL] at hst;have hZl:Z.length=64:=by rw [hZ]; exact I.len
        have hLl:L.length=k:=by rw [hL]; exact I.ol
        by_cases hlt4:k<32
        ·have hk32:(k:Int)<32:=by omega
         have hk64:(k:Int)<63:=by omega
         have hyp:Z.getD (k+1) 0=V.getD (k+1) 0:=by rw [hZ]; exact I.out _ (Nat.lt_succ_self _)
         have hcur:=I.cur;rw [← hZ] at hcur;obtain ⟨a,ha⟩:=eX (V.getD (k+1) 0);obtain ⟨e,he⟩:=eX (Z.getD k 0);obtain ⟨k1,hk1⟩:=eX (k+1);have hk1i:(k:Int)+1=(k1:Int):=by omega
         have hk164:(k1:Int)<64:=by omega
         have hab:=HVB.out (k+1);rw [← ha] at hab hyp;rw [← he] at hcur;obtain ⟨f,hf⟩:∃ z,e/256=z:=⟨_,rfl⟩;have hfb:0≤f∧f≤3:=by omega
         obtain ⟨r,hr⟩:∃ z,a+f=z:=⟨_,rfl⟩;have hrb:-9000000≤r∧r≤9000000:=by omega
         obtain ⟨dn,hdn⟩:=eX ((e%256).toNat);have hdi:e%256=(dn:Int):=by omega
         have hstep:p4 V (k+1)=(Z.set k1 r,L++[dn]):=by rw [p4,← hZ,← hL,hyp,← he,hf,hr,← hdn,← hk1]
         have hset:(partL L 32).set k dn=partL (L++[dn]) 32:=qbU L 32 k dn hLl hlt4;rw [← hk1] at hyp;have d0:∀ u,LV w g o oo OD Z (partL L 32) u→u.cell? ⟨g,k1,none⟩=some (.int .i64 a):=fun u h=>by rw [h.a.x.cell,iV_at (by omega),hyp]
         have d1:∀ u,LV w g o oo OD Z (partL L 32) u→u.cell? ⟨g,k,none⟩=some (.int .i64 e):=fun u h=>by rw [h.a.x.cell,iV_at (by omega),he]
         have d2:∀ u,LV w g o oo OD (Z.set k1 r) (partL L 32) u→u.cell? ⟨g,k,none⟩=some (.int .i64 e):=fun u h=>by rw [h.a.x.cell,iV_at (by rw [List.length_set]; omega),getD_set_ne _ (by omega),he]
         have d3:∀ u,LV w g o oo OD (Z.set k1 r) (partL L 32) u→∃ z,u.cell? ⟨oo,k,none⟩=some z:=fun u h=>by
          have h9:=h.out.cell k;rw [List.getElem?_toArray,List.getElem?_eq_getElem (by rw [bnV,List.length_map,qaM _ _ (by omega)]; exact hlt4)] at h9;exact ⟨_,h9⟩
         have D0:=zY d0;have D1:=zY d1;have D2:=zY d2;have D3:=zY d3;have HSTEP:=zY hstep;have HSET:=zY hset;have HK:=zY hlt4;have HC0:=hst.drew;obtain ⟨lr,hr1⟩:=hrb;obtain ⟨la,ha1⟩:=hab;obtain ⟨lf,hf1⟩:=hfb;obtain ⟨lc2,hc21⟩:=hcur;clear d0 d1 d2 d3 hstep hset hst hZ hL hyp ha he I hZl hLl hk hlt4 hdn hk1;go_wp2_with fail;refine qal (fun u=>LV w g o oo OD Z (partL L 32) u) (fun u=>LV w g o oo OD (Z.set k1 r) (partL L 32) u) [(0,some 141),(1,some 142),(2,some 143),(3,some 144),(4,some 145),(5,some 146),(6,some 147),(7,some 148),(8,some 149),(9,some 150),(10,some 151),(11,some 152),(12,some 153),(13,some 154),(14,some 155),(15,none)] (by kernel_rfl) (by kernel_rfl) (by decide) (by kernel_rfl) (fun _=>rfl) HC0 ?_;apply yN_
         ·apply dP [];exact fun _=>rfl;rfl;rintro vals - w1 hC1 E hE;simp only [sP] at hE ⊢;go_wp2;exact .mk (hE _ hC1)
         apply yN_
         ·apply dP [];exact fun _=>rfl;rfl;rintro vals ⟨-,-⟩ w1 hC1 E hE;simp only [sP] at hE ⊢;go_wp2;exact .mk (hE _ hC1)
         apply yN_
         ·apply dP [(1,some 142)];exact fun _=>rfl;rfl;intro vals vq w1 hC1 E hE;simp only [sP,vq] at hE ⊢;clear vq;go_wp2;exact .mk (hE _ hC1)
         apply yN_
         ·apply dP [(0,some 141)];exact fun _=>rfl;rfl;intro vals vq w1 hC1 E hE;simp only [sP,vq] at hE ⊢;clear vq;go_wp2;exact .mk (hE _ hC1)
         apply yN_
         ·apply dP [(3,some 144),(2,some 143)];exact fun _=>rfl;rfl;intro vals vq w1 hC1 E hE;simp only [sP,vq] at hE ⊢;clear vq;go_wp2;exact .mk (hE _ hC1)
         apply yN_
         ·apply dP [(4,some 145)];exact fun _=>rfl;rfl;intro vals vq w1 hC1 E hE;have d0:=D0.out _ hC1;simp only [sP,vq] at hE ⊢;clear vq;go_wp2;exact .mk (hE _ hC1)
         apply yN_
         ·apply dP [];exact fun _=>rfl;rfl;intro vals vq w1 hC1 E hE;clear vq;simp only [sP] at hE ⊢;go_wp2;exact .mk (hE _ hC1)
         apply yN_
         ·apply dP [];exact fun _=>rfl;rfl;intro vals vq w1 hC1 E hE;clear vq;simp only [sP] at hE ⊢;go_wp2;exact .mk (hE _ hC1)
         apply yN_
         ·apply dP [(6,some 147)];exact fun _=>rfl;rfl;intro vals vq w1 hC1 E hE;simp only [sP,vq] at hE ⊢;clear vq;go_wp2;exact .mk (hE _ hC1)
         apply yN_
         ·apply dP [(8,some 149),(7,some 148)];exact fun _=>rfl;rfl;intro vals vq w1 hC1 E hE;simp only [sP,vq] at hE ⊢;clear vq;go_wp2;exact .mk (hE _ hC1)
         apply yN_
         ·apply dP [(9,some 150)];exact fun _=>rfl;rfl;intro vals vq w1 hC1 E hE;have d0:=D1.out _ hC1;simp only [sP,vq] at hE ⊢;clear vq;go_wp2;exact .mk (hE _ hC1)
         apply yN_
         ·apply dP [(10,some 151)];exact fun _=>rfl;rfl;intro vals vq w1 hC1 E hE;simp only [sP,vq] at hE ⊢;clear vq;go_wp2;exact .mk (hE _ hC1)
         apply yN_
         ·apply dP [(5,some 146),(11,some 152)];exact fun _=>rfl;rfl;intro vals vq w1 hC1 E hE;simp only [sP,vq] at hE ⊢;clear vq;go_wp2;exact .mk (hE _ hC1)
         apply yN_
         ·apply dP [(0,some 141)];exact fun _=>rfl;rfl;intro vals vq w1 hC1 E hE;simp only [sP,vq] at hE ⊢;clear vq;go_wp2;exact .mk (hE _ hC1)
         apply yN_
         ·apply dP [(13,some 154),(2,some 143),(0,some 141),(1,some 142),(2,some 143),(3,some 144),(4,some 145),(5,some 146),(6,some 147),(7,some 148),(8,some 149),(9,some 150),(10,some 151),(11,some 152),(12,some 153)];exact fun _=>rfl;rfl;intro vals vq w1 hC1 E hE;simp only [sP,vq] at hE ⊢;clear vq;go_wp2;exact .mk (hE _ hC1)
         apply yL_ (v:=undef)
         ·apply dP [(14,some 155),(12,some 153),(0,some 141),(1,some 142),(2,some 143),(3,some 144),(4,some 145),(5,some 146),(6,some 147),(7,some 148),(8,some 149),(9,some 150),(10,some 151),(11,some 152),(12,some 153)];exact fun _=>rfl;rfl;intro vals vq w1 hC1 E hE;have d0:=D0.out _ hC1;have q0:=hC1.a.x.free k1;simp only [sP,vq] at hE ⊢;clear vq;go_wp2;refine .mk (hE _ (hC1.put (qah _ _ _ _) ?_));have h:=qaj (i:=k1) hC1.a.x (.int .i64 r);rw [qck] at h;exact h
         intro vals vq w1 hC1;simp only [sP,vq];clear vq;have d0:=D2.out _ hC1;obtain ⟨z0,d1⟩:=D3.out _ hC1;have q0:=hC1.out.free k;have HW2:=zY hC1;clear HC0 hC1;go_wp2_with fail;refine ⟨⟨k+1,HK.out,by go_num,?_⟩,by have:=HK.out; simp [intOf]; omega⟩;have h:=qaj (i:=k) HW2.out.out (.int .u8 (dn:Int));rw [qbN,HSET.out] at h;rw [HSTEP.out];exact HW2.out.putO (qah _ _ _ _) h
        ·obtain rfl:k=32:=by omega
         have hpl:partL L 32=leftL X:=by rw [HLF'.out,← hL]; exact qb2 _ _ hLl
         rw [hpl] at hst;have HST:=zY hst;clear hst hpl hZ hL I hZl hLl;go_wp2_with fail;go_ret;exact ⟨oo,rfl,HST.out.lo,HST.out.out,HST.out.a.bel⟩
def padI (l:List Nat):List Int:=(partL l 64).map fun n:Nat=>(n:Int)
theorem qcW {l:List Nat} (h:l.length≤64):(padI l).length=64:=by rw [padI,List.length_map,qaM _ _ h]
theorem padI_set (l:List Nat) (k d:Nat) (hk:l.length=k) (h:k<64):(padI l).set k (d:Int)=padI (l++[d]):=by
 rw [padI,padI,← qbU l 64 k d hk h,List.map_set]
theorem vI_map:∀ l:List Nat,vI (l.map fun n:Nat=>(n:Int))=(leV l:Int)
 | []=>rfl
 | x :: r=>by
  show (x:Int)+256*vI (r.map _)=((x+256*leV r:Nat):Int);rw [vI_map r]; omega
theorem leV_part (l:List Nat) (n:Nat):leV (partL l n)=leV l:=by rw [partL,qa9,qbm,Nat.mul_zero,Nat.add_zero]
theorem padI_val (l:List Nat):vI (padI l)=(leV l:Int):=by rw [padI,vI_map,leV_part]
theorem part_dg {l:List Nat} (h:Dg l) (n:Nat):Dg (partL l n):=fun d hd=>by
 rcases List.mem_append.1 hd with h1 | h1
 ·exact h d h1
 ·rw [List.eq_of_mem_replicate h1]; decide
theorem getD_mapI (l:List Nat) (j:Nat):(l.map fun n:Nat=>(n:Int)).getD j 0=((l.getD j 0:Nat):Int):=by
 rw [List.getD_eq_getElem?_getD,List.getD_eq_getElem?_getD,List.getElem?_map]
 cases l[j]? <;> rfl
theorem padI_bd {l:List Nat} (h:Dg l) (j:Nat):-4194304≤(padI l).getD j 0∧(padI l).getD j 0≤4194304:=by
 rw [padI,getD_mapI];have:=qaA (part_dg h 64) j;omega
theorem ln_pos:0<LN:=by decide
theorem left_val {X:List Int} {N:Nat} (P:LeftP X) (h:vI X=(N:Int)):leftL X=digN 32 (N%LN):=by
 refine qcb (leftL_dg P) (leftL_len P) ?_;have h1:=P.val;rw [h,← Int.natCast_emod] at h1;exact Int.ofNat_inj.1 h1
structure D64 (w0:World) (g:Nat) (X:List Int) (u:World):Prop where
 bel:Below w0.heap.size w0 u
 x:Blk u g 80 (iV X).toArray
 lo:w0.heap.size≤g
theorem D64.put {w0 u u':World} {g:Nat} {X X':List Int} (k:D64 w0 g X u) (hw:Wrote g u u') (hb:Blk u' g 80 (iV X').toArray):D64 w0 g X' u' :=
 ⟨hw.below k.bel k.lo k.bel.size,hb,k.lo⟩
theorem D64.drew {w0 u:World} {g:Nat} {X:List Int} (k:D64 w0 g X u):D64 w0 g X u.drew:=⟨k.bel.drew,k.x,k.lo⟩
def SclPost (N:Nat) (w:World) (e:Ending) (w':World):Prop :=
 ∃ o,e=.returned (.slice (some ⟨o,0,none⟩) 32 32)∧w.heap.size≤o∧Blk w' o 5 (bnV (digN 32 N)).toArray∧Below w.heap.size w w'
theorem qcQ {w:World} {A:Option Addr} {l:List Nat} {B:Nat} (h:Rd w B A (bnV l)) {k:Nat} (hk:k<l.length):∃ ad,A=some ad∧w.cell? (ad.add k)=some (.int .u8 ((l.getD k 0:Nat):Int)):=by
 obtain ⟨ad,rfl,_,hcell⟩:=h.at_ (k:=k) (by rw [bnV,List.length_map]; exact hk);refine ⟨ad,rfl,?_⟩;rw [hcell,List.getD_eq_getElem?_getD,List.getElem?_eq_getElem hk];simp [bnV]
theorem min_run (n m:Nat) (h:min n 64=m) (ts:Array TypeId) (t:TypeId) (u:World):(Builtin.min_ ts t #[.int .i64 (n:Int),.int .i64 64]).run Tryz.prog u=.ok (.int .i64 (m:Int)) u:=by
 by_cases h1:n≤64
 ·obtain rfl:m=n:=by omega
  have h2:(m:Int)≤64:=by omega
  have h3:¬ (64:Int)<(m:Int):=by omega
  simp [Builtin.min_,Builtin.min2,List.foldlM]
  try omega
 ·obtain rfl:m=64:=by omega
  have h2:¬ (n:Int)≤64:=by omega
  have h3:(64:Int)<(n:Int):=by omega
  simp [Builtin.min_,Builtin.min2,List.foldlM]
  try omega
theorem scl_new (w:World):D64 w w.heap.size (padI []) (w.alloc (.cells (iV (padI [])).toArray 80)):=⟨below_new _ _,Blk.new _ _ _,Nat.le_refl _⟩
theorem scl_reduce (l:List Nat) (hd:Dg l) (A:Option Addr) (c:Nat) (w:World) (hr:Rd w w.heap.size A (bnV l)) (hl:l.length≤1000000) :
  Calls Tryz.prog 19 #[.slice A l.length c] w (SclPost (leV (l.take 64)%LN) w):=by
 obtain ⟨n,hn⟩:=eX (l.length);obtain ⟨m,hm⟩:=eX ((l.take 64).length);have hmn:m≤n:=by rw [hm,hn,List.length_take]; exact Nat.min_le_right _ _
 have hm64:m≤64:=by rw [hm,List.length_take]; exact Nat.min_le_left _ _
 rw [← hn];have hn63:(n:Int)≤1000000:=by omega
 have hmin:=min_run n m (by rw [hm,List.length_take,← hn]; omega);have hst0:=scl_new w;have HR:=zY hr;have HD:=zY hd;have HN:=zY hn;have HM:=zY hm;have HMN:=zY hmn;have HST0:=zY hst0;clear hr hd hn hm hl hst0 hmn;go_enter Tryz.func19,Tryz.ntmps19;go_wp2_with fail;generalize hg:w.heap.size=g at HST0 HR ⊢;have HG:=zY hg;clear hg hmin
 change Code.wp Tryz.prog _ _ _ (w.alloc (.cells (iV (padI [])).toArray 80))
 generalize w.alloc (.cells (iV (padI [])).toArray 80)=w9 at HST0 ⊢
 go_loopw [8] (fun jv wr=>∃ k:Nat,k≤m∧jv=.int .i64 (k:Int)∧D64 w g (padI (l.take k)) wr) (fun jv _=>((m:Int) - intOf jv).toNat)
 case atStart=>exact ⟨0,by omega,rfl,HST0.out⟩
 case round =>
  clear HST0;obtain ⟨k,hk,rfl,hst⟩:=hrel
  by_cases hlt:k<m
  ·have hlt':(k:Int)<(m:Int):=by omega
   have hk64:(k:Int)<64:=by omega
   have hkn:(k:Int)<(n:Int):=by have:=HMN.out; omega
   have hkl:k<l.length:=by rw [← HN.out]; omega
   have hrd:=HR.out.below (by have h:=hst.bel; rw [HG.out] at h; exact h);obtain ⟨ad,rfl,d1⟩:=qcQ hrd hkl;obtain ⟨b,hb⟩:=eX (l.getD k 0);have hbl:(b:Int)<256:=by have:=qaA HD.out k; rw [← hb] at this; omega
   rw [← hb] at d1;have htl:(l.take k).length=k:=by rw [List.length_take]; omega
   have hset:(padI (l.take k)).set k (b:Int)=padI (l.take (k+1)):=by
    rw [padI_set _ k b htl (by omega),qbA hkl,hb,List.getD_eq_getElem?_getD,List.getElem?_eq_getElem hkl]; rfl
   have hd0:∃ z,wr.cell? ⟨g,k,none⟩=some (.int .i64 z):=⟨_,by rw [hst.x.cell,iV_at (by rw [qcW (by rw [htl]; omega)]; omega)]⟩;obtain ⟨z0,d0⟩:=hd0;have q0:=hst.x.free k;have HSET:=zY hset;have HST:=zY hst;have HK:=zY hlt;clear hst hset hrd hb hkl htl hk hlt;go_wp2_with fail;refine ⟨⟨k+1,HK.out,by go_num,?_⟩,by have:=HK.out; simp [intOf]; omega⟩;have h:=qaj (i:=k) HST.out.x (.int .i64 (b:Int));rw [qck,HSET.out] at h;exact HST.out.put (qah _ _ _ _) h
  ·obtain rfl:k=m:=by omega
   obtain ⟨T,hT⟩:=eX (l.take 64)
   have htk:l.take k=T:=by
    rw [hT,HM.out,List.length_take]
    by_cases h:64≤l.length
    ·rw [Nat.min_eq_left h]
    ·rw [Nat.min_eq_right (by omega),List.take_of_length_le (Nat.le_refl _),List.take_of_length_le (by omega)]
   have hTd:Dg T:=fun d h=>HD.out d (List.mem_of_mem_take (by rw [hT] at h; exact h));have hTl:T.length≤64:=by rw [hT,List.length_take]; exact Nat.min_le_left _ _
   rw [htk] at hst;have hpost:=left_any (padI T) (qcW hTl) (padI_bd hTd) g wr hst.x;have hval:=left_val (left_ok (qcW hTl) (padI_bd hTd)) (padI_val T);have HT:=zY hT;have HST:=zY hst;have HPOST:=zY hpost;have HVAL:=zY hval;clear hst hpost hval hT htk hTd hTl;go_wp2_with fail;refine qaa HPOST.out ?_;rintro e w2 ⟨o,rfl,ho,hbk,hb2⟩;rw [HVAL.out] at hbk
   have HF:=zY (show w.heap.size≤o∧Blk w2 o 5 (bnV (digN 32 (leV T%LN))).toArray∧Below w.heap.size w w2 from
    ⟨Nat.le_trans HST.out.bel.size ho,hbk,HST.out.bel.trans (hb2.mono HST.out.lo)⟩)
   clear ho hbk hb2;go_wp2_with fail;go_ret;have hf:=HF.out;rw [HT.out] at hf;exact ⟨o,rfl,hf⟩
def hshN (d:List UInt8):Nat:=leV (secD d)%LN
def keyN (b:List UInt8):Nat:=leV ((secL b).take 32)
def pubL (n:Nat):List Nat:=byF (times baseF n)
theorem digS_len (b:List UInt8):(Sh.digS Sh.F64 b).length=64:=Sh.outW_length 64 8 (Sh.runS Sh.F64 (Sh.padS Sh.F64 b) ((Sh.padS Sh.F64 b).length/(2*Sh.F64.bits))) 8 (Nat.le_refl _)
theorem secD_len (b:List UInt8) (h:(Sh.digS Sh.F64 b).length=64):(secL b).length=64:=by rw [secL,clampL_len,secD,digs,List.length_map,h]
def prefB (b:List UInt8):List UInt8:=bsN ((secL b).drop 32)
def secN (b m:List UInt8):Nat:=hshN (prefB b++m++[])
def ptB (n:Nat):List UInt8:=bsN (pubL n)
def sigN (b m:List UInt8):Nat:=(hshN (ptB (secN b m)++ptB (keyN b)++m)*keyN b+secN b m)%LN
def sigB (b m:List UInt8):List UInt8:=ptB (secN b m)++byB (sigN b m)
theorem secL_dg (b:List UInt8):Dg (secL b):=clampL_dg (qca _)
theorem pubL_dg (n:Nat):Dg (pubL n):=byP_dg (times baseF n).y.isLt
theorem pubL_len (n:Nat):(pubL n).length=32:=byP_len _ _
theorem ptB_len (n:Nat):(ptB n).length=32:=by rw [ptB,bsN,List.length_map,pubL_len]
theorem qbI {N:Nat} (h:N<LN):leV (digs (byB N))=N:=by
 rw [qcw];exact qeh N (Nat.lt_trans h (by decide))
theorem hshN_lt (d:List UInt8):hshN d<LN:=Nat.mod_lt _ ln_pos
theorem bsN_val {l:List Nat} (h:Dg l):leV (digs (bsN l))=leV l:=by rw [qdL h]
def bmP (kb:List UInt8):Pt4:=mulP baseP kb
theorem bmP_ok (kb:List UInt8):(bmP kb).Ok:=mulP_ok baseP_ok kb
theorem bmP_is {kb:List UInt8} (h:kb.length=32):Is (bmP kb) (times baseF (leV (digs kb))):=by
 have e:=Is.mul baseP_ok is_base kb;rw [List.take_of_length_le (by omega)] at e;exact e
theorem qeu {kb:List UInt8} (h:kb.length=32):bytP (bmP kb)=pubL (leV (digs kb)):=bytP_is (bmP_ok kb) (bmP_is h)
theorem bm_any (kb:List UInt8) (h:kb.length=32) (A:Option Addr) (c:Nat) (u:World) (hr:Rd u u.heap.size A (bytesV kb)) (hc:32≤c) :
  Calls Tryz.prog 22 #[.agg (ptV baseP),.slice A 32 c] u (PtPost (bmP kb) u):=by
 have e:=pmul_any baseP baseP_ok kb A c u hr (by omega);rw [h] at e;exact e
theorem bb_any (kb:List UInt8) (h:kb.length=32) (u:World):Calls Tryz.prog 26 #[.agg (ptV (bmP kb))] u
  (fun e w'=>∃ o,e=.returned (.slice (some ⟨o,0,none⟩) 32 32)∧u.heap.size≤o∧Blk w' o 5 (bnV (pubL (leV (digs kb)))).toArray∧Below u.heap.size u w'):=by
 have e:=pbytes_any (bmP kb) (bmP_ok kb) u;unfold PbyPost at e;rw [qeu h] at e;exact e
theorem ssec_any (b:List UInt8) (lb:b.length=32) (A:Option Addr) (c:Nat) (w:World) (hr:Rd w w.heap.size A (bytesV b)) (hc:32≤c) (hG:Sh.TabG w) :
  Calls Tryz.prog 64 #[.slice A 32 c] w (fun e w'=>∃ A c B d,e=.returned (.tuple #[.slice A 32 c,.slice B 32 d])∧32≤c∧32≤d∧Rd w' w'.heap.size A (bytesV (bsN ((secL b).take 32)))∧Rd w' w'.heap.size B (bytesV (prefB b))∧Below w.heap.size w w'):=by
 have hS:=ssecret_any b A c w hr (by rw [lb]; decide) (by rw [lb]; exact hc) hG;rw [lb] at hS;refine Calls.mono hS fun e w' q=>?_;obtain ⟨A1,c1,B1,d1,q1,q2,q3,q4,q5,q6⟩:=q;exact ⟨A1,c1,B1,d1,q1,q2,q3,by rw [← qcp (fun d hd=>secL_dg b d (List.mem_of_mem_take hd))]; exact q4,by rw [prefB,← qcp (fun d hd=>secL_dg b d (List.mem_of_mem_drop hd))]; exact q5,q6⟩
theorem keyB_val (b:List UInt8):leV (digs (bsN ((secL b).take 32)))=keyN b:=by rw [bsN_val (fun d hd=>secL_dg b d (List.mem_of_mem_take hd)),keyN]
theorem keyB_len (b:List UInt8):(bsN ((secL b).take 32)).length=32:=by rw [bsN,List.length_map,List.length_take,secD_len b (digS_len b)]; rfl
theorem prefB_len (b:List UInt8):(prefB b).length=32:=by rw [prefB,bsN,List.length_map,List.length_drop,secD_len b (digS_len b)]
def SpuPost (L:List Nat) (w:World) (e:Ending) (w':World):Prop :=
 ∃ o,e=.returned (.tuple #[.slice (some ⟨o,0,none⟩) 32 32,.int .i64 0])∧w.heap.size≤o∧Blk w' o 5 (bnV L).toArray∧Below w.heap.size w w'
theorem qdV (b:List UInt8) (lb:b.length=32) (A:Option Addr) (c:Nat) (w:World) (hr:Rd w w.heap.size A (bytesV b)) (hc:32≤c) (hG:Sh.TabG w) :
  Calls Tryz.prog 27 #[.slice A 32 c] w (SpuPost (pubL (keyN b)) w):=by
 have HS:=zY (ssec_any b lb A c w hr hc hG);obtain ⟨K,hK⟩:=eX (bsN ((secL b).take 32));have hKl:K.length=32:=by rw [hK]; exact keyB_len b
 have hkv:leV (digs K)=keyN b:=by rw [hK]; exact keyB_val b
 rw [← hK] at HS;rw [← hkv];obtain ⟨B,hB⟩:=eX baseP;obtain ⟨P,hP⟩:=eX (bmP K);have CB:=zY (show ∀ u,Calls Tryz.prog 21 #[] u (PtPost B u) from fun u=>by rw [hB]; exact base_any u);have CM:=zY (show ∀ A c u,Rd u u.heap.size A (bytesV K)→32≤c→Calls Tryz.prog 22 #[.agg (ptV B),.slice A 32 c] u (PtPost P u) from fun A c u h1 h2=>by rw [hB,hP]; exact bm_any K hKl A c u h1 h2);have CY:=zY (show ∀ u,Calls Tryz.prog 26 #[.agg (ptV P)] u (fun e w'=>∃ o,e=.returned (.slice (some ⟨o,0,none⟩) 32 32)∧u.heap.size≤o∧Blk w' o 5 (bnV (pubL (leV (digs K)))).toArray∧Below u.heap.size u w') from fun u=>by rw [hP]; exact bb_any K hKl u);obtain ⟨L,hL⟩:=eX (pubL (leV (digs K)));rw [← hL] at CY ⊢;clear hr hc hG hK hKl hkv hB hP hL lb;go_enter Tryz.func27,Tryz.ntmps27;go_wp2_with fail;refine qaa HS.out ?_;rintro e w1 ⟨A1,c1,B1,d1,rfl,hc1,hd1,r1,r2,hb1⟩;have R1:=zY r1;have HB:=zY hb1;have HC1:=zY hc1;clear r1 r2 hb1 hc1 hd1;go_wp2_with fail;refine qaa (CB.out _) ?_;rintro e w2 ⟨rfl,hb⟩;replace R1:=zY (qae R1.out hb);replace HB:=zY (HB.out.trans (hb.mono HB.out.size));clear hb;go_wp2_with fail;refine qaa (CM.out _ _ _ R1.out HC1.out) ?_;rintro e w3 ⟨rfl,hb⟩;replace HB:=zY (HB.out.trans (hb.mono HB.out.size));clear hb;go_wp2_with fail;refine qaa (CY.out _) ?_;rintro e w4 ⟨o,rfl,ho,hk,hb⟩;have HF:=zY (And.intro (Nat.le_trans HB.out.size ho) (And.intro hk (HB.out.trans (hb.mono HB.out.size))));clear ho hk hb;go_wp2_with fail;go_ret2;exact ⟨o,rfl,HF.out⟩
end Go.Proofs.YtdgheahbafnboaaGreatDoor
