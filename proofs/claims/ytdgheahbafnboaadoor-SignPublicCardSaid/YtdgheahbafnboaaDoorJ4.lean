/-
  Joined texts: Ex Er Byp Ebf Rr Ro Rqp Rbz Sml Rll Sc Sd Lft Scr Rrd Sgp Fws Grow Cat Top5 Sdg Spu Seed Sma Ssg Lvp Lvw.
-/
import Derived.Laws.BitsAllLaws
import Derived.Test.YtdgheahbafnboaaDoorJ3
import Derived.Test.YtdgheahbafnboaaDoorJ2
import Derived.Test.YtdgheahbafnboaaDoorJ1
/-
  Plain: a point's four elements stand for a pair of numbers modulo p on the curve.
-/
namespace Go.Proofs.YtdgheahbafnboaaDoor
set_option linter.unusedSimpArgs false
set_option linter.unusedVariables false
open Go.RowKit
section
variable {n:Nat} [NeZero n]
theorem gn_add (a b:Nat):Fin.ofNat n (a+b)=Fin.ofNat n a+Fin.ofNat n b:=by
 apply Fin.ext;rw [Fin.val_add];simp only [Fin.ofNat];rw [← Nat.add_mod]
theorem gn_mul (a b:Nat):Fin.ofNat n (a*b)=Fin.ofNat n a*Fin.ofNat n b:=by
 apply Fin.ext;rw [Fin.val_mul];simp only [Fin.ofNat];rw [← Nat.mul_mod]
theorem gn_eq {a b:Nat}:Fin.ofNat n a=Fin.ofNat n b↔a%n=b%n:=by
 constructor
 ·intro h;have:=congrArg Fin.val h
  simpa only [Fin.ofNat] using this
 ·intro h;apply Fin.ext
  simpa only [Fin.ofNat] using h
theorem gn_val (x:Fin n):Fin.ofNat n x.val=x:=Fin.ext (Nat.mod_eq_of_lt x.isLt)
theorem gn_mod (a:Nat):Fin.ofNat n (a%n)=Fin.ofNat n a:=gn_eq.2 (Nat.mod_mod _ _)
theorem gn_sub {a b c:Nat} (h:(a+b)%n=c%n):Fin.ofNat n a=Fin.ofNat n c - Fin.ofNat n b:=by
 have h1:Fin.ofNat n a+Fin.ofNat n b=Fin.ofNat n c:=by rw [← gn_add]; exact gn_eq.2 h
 rw [← h1];generalize Fin.ofNat n a=x;generalize Fin.ofNat n b=y
 grind -lia
end
instance:NeZero PN:=⟨by decide⟩
abbrev FP:=Fin PN
def fn (a:Nat):FP:=Fin.ofNat PN a
theorem fn_add (a b:Nat):fn (a+b)=fn a+fn b:=gn_add a b
theorem fn_mul (a b:Nat):fn (a*b)=fn a*fn b:=gn_mul a b
theorem fn_eq {a b:Nat}:fn a=fn b↔a%PN=b%PN:=gn_eq
theorem fn_val (x:FP):fn x.val=x:=gn_val x
theorem fn_mod (a:Nat):fn (a%PN)=fn a:=gn_mod a
theorem val_fn (a:Nat):(fn a).val=a%PN:=rfl
theorem fn_one:fn 1=1:=rfl
theorem fn_zero:fn 0=0:=rfl
theorem fn_ne {a:Nat}:fn a≠0↔a%PN≠0:=by
 rw [← fn_zero,Ne,fn_eq,Nat.zero_mod]
def dF:FP:=fn dN
def ivF (a:FP):FP:=fn (a.val^(PN - 2))
theorem iv_one (a:FP) (h:a≠0):a*ivF a=1:=by
 obtain ⟨e,he⟩:∃ e,e=PN - 2:=⟨_,rfl⟩;have he1:PN - 1=e+1:=by rw [he]; decide
 have h1:a.val%PN≠0:=by rw [← fn_ne,fn_val]; exact h
 have h2:=fermatP a.val h1;rw [he1,Nat.pow_succ] at h2;rw [ivF,← he]
 conv=>lhs; lhs; rw [← fn_val a]
 rw [← fn_mul,← fn_one,fn_eq,Nat.mul_comm,h2]
 decide
def rootN:Nat:=19681161376707505956807079304988542015446066515923890162744021073123829784752
def halfL:List Nat:=(List.range 32).map fun j=>(PN - 1)/2/256^j%256
theorem half_val:leV halfL=(PN - 1)/2:=by decide
theorem d_half:dN^((PN - 1)/2)%PN=PN - 1:=by
 rw [← half_val,← pm_eq]
 decide
theorem d_none (w:FP):w*w≠dF:=by
 intro h;obtain ⟨k,hk⟩:∃ k,k=(PN - 1)/2:=⟨_,rfl⟩;have hk2:PN - 1=k+k:=by rw [hk]; decide
 have hd:=d_half;rw [← hk] at hd;have h1:w.val*w.val%PN=dN%PN:=by rw [← fn_eq,fn_mul,fn_val]; exact h
 by_cases hw:w.val%PN=0
 ·rw [Nat.mul_mod,hw] at h1;exact absurd h1 (by decide)
 ·have h2:=fermatP w.val hw;rw [hk2,Nat.pow_add,← Nat.mul_pow,Nat.pow_mod,h1,← Nat.pow_mod,hd] at h2;exact absurd h2 (by decide)
theorem FF:Ed.Fld PN dF ivF where
 iv1:=iv_one
 one:=by decide
 two:=by decide
 i:=⟨fn rootN,by decide⟩
 ns:=d_none
abbrev PtF:=Ed.Pn PN dF
def fv (x:E5):FP:=fn x.val
theorem fv_add (x y:E5):fv (addE x y)=fv x+fv y:=by rw [fv,fv,fv,← fn_add]; exact fn_eq.2 (sm_add x y)
theorem fv_mul (x y:E5):fv (mulE x y)=fv x*fv y:=by rw [fv,fv,fv,← fn_mul]; exact fn_eq.2 (sm_mul x y)
theorem fv_sub {x y:E5} (hy:y.Ok):fv (subE x y)=fv x - fv y:=gn_sub (sm_sub hy)
theorem fv_inv (x:E5):fv (invE x)=ivF (fv x):=by
 rw [fv,fv,ivF];refine fn_eq.2 ?_;rw [invE_val,val_fn];generalize PN - 2=e;rw [Nat.pow_mod]
theorem fv_int (n:Nat):fv (intE (n:Int))=fn n:=by rw [fv,intE_nat,natE_val]
theorem fv_z:fv zE=0:=rfl
structure Is (p:Pt4) (P:PtF):Prop where
 z:fv p.z≠0
 x:fv p.x=P.x*fv p.z
 y:fv p.y=P.y*fv p.z
 t:fv p.t=P.x*P.y*fv p.z
def plus (P Q:PtF):PtF:=Ed.add FF P Q
def times (P:PtF) (k:Nat):PtF:=Ed.mul FF P k
def zeroF:PtF:=Ed.zero dF
theorem Is.sum {p q:Pt4} {P Q:PtF} {tw:E5} (hp:p.Ok) (hq:q.Ok) (hw:tw.Ok) (ht:fv tw=dF+dF) (h:Is p P) (k:Is q Q):Is (sumP p q tw) (plus P Q):=by
 have okA:=mul_ok (sub_ok hp.y hp.x) (sub_ok hq.y hq.x);have okC:=mul_ok (mul_ok hp.t hw) hq.t;obtain ⟨r1,r2,r3,r4⟩:=Ed.four FF P.on Q.on (Ed.add_sum FF P Q) h.z k.z h.x h.y h.t k.x k.y k.t ht rfl rfl rfl rfl rfl rfl rfl rfl;rw [← fv_sub hp.x,← fv_sub hq.x,← fv_add,← fv_add,← fv_mul,← fv_mul,← fv_mul,← fv_mul,← fv_mul,← fv_sub okA,← fv_add,← fv_add,← fv_sub okC,← fv_add] at *;exact ⟨by rw [sumP,fv_mul]; exact r1,by rw [sumP,fv_mul,fv_mul]; exact r2,by rw [sumP,fv_mul,fv_mul]; exact r3,by rw [sumP,fv_mul,fv_mul]; exact r4⟩
theorem Is.neg {p:Pt4} {P:PtF} (hp:p.Ok) (h:Is p P):Is (negP p) (Ed.neg P):=by
 refine ⟨h.z,?_,h.y,?_⟩
 ·show fv (subE zE p.x)=-P.x*fv p.z;rw [fv_sub hp.x,fv_z,h.x]
  grind -lia
 ·show fv (subE zE p.t)=-P.x*P.y*fv p.z;rw [fv_sub hp.t,fv_z,h.t]
  grind -lia
theorem is_of {x y:E5} {P:PtF} (hx:fv x=P.x) (hy:fv y=P.y):Is (ofP x y) P:=by
 have h1:fv (intE 1)=1:=fv_int 1;refine ⟨?_,?_,?_,?_⟩
 ·show fv (intE 1)≠0;rw [h1]; exact FF.one
 ·show fv x=P.x*fv (intE 1);rw [h1,hx]; grind -lia
 ·show fv y=P.y*fv (intE 1);rw [h1,hy]; grind -lia
 ·show fv (mulE x y)=P.x*P.y*fv (intE 1);rw [h1,fv_mul,hx,hy]; grind -lia
theorem is_zero:Is zeroP zeroF:=is_of (fv_int 0) (fv_int 1)
theorem base_on:Ed.On dF (fn bxN) (fn byNN):=by unfold Ed.On; decide
def baseF:PtF:=⟨fn bxN,fn byNN,base_on⟩
theorem is_base:Is baseP baseF:=by
 have h:∀ x y,fn x.val=baseF.x→fn y.val=baseF.y→Is (ofP x y) baseF:=fun x y hx hy=>is_of hx hy;exact h _ _ (by rw [bx_val]; rfl) (by rw [by_val]; rfl)
theorem fv_d:fv dE=dF:=by rw [fv,dE_val,dF]
theorem fv_d2:fv (addE dE dE)=dF+dF:=by rw [fv_add,fv_d]
theorem Is.add {p q:Pt4} {P Q:PtF} (hp:p.Ok) (hq:q.Ok) (h:Is p P) (k:Is q Q):Is (addP p q) (plus P Q):=Is.sum hp hq d2_ok fv_d2 h k
section
variable {p:Pt4} {P:PtF} {T:E5} (hT:T.Ok) (ht:fv T=dF+dF) (hp:p.Ok) (h:Is p P)
include hT ht hp h
theorem is_S {out:Pt4} {n bit:Nat} (ho:out.Ok) (k:Is out (times P n)) (hb:bit<2):Is (pmS T p out bit) (times P (2*n+bit)):=by
 have h2:Is (sumP out out T) (times P (2*n)):=by
  have:=Is.sum ho ho hT ht k k
  rwa [show plus (times P n) (times P n)=times P (2*n) from (Ed.mul_two FF P n).symm] at this
 unfold pmS
 split
 ·next e =>
  rw [e];exact Is.sum (sumP_ok ho ho hT) hp hT ht h2 h
 ·next e =>
  obtain rfl:bit=0:=by omega
  exact h2
theorem is_B {out:Pt4} {n:Nat} (ho:out.Ok) (k:Is out (times P n)) (b:Nat):∀ j,j≤8→Is (pmB T p out b j) (times P (n*2^j+b%256/2^(8 - j)))
 | 0,_=>by
  have e:b%256/2^(8 - 0)=0:=Nat.div_eq_of_lt (Nat.mod_lt _ (by decide));rw [e,Nat.pow_zero,Nat.mul_one,Nat.add_zero];exact k
 | j+1,hj=>by
  have ih:=is_B ho k b j (by omega);have e:=is_S hT ht hp h (bit:=b/2^(7 - j)%2) (pmB_ok hT hp ho b j) ih (Nat.mod_lt _ (by decide));rw [pmB];have hp:2^(8 - j)=2^(7 - j)*2:=by rw [← Nat.pow_succ]; congr 1; omega
  have h1:b%256/2^(8 - j)=b%256/2^(7 - j)/2:=by rw [hp,Nat.div_div_eq_div_mul]
  have h2:b/2^(7 - j)%2=b%256/2^(7 - j)%2:=by
   obtain ⟨d,hd⟩:∃ d,8=(7 - j)+(1+d):=⟨j,by omega⟩
   have h8:2^(7 - j)*(2*2^d)=256:=by
    have h9:2^((7 - j)+(1+d))=256:=by rw [← hd]
    rw [Nat.pow_add,Nat.pow_add,Nat.pow_one] at h9;exact h9
   obtain ⟨c,hc⟩:∃ c,c=b/256:=⟨_,rfl⟩;have e4:2^(7 - j)*(2*(2^d*c))=256*c:=by rw [← h8]; simp only [Nat.mul_assoc]
   have e3:b=b%256+2^(7 - j)*(2*(2^d*c)):=by rw [e4,hc]; exact (Nat.mod_add_div b 256).symm
   conv=>lhs; rw [e3,Nat.add_mul_div_left _ _ (Nat.two_pow_pos _),Nat.add_mul_mod_self_left]
  have e6:2*(n*2^j+b%256/2^(8 - j))+b/2^(7 - j)%2=n*2^(j+1)+b%256/2^(8 - (j+1)):=by
   rw [h1,h2,show 8 - (j+1)=7 - j by omega,Nat.pow_succ]
   have e5:2*(n*2^j+b%256/2^(7 - j)/2)=n*(2^j*2)+2*(b%256/2^(7 - j)/2):=by
    rw [Nat.mul_add,← Nat.mul_assoc n,Nat.mul_comm 2 (n*2^j)]
   rw [e5];omega
  rwa [e6] at e
theorem is_L (l:List Nat) (hl:∀ d ∈ l,d<256):∀ j,j≤l.length→Is (pmL T p l j) (times P (leV (l.drop (l.length - j))))
 | 0,_=>by
  rw [Nat.sub_zero,List.drop_length,leV,pmL];exact is_zero
 | j+1,hj=>by
  have hlt:l.length - 1 - j<l.length:=by omega
  have hd:l.getD (l.length - 1 - j) 0=l[l.length - 1 - j]:=by rw [List.getD_eq_getElem?_getD,List.getElem?_eq_getElem hlt]; rfl
  have hb:l[l.length - 1 - j]<256:=hl _ (List.getElem_mem hlt);have e:=is_B hT ht hp h (pmL_ok hT hp l j) (is_L l hl j (by omega)) l[l.length - 1 - j] 8 (Nat.le_refl _);rw [pmL,hd,show l.length - (j+1)=l.length - 1 - j by omega,List.drop_eq_getElem_cons hlt,leV,show l.length - 1 - j+1=l.length - j by omega];rw [Nat.mod_eq_of_lt hb,show 8 - 8=0 from rfl,Nat.pow_zero,Nat.div_one,show (2:Nat)^8=256 from rfl,Nat.mul_comm,Nat.add_comm] at e;exact e
end
theorem Is.mul {p:Pt4} {P:PtF} (hp:p.Ok) (h:Is p P) (l:List UInt8):Is (mulP p l) (times P (leV (digs (l.take 32)))):=by
 have e:=is_L d2_ok fv_d2 hp h (digs (l.take 32)) (digs_lt _) (min l.length 32) (by rw [digs,List.length_map,List.length_take,Nat.min_comm]; exact Nat.le_refl _);rw [show (digs (l.take 32)).length - min l.length 32=0 by rw [digs,List.length_map,List.length_take,Nat.min_comm,Nat.sub_self],List.drop_zero] at e;exact e
theorem eqP_is {p q:Pt4} {P Q:PtF} (hp:p.Ok) (hq:q.Ok) (h:Is p P) (k:Is q Q):eqP p q=true↔P=Q:=by
 have e1:∀ a b c d:E5,a.Ok→b.Ok→c.Ok→d.Ok→(eqB (mulE a b) (mulE c d)=true↔fv a*fv b=fv c*fv d):=fun a b c d ha hb hc hd=>by
  rw [eqB,eqE (mul_ok ha hb).big (mul_ok hc hd).big,decide_eq_true_iff,← fn_eq,← fv_mul,← fv_mul];exact Iff.rfl
 rw [eqP,Bool.and_eq_true,e1 _ _ _ _ hp.x hq.z hq.x hp.z,e1 _ _ _ _ hp.y hq.z hq.y hp.z,h.x,h.y,k.x,k.y];have hz:=Ed.mul_ne FF h.z k.z
 constructor
 ·rintro ⟨h1,h2⟩;refine Ed.Pn.eq (Ed.cancel FF hz ?_) (Ed.cancel FF hz ?_)
  ·clear h2 hz;generalize fv p.z=a at *;generalize fv q.z=b at *
   grind -lia
  ·clear h1 hz;generalize fv p.z=a at *;generalize fv q.z=b at *
   grind -lia
 ·rintro rfl;generalize fv p.z=a;generalize fv q.z=b
  constructor <;> grind -lia
end Go.Proofs.YtdgheahbafnboaaDoor
/-
  Plain: roots modulo p; which numbers are a point's x.
-/
namespace Go.Proofs.YtdgheahbafnboaaDoor
set_option linter.unusedSimpArgs false
set_option linter.unusedVariables false
open Go.RowKit
section
variable {n:Nat} [NeZero n]
def pwG (x:Fin n):Nat→Fin n
 | 0=>1
 | k+1=>pwG x k*x
theorem pwG_one (x:Fin n):pwG x 1=x:=by show 1*x=x; grind -lia
theorem pwG_add (x:Fin n) (a:Nat):∀ b,pwG x (a+b)=pwG x a*pwG x b
 | 0=>by show pwG x a=pwG x a*1; grind -lia
 | b+1=>by
  show pwG x (a+b)*x=pwG x a*(pwG x b*x);rw [pwG_add x a b]
  grind -lia
theorem pwG_mul (x y:Fin n):∀ b,pwG (x*y) b=pwG x b*pwG y b
 | 0=>by show (1:Fin n)=1*1; grind -lia
 | b+1=>by
  show pwG (x*y) b*(x*y)=(pwG x b*x)*(pwG y b*y);rw [pwG_mul x y b]
  grind -lia
theorem pwG_pw (x:Fin n) (a:Nat):∀ b,pwG x (a*b)=pwG (pwG x a) b
 | 0=>rfl
 | b+1=>by rw [Nat.mul_succ,pwG_add,pwG_pw x a b]; rfl
theorem pwG_zero:∀ b,0<b→pwG (0:Fin n) b=0
 | b+1,_=>by show pwG 0 b*0=0; grind -lia
theorem gn_pow (a:Nat):∀ k,Fin.ofNat n (a^k)=pwG (Fin.ofNat n a) k
 | 0=>rfl
 | k+1=>by rw [Nat.pow_succ,gn_mul,gn_pow a k]; rfl
end
def pw (x:FP) (k:Nat):FP:=pwG x k
theorem fn_pow (a k:Nat):fn (a^k)=pw (fn a) k:=gn_pow a k
theorem pw_pw (x:FP) (a b:Nat):pw x (a*b)=pw (pw x a) b:=pwG_pw x a b
theorem pw_add (x:FP) (a b:Nat):pw x (a+b)=pw x a*pw x b:=pwG_add x a b
theorem pw_mul (x y:FP) (k:Nat):pw (x*y) k=pw x k*pw y k:=pwG_mul x y k
theorem pw_one (x:FP):pw x 1=x:=pwG_one x
theorem pw_zero {k:Nat} (h:0<k):pw 0 k=0:=pwG_zero k h
theorem pw_fermat {x:FP} (h:x≠0):pw x (PN - 1)=1:=by
 have h1:x.val%PN≠0:=by rw [← fn_ne,fn_val]; exact h
 have h2:=fermatP x.val h1;rw [← fn_val x,← fn_pow,← fn_one,fn_eq,h2]
 decide
section
variable {n:Nat} [NeZero n] {d:Fin n} {iv:Fin n→Fin n} (F:Ed.Fld n d iv)
include F
theorem g_zero {a b:Fin n} (h:a*b=0):a=0∨b=0:=by
 by_cases hb:b=0
 ·exact .inr hb
 ·exact .inl (Ed.fac F h hb)
theorem g_one {w:Fin n} (h:w*w=1):w=1∨w=-1:=by
 have h1:(w - 1)*(w+1)=0:=by grind -lia
 rcases g_zero F h1 with h2 | h2
 ·left; clear h1 h; grind -lia
 ·right; clear h1 h; grind -lia
theorem g_two {v x y u:Fin n} (hv:v≠0) (h:v*(x*x)=u) (k:v*(y*y)=u):y=x∨y=-x:=by
 have h1:(y - x)*(y+x)*v=0:=by grind -lia
 have h2:=Ed.fac F h1 hv
 rcases g_zero F h2 with h3 | h3
 ·left; clear h1 h2 h k; grind -lia
 ·right; clear h1 h2 h k; grind -lia
theorem g_den (y:Fin n):y*y*d+1≠0:=by
 intro h;obtain ⟨i,hi⟩:=F.i
 by_cases hy:y=0
 ·apply F.one; subst hy; grind -lia
 ·exact Ed.no_sq F (u:=i) (v:=y) hy (by grind -lia)
omit F
theorem g_on (x y:Fin n):Ed.On d x y↔(y*y*d+1)*(x*x)=y*y - 1:=by
 unfold Ed.On
 constructor
 ·intro h; grind -lia
 ·intro h; grind -lia
theorem g_h1 {u v x t:Fin n} (ht:t*t=-1) (h:v*x*x=u):v*(x*x)=u:=by grind -lia
theorem g_h2 {u v x t:Fin n} (ht:t*t=-1) (h:v*x*x=0 - u):v*((x*t)*(x*t))=u:=by grind -lia
theorem g_pow {u v p:Fin n}:v*(u*(v*v*v)*p)*(u*(v*v*v)*p)=u*(p*p*(u*(v*v*v)*(v*v*v)*v)):=by grind -lia
theorem g_sq {u v z:Fin n} (h:v*(z*z)=u):u*(v*v*v)*(v*v*v)*v=(z*(v*v*v*v))*(z*(v*v*v*v)):=by rw [← h]; grind -lia
theorem g_mul1 (x:Fin n):x*1=x:=by grind -lia
theorem g_mulm (x:Fin n):x*-1=0 - x:=by grind -lia
theorem g_neg2 {a q:Fin n} (hq:q*q=-1) {x:Fin n} (h:x*x=a*-1):(x*q)*(x*q)=a:=by grind -lia
theorem g_mz (x:Fin n):x*0=0:=by grind -lia
theorem g_zm (x:Fin n):0*x=0:=by grind -lia
theorem g_z0 (x:Fin n):(0:Fin n) - x=-x:=by grind -lia
theorem g_onB (d x y:Fin n):1+d*x*x*y*y=1+d*(x*x*(y*y)):=by grind -lia
theorem g_div {u v i a z:Fin n} (hi:v*i=1) (ha:a=u*i):v*(z*z)=u↔z*z=a:=by
 constructor
 ·intro h; grind -lia
 ·intro h; grind -lia
end
theorem f_zero {a b:FP} (h:a*b=0):a=0∨b=0:=g_zero FF h
theorem f_one {w:FP} (h:w*w=1):w=1∨w=-1:=g_one FF h
def kQ:Nat:=(PN - 1)/4
theorem kQ4:kQ*4=PN - 1:=by decide
theorem pw_quarter {z:FP} (h:z≠0):pw z (kQ*2)=1∨pw z (kQ*2)=-1:=by
 refine f_one ?_;rw [← pw_add,← Nat.mul_add,kQ4];exact pw_fermat h
end Go.Proofs.YtdgheahbafnboaaDoor
/-
  Plain: the bytes of a pair.
-/
namespace Go.Proofs.YtdgheahbafnboaaDoor
set_option linter.unusedSimpArgs false
set_option linter.unusedVariables false
open Go.RowKit
def byP (x y:Nat):List Nat:=if x%2=1 then (byN y).set 31 ((byN y).getD 31 0+128) else byN y
theorem byN_high {V:Nat} (h:V<PN):(byN V).getD 31 0<128:=by
 have e:=byN_at V 31 (by decide);rw [List.getD_eq_getElem?_getD,e];show V/256^31%256<128;have h2:V/256^31<128:=Nat.div_lt_of_lt_mul (Nat.lt_trans h (by decide));omega
end Go.Proofs.YtdgheahbafnboaaDoor
/-
  Plain: the bytes of points.
-/
namespace Go.Proofs.YtdgheahbafnboaaDoor
set_option linter.unusedSimpArgs false
set_option linter.unusedVariables false
open Go.RowKit
theorem or_add:∀ x,x<128→x ||| 128=x+128:=by decide
def byF (P:PtF):List Nat:=byP P.x.val P.y.val
theorem ax_is {p:Pt4} {P:PtF} (h:Is p P):axN p=P.x.val:=by
 have e:fv (mulE p.x (invE p.z))=P.x:=by
  rw [fv_mul,fv_inv,h.x];have:=FF.iv1 _ h.z;generalize ivF (fv p.z)=i at *;generalize fv p.z=z at *;rw [Fin.mul_assoc,this,g_mul1]
 rw [← e]; rfl
theorem ay_is {p:Pt4} {P:PtF} (hp:p.Ok) (h:Is p P):ayN p=P.y.val:=by
 have e:fv (mulE p.y (invE p.z))=P.y:=by
  rw [fv_mul,fv_inv,h.y];have:=FF.iv1 _ h.z;generalize ivF (fv p.z)=i at *;generalize fv p.z=z at *;rw [Fin.mul_assoc,this,g_mul1]
 rw [ayN,least_val (mul_ok hp.y (invE_ok hp.z)).big,← e]; rfl
theorem bytP_is {p:Pt4} {P:PtF} (hp:p.Ok) (h:Is p P):bytP p=byF P:=by
 rw [bytP_ax,oddP_ax,ax_is h,ay_is hp h,byF,byP];have hx:=byN_high P.y.isLt;rw [or_add _ hx]
 by_cases ho:P.x.val%2=1
 ·rw [if_pos ho,if_pos (decide_eq_true ho)]
 ·rw [if_neg ho,if_neg (by simpa using ho)]
theorem byP_len (x y:Nat):(byP x y).length=32:=by
 rw [byP]
 split
 ·rw [List.length_set,byN_length]
 ·exact byN_length _
theorem byP_dg {x y:Nat} (hy:y<PN):Dg (byP x y):=by
 rw [byP]
 split
 ·exact dg_set (byN_lt _) _ _ (by have:=byN_high hy; omega)
 ·exact byN_lt _
theorem fn_sub {a b:Nat} (hb:b≤PN):fn ((a+PN - b)%PN)=fn a - fn b:=by
 refine gn_sub ?_;rw [Nat.mod_add_mod,show a+PN - b+b=a+PN by omega,Nat.add_mod_right]
theorem fn_inv {v:Nat} (h:v<PN):fn (v^(PN - 2)%PN)=ivF (fn v):=by
 rw [fn_mod,ivF,val_fn,Nat.mod_eq_of_lt h]
theorem fn_mulm (a b:Nat):fn (a*b%PN)=fn a*fn b:=by rw [fn_mod,fn_mul]
theorem fn_addm (a b:Nat):fn ((a+b)%PN)=fn a+fn b:=by rw [fn_mod,fn_add]
theorem fn_val_lt {a:Nat} (h:a<PN):(fn a).val=a:=by rw [val_fn,Nat.mod_eq_of_lt h]
end Go.Proofs.YtdgheahbafnboaaDoor
/-
  Walk: the reference's Root.
-/
namespace Go.Proofs.YtdgheahbafnboaaDoor
set_option linter.unusedSimpArgs false
set_option linter.unusedVariables false
open Go.RowKit
def e1L:List Nat:=254 :: (List.replicate 30 255++[15])
def e2L:List Nat:=251 :: (List.replicate 30 255++[31])
theorem e1L_end:((fillL 32).set 0 254).set 31 15=e1L:=by decide
theorem e2L_end:((fillL 32).set 0 251).set 31 31=e2L:=by decide
theorem e1L_dg:Dg e1L:=by unfold Dg; decide
theorem e2L_dg:Dg e2L:=by unfold Dg; decide
theorem e1L_len:e1L.length=32:=by decide
theorem e2L_len:e2L.length=32:=by decide
def rtV (a x q:Nat):Nat:=if decide (x*x%PN=a) then x else x*q%PN
def rtB (a x q:Nat):Bool:=if decide (x*x%PN=a) then true else decide (x*q%PN*(x*q%PN)%PN=a)
def RootPost (v:Nat) (b:Bool) (w:World) (e:Ending) (w':World):Prop:=∃ A c,e=.returned (.tuple #[.slice A 32 c,.bool b])∧32≤c∧Rd w' w'.heap.size A (DN v)∧Below w.heap.size w w'
set_option maxRecDepth 100000 in
set_option maxHeartbeats 4000000 in
theorem nroot_any {a x q:Nat} (ha:a<PN) (hx:x=a^leV e1L%PN) (hq:q=2^leV e2L%PN) {A:Option Addr} {c:Nat} (hc:32≤c) {w:World} (h:Rd w w.heap.size A (DN a)) :
  Calls Tryd.prog 84 #[.slice A 32 c] w (RootPost (rtV a x q) (rtB a x q) w):=by
 have hmk:∀ u:World,(Instr.makeSlice 48 (.int .i64 32) (.int .i64 32)).run Tryd.prog u=.ok (.slice (some ⟨u.heap.size,0,none⟩) 32 32) (u.alloc (.cells (dV (fillL 0)).toArray 3)):=fun _=>by kernel_rfl
 obtain ⟨x2,hx2⟩:∃ y,y=x*x%PN:=⟨_,rfl⟩;obtain ⟨y,hy⟩:∃ y,y=x*q%PN:=⟨_,rfl⟩;obtain ⟨y2,hy2⟩:∃ z,z=y*y%PN:=⟨_,rfl⟩;have lx:x<PN:=by rw [hx]; exact Nat.mod_lt _ pn_pos
 have lq:q<PN:=by rw [hq]; exact Nat.mod_lt _ pn_pos
 have lx2:x2<PN:=by rw [hx2]; exact Nat.mod_lt _ pn_pos
 have ly:y<PN:=by rw [hy]; exact Nat.mod_lt _ pn_pos
 have ly2:y2<PN:=by rw [hy2]; exact Nat.mod_lt _ pn_pos
 obtain ⟨s1,hs1⟩:∃ s,s=decide (x2=a):=⟨_,rfl⟩;obtain ⟨s2,hs2⟩:∃ s,s=decide (y2=a):=⟨_,rfl⟩;have hv:rtV a x q=if s1 then x else y:=by rw [hs1,hx2,hy]; rfl
 have hb:rtB a x q=if s1 then true else s2:=by rw [hs1,hs2,hy2,hx2,hy]; rfl
 generalize rtV a x q=V at *;generalize rtB a x q=b at *;have HV:=zY hv;have HB:=zY hb;have C1:=zY (show ∀ u B d,Rd u u.heap.size A (DN a)→Rd u u.heap.size B (dV e1L)→Calls Tryd.prog 81 #[.slice A 32 c,.slice B 32 d] u (NumPost x u) from fun u B d h k=>by rw [hx]; exact npow ha e1L_dg e1L_len h k);have C2:=zY (show ∀ u B d,Rd u u.heap.size B (DN x)→Calls Tryd.prog 53 #[.slice B 32 d,.slice B 32 d] u (NumPost x2 u) from fun u B d k=>by rw [hx2]; exact nmul lx lx k k);have C3:=zY (show ∀ u B d,Rd u u.heap.size B (DN x2)→Rd u u.heap.size A (DN a)→32≤d→Calls Tryd.prog 85 #[.slice B 32 d,.slice A 32 c] u (BoolPost s1 u) from fun u B d h k hd=>by rw [hs1]; exact nsame lx2 ha h k hd hc);have C4:=zY (show ∀ u,Calls Tryd.prog 50 #[.int .i64 2] u (NumPost 2 u) from fun u=>nint 2 (by decide) u);have C5:=zY (show ∀ u B d D e,Rd u u.heap.size B (DN 2)→Rd u u.heap.size D (dV e2L)→Calls Tryd.prog 81 #[.slice B 32 d,.slice D 32 e] u (NumPost q u) from fun u B d D e h k=>by rw [hq]; exact npow (by decide) e2L_dg e2L_len h k);have C6:=zY (show ∀ u B d D e,Rd u u.heap.size B (DN x)→Rd u u.heap.size D (DN q)→Calls Tryd.prog 53 #[.slice B 32 d,.slice D 32 e] u (NumPost y u) from fun u B d D e h k=>by rw [hy]; exact nmul lx lq h k);have C7:=zY (show ∀ u B d,Rd u u.heap.size B (DN y)→Calls Tryd.prog 53 #[.slice B 32 d,.slice B 32 d] u (NumPost y2 u) from fun u B d k=>by rw [hy2]; exact nmul ly ly k k);have C8:=zY (show ∀ u B d,Rd u u.heap.size B (DN y2)→Rd u u.heap.size A (DN a)→32≤d→Calls Tryd.prog 85 #[.slice B 32 d,.slice A 32 c] u (BoolPost s2 u) from fun u B d h k hd=>by rw [hs2]; exact nsame ly2 ha h k hd hc);have HA:=zY h;have hst0:=d1_new (fillL 0) (Below.refl w.heap.size w);have HST0:=zY hst0;clear hst0 h hx hq hx2 hy hy2 lx lq lx2 ly ly2 hs1 hs2 hv hb hc ha;go_enter Tryd.func84,Tryd.ntmps84;go_wp2_with fail;generalize ho:w.heap.size=o at HST0 ⊢;have HMK:=zY hmk;have HO:=zY ho;clear ho hmk
 go_loopw [5] (fun i wr=>∃ k:Nat,k≤32∧i=.int .i64 k∧D1 w o (fillL k) wr) (fun i _=>32 - (intOf i).toNat)
 case atStart=>exact ⟨0,by omega,rfl,HST0.out⟩
 case round =>
  clear HST0;obtain ⟨k,hk,rfl,hst⟩:=hrel
  by_cases hlt:k<32
  ·have hlt':(k:Int)<32:=by omega
   have HST:=zY hst;clear hst;go_wp2_with (refine wpList_put_cell (x:=.tmp 18) (i:=k) (v:=.int .i64 255) HST.out.out rfl rfl rfl rfl int_size (by rw [dig_len,fill_len k (by omega)]; exact hlt) rfl ?_; intro w5 hb5 hw5; have hst5:=HST.out.put (l':=fillL (k+1)) hw5 (by rw [show (Value.int IntKind.i64 255)=.int .i64 ((255:Nat):Int) from rfl,dV_set,fill_set k hlt] at hb5; exact hb5); have HST5:=zY hst5; clear hst5 hb5 hw5);exact ⟨⟨k+1,by omega,by go_num,HST5.out⟩,by simp [intOf]; omega⟩
  ·obtain rfl:k=32:=by omega
   have HST:=zY hst;clear hst hk hlt
   go_wp2_with (first
    | (refine wpList_put_cell (x:=.tmp 20) (i:=0) (v:=.int .i64 254) HST.out.out rfl rfl rfl rfl int_size (by rw [dig_len,fill_len 32 (by omega)]; decide) rfl ?_; intro w5 hb5 hw5; have hst5:=HST.out.put (l':=(fillL 32).set 0 254) hw5 (by rw [show (Value.int IntKind.i64 254)=.int .i64 ((254:Nat):Int) from rfl,dV_set] at hb5; exact hb5); have HST5:=zY hst5; clear hst5 hb5 hw5)
    | (refine wpList_put_cell (x:=.tmp 22) (i:=31) (v:=.int .i64 15) HST5.out.out rfl rfl rfl rfl int_size (by rw [dig_len,List.length_set,fill_len 32 (by omega)]; decide) rfl ?_; intro w6 hb6 hw6; have hst6:=HST5.out.put (l':=e1L) hw6 (by rw [show (Value.int IntKind.i64 15)=.int .i64 ((15:Nat):Int) from rfl,dV_set,e1L_end] at hb6; exact hb6); have HST6:=zY hst6; clear hst6 hb6 hw6))
   have HA6:=zY (rd_next HA.out HST6.out.bel);have HB6:=zY HST6.out.bel;have HE6:=zY (Rd.of_blk HST6.out.out HST6.out.out.lt);clear HST HST5 HST6 HA;refine calls_then (C1.out _ _ _ HA6.out HE6.out) ?_;rintro e w7 ⟨A7,c7,rfl,hc7,hr7,hb7⟩;have HA7:=zY (rd_next HA6.out hb7);have HB7:=zY (HB6.out.trans (hb7.mono HB6.out.size));have HX7:=zY hr7;have HC7:=zY hc7;clear hc7 hr7 hb7 HA6 HB6 HE6;go_wp2_with fail;refine calls_then (C2.out _ _ _ HX7.out) ?_;rintro e w8 ⟨A8,c8,rfl,hc8,hr8,hb8⟩;have HA8:=zY (rd_next HA7.out hb8);have HB8:=zY (HB7.out.trans (hb8.mono HB7.out.size));have HX8:=zY (rd_next HX7.out hb8);have HS8:=zY (C3.out w8 A8 c8 hr8 HA8.out hc8);clear hc8 hr8 hb8 HA7 HB7 HX7;go_wp2_with fail;refine calls_then HS8.out ?_;rintro e w9 ⟨rfl,hb9⟩;have HA9:=zY (rd_next HA8.out hb9);have HB9:=zY (HB8.out.trans (hb9.mono HB8.out.size));have HX9:=zY (rd_next HX8.out hb9);clear hb9 HA8 HB8 HX8 HS8
   cases s1
   ·have hst0:=d1_new (fillL 0) (Below.refl w9.heap.size w9);have HST0:=zY hst0;have hmk:=HMK.out;clear hst0 HMK;go_wp2_with fail;generalize ho9:w9.heap.size=o9 at HST0 ⊢;have HO9:=zY ho9;clear ho9 hmk
    go_loopw [9] (fun i wr=>∃ k:Nat,k≤32∧i=.int .i64 k∧D1 w9 o9 (fillL k) wr) (fun i _=>32 - (intOf i).toNat)
    case atStart=>exact ⟨0,by omega,rfl,HST0.out⟩
    case round =>
     clear HST0;obtain ⟨k,hk,rfl,hst⟩:=hrel
     by_cases hlt:k<32
     ·have hlt':(k:Int)<32:=by omega
      have HST:=zY hst;clear hst;go_wp2_with (refine wpList_put_cell (x:=.tmp 40) (i:=k) (v:=.int .i64 255) HST.out.out rfl rfl rfl rfl int_size (by rw [dig_len,fill_len k (by omega)]; exact hlt) rfl ?_; intro w5 hb5 hw5; have hst5:=HST.out.put (l':=fillL (k+1)) hw5 (by rw [show (Value.int IntKind.i64 255)=.int .i64 ((255:Nat):Int) from rfl,dV_set,fill_set k hlt] at hb5; exact hb5); have HST5:=zY hst5; clear hst5 hb5 hw5);exact ⟨⟨k+1,by omega,by go_num,HST5.out⟩,by simp [intOf]; omega⟩
     ·obtain rfl:k=32:=by omega
      have HST:=zY hst;clear hst hk hlt
      go_wp2_with (first
       | (refine wpList_put_cell (x:=.tmp 42) (i:=0) (v:=.int .i64 251) HST.out.out rfl rfl rfl rfl int_size (by rw [dig_len,fill_len 32 (by omega)]; decide) rfl ?_; intro w5 hb5 hw5; have hst5:=HST.out.put (l':=(fillL 32).set 0 251) hw5 (by rw [show (Value.int IntKind.i64 251)=.int .i64 ((251:Nat):Int) from rfl,dV_set] at hb5; exact hb5); have HST5:=zY hst5; clear hst5 hb5 hw5)
       | (refine wpList_put_cell (x:=.tmp 44) (i:=31) (v:=.int .i64 31) HST5.out.out rfl rfl rfl rfl int_size (by rw [dig_len,List.length_set,fill_len 32 (by omega)]; decide) rfl ?_; intro w6 hb6 hw6; have hst6:=HST5.out.put (l':=e2L) hw6 (by rw [show (Value.int IntKind.i64 31)=.int .i64 ((31:Nat):Int) from rfl,dV_set,e2L_end] at hb6; exact hb6); have HST6:=zY hst6; clear hst6 hb6 hw6))
      have HA6:=zY (rd_next HA9.out HST6.out.bel);have HX6:=zY (rd_next HX9.out HST6.out.bel);have HB6:=zY (HB9.out.trans (HST6.out.bel.mono HB9.out.size));have HE6:=zY (Rd.of_blk HST6.out.out HST6.out.out.lt);clear HST HST5 HST6 HA9 HB9 HX9;refine calls_then (C4.out _) ?_;rintro e w10 ⟨A10,c10,rfl,hc10,hr10,hb10⟩;have HA10:=zY (rd_next HA6.out hb10);have HX10:=zY (rd_next HX6.out hb10);have HB10:=zY (HB6.out.trans (hb10.mono HB6.out.size));have HE10:=zY (rd_next HE6.out hb10);have HT10:=zY hr10;clear hc10 hr10 hb10 HA6 HX6 HB6 HE6;go_wp2_with fail;refine calls_then (C5.out _ _ _ _ _ HT10.out HE10.out) ?_;rintro e w11 ⟨A11,c11,rfl,hc11,hr11,hb11⟩;have HA11:=zY (rd_next HA10.out hb11);have HX11:=zY (rd_next HX10.out hb11);have HB11:=zY (HB10.out.trans (hb11.mono HB10.out.size));have HQ11:=zY hr11;clear hc11 hr11 hb11 HA10 HX10 HB10 HE10 HT10;go_wp2_with fail;refine calls_then (C6.out _ _ _ _ _ HX11.out HQ11.out) ?_;rintro e w12 ⟨A12,c12,rfl,hc12,hr12,hb12⟩;have HA12:=zY (rd_next HA11.out hb12);have HB12:=zY (HB11.out.trans (hb12.mono HB11.out.size));have HY12:=zY hr12;have HC12:=zY hc12;clear hc12 hr12 hb12 HA11 HX11 HB11 HQ11;go_wp2_with fail;refine calls_then (C7.out _ _ _ HY12.out) ?_;rintro e w13 ⟨A13,c13,rfl,hc13,hr13,hb13⟩;have HA13:=zY (rd_next HA12.out hb13);have HB13:=zY (HB12.out.trans (hb13.mono HB12.out.size));have HY13:=zY (rd_next HY12.out hb13);have HS13:=zY (C8.out w13 A13 c13 hr13 HA13.out hc13);clear hc13 hr13 hb13 HA12 HB12 HY12;go_wp2_with fail;refine calls_then HS13.out ?_;rintro e w14 ⟨rfl,hb14⟩;have HB14:=zY (HB13.out.trans (hb14.mono HB13.out.size));have HY14:=zY (rd_next HY13.out hb14);clear hb14 HA13 HB13 HY13 HS13;go_wp2_with fail;refine bodyPost_ret (results_tmp2 rfl _ _ _) rfl ?_;have e1:V=y:=HV.out;have e2:b=s2:=HB.out;rw [e1,e2];exact ⟨A12,c12,rfl,HC12.out,HY14.out,HB14.out⟩
   ·go_wp2_with fail;refine bodyPost_ret (results_tmp2 rfl _ _ _) rfl ?_;have e1:V=x:=HV.out;have e2:b=true:=HB.out;rw [e1,e2];exact ⟨A7,c7,rfl,HC7.out,HX9.out,HB9.out⟩
end Go.Proofs.YtdgheahbafnboaaDoor
/-
  Walks: the reference's Of, Base, Add, On, Bytes, Read of points.
-/
namespace Go.Proofs.YtdgheahbafnboaaDoor
set_option linter.unusedSimpArgs false
set_option linter.unusedVariables false
open Go.RowKit
theorem one_lt:1<PN:=by decide
theorem zero_lt:0<PN:=by decide
theorem dN_lt:dN<PN:=by decide
theorem mod_lt' (a:Nat):a%PN<PN:=Nat.mod_lt _ pn_pos
def pairV (A B:Value):Array Value:=#[A,B]
def nilS:Value:=.slice none 0 0
theorem pair_size:(Tryd.prog.info? 50).map (·.size)=some 2:=by kernel_rfl
structure OfW (y y2 u t v i a x q:Nat):Prop where
 hy2:y2=y*y%PN
 hu:u=(y2+PN - 1)%PN
 ht:t=dN*y2%PN
 hv:v=(t+1)%PN
 hi:i=v^(PN - 2)%PN
 ha:a=u*i%PN
 hx:x=a^leV e1L%PN
 hq:q=2^leV e2L%PN
def ofR (r:Nat) (ok odd:Bool):Option Nat:=if ok then (if decide (r%2=1)=odd then some r else if r=0 then none else some ((0+PN - r)%PN)) else none
def OfNPost (o:Option Nat) (Y:Value) (w:World) (e:Ending) (w':World):Prop :=
 Below w.heap.size w w'∧match o with
  | none=>e=.returned (.tuple #[.agg (pairV nilS nilS),.bool false])
  | some x=>∃ B d,e=.returned (.tuple #[.agg (pairV (.slice B 32 d) Y),.bool true])∧32≤d∧Rd w' w'.heap.size B (DN x)
theorem digit0 {r:Nat} (h:r<PN) {A:Option Addr} {u:World} (k:Rd u u.heap.size A (DN r)):∃ ad,A=some ad∧u.cell? (ad.add 0)=some (.int .i64 ((r%256:Nat):Int)):=by
 obtain ⟨ad,h1,_,h3⟩:=k.at_ (k:=0) (by rw [DN,dV_length,digN_length]; decide);refine ⟨ad,h1,?_⟩;rw [h3,show (DN r)[0]'(by rw [DN,dV_length,digN_length]; decide)=_ from dV_at (l:=digN 32 r) (j:=0) (by rw [digN_length]; decide)];rw [show (digN 32 r)[0]'(by rw [digN_length]; decide)=r%256 by simp [digN]]
theorem Rd.wrote {w w':World} {B g:Nat} {A:Option Addr} {xs:List Value} {t:TypeId} {cs:Array Value} (h:Rd w B A xs) (hg:Blk w g t cs) (hw:Wrote g w w') (hne:∀ v ∈ xs,∀ j:Nat,cs[j]?≠some v):Rd w' B A xs:=fun i u hi=>by
 obtain ⟨ad,ha,hlt,hc⟩:=h i u hi;refine ⟨ad,ha,hlt,?_⟩
 by_cases hb:ad.block=g
 ·exfalso
  unfold World.cell? at hc;rw [block_of_add,hb,show w.heap[g]?=_ from hg] at hc
  by_cases hs:(ad.add i).spot.isSome=true
  ·simp [hs] at hc
  ·simp only [hs,if_false] at hc;exact hne u (List.mem_of_getElem? hi) _ hc
 ·have hl:ad.block<w.heap.size:=by
   unfold World.cell? at hc;rw [block_of_add] at hc
   by_cases hl:ad.block<w.heap.size
   ·exact hl
   ·rw [Array.getElem?_eq_none (by omega)] at hc;simp at hc
  have e:w'.heap[ad.block]?=w.heap[ad.block]?:=hw.grown.block ad.block hl (by simpa using hb);unfold World.cell? at hc ⊢;rw [block_of_add] at hc ⊢;rw [e]; exact hc
theorem dn_int {x:Nat} {v:Value} (h:v ∈ DN x):∃ n:Int,v=.int .i64 n:=by
 obtain ⟨n,_,e⟩:=List.mem_map.1 (show v ∈ (digN 32 x).map (fun n=>Value.int .i64 ((n:Nat):Int)) from h);exact ⟨_,e.symm⟩
theorem pair_ne {x:Nat} {A C:Option Addr} {a b c d:Nat}:∀ v ∈ DN x,∀ j:Nat,(pairV (.slice A a b) (.slice C c d))[j]?≠some v:=fun v hv j=>by
 obtain ⟨n,rfl⟩:=dn_int hv
 match j with
 | 0=>simp [pairV]
 | 1=>simp [pairV]
 | j+2=>simp [pairV]
theorem Rd.pair {w w':World} {B g x:Nat} {X:Option Addr} {t:TypeId} {A C:Option Addr} {a b c d:Nat} (h:Rd w B X (DN x)) (hg:Blk w g t (pairV (.slice A a b) (.slice C c d))) (hw:Wrote g w w'):Rd w' B X (DN x):=h.wrote hg hw pair_ne
theorem rd_size {A:Option Addr} {xs:List Value} {u u':World} (h:Rd u' u.heap.size A xs) (e:u'.heap.size=u.heap.size):Rd u' u'.heap.size A xs:=by rw [e]; exact h
set_option maxRecDepth 100000 in
set_option maxHeartbeats 4000000 in
theorem nof_any {y y2 u t v i a x q:Nat} (W:OfW y y2 u t v i a x q) (ly:y<PN) (odd:Bool) {A:Option Addr} {c:Nat} (hc:32≤c) {w:World} (h:Rd w w.heap.size A (DN y)) :
  Calls Tryd.prog 54 #[.slice A 32 c,.bool odd] w (OfNPost (ofR (rtV a x q) (rtB a x q) odd) (.slice A 32 c) w):=by
 have hpt:=Tryd.underlying50;obtain ⟨hy2,hu,ht,hv,hi,ha,hx,hq⟩:=W;have ly2:y2<PN:=by rw [hy2]; exact mod_lt' _
 have lu:u<PN:=by rw [hu]; exact mod_lt' _
 have lt:t<PN:=by rw [ht]; exact mod_lt' _
 have lv:v<PN:=by rw [hv]; exact mod_lt' _
 have li:i<PN:=by rw [hi]; exact mod_lt' _
 have la:a<PN:=by rw [ha]; exact mod_lt' _
 obtain ⟨r,hr⟩:∃ r,r=rtV a x q:=⟨_,rfl⟩;obtain ⟨ok,hok⟩:∃ b,b=rtB a x q:=⟨_,rfl⟩
 have lr:r<PN:=by
  rw [hr,rtV]
  split
  ·rw [hx]; exact mod_lt' _
  ·exact mod_lt' _
 have CR:=zY (show ∀ u A c,32≤c→Rd u u.heap.size A (DN a)→Calls Tryd.prog 84 #[.slice A 32 c] u (RootPost r ok u) from fun u A c hc h=>by rw [hr,hok]; exact nroot_any la hx hq hc h);rw [← hr,← hok];clear hr hok hx hq;obtain ⟨z,hz⟩:∃ z,z=(0+PN - r)%PN:=⟨_,rfl⟩;obtain ⟨s,hs⟩:∃ s,s=decide (r=0):=⟨_,rfl⟩;obtain ⟨R,hR⟩:∃ R,R=ofR r ok odd:=⟨_,rfl⟩
 have hR':R=if ok then (if decide (r%2=1)=odd then some r else if s then none else some z) else none:=by
  rw [hR,ofR,hs,hz]
  by_cases h0:r=0
  ·simp [h0]
  ·simp [h0]
 rw [← hR];have HR:=zY hR';clear hR hR';have C1:=zY (show ∀ u,Calls Tryd.prog 50 #[.int .i64 1] u (NumPost 1 u) from fun u=>nint 1 (by decide) u);have C2:=zY (show ∀ ww XA xc XB xd,Rd ww ww.heap.size XA (DN y)→Rd ww ww.heap.size XB (DN y)→Calls Tryd.prog 53 #[.slice XA 32 xc,.slice XB 32 xd] ww (NumPost y2 ww) from fun ww XA xc XB xd xh xk=>by rw [hy2]; exact nmul ly ly xh xk);have C3:=zY (show ∀ ww XA xc XB xd,Rd ww ww.heap.size XA (DN y2)→Rd ww ww.heap.size XB (DN 1)→Calls Tryd.prog 79 #[.slice XA 32 xc,.slice XB 32 xd] ww (NumPost u ww) from fun ww XA xc XB xd xh xk=>by rw [hu]; exact nsub ly2 one_lt xh xk);have C4:=zY (show ∀ u,Calls Tryd.prog 49 #[] u (NumPost dN u) from fun u=>nd_any u);have C5:=zY (show ∀ ww XA xc XB xd,Rd ww ww.heap.size XA (DN dN)→Rd ww ww.heap.size XB (DN y2)→Calls Tryd.prog 53 #[.slice XA 32 xc,.slice XB 32 xd] ww (NumPost t ww) from fun ww XA xc XB xd xh xk=>by rw [ht]; exact nmul dN_lt ly2 xh xk);have C6:=zY (show ∀ ww XA xc XB xd,Rd ww ww.heap.size XA (DN t)→Rd ww ww.heap.size XB (DN 1)→Calls Tryd.prog 80 #[.slice XA 32 xc,.slice XB 32 xd] ww (NumPost v ww) from fun ww XA xc XB xd xh xk=>by rw [hv]; exact nadd lt one_lt xh xk);have C7:=zY (show ∀ ww XA xc,Rd ww ww.heap.size XA (DN v)→Calls Tryd.prog 52 #[.slice XA 32 xc] ww (NumPost i ww) from fun ww XA xc xh=>by rw [hi]; exact ninv lv xh);have C8:=zY (show ∀ ww XA xc XB xd,Rd ww ww.heap.size XA (DN u)→Rd ww ww.heap.size XB (DN i)→Calls Tryd.prog 53 #[.slice XA 32 xc,.slice XB 32 xd] ww (NumPost a ww) from fun ww XA xc XB xd xh xk=>by rw [ha]; exact nmul lu li xh xk);have C9:=zY (show ∀ u,Calls Tryd.prog 50 #[.int .i64 0] u (NumPost 0 u) from fun u=>nint 0 (by decide) u);have C10:=zY (show ∀ ww XA xc XB xd,Rd ww ww.heap.size XA (DN r)→Rd ww ww.heap.size XB (DN 0)→32≤xc→32≤xd→Calls Tryd.prog 85 #[.slice XA 32 xc,.slice XB 32 xd] ww (BoolPost s ww) from fun ww XA xc XB xd xh xk hc hd=>by rw [hs]; exact nsame lr zero_lt xh xk hc hd);have C11:=zY (show ∀ ww XA xc XB xd,Rd ww ww.heap.size XA (DN 0)→Rd ww ww.heap.size XB (DN r)→Calls Tryd.prog 79 #[.slice XA 32 xc,.slice XB 32 xd] ww (NumPost z ww) from fun ww XA xc XB xd xh xk=>by rw [hz]; exact nsub zero_lt lr xh xk);generalize dN=D at *;have hr2:r%256%2=r%2:=Nat.mod_mod_of_dvd r (by decide);have LY:=zY hc;have RY:=zY h;have LR:=zY lr;have HB:=zY (below_new w (.cells (pairV nilS nilS) 50));have HP:=zY (Blk.new w 50 (pairV nilS nilS));have H2:=zY hr2;replace RY:=zY (rd_next RY.out HB.out);clear hy2 hu ht hv hi ha ly ly2 lu lt lv li la lr hz hs hc h hr2;go_enter Tryd.func54,Tryd.ntmps54;go_wp2_with fail;refine calls_then (C1.out _) ?_;rintro e u1 ⟨Aw1,cw1,rfl,hc,hr,hb⟩;replace HB:=zY (HB.out.trans (hb.mono HB.out.size));replace RY:=zY (rd_next RY.out hb);replace HP:=zY (HP.out.below hb HP.out.lt);have Rw1:=zY hr;have LEw1:=zY hc;clear hr hc hb;generalize hg:w.heap.size=g at HP ⊢;have HG:=zY hg;clear hg;go_wp2_with fail;refine calls_then (C2.out _ _ _ _ _ RY.out RY.out) ?_;rintro e u2 ⟨Ay2,cy2,rfl,hc,hr,hb⟩;replace HB:=zY (HB.out.trans (hb.mono HB.out.size));replace RY:=zY (rd_next RY.out hb);replace Rw1:=zY (rd_next Rw1.out hb);replace HP:=zY (HP.out.below hb HP.out.lt);have Ry2:=zY hr;have LEy2:=zY hc;clear hr hc hb;go_wp2_with fail;refine calls_then (C3.out _ _ _ _ _ Ry2.out Rw1.out) ?_;rintro e u3 ⟨Au,cu,rfl,hc,hr,hb⟩;replace HB:=zY (HB.out.trans (hb.mono HB.out.size));replace RY:=zY (rd_next RY.out hb);replace Rw1:=zY (rd_next Rw1.out hb);replace Ry2:=zY (rd_next Ry2.out hb);replace HP:=zY (HP.out.below hb HP.out.lt);have Ru:=zY hr;have LEu:=zY hc;clear hr hc hb;go_wp2_with fail;refine calls_then (C4.out _) ?_;rintro e u4 ⟨AD,cD,rfl,hc,hr,hb⟩;replace HB:=zY (HB.out.trans (hb.mono HB.out.size));replace RY:=zY (rd_next RY.out hb);replace Rw1:=zY (rd_next Rw1.out hb);replace Ry2:=zY (rd_next Ry2.out hb);replace Ru:=zY (rd_next Ru.out hb);replace HP:=zY (HP.out.below hb HP.out.lt);have RD:=zY hr;have LED:=zY hc;clear hr hc hb;go_wp2_with fail;refine calls_then (C5.out _ _ _ _ _ RD.out Ry2.out) ?_;rintro e u5 ⟨At,ct,rfl,hc,hr,hb⟩;clear RD;replace HB:=zY (HB.out.trans (hb.mono HB.out.size));replace RY:=zY (rd_next RY.out hb);replace Rw1:=zY (rd_next Rw1.out hb);replace Ry2:=zY (rd_next Ry2.out hb);replace Ru:=zY (rd_next Ru.out hb);replace HP:=zY (HP.out.below hb HP.out.lt);have Rt:=zY hr;have LEt:=zY hc;clear hr hc hb;go_wp2_with fail;refine calls_then (C6.out _ _ _ _ _ Rt.out Rw1.out) ?_;rintro e u6 ⟨Av,cv,rfl,hc,hr,hb⟩;clear Rt;clear Ry2;replace HB:=zY (HB.out.trans (hb.mono HB.out.size));replace RY:=zY (rd_next RY.out hb);replace Rw1:=zY (rd_next Rw1.out hb);replace Ru:=zY (rd_next Ru.out hb);replace HP:=zY (HP.out.below hb HP.out.lt);have Rv:=zY hr;have LEv:=zY hc;clear hr hc hb;go_wp2_with fail;refine calls_then (C7.out _ _ _ Rv.out) ?_;rintro e u7 ⟨Ai,ci,rfl,hc,hr,hb⟩;clear Rv;clear Rw1;replace HB:=zY (HB.out.trans (hb.mono HB.out.size));replace RY:=zY (rd_next RY.out hb);replace Ru:=zY (rd_next Ru.out hb);replace HP:=zY (HP.out.below hb HP.out.lt);have Ri:=zY hr;have LEi:=zY hc;clear hr hc hb;go_wp2_with fail;refine calls_then (C8.out _ _ _ _ _ Ru.out Ri.out) ?_;rintro e u8 ⟨Aa,ca,rfl,hc,hr,hb⟩;clear Ri;clear Ru;replace HB:=zY (HB.out.trans (hb.mono HB.out.size));replace RY:=zY (rd_next RY.out hb);replace HP:=zY (HP.out.below hb HP.out.lt);have Ra:=zY hr;have LEa:=zY hc;clear hr hc hb;go_wp2_with fail;refine calls_then (CR.out _ _ _ LEa.out Ra.out) ?_;rintro e u20 ⟨Ar,cr,rfl,hc,hr,hb⟩;clear Ra;replace HB:=zY (HB.out.trans (hb.mono HB.out.size));replace RY:=zY (rd_next RY.out hb);replace HP:=zY (HP.out.below hb HP.out.lt);have Rr:=zY hr;have LEr:=zY hc;clear hr hc hb;obtain ⟨ad,had,d0⟩:=digit0 LR.out Rr.out;subst had;rw [show ad.add 0=ad from rfl] at d0
 cases ok
 ·go_wp2_with (refine wpList_put_box (x:=.tmp 4) (cells:=pairV nilS nilS) HP.out rfl rfl rfl rfl pair_size rfl (by simp [pairV,nilS,Value.oneCell']) ?_; intro u30 hb30 hw30; have HP30:=zY hb30; have HW30:=zY hw30; clear hb30 hw30);refine bodyPost_ret (results_box_tmp (P:=Tryd.prog) rfl rfl HP30.out hpt rfl pair_size) rfl ⟨HW30.out.below HB.out (Nat.le_of_eq HG.out) HB.out.size,?_⟩;rw [HR.out];rfl
 ·obtain ⟨m,hm⟩:∃ m,m=r%256:=⟨_,rfl⟩;rw [← hm] at d0;have hm2:m%2=r%2:=by rw [hm]; exact H2.out
  have hm256:m<256:=by rw [hm]; exact Nat.mod_lt _ (by decide)
  by_cases ho:decide (r%2=1)=odd
  ·have hodd:decide ((m:Int)%2=1)=odd:=by rw [← ho]; exact decide_eq_decide.mpr (by omega)
   have HR2:R=some r:=by rw [HR.out,if_pos ho]; rfl
   clear ho hm hm2
   cases odd
   ·have hmi:(m:Int)%2=0:=by simp at hodd; omega
    have HR2:=zY HR2;clear hodd;go_wp2_with (refine wpList_put_box (x:=.tmp 4) (cells:=pairV (.slice (some ad) 32 cr) (.slice A 32 c)) HP.out rfl rfl rfl rfl pair_size rfl (by simp [pairV,nilS,Value.oneCell']) ?_; intro u30 hb30 hw30; have HP30:=zY hb30; have HW30:=zY hw30; clear hb30 hw30);refine bodyPost_ret (results_box_tmp (P:=Tryd.prog) rfl rfl HP30.out hpt rfl pair_size) rfl ⟨HW30.out.below HB.out (Nat.le_of_eq HG.out) HB.out.size,?_⟩;rw [HR2.out];exact ⟨_,_,rfl,LEr.out,rd_size (Rr.out.pair HP.out HW30.out) HW30.out.size⟩
   ·have hmi:(m:Int)%2=1:=by simp at hodd; omega
    have HR2:=zY HR2;clear hodd;go_wp2_with (refine wpList_put_box (x:=.tmp 4) (cells:=pairV (.slice (some ad) 32 cr) (.slice A 32 c)) HP.out rfl rfl rfl rfl pair_size rfl (by simp [pairV,nilS,Value.oneCell']) ?_; intro u30 hb30 hw30; have HP30:=zY hb30; have HW30:=zY hw30; clear hb30 hw30);refine bodyPost_ret (results_box_tmp (P:=Tryd.prog) rfl rfl HP30.out hpt rfl pair_size) rfl ⟨HW30.out.below HB.out (Nat.le_of_eq HG.out) HB.out.size,?_⟩;rw [HR2.out];exact ⟨_,_,rfl,LEr.out,rd_size (Rr.out.pair HP.out HW30.out) HW30.out.size⟩
  ·have HR2:R=if s then none else some z:=by rw [HR.out,if_neg ho]; rfl
   have HR3:=zY HR2;clear HR2
   have hmi:((m:Int)%2=1∧odd=false)∨((m:Int)%2=0∧odd=true):=by
    cases odd
    ·simp at ho; left; exact ⟨by omega,rfl⟩
    ·simp at ho; right; exact ⟨by omega,rfl⟩
   clear ho hm hm2
   rcases hmi with ⟨hmi,rfl⟩ | ⟨hmi,rfl⟩
   ·go_wp2_with fail;clear d0 hmi;refine calls_then (C9.out _) ?_;rintro e u9 ⟨Aw0,cw0,rfl,hc,hr,hb⟩;replace HB:=zY (HB.out.trans (hb.mono HB.out.size));replace RY:=zY (rd_next RY.out hb);replace Rr:=zY (rd_next Rr.out hb);replace HP:=zY (HP.out.below hb HP.out.lt);have Rw0:=zY hr;have LEw0:=zY hc;clear hr hc hb;go_wp2_with fail;refine calls_then (C10.out _ _ _ _ _ Rr.out Rw0.out LEr.out LEw0.out) ?_;rintro e u10 ⟨rfl,hb⟩;replace HB:=zY (HB.out.trans (hb.mono HB.out.size));replace RY:=zY (rd_next RY.out hb);replace Rr:=zY (rd_next Rr.out hb);replace Rw0:=zY (rd_next Rw0.out hb);replace HP:=zY (HP.out.below hb HP.out.lt);clear hb
    cases s
    ·go_wp2_with fail;clear Rw0 LEw0;refine calls_then (C9.out _) ?_;rintro e u11 ⟨Aw0,cw0,rfl,hc,hr,hb⟩;replace HB:=zY (HB.out.trans (hb.mono HB.out.size));replace RY:=zY (rd_next RY.out hb);replace Rr:=zY (rd_next Rr.out hb);replace HP:=zY (HP.out.below hb HP.out.lt);have Rw0:=zY hr;have LEw0:=zY hc;clear hr hc hb;go_wp2_with fail;refine calls_then (C11.out _ _ _ _ _ Rw0.out Rr.out) ?_;rintro e u12 ⟨Az,cz,rfl,hc,hr,hb⟩;replace HB:=zY (HB.out.trans (hb.mono HB.out.size));replace RY:=zY (rd_next RY.out hb);replace Rr:=zY (rd_next Rr.out hb);replace Rw0:=zY (rd_next Rw0.out hb);replace HP:=zY (HP.out.below hb HP.out.lt);have Rz:=zY hr;have LEz:=zY hc;clear hr hc hb;go_wp2_with (refine wpList_put_box (x:=.tmp 4) (cells:=pairV (.slice Az 32 cz) (.slice A 32 c)) HP.out rfl rfl rfl rfl pair_size rfl (by simp [pairV,nilS,Value.oneCell']) ?_; intro u30 hb30 hw30; have HP30:=zY hb30; have HW30:=zY hw30; clear hb30 hw30);refine bodyPost_ret (results_box_tmp (P:=Tryd.prog) rfl rfl HP30.out hpt rfl pair_size) rfl ⟨HW30.out.below HB.out (Nat.le_of_eq HG.out) HB.out.size,?_⟩;rw [HR3.out];exact ⟨_,_,rfl,LEz.out,rd_size (Rz.out.pair HP.out HW30.out) HW30.out.size⟩
    ·go_wp2_with (refine wpList_put_box (x:=.tmp 4) (cells:=pairV nilS nilS) HP.out rfl rfl rfl rfl pair_size rfl (by simp [pairV,nilS,Value.oneCell']) ?_; intro u30 hb30 hw30; have HP30:=zY hb30; have HW30:=zY hw30; clear hb30 hw30);refine bodyPost_ret (results_box_tmp (P:=Tryd.prog) rfl rfl HP30.out hpt rfl pair_size) rfl ⟨HW30.out.below HB.out (Nat.le_of_eq HG.out) HB.out.size,?_⟩;rw [HR3.out];rfl
   ·go_wp2_with fail;clear d0 hmi;refine calls_then (C9.out _) ?_;rintro e u13 ⟨Aw0,cw0,rfl,hc,hr,hb⟩;replace HB:=zY (HB.out.trans (hb.mono HB.out.size));replace RY:=zY (rd_next RY.out hb);replace Rr:=zY (rd_next Rr.out hb);replace HP:=zY (HP.out.below hb HP.out.lt);have Rw0:=zY hr;have LEw0:=zY hc;clear hr hc hb;go_wp2_with fail;refine calls_then (C10.out _ _ _ _ _ Rr.out Rw0.out LEr.out LEw0.out) ?_;rintro e u14 ⟨rfl,hb⟩;replace HB:=zY (HB.out.trans (hb.mono HB.out.size));replace RY:=zY (rd_next RY.out hb);replace Rr:=zY (rd_next Rr.out hb);replace Rw0:=zY (rd_next Rw0.out hb);replace HP:=zY (HP.out.below hb HP.out.lt);clear hb
    cases s
    ·go_wp2_with fail;clear Rw0 LEw0;refine calls_then (C9.out _) ?_;rintro e u15 ⟨Aw0,cw0,rfl,hc,hr,hb⟩;replace HB:=zY (HB.out.trans (hb.mono HB.out.size));replace RY:=zY (rd_next RY.out hb);replace Rr:=zY (rd_next Rr.out hb);replace HP:=zY (HP.out.below hb HP.out.lt);have Rw0:=zY hr;have LEw0:=zY hc;clear hr hc hb;go_wp2_with fail;refine calls_then (C11.out _ _ _ _ _ Rw0.out Rr.out) ?_;rintro e u16 ⟨Az,cz,rfl,hc,hr,hb⟩;replace HB:=zY (HB.out.trans (hb.mono HB.out.size));replace RY:=zY (rd_next RY.out hb);replace Rr:=zY (rd_next Rr.out hb);replace Rw0:=zY (rd_next Rw0.out hb);replace HP:=zY (HP.out.below hb HP.out.lt);have Rz:=zY hr;have LEz:=zY hc;clear hr hc hb;go_wp2_with (refine wpList_put_box (x:=.tmp 4) (cells:=pairV (.slice Az 32 cz) (.slice A 32 c)) HP.out rfl rfl rfl rfl pair_size rfl (by simp [pairV,nilS,Value.oneCell']) ?_; intro u30 hb30 hw30; have HP30:=zY hb30; have HW30:=zY hw30; clear hb30 hw30);refine bodyPost_ret (results_box_tmp (P:=Tryd.prog) rfl rfl HP30.out hpt rfl pair_size) rfl ⟨HW30.out.below HB.out (Nat.le_of_eq HG.out) HB.out.size,?_⟩;rw [HR3.out];exact ⟨_,_,rfl,LEz.out,rd_size (Rz.out.pair HP.out HW30.out) HW30.out.size⟩
    ·go_wp2_with (refine wpList_put_box (x:=.tmp 4) (cells:=pairV nilS nilS) HP.out rfl rfl rfl rfl pair_size rfl (by simp [pairV,nilS,Value.oneCell']) ?_; intro u30 hb30 hw30; have HP30:=zY hb30; have HW30:=zY hw30; clear hb30 hw30);refine bodyPost_ret (results_box_tmp (P:=Tryd.prog) rfl rfl HP30.out hpt rfl pair_size) rfl ⟨HW30.out.below HB.out (Nat.le_of_eq HG.out) HB.out.size,?_⟩;rw [HR3.out];rfl
end Go.Proofs.YtdgheahbafnboaaDoor
/-
  Plain: what the reference's On and Add of points reckon.
-/
namespace Go.Proofs.YtdgheahbafnboaaDoor
set_option linter.unusedSimpArgs false
set_option linter.unusedVariables false
open Go.RowKit
def onB (x y:Nat):Bool:=decide ((y*y%PN+PN - x*x%PN)%PN=(1+dN*(x*x%PN*(y*y%PN)%PN)%PN)%PN)
structure AddW (x1 y1 x2 y2 a b c e m k s ka ia x t kb ib y:Nat):Prop where
 h1:a=x1*y2%PN
 h2:b=y1*x2%PN
 h3:c=y1*y2%PN
 h4:e=x1*x2%PN
 h5:m=e*c%PN
 h6:k=dN*m%PN
 h7:s=(a+b)%PN
 h8:ka=(1+k)%PN
 h9:ia=ka^(PN - 2)%PN
 h10:x=s*ia%PN
 h11:t=(c+e)%PN
 h12:kb=(1+PN - k)%PN
 h13:ib=kb^(PN - 2)%PN
 h14:y=t*ib%PN
def PairPost (x y:Nat) (w:World) (e:Ending) (w':World):Prop:=∃ A c B d,e=.returned (.agg (pairV (.slice A 32 c) (.slice B 32 d)))∧32≤c∧32≤d∧Rd w' w'.heap.size A (DN x)∧Rd w' w'.heap.size B (DN y)∧Below w.heap.size w w'
end Go.Proofs.YtdgheahbafnboaaDoor
/-
  Walks: the reference's Digits and Bytes once more: what they make may be written to.
-/
namespace Go.Proofs.YtdgheahbafnboaaDoor
set_option linter.unusedSimpArgs false
set_option linter.unusedVariables false
open Go.RowKit
set_option maxRecDepth 100000 in
set_option maxHeartbeats 2000000 in
theorem digitsz_any (l:List UInt8) (A:Option Addr) (c:Nat) (w:World) (hr:Rd w w.heap.size A (bytesV l)) (hc:l.length≤c) (hl:l.length≤1000000) :
  Calls Tryd.prog 86 #[.slice A l.length c] w (OwnPostZ 3 l.length (dV (digs l)) w):=by
 obtain ⟨n,hn⟩:∃ n,n=l.length:=⟨_,rfl⟩;rw [← hn];have hn63:(n:Int)≤1000000:=by omega
 have hown0:OwnZ w w.heap.size 3 1 (.slice none 0 0) 0 (dV ((digs l).take 0)):=OwnZ.nil _ _ _ _;have HR:=zY hr;have HN:=zY hn;have HOWN0:=zY hown0;clear hr hn hc hl hown0;go_enter Tryd.func86,Tryd.ntmps86;go_wp2_with fail;generalize hg:w.heap.size=g at *;have HHG:=zY hg;clear hg
 go_loopw [3,4] (fun v i wr=>∃ (k:Nat) (A1:Option Addr) (c1:Nat),k≤n∧i=.int .i64 k∧v=.slice A1 k c1∧OwnZ wr g 3 1 (.slice A1 k c1) k (dV ((digs l).take k))∧Below g w wr) (fun _ i _=>n - (intOf i).toNat)
 case atStart=>exact ⟨0,none,0,by omega,rfl,rfl,HOWN0.out,Below.refl _ _⟩
 case round =>
  clear HOWN0;obtain ⟨k,A1,c1,hk,rfl,rfl,hown,hbel⟩:=hrel
  by_cases hlt:k<n
  ·have hlt':(k:Int)<(n:Int):=by omega
   have hkl:k<l.length:=by rw [← HN.out]; exact hlt
   have hrd:=HR.out.below hbel;obtain ⟨ad,rfl,hadl,hcell⟩:=hrd.at_ (k:=k) (by rw [bytesV_length]; exact hkl);obtain ⟨b,hb⟩:∃ b,b=l[k].toNat:=⟨_,rfl⟩;have hbl:(b:Int)<256:=by have:=l[k].toNat_lt; omega
   have hbv:(bytesV l)[k]'(by rw [bytesV_length]; exact hkl)=.int .u8 (b:Int):=by
    rw [hb]; simp [bytesV,byteV]
   rw [hbv] at hcell
   have hnext:(digs l).take (k+1)=(digs l).take k++[b]:=by
    rw [take_snoc (by rw [digs,List.length_map]; exact hkl),hb];simp [digs]
   have hsz:g≤wr.heap.size:=by rw [← HHG.out]; exact (by rw [← HHG.out] at hbel; exact hbel.size)
   have HOWN:=zY hown;have HBEL:=zY hbel;have HNEXT:=zY hnext;have HSZ:=zY hsz;clear hown hbel hnext hrd hbv hb hkl hsz;go_wp2_with (refine wpList_append_oneZ sl_ints rfl rfl HOWN.out rfl rfl rfl rfl (by unfold maxLen; omega) (by omega) HSZ.out ?_; intro A2 c2 w2 hown2 hg2 hn2; have HOWN2:=zY hown2; have HG2:=zY hg2; clear hown2 hg2 hn2);refine ⟨⟨k+1,A2,c2,by omega,by go_num,rfl,?_,below_grow HBEL.out HOWN.out.x HSZ.out HG2.out⟩,by simp [intOf]; omega⟩;rw [HNEXT.out,dV_append];exact HOWN2.out
  ·obtain rfl:k=n:=by omega
   have HOWN:=zY hown;have HBEL:=zY hbel;clear hown hbel;go_wp2_with fail;go_ret;refine ⟨A1,c1,rfl,?_,by rw [HHG.out]; exact HBEL.out⟩;rw [HHG.out];have h:=HOWN.out;rw [List.take_of_length_le (by rw [digs,List.length_map,HN.out]; exact Nat.le_refl _)] at h;exact h
set_option maxRecDepth 100000 in
set_option maxHeartbeats 2000000 in
theorem rbytesz_any (l:List Nat) (hd:∀ d ∈ l,d<256) (A:Option Addr) (c:Nat) (w:World) (hr:Rd w w.heap.size A (dV l)) (hc:l.length≤c) (hl:l.length≤1000000) :
  Calls Tryd.prog 48 #[.slice A l.length c] w (OwnPostZ 5 32 (bytesV (refB l)) w):=by
 obtain ⟨n,hn⟩:∃ n,n=l.length:=⟨_,rfl⟩;rw [← hn];have hn63:(n:Int)≤1000000:=by omega
 have hown0:OwnZ w w.heap.size 5 1 (.slice none 0 0) 0 (bytesV ((refB l).take 0)):=OwnZ.nil _ _ _ _
 have hd':∀ k,l.getD k 0<256:=fun k=>by
  rw [List.getD_eq_getElem?_getD]
  by_cases h:k<l.length
  ·rw [List.getElem?_eq_getElem h]; exact hd _ (List.getElem_mem h)
  ·rw [List.getElem?_eq_none (by omega)]; decide
 have HR:=zY hr;have HN:=zY hn;have HD:=zY hd';have HOWN0:=zY hown0;clear hr hn hc hl hown0 hd hd';go_enter Tryd.func48,Tryd.ntmps48;go_wp2_with fail;generalize hg:w.heap.size=g at *;have HHG:=zY hg;clear hg
 go_loopw [3,4] (fun v i wr=>∃ (k:Nat) (A1:Option Addr) (c1:Nat),k≤32∧i=.int .i64 k∧v=.slice A1 k c1∧OwnZ wr g 5 1 (.slice A1 k c1) k (bytesV ((refB l).take k))∧Below g w wr) (fun _ i _=>32 - (intOf i).toNat)
 case atStart=>exact ⟨0,none,0,by omega,rfl,rfl,HOWN0.out,Below.refl _ _⟩
 case round =>
  clear HOWN0;obtain ⟨k,A1,c1,hk,rfl,rfl,hown,hbel⟩:=hrel
  by_cases hlt:k<32
  ·have hlt':(k:Int)<32:=by omega
   have hrd:=HR.out.below hbel;obtain ⟨b,hb⟩:∃ b,b=l.getD k 0:=⟨_,rfl⟩;have hbl:(b:Int)<256:=by have:=HD.out k; omega
   have hnext:(refB l).take (k+1)=(refB l).take k++[UInt8.ofNat b]:=by
    rw [take_snoc (by rw [refB,List.length_map,List.length_range]; exact hlt),hb];simp [refB]
   have hbv:byteV (UInt8.ofNat b)=.int .u8 (b:Int):=by
    rw [byteV,UInt8.toNat_ofNat',Nat.mod_eq_of_lt (by omega)]
   have hsz:g≤wr.heap.size:=by rw [← HHG.out]; exact (by rw [← HHG.out] at hbel; exact hbel.size)
   have HOWN:=zY hown;have HBEL:=zY hbel;have HNEXT:=zY hnext;have HSZ:=zY hsz;have HBV:=zY hbv
   by_cases hkn:k<n
   ·have hkn':(k:Int)<(n:Int):=by omega
    have hkl:k<l.length:=by rw [← HN.out]; exact hkn
    obtain ⟨ad,rfl,hadl,hcell⟩:=hrd.at_ (k:=k) (by rw [dV_length]; exact hkl);rw [dV_at hkl,show l[k]=b by rw [hb,List.getD_eq_getElem?_getD,List.getElem?_eq_getElem hkl]; rfl] at hcell;clear hown hbel hnext hrd hb hkl hsz hbv;go_wp2_with (refine wpList_append_oneZ sl_bytes rfl rfl HOWN.out rfl rfl rfl rfl (by unfold maxLen; omega) (by omega) HSZ.out ?_; intro A2 c2 w2 hown2 hg2 hn2; have HOWN2:=zY hown2; have HG2:=zY hg2; clear hown2 hg2 hn2);refine ⟨⟨k+1,A2,c2,by omega,by go_num,rfl,?_,below_grow HBEL.out HOWN.out.x HSZ.out HG2.out⟩,by simp [intOf]; omega⟩;rw [HNEXT.out,bytesV_append,show bytesV [UInt8.ofNat b]=[byteV (UInt8.ofNat b)] from rfl,HBV.out];exact HOWN2.out
   ·have hkn':¬ (k:Int)<(n:Int):=by omega
    have hb0:b=0:=by rw [hb,List.getD_eq_getElem?_getD,List.getElem?_eq_none (by rw [← HN.out]; omega)]; rfl
    subst hb0;clear hown hbel hnext hrd hb hsz hbv;go_wp2_with (refine wpList_append_oneZ sl_bytes rfl rfl HOWN.out rfl rfl rfl rfl (by unfold maxLen; omega) (by omega) HSZ.out ?_; intro A2 c2 w2 hown2 hg2 hn2; have HOWN2:=zY hown2; have HG2:=zY hg2; clear hown2 hg2 hn2);refine ⟨⟨k+1,A2,c2,by omega,by go_num,rfl,?_,below_grow HBEL.out HOWN.out.x HSZ.out HG2.out⟩,by simp [intOf]; omega⟩;rw [HNEXT.out,bytesV_append];exact HOWN2.out
  ·obtain rfl:k=32:=by omega
   have HOWN:=zY hown;have HBEL:=zY hbel;clear hown hbel;go_wp2_with fail;go_ret;refine ⟨A1,c1,rfl,?_,by rw [HHG.out]; exact HBEL.out⟩;rw [HHG.out];have h:=HOWN.out;rw [List.take_of_length_le (by rw [refB,List.length_map,List.length_range]; exact Nat.le_refl _)] at h;exact h
end Go.Proofs.YtdgheahbafnboaaDoor
/-
  Walks: the reference's Small and L.
-/
namespace Go.Proofs.YtdgheahbafnboaaDoor
set_option linter.unusedSimpArgs false
set_option linter.unusedVariables false
open Go.RowKit
def smD:List Nat:=[2,7,7,4,2,3,1,7,7,7,7,3,7,2,3,5,3,5,3,5,8,5,1,9,3,7,7,9,0,8,8,3,6,4,8,4,9,3]
def smS:ByteArray:=⟨#[50,55,55,52,50,51,49,55,55,55,55,51,55,50,51,53,51,53,51,53,56,53,49,57,51,55,55,57,48,56,56,51,54,52,56,52,57,51]⟩
def smV:Nat→Nat
 | 0=>0
 | k+1=>smV k*10+smD.getD k 0
theorem smV_lt:∀ k,k<39→smV k<256^16:=by decide
theorem smD_lt:∀ k,smD.getD k 0<10:=fun k=>by
 by_cases h:k<38
 ·revert k; decide
 ·rw [List.getD_eq_getElem?_getD,List.getElem?_eq_none (by simp [smD]; omega)]; decide
theorem smV_end:smV 38=27742317777372353535851937790883648493:=by decide
theorem sm_index:∀ (i:Nat),i<38→∀ u:World,(Instr.index 9 (.string smS) (.int .i64 (i:Int))).run Tryd.prog u=.ok (.int .u8 ((48+smD.getD i 0:Nat):Int)) u
 | 0,_=>fun u=>by kernel_rfl
 | 1,_=>fun u=>by kernel_rfl
 | 2,_=>fun u=>by kernel_rfl
 | 3,_=>fun u=>by kernel_rfl
 | 4,_=>fun u=>by kernel_rfl
 | 5,_=>fun u=>by kernel_rfl
 | 6,_=>fun u=>by kernel_rfl
 | 7,_=>fun u=>by kernel_rfl
 | 8,_=>fun u=>by kernel_rfl
 | 9,_=>fun u=>by kernel_rfl
 | 10,_=>fun u=>by kernel_rfl
 | 11,_=>fun u=>by kernel_rfl
 | 12,_=>fun u=>by kernel_rfl
 | 13,_=>fun u=>by kernel_rfl
 | 14,_=>fun u=>by kernel_rfl
 | 15,_=>fun u=>by kernel_rfl
 | 16,_=>fun u=>by kernel_rfl
 | 17,_=>fun u=>by kernel_rfl
 | 18,_=>fun u=>by kernel_rfl
 | 19,_=>fun u=>by kernel_rfl
 | 20,_=>fun u=>by kernel_rfl
 | 21,_=>fun u=>by kernel_rfl
 | 22,_=>fun u=>by kernel_rfl
 | 23,_=>fun u=>by kernel_rfl
 | 24,_=>fun u=>by kernel_rfl
 | 25,_=>fun u=>by kernel_rfl
 | 26,_=>fun u=>by kernel_rfl
 | 27,_=>fun u=>by kernel_rfl
 | 28,_=>fun u=>by kernel_rfl
 | 29,_=>fun u=>by kernel_rfl
 | 30,_=>fun u=>by kernel_rfl
 | 31,_=>fun u=>by kernel_rfl
 | 32,_=>fun u=>by kernel_rfl
 | 33,_=>fun u=>by kernel_rfl
 | 34,_=>fun u=>by kernel_rfl
 | 35,_=>fun u=>by kernel_rfl
 | 36,_=>fun u=>by kernel_rfl
 | 37,_=>fun u=>by kernel_rfl
 | i+38,h=>absurd h (by omega)
theorem leV_top {l:List Nat} (h0:0<l.length) (h:l.getD (l.length - 1) 0≠0):256^(l.length - 1)≤leV l:=by
 obtain ⟨p,hp⟩:∃ p,l.length=p+1:=⟨l.length - 1,by omega⟩;rw [hp,Nat.add_sub_cancel] at h ⊢;have hs:=leV_take_step l p;rw [show l.take (p+1)=l from List.take_of_length_le (by omega)] at hs;rw [hs];have:1≤l.getD p 0:=by omega
 have h2:256^p*1≤256^p*l.getD p 0:=Nat.mul_le_mul_left _ this;omega
theorem sm_len {l:List Nat} {k:Nat} (hk:k<39) (h0:0<l.length) (hv:leV l=smV k) (ht:l.length=1∨l.getD (l.length - 1) 0≠0):l.length≤16:=by
 rcases ht with h | h
 ·omega
 ·have h1:=leV_top h0 h;rw [hv] at h1;have h2:=Nat.lt_of_le_of_lt h1 (smV_lt k hk);have h3:l.length - 1<16:=(Nat.pow_lt_pow_iff_right (by decide)).1 h2;omega
structure SmL (i:Nat) (l:List Nat):Prop where
 dg:Dg l
 pos:0<l.length
 val:leV l=smV i
 top:l.length=1∨l.getD (l.length - 1) 0≠0
def SmallPost (w:World) (e:Ending) (w':World):Prop:=∃ l A c,e=.returned (.slice A l.length c)∧SmL 38 l∧l.length≤c∧Rd w' w'.heap.size A (dV l)∧Below w.heap.size w w'
set_option maxRecDepth 100000 in
set_option maxHeartbeats 4000000 in
theorem small_any (w:World):Calls Tryd.prog 88 #[] w (SmallPost w):=by
 obtain ⟨S,hS⟩:∃ S,S=smS:=⟨_,rfl⟩;have hsz:S.size=38:=by rw [hS]; rfl
 have HIX:=zY (show ∀ (i:Nat),i<38→∀ u:World,(Instr.index 9 (.string S) (.int .i64 (i:Int))).run Tryd.prog u=.ok (.int .u8 ((48+smD.getD i 0:Nat):Int)) u from by rw [hS]; exact sm_index);have HB0:=zY (below_new w (.cells (dV [0]).toArray 3));have HN0:=zY (Blk.new w 3 (dV [0]).toArray);have hst:SmL 0 [0]:=⟨by unfold Dg; decide,by decide,rfl,.inl rfl⟩;have HL0:=zY hst;clear hst;go_enter Tryd.func88,Tryd.ntmps88;go_wp2_with fail;rw [show (ByteArray.mk #[50,55,55,52,50,51,49,55,55,55,55,51,55,50,51,53,51,53,51,53,56,53,49,57,51,55,55,57,48,56,56,51,54,52,56,52,57,51])=S from hS.symm];clear hS
 have hst0:∃ (k:Nat) (l:List Nat) (A1:Option Addr) (c1:Nat),k≤38∧(Value.int .i64 0)=.int .i64 (k:Int)∧Value.slice (some ⟨w.heap.size,0,none⟩) 1 1=.slice A1 l.length c1∧SmL k l∧l.length≤c1∧Rd (w.alloc (.cells (dV [0]).toArray 3)) (w.alloc (.cells (dV [0]).toArray 3)).heap.size A1 (dV l)∧Below w.heap.size w (w.alloc (.cells (dV [0]).toArray 3)) :=
  ⟨0,[0],some ⟨w.heap.size,0,none⟩,1,by omega,rfl,rfl,HL0.out,Nat.le_refl _,Rd.of_blk HN0.out HN0.out.lt,HB0.out⟩
 have HST0:=zY hst0;clear hst0 HL0 HN0 HB0
 go_loopw [2,3] (fun v i wr=>∃ (k:Nat) (l:List Nat) (A1:Option Addr) (c1:Nat),k≤38∧i=.int .i64 (k:Int)∧v=.slice A1 l.length c1∧SmL k l∧l.length≤c1∧Rd wr wr.heap.size A1 (dV l)∧Below w.heap.size w wr) (fun _ i _=>38 - (intOf i).toNat)
 case atStart=>exact HST0.out
 case round =>
  clear HST0;obtain ⟨k,l,A1,c1,hk,rfl,rfl,hl,hlc,hrd,hbel⟩:=hrel;have hl16:=sm_len (by omega) hl.pos hl.val hl.top;obtain ⟨m,hm⟩:∃ m,m=l.length:=⟨_,rfl⟩;rw [← hm];have hm16:m≤16:=by omega
  have HRD:=zY hrd;have HBEL:=zY hbel;have HL:=zY hl;have HM:=zY hm;have HLC:=zY hlc;clear hl hlc hrd hbel
  by_cases hlt:k<38
  ·have hlt':(k:Int)<38:=by omega
   obtain ⟨d,hd⟩:∃ d,d=smD.getD k 0:=⟨_,rfl⟩;have hd10:d<10:=by rw [hd]; exact smD_lt k
   obtain ⟨ch,hch⟩:∃ ch,ch=48+d:=⟨_,rfl⟩;have hix:∀ u:World,(Instr.index 9 (.string S) (.int .i64 (k:Int))).run Tryd.prog u=.ok (.int .u8 (ch:Int)) u:=fun u=>by rw [hch,hd]; exact HIX.out k hlt u
   have hchd:(ch:Int) - 48=(d:Int):=by omega
   have hch1:(48:Int)≤(ch:Int):=by omega
   have hch2:(ch:Int)<58:=by omega
   obtain ⟨l1,hl1⟩:∃ l1,l1=digN (m+1+1) (leV l*leV [10]):=⟨_,rfl⟩;have h10:Dg [10]:=by unfold Dg; decide
   have hdd:Dg [d]:=fun x hx=>by simp at hx; omega
   have hl1v:leV l1=leV l*10:=by
    have h:=times_val HL.out.dg h10;rw [← hm] at h;rw [hl1]; exact h
   have hl1d:Dg l1:=by rw [hl1]; exact digN_dg _ _
   have hl1l:l1.length=m+2:=by rw [hl1,digN_length]
   obtain ⟨l2,hl2⟩:∃ l2,l2=digN (max (m+2) 1+1) (leV l1+leV [d]):=⟨_,rfl⟩
   have hl2v:leV l2=smV (k+1):=by
    have h:=plus_val hl1d hdd;rw [hl1l] at h;rw [hl2];refine h.trans ?_;rw [hl1v,HL.out.val,smV,← hd];simp [leV]
   have hl2d:Dg l2:=by rw [hl2]; exact digN_dg _ _
   have hl2l:l2.length=m+3:=by rw [hl2,digN_length]; omega
   have CT:=zY (show ∀ (u:World) A3 c3 A4 c4,Rd u u.heap.size A3 (dV l)→Rd u u.heap.size A4 (dV [10])→Calls Tryd.prog 57 #[.slice A3 m c3,.slice A4 1 c4] u (DigPost l1 u) from fun u A3 c3 A4 c4 h3 h4=>by
    have h:=times_any l [10] HL.out.dg h10 A3 A4 c3 c4 u h3 h4 (by omega) (by decide);rw [← hm] at h;rw [hl1]; exact h)
   have CP:=zY (show ∀ (u:World) A3 c3 A4 c4,Rd u u.heap.size A3 (dV l1)→Rd u u.heap.size A4 (dV [d])→Calls Tryd.prog 56 #[.slice A3 (m+2) c3,.slice A4 1 c4] u (DigPost l2 u) from fun u A3 c3 A4 c4 h3 h4=>by
    have h:=rplus_any l1 [d] hl1d hdd A3 A4 c3 c4 u h3 h4 (by omega) (by simp);rw [hl1l] at h;rw [hl2]; exact h)
   have HL1L:=zY hl1l;have HL2V:=zY hl2v;have HL2D:=zY hl2d;have HL2L:=zY hl2l;have HC0:Cs [.rd A1 (dV l)] w wr.drew:=⟨⟨HRD.out,trivial⟩,HBEL.out.drew⟩;clear hd hd10 hch hl1 h10 hdd hl1v hl1d hl1l hl2 hl2v hl2d hl2l hm;go_wp2_with fail
   refine wp_region_list (fun u=>Cs [.rd A1 (dV l)] w u) (fun | false=>(fun _=>True) | true=>(fun _=>True)) (fun | false,_=>false | true,_=>false)
    [fun z _=>z 0=.slice A1 m c1,
     fun z u=>(RdV 1 (dV [10])) (z 1) u,
     fun z u=>(RdV l1.length (dV l1)) (z 2) u,
     fun z _=>z 3=.string S,
     fun z _=>z 4=.int .i64 (k:Int),
     fun z _=>z 5=.int .u8 (ch:Int),
     fun z _=>z 6=.int .u8 (d:Int),
     fun z _=>z 7=.int .i64 (d:Int),
     fun z u=>(RdV 1 (dV [d])) (z 8) u,
     fun z u=>(RdV l2.length (dV l2)) (z 9) u,
     fun z u=>(RdV l2.length (dV l2)) (z 10) u]
    [Eq,fun u u'=>Below u.heap.size u u',fun u u'=>Below u.heap.size u u',Eq,Eq,Eq,Eq,Eq,fun u u'=>Below u.heap.size u u',fun u u'=>Below u.heap.size u u',Eq]
    (fun _ _=>false) [(0,some 11),(1,some 12),(2,some 13),(3,some 14),(4,some 15),(5,some 16),(6,some 17),(7,some 18),(8,some 19),(9,some 20),(10,some 2)] (by kernel_rfl) (by kernel_rfl) rfl (fun _=>rfl) ?_ ?_ ?_ ?_ ?_ ?_
   ·exact HC0
   ·intro m; cases m; exact trivial; exact trivial
   ·intro m; cases m
    ·refine ⟨?_,.inr (fun _ _ _ h=>h),.inr (fun _ _ _ h=>h),?_,?_,?_,?_,?_,.inr (fun _ _ _ h=>h),.inr (fun _ _ _ h=>h),?_,trivial⟩ <;> exact .inr fun _ _ h h0=>h▸h0
    ·refine ⟨?_,.inr (fun _ _ _ h=>h),.inr (fun _ _ _ h=>h),?_,?_,?_,?_,?_,.inr (fun _ _ _ h=>h),.inr (fun _ _ _ h=>h),?_,trivial⟩ <;> exact .inr fun _ _ h h0=>h▸h0
   ·refine ⟨⟨.inl rfl,.inr (.inr (.inr (fun _ _ _ _ h h0=>by cases h; exact h0))),?_,?_,?_,?_,?_,?_,.inr (.inr (.inr (fun _ _ _ _ h h0=>by cases h; exact h0))),?_,?_,trivial⟩,⟨?_,.inl rfl,?_,?_,?_,?_,?_,?_,.inr (.inr (.inr (fun _ _ _ _ h h0=>h0.next h))),?_,?_,trivial⟩,⟨?_,.inr (.inr (.inr (fun _ _ _ _ h h0=>h0.next h))),.inl rfl,?_,?_,?_,?_,?_,.inr (.inr (.inr (fun _ _ _ _ h h0=>h0.next h))),?_,?_,trivial⟩,⟨?_,.inr (.inr (.inr (fun _ _ _ _ h h0=>by cases h; exact h0))),.inr (.inr (.inr (fun _ _ _ _ h h0=>by cases h; exact h0))),.inl rfl,?_,?_,?_,?_,.inr (.inr (.inr (fun _ _ _ _ h h0=>by cases h; exact h0))),.inr (.inr (.inr (fun _ _ _ _ h h0=>by cases h; exact h0))),?_,trivial⟩,⟨?_,.inr (.inr (.inr (fun _ _ _ _ h h0=>by cases h; exact h0))),.inr (.inr (.inr (fun _ _ _ _ h h0=>by cases h; exact h0))),?_,.inl rfl,?_,?_,?_,.inr (.inr (.inr (fun _ _ _ _ h h0=>by cases h; exact h0))),.inr (.inr (.inr (fun _ _ _ _ h h0=>by cases h; exact h0))),?_,trivial⟩,⟨?_,.inr (.inr (.inr (fun _ _ _ _ h h0=>by cases h; exact h0))),.inr (.inr (.inr (fun _ _ _ _ h h0=>by cases h; exact h0))),?_,?_,.inl rfl,?_,?_,?_,.inr (.inr (.inr (fun _ _ _ _ h h0=>by cases h; exact h0))),?_,trivial⟩,⟨?_,.inr (.inr (.inr (fun _ _ _ _ h h0=>by cases h; exact h0))),.inr (.inr (.inr (fun _ _ _ _ h h0=>by cases h; exact h0))),?_,?_,?_,.inl rfl,?_,?_,?_,?_,trivial⟩,⟨?_,.inr (.inr (.inr (fun _ _ _ _ h h0=>by cases h; exact h0))),.inr (.inr (.inr (fun _ _ _ _ h h0=>by cases h; exact h0))),?_,?_,?_,?_,.inl rfl,?_,?_,?_,trivial⟩,⟨?_,.inr (.inr (.inr (fun _ _ _ _ h h0=>h0.next h))),.inr (.inr (.inr (fun _ _ _ _ h h0=>h0.next h))),?_,?_,?_,?_,?_,.inl rfl,?_,?_,trivial⟩,⟨?_,.inr (.inr (.inr (fun _ _ _ _ h h0=>h0.next h))),.inr (.inr (.inr (fun _ _ _ _ h h0=>h0.next h))),?_,?_,?_,?_,?_,.inr (.inr (.inr (fun _ _ _ _ h h0=>h0.next h))),.inl rfl,?_,trivial⟩,⟨?_,.inr (.inr (.inr (fun _ _ _ _ h h0=>by cases h; exact h0))),.inr (.inr (.inr (fun _ _ _ _ h h0=>by cases h; exact h0))),?_,?_,?_,?_,?_,.inr (.inr (.inr (fun _ _ _ _ h h0=>by cases h; exact h0))),.inr (.inr (.inr (fun _ _ _ _ h h0=>by cases h; exact h0))),.inl rfl,trivial⟩,trivial⟩ <;> first | exact .inr (.inr (.inl rfl)) | exact .inr (.inr (.inr fun _ _ _ _ _ h=>h))
   ·refine ⟨?_,?_,?_,?_,?_,?_,?_,?_,?_,?_,?_,trivial⟩
    ·refine step_plain [] (fun _=>rfl) rfl ?_;intro w1 vals hC1 hi0 hf E hE;clear hi0;clear hf;simp only [sP] at hE ⊢;go_wp2;exact .mk (hE _ _ rfl hC1 rfl)
    ·refine step_plain [] (fun _=>rfl) rfl ?_;intro w1 vals hC1 hi0 hf E hE;clear hi0;clear hf;simp only [sP] at hE ⊢;go_wp2;have hnew:=Blk.new w1 3 (dV [10]).toArray;exact .mk (hE _ _ ⟨_,1,rfl,Nat.le_refl _,Rd.of_blk hnew hnew.lt⟩ (hC1.next (below_new _ _)) (below_new _ _))
    ·refine step_plain [(0,some 11),(1,some 12)] (fun _=>rfl) rfl ?_;intro w1 vals hC1 hi0 hf E hE;clear hi0;have f0:vals 0=.slice A1 m c1:=hf 0 rfl;have f1:(RdV 1 (dV [10])) (vals 1) w1:=hf 1 rfl
     try dsimp only at f0 f1
     clear hf;obtain ⟨A4,c4,hx4,hc4,hr4⟩:=f1;simp only [sP,f0,hx4] at hE ⊢;clear f0;clear hx4;go_wp2_with fail;refine calls_then (CT.out _ _ _ _ _ (hC1.1.1) hr4) ?_;rintro e w2 ⟨A5,c5,rfl,hc5,hr5,hb5⟩;go_wp2_with fail;exact .mk (hE _ _ ⟨A5,c5,rfl,hc5,hr5⟩ (hC1.next hb5) hb5)
    ·refine step_plain [] (fun _=>rfl) rfl ?_;intro w1 vals hC1 hi0 hf E hE;clear hi0;clear hf;simp only [sP] at hE ⊢;go_wp2;exact .mk (hE _ _ rfl hC1 rfl)
    ·refine step_plain [] (fun _=>rfl) rfl ?_;intro w1 vals hC1 hi0 hf E hE;clear hi0;clear hf;simp only [sP] at hE ⊢;go_wp2;exact .mk (hE _ _ rfl hC1 rfl)
    ·refine step_plain [(3,some 14),(4,some 15)] (fun _=>rfl) rfl ?_;intro w1 vals hC1 hi0 hf E hE;clear hi0;have f3:vals 3=.string S:=hf 3 rfl;have f4:vals 4=.int .i64 (k:Int):=hf 4 rfl
     try dsimp only at f3 f4
     clear hf;simp only [sP,f3,f4] at hE ⊢;clear f3 f4;go_wp2;exact .mk (hE _ _ rfl hC1 rfl)
    ·refine step_plain [(5,some 16)] (fun _=>rfl) rfl ?_;intro w1 vals hC1 hi0 hf E hE;clear hi0;have f5:vals 5=.int .u8 (ch:Int):=hf 5 rfl
     try dsimp only at f5
     clear hf;simp only [sP,f5] at hE ⊢;clear f5;go_wp2;exact .mk (hE _ _ rfl hC1 rfl)
    ·refine step_plain [(6,some 17)] (fun _=>rfl) rfl ?_;intro w1 vals hC1 hi0 hf E hE;clear hi0;have f6:vals 6=.int .u8 (d:Int):=hf 6 rfl
     try dsimp only at f6
     clear hf;simp only [sP,f6] at hE ⊢;clear f6;go_wp2;exact .mk (hE _ _ rfl hC1 rfl)
    ·refine step_plain [(7,some 18)] (fun _=>rfl) rfl ?_;intro w1 vals hC1 hi0 hf E hE;clear hi0;have f7:vals 7=.int .i64 (d:Int):=hf 7 rfl
     try dsimp only at f7
     clear hf;simp only [sP,f7] at hE ⊢;clear f7;go_wp2;have hnew:=Blk.new w1 3 (dV [d]).toArray;exact .mk (hE _ _ ⟨_,1,rfl,Nat.le_refl _,Rd.of_blk hnew hnew.lt⟩ (hC1.next (below_new _ _)) (below_new _ _))
    ·refine step_plain [(2,some 13),(8,some 19),(2,some 13)] (fun _=>rfl) rfl ?_;intro w1 vals hC1 hi0 hf E hE;clear hi0;have f2:(RdV l1.length (dV l1)) (vals 2) w1:=hf 2 rfl;have f8:(RdV 1 (dV [d])) (vals 8) w1:=hf 8 rfl
     try dsimp only at f2 f8
     clear hf;obtain ⟨A3,c3,hx3,hc3,hr3⟩:=f2;obtain ⟨A4,c4,hx4,hc4,hr4⟩:=f8;rw [HL1L.out] at hx3;simp only [sP,hx3,hx4] at hE ⊢;clear hx3 hx4;go_wp2_with fail;refine calls_then (CP.out _ _ _ _ _ hr3 hr4) ?_;rintro e w2 ⟨A5,c5,rfl,hc5,hr5,hb5⟩;go_wp2_with fail;exact .mk (hE _ _ ⟨A5,c5,rfl,hc5,hr5⟩ (hC1.next hb5) hb5)
    ·refine step_plain [(9,some 20),(9,some 20),(0,some 11),(1,some 12),(2,some 13),(3,some 14),(4,some 15),(5,some 16),(6,some 17),(7,some 18),(8,some 19),(9,some 20)] (fun _=>rfl) rfl ?_;intro w1 vals hC1 hi0 hf E hE;clear hi0;have f0:vals 0=.slice A1 m c1:=hf 0 rfl;have f1:(RdV 1 (dV [10])) (vals 1) w1:=hf 1 rfl;have f2:(RdV l1.length (dV l1)) (vals 2) w1:=hf 2 rfl;have f3:vals 3=.string S:=hf 3 rfl;have f4:vals 4=.int .i64 (k:Int):=hf 4 rfl;have f5:vals 5=.int .u8 (ch:Int):=hf 5 rfl;have f6:vals 6=.int .u8 (d:Int):=hf 6 rfl;have f7:vals 7=.int .i64 (d:Int):=hf 7 rfl;have f8:(RdV 1 (dV [d])) (vals 8) w1:=hf 8 rfl;have f9:(RdV l2.length (dV l2)) (vals 9) w1:=hf 9 rfl
     try dsimp only at f0 f1 f2 f3 f4 f5 f6 f7 f8 f9
     clear hf;obtain ⟨A4,c4,hx4,hc4,hr4⟩:=f9;simp only [sP,f0,f3,f4,f5,f6,f7,hx4] at hE ⊢;clear f0 f3 f4 f5 f6 f7;clear hx4;go_wp2;exact .mk (hE _ _ ⟨A4,c4,rfl,hc4,hr4⟩ hC1 rfl)
   intro w1 vals hC1 hf;have f0:vals 0=.slice A1 m c1:=hf 0 (by decide) rfl;have f1:(RdV 1 (dV [10])) (vals 1) w1:=hf 1 (by decide) rfl;have f2:(RdV l1.length (dV l1)) (vals 2) w1:=hf 2 (by decide) rfl;have f3:vals 3=.string S:=hf 3 (by decide) rfl;have f4:vals 4=.int .i64 (k:Int):=hf 4 (by decide) rfl;have f5:vals 5=.int .u8 (ch:Int):=hf 5 (by decide) rfl;have f6:vals 6=.int .u8 (d:Int):=hf 6 (by decide) rfl;have f7:vals 7=.int .i64 (d:Int):=hf 7 (by decide) rfl;have f8:(RdV 1 (dV [d])) (vals 8) w1:=hf 8 (by decide) rfl;have f9:(RdV l2.length (dV l2)) (vals 9) w1:=hf 9 (by decide) rfl;have f10:(RdV l2.length (dV l2)) (vals 10) w1:=hf 10 (by decide) rfl
   try dsimp only at f0 f1 f2 f3 f4 f5 f6 f7 f8 f9 f10
   clear hf;simp only [sP,f0,f3,f4,f5,f6,f7];clear f0 f3 f4 f5 f6 f7;generalize vals 1=x1 at *;generalize vals 2=x2 at *;generalize vals 8=x8 at *;generalize vals 9=x9 at *;generalize vals 10=x10 at *;obtain ⟨A5,c5,rfl,hc5,hr5⟩:=f10;obtain ⟨q,hq⟩:∃ q,q=l2.length:=⟨_,rfl⟩;rw [← hq];have hqm:q=m+3:=by rw [hq]; exact HL2L.out
   have hq63:(q:Int)≤1000:=by omega
   have hqc:(q:Int)≤(c5:Int):=by omega
   have HQ:=zY hq;have HR5:=zY hr5;have HB5:=zY hC1.2;have HST:=zY (show ∃ p:Nat,1≤p∧p≤q∧Value.slice A5 q c5=.slice A5 p c5∧leV (l2.take p)=leV l2 from ⟨q,by omega,Nat.le_refl _,rfl,leV_take_all _ _ (by rw [hq]; exact Nat.le_refl _)⟩);clear hq hr5 hC1 HC0 hc5 hix hchd hch1 hch2 CT CP HL1L hqm;go_wp2_with fail
   go_loop [2] (fun v=>∃ p:Nat,1≤p∧p≤q∧v=.slice A5 p c5∧leV (l2.take p)=leV l2) (fun v=>lenF v)
   case atStart=>exact HST.out
   case round =>
    clear HST;obtain ⟨p,hp1,hpq,rfl,hin⟩:=hrel
    have hnew:∀ ad,A5=some ad→p≤c5→(p=1∨l2.getD (p - 1) 0≠0)→∃ (k':Nat) (l:List Nat) (A1:Option Addr) (c1:Nat),k'≤38∧(Value.int .i64 ((k:Int)+1))=.int .i64 (k':Int)∧Value.slice (some ad) p c5=.slice A1 l.length c1∧SmL k' l∧l.length≤c1∧Rd w1 w1.heap.size A1 (dV l)∧Below w.heap.size w w1:=fun ad had hpc ht=>by
     have hlen:(l2.take p).length=p:=by rw [List.length_take,Nat.min_eq_left (by rw [← HQ.out]; exact hpq)]
     refine ⟨k+1,l2.take p,A5,c5,by omega,by simp,by rw [had,hlen],⟨dg_take HL2D.out p,by omega,by rw [hin]; exact HL2V.out,?_⟩,by rw [hlen]; exact hpc,rd_digs HR5.out,HB5.out⟩;rw [hlen]
     rcases ht with h | h
     ·exact .inl h
     ·right
      rw [List.getD_eq_getElem?_getD,List.getElem?_take,if_pos (by omega),← List.getD_eq_getElem?_getD];exact h
    have HNEW:=zY hnew;clear hnew;have hpq2:(p:Int)≤(q:Int):=by omega
    obtain ⟨r,hr⟩:∃ r,p=r+1:=⟨p - 1,by omega⟩;obtain ⟨ad,rfl,hcell⟩:=dig_cell HR5.out (k:=r) (by rw [← HQ.out]; omega)
    by_cases h1:1<p
    ·have h1':(p:Int) > 1:=by omega
     have hri:(p:Int) - 1=(r:Int):=by omega
     have hrp:(r:Int)<(p:Int):=by omega
     obtain ⟨x,hx⟩:∃ x,x=l2.getD r 0:=⟨_,rfl⟩;rw [← hx] at hcell
     by_cases hx0:x=0
     ·subst hx0
      have hnext:leV (l2.take r)=leV l2:=by
       rw [← hin,hr,leV_take_step,← hx]; simp
      have HNEXT:=zY hnext;have HRR:=zY hr;have HP:=zY (show 1≤r∧r≤q by omega);clear hnext hx hin hr hp1 hpq h1;go_wp2_with fail;exact ⟨⟨r,HP.out.1,HP.out.2,rfl,HNEXT.out⟩,by have:=HRR.out; simp [lenF]; omega⟩
     ·have hx0':¬ (x:Int)=0:=by omega
      have HN:=zY (HNEW.out ad rfl (by omega) (.inr (by rw [hr,Nat.add_sub_cancel,← hx]; exact hx0)));clear hx0 hx hr hin hp1 hpq h1 HNEW;go_wp2_with fail;exact ⟨HN.out,by simp [intOf]; omega⟩
    ·obtain rfl:p=1:=by omega
     have HN:=zY (HNEW.out ad rfl (by omega) (.inl rfl));clear hr hin hp1 hpq h1 HNEW hcell;go_wp2_with fail;exact ⟨HN.out,by simp [intOf]; omega⟩
  ·obtain rfl:k=38:=by omega
   clear hk hlt;rw [hm];go_wp2_with fail;go_ret;exact ⟨l,A1,c1,rfl,HL.out,HLC.out,HRD.out,HBEL.out⟩
end Go.Proofs.YtdgheahbafnboaaDoor
/-
  Walk: the reference's L.
-/
namespace Go.Proofs.YtdgheahbafnboaaDoor
set_option linter.unusedSimpArgs false
set_option linter.unusedVariables false
open Go.RowKit
def LN:Nat:=7237005577332262213973186563042994240857116359379907606001950938285454250989
def oL (l:List Nat) (j:Nat):List Nat:=l.take j++(List.replicate (31 - j) 0++[16])
theorem oL_len {l:List Nat} {j:Nat} (h:j≤l.length) (h2:j≤16):(oL l j).length=32:=by
 rw [oL,List.length_append,List.length_append,List.length_take,List.length_replicate,List.length_singleton]; omega
theorem oL_at {l:List Nat} {j:Nat} (h:j≤l.length) (h2:j≤16):(oL l j)[j]?=some 0:=by
 rw [oL,List.getElem?_append_right (by rw [List.length_take]; omega),List.length_take,Nat.min_eq_left h,Nat.sub_self,List.getElem?_append_left (by rw [List.length_replicate]; omega),List.getElem?_replicate,if_pos (by omega)]
theorem oL_set {l:List Nat} {j:Nat} (h:j<l.length) (h2:j<16):(oL l j).set j l[j]=oL l (j+1):=by
 rw [oL,List.set_append_right _ _ (by rw [List.length_take]; omega),List.length_take,Nat.min_eq_left (by omega),Nat.sub_self];have e:List.replicate (31 - j) 0=0 :: List.replicate (31 - (j+1)) 0:=by rw [← List.replicate_succ]; congr 1; omega
 rw [e,List.cons_append,List.set_cons_zero,oL,List.take_succ_eq_append_getElem h,List.append_assoc];rfl
theorem oL_zero (l:List Nat):((List.replicate 32 0).set 31 16)=oL l 0:=by rw [oL,List.take_zero]; rfl
theorem small_first:27742317777372353535851937790883648493%256=237:=by decide
theorem oL_dn {l:List Nat} (h:SmL 38 l) (h16:l.length≤16):oL l l.length=digN 32 LN:=by
 refine digN_eq ?_ (oL_len (Nat.le_refl _) h16) ?_
 ·rw [oL,List.take_length];intro x hx
  rcases List.mem_append.1 hx with hx | hx
  ·exact h.dg x hx
  ·rcases List.mem_append.1 hx with hx | hx
   ·rw [List.eq_of_mem_replicate hx]; decide
   ·rw [List.mem_singleton.1 hx]; decide
 ·rw [oL,List.take_length,leV_append,leV_append,leV_replicate,h.val,smV_end,List.length_replicate,Nat.zero_add,← Nat.mul_assoc,← Nat.pow_add,show l.length+(31 - l.length)=31 by omega]
  decide
theorem Rd.wrote_ne {w w':World} {B g:Nat} {ad:Addr} {xs:List Value} (h:Rd w B (some ad) xs) (hw:Wrote g w w') (hB:B≤w.heap.size) (hne:ad.block≠g):Rd w' B (some ad) xs:=fun i u hi=>by
 obtain ⟨a2,ha,hlt,hc⟩:=h i u hi
 injection ha with ha
 subst ha;refine ⟨ad,rfl,hlt,?_⟩;have e:w'.heap[ad.block]?=w.heap[ad.block]?:=hw.grown.block ad.block (Nat.lt_of_lt_of_le hlt hB) (by simpa using hne);unfold World.cell? at hc ⊢;rw [block_of_add] at hc ⊢;rw [e]; exact hc
structure LS (w0:World) (o:Nat) (l:List Nat) (ad:Addr) (j:Nat) (u:World):Prop where
 bel:Below w0.heap.size w0 u
 out:Blk u o 3 (dV (oL l j)).toArray
 s:Rd u u.heap.size (some ad) (dV l)
theorem LS.drew {w0 u:World} {o:Nat} {l:List Nat} {ad:Addr} {j:Nat} (k:LS w0 o l ad j u):LS w0 o l ad j u.drew:=⟨k.bel.drew,k.out,k.s⟩
set_option maxRecDepth 100000 in
set_option maxHeartbeats 4000000 in
theorem rl_any (w:World):Calls Tryd.prog 60 #[] w (DigPost (digN 32 LN) w):=by
 have hmk:∀ u:World,(Instr.makeSlice 48 (.int .i64 32) (.int .i64 32)).run Tryd.prog u=.ok (.slice (some ⟨u.heap.size,0,none⟩) 32 32) (u.alloc (.cells (dV (List.replicate 32 0)).toArray 3)):=fun _=>by kernel_rfl
 have hst0:=d1_new (List.replicate 32 0) (Below.refl w.heap.size w);have HST0:=zY hst0;clear hst0;go_enter Tryd.func60,Tryd.ntmps60;go_wp2_with (refine wpList_put_cell (x:=.tmp 6) (i:=31) (v:=.int .i64 16) HST0.out.out rfl rfl rfl rfl int_size (by rw [dig_len]; decide) rfl ?_; intro w1 hb1 hw1; have HST1:=zY (HST0.out.put (l':=oL [] 0) hw1 (by rw [show (Value.int IntKind.i64 16)=.int .i64 ((16:Nat):Int) from rfl,dV_set,oL_zero []] at hb1; exact hb1)); clear hb1 hw1 HST0);generalize ho:w.heap.size=o at HST1 ⊢;have HO:=zY ho;clear ho hmk;refine calls_then (small_any _) ?_;rintro e w2 ⟨l,A,c,rfl,hl,hlc,hrd,hb⟩;have hst2:=HST1.out.next hb;have hl16:=sm_len (by omega) hl.pos hl.val hl.top;obtain ⟨ad,rfl,hcell⟩:=dig_cell hrd (k:=0) hl.pos
 have h237:l.getD 0 0=237:=by
  have h:=leV_at l hl.dg 0;rw [hl.val,smV_end,Nat.pow_zero,Nat.div_one,small_first] at h;exact h.symm
 have hne:ad.block≠o:=by
  intro e;rw [h237] at hcell;unfold World.cell? at hcell;rw [block_of_add,e,show w2.heap[o]?=_ from hst2.out] at hcell
  by_cases hs:(ad.add 0).spot.isSome=true
  ·simp [hs] at hcell
  ·simp only [hs,if_false] at hcell;have hm:=List.mem_of_getElem? (by rw [List.getElem?_toArray] at hcell; exact hcell);obtain ⟨n,hn,e2⟩:=List.mem_map.1 (show _ ∈ (oL [] 0).map numV from hm)
   have e3:n=237:=by
    simp only [numV,Value.int.injEq,true_and] at e2;omega
   rw [e3,oL,List.take_nil] at hn
   revert hn
   decide
 have hst:LS w o l ad 0 w2:=⟨hst2.bel,by have h:=hst2.out; rwa [show oL [] 0=oL l 0 from rfl] at h,hrd⟩;obtain ⟨m,hm⟩:∃ m,m=l.length:=⟨_,rfl⟩;rw [← hm];have hm16:(m:Int)≤16:=by omega
 have HS:=zY hst;have HL:=zY hl;have HM:=zY hm;have HNE:=zY hne;have H16:=zY hl16;clear hst hst2 hl hlc hrd hb hcell h237 hne hm hl16 HST1;go_wp2_with fail
 go_loopw [3] (fun i wr=>∃ j:Nat,j≤m∧i=.int .i64 j∧LS w o l ad j wr) (fun i _=>m - (intOf i).toNat)
 case atStart=>exact ⟨0,by omega,rfl,HS.out⟩
 case round =>
  clear HS;obtain ⟨j,hj,rfl,hst⟩:=hrel;have HS:=zY hst;clear hst
  by_cases hlt:j<m
  ·have hlt':(j:Int)<(m:Int):=by omega
   have hj32:(j:Int)<32:=by omega
   obtain ⟨x,hx⟩:∃ x,x=l.getD j 0:=⟨_,rfl⟩;have hjl:j<l.length:=by rw [← HM.out]; exact hlt
   have hxe:l[j]=x:=by rw [hx,List.getD_eq_getElem?_getD,List.getElem?_eq_getElem hjl]; rfl
   have hx256:(x:Int)<256:=by
    have:=HL.out.dg l[j] (List.getElem_mem hjl);omega
   have hset:(oL l j).set j x=oL l (j+1):=by rw [← hxe]; exact oL_set hjl (by omega)
   have hol:(oL l j).length=32:=oL_len (by omega) (by omega)
   have h0:(dV (oL l j)).toArray[j]?=some (.int .i64 0):=by
    rw [List.getElem?_toArray,dV,List.getElem?_map,oL_at (by omega) (by omega)]; rfl
   have HSET:=zY hset;have HOL:=zY hol;have H0:=zY h0;have HJL:=zY hjl;have HXE:=zY hxe;clear hset hol h0 hx;go_wp2_with fail;have HC0:=HS.out.drew;refine wp_region_det (fun u=>LS w o l ad j u) (fun u=>LS w o l ad (j+1) u) [(0,some 14),(1,some 15),(2,some 16),(3,some 17),(4,some 18),(5,some 19),(6,some 20),(7,some 21),(8,some 22),(9,some 23),(10,some 24),(11,some 25),(12,none)] (by kernel_rfl) (by kernel_rfl) (by decide) (by kernel_rfl) (fun _=>rfl) HC0 ?_;apply DetL.next
   ·apply dP [];exact fun _=>rfl;rfl;rintro vals - w1 hC1 E hE;simp only [sP] at hE ⊢;go_wp2;exact .mk (hE _ hC1)
   apply DetL.next
   ·apply dP [];exact fun _=>rfl;rfl;rintro vals ⟨-,-⟩ w1 hC1 E hE;simp only [sP] at hE ⊢;go_wp2;exact .mk (hE _ hC1)
   apply DetL.next
   ·apply dP [];exact fun _=>rfl;rfl;intro vals vq w1 hC1 E hE;clear vq;simp only [sP] at hE ⊢;go_wp2;exact .mk (hE _ hC1)
   apply DetL.next
   ·apply dP [];exact fun _=>rfl;rfl;intro vals vq w1 hC1 E hE;clear vq;simp only [sP] at hE ⊢;go_wp2;exact .mk (hE _ hC1)
   apply DetL.next
   ·apply dP [(2,some 16),(3,some 17)];exact fun _=>rfl;rfl;rintro vals ⟨⟨⟨⟨-,-⟩,-⟩,f2⟩,f3⟩ w1 hC1 E hE;simp only [sP,f2,f3] at hE ⊢;clear f2 f3;go_wp2;exact .mk (hE _ hC1)
   apply DetL.next
   ·apply dP [(4,some 18)];exact fun _=>rfl;rfl;intro vals vq w1 hC1 E hE;have f4:=vq.2;clear vq;have d0:=hC1.out.cell j;rw [H0.out] at d0;simp only [sP,f4] at hE ⊢;clear f4;go_wp2;exact .mk (hE _ hC1)
   apply DetL.next
   ·apply dP [];exact fun _=>rfl;rfl;intro vals vq w1 hC1 E hE;clear vq;simp only [sP] at hE ⊢;go_wp2;exact .mk (hE _ hC1)
   apply DetL.next
   ·apply dP [];exact fun _=>rfl;rfl;intro vals vq w1 hC1 E hE;clear vq;simp only [sP] at hE ⊢;go_wp2;exact .mk (hE _ hC1)
   apply DetL.next
   ·apply dP [(6,some 20),(7,some 21)];exact fun _=>rfl;rfl;intro vals vq w1 hC1 E hE;have f6:=vq.1.2;have f7:=vq.2;clear vq;simp only [sP,f6,f7] at hE ⊢;clear f6 f7;go_wp2;exact .mk (hE _ hC1)
   apply DetL.next
   ·apply dP [(8,some 22)];exact fun _=>rfl;rfl;intro vals vq w1 hC1 E hE;have f8:=vq.2;clear vq;have d0:=hC1.s.atc (k:=j) (by rw [dV_length]; exact HJL.out);rw [dV_at HJL.out,HXE.out] at d0;simp only [sP,f8] at hE ⊢;clear f8;go_wp2;exact .mk (hE _ hC1)
   apply DetL.next
   ·apply dP [(5,some 19),(9,some 23)];exact fun _=>rfl;rfl;intro vals vq w1 hC1 E hE;have f5:=vq.1.1.1.1.2;have f9:=vq.2;clear vq;simp only [sP,f5,f9] at hE ⊢;clear f5 f9;go_wp2;exact .mk (hE _ hC1)
   apply DetL.next
   ·apply dP [(0,some 14),(1,some 15),(0,some 14),(1,some 15),(2,some 16),(3,some 17),(4,some 18),(5,some 19),(6,some 20),(7,some 21),(8,some 22),(9,some 23),(10,some 24)];exact fun _=>rfl;rfl;rintro vals ⟨⟨⟨⟨⟨⟨⟨⟨⟨⟨⟨-,f0⟩,f1⟩,f2⟩,f3⟩,f4⟩,f5⟩,f6⟩,f7⟩,f8⟩,f9⟩,f10⟩ w1 hC1 E hE;simp only [sP,f0,f1,f2,f3,f4,f5,f6,f7,f8,f9,f10] at hE ⊢;clear f0 f1 f2 f3 f4 f5 f6 f7 f8 f9 f10;go_wp2;exact .mk (hE _ hC1)
   apply DetL.last (v:=undef)
   ·apply dP [(11,some 25),(10,some 24),(0,some 14),(1,some 15),(2,some 16),(3,some 17),(4,some 18),(5,some 19),(6,some 20),(7,some 21),(8,some 22),(9,some 23),(10,some 24)];exact fun _=>rfl;rfl;rintro vals ⟨⟨⟨⟨⟨⟨⟨⟨⟨⟨⟨⟨-,f0⟩,f1⟩,f2⟩,f3⟩,f4⟩,f5⟩,f6⟩,f7⟩,f8⟩,f9⟩,f10⟩,f11⟩ w1 hC1 E hE;simp only [sP,f0,f1,f2,f3,f4,f5,f6,f7,f8,f9,f10,f11] at hE ⊢;clear f0 f1 f2 f3 f4 f5 f6 f7 f8 f9 f10 f11;refine wpList_put_cell (i:=j) (v:=.int .i64 (x:Int)) hC1.out rfl rfl rfl rfl int_size (by rw [dig_len,HOL.out]; omega) rfl ?_;intro w6 hb6 hw6;have HB6:=zY hb6;have HW6:=zY hw6;clear hb6 hw6;go_wp2_with fail;exact .mk (hE _ ⟨HW6.out.below hC1.bel (Nat.le_of_eq HO.out) hC1.bel.size,by have h:=HB6.out; rwa [dV_set,HSET.out] at h,by have h:=hC1.s.wrote_ne HW6.out (Nat.le_refl _) HNE.out; rwa [← HW6.out.size] at h⟩)
   rintro vals ⟨⟨⟨⟨⟨⟨⟨⟨⟨⟨⟨⟨⟨-,f0⟩,f1⟩,f2⟩,f3⟩,f4⟩,f5⟩,f6⟩,f7⟩,f8⟩,f9⟩,f10⟩,f11⟩,f12⟩ w1 hC1;simp only [sP,f0,f1,f2,f3,f4,f5,f6,f7,f8,f9,f10,f11,f12];clear f0 f1 f2 f3 f4 f5 f6 f7 f8 f9 f10 f11 f12;have HS1:=zY hC1;clear hC1 HC0 HS;go_wp2_with fail;exact ⟨⟨j+1,by omega,by go_num,HS1.out⟩,by simp [intOf]; omega⟩
  ·obtain rfl:j=m:=by omega
   go_wp2_with fail;go_ret;have h:=HS.out.out;rw [HM.out,oL_dn HL.out H16.out] at h;exact ⟨some ⟨o,0,none⟩,32,by rw [digN_length]; rfl,by rw [digN_length]; exact Nat.le_refl _,Rd.of_blk h h.lt,HS.out.bel⟩
end Go.Proofs.YtdgheahbafnboaaDoor
/-
  Plain: numbers modulo the order of the base, by signed digits of 256.
-/
namespace Go.Proofs.YtdgheahbafnboaaDoor
set_option linter.unusedSimpArgs false
set_option linter.unusedVariables false
open Go.RowKit
def vI:List Int→Int
 | []=>0
 | x :: r=>x+256*vI r
theorem vI_set:∀ (l:List Int) (j:Nat) (v:Int),j<l.length→vI (l.set j v)=vI l+(v - l.getD j 0)*256^j
 | [],_,_,h=>absurd h (Nat.not_lt_zero _)
 | x :: r,0,v,_=>by simp [vI]; omega
 | x :: r,j+1,v,h=>by
  have ih:=vI_set r j v (by simpa using h);show x+256*vI (r.set j v)=x+256*vI r+(v - (x :: r).getD (j+1) 0)*256^(j+1);rw [ih,show (x :: r).getD (j+1) 0=r.getD j 0 by simp,Int.pow_succ];generalize v - r.getD j 0=t;generalize (256:Int)^j=p
  grind
theorem getD_set_same {l:List Int} {j:Nat} (v:Int) (h:j<l.length):(l.set j v).getD j 0=v:=by
 rw [List.getD_eq_getElem?_getD,List.getElem?_set_self h]; rfl
theorem getD_set_ne {l:List Int} {j m:Nat} (v:Int) (h:j≠m):(l.set j v).getD m 0=l.getD m 0:=by
 rw [List.getD_eq_getElem?_getD,List.getElem?_set_ne h,← List.getD_eq_getElem?_getD]
def odL:List Int:=[237,211,245,92,26,99,18,88,214,156,247,162,222,249,222,20,0,0,0,0,0,0,0,0,0,0,0,0,0,0,0,16]
theorem od_lt:∀ k,0≤odL.getD k 0∧odL.getD k 0≤255:=fun k=>by
 by_cases h:k<32
 ·revert k; decide
 ·rw [List.getD_eq_getElem?_getD,List.getElem?_eq_none (by simp [odL]; omega)]; decide
theorem od_zero':∀ k,k<31→16≤k→odL.getD k 0=0:=by decide
theorem od_zero (k:Nat) (h:16≤k) (h2:k<31):odL.getD k 0=0:=od_zero' k h2 h
def lowV:Nat→Int
 | 0=>0
 | k+1=>lowV k+odL.getD k 0*256^k
theorem low_end:16*lowV 20+256^32=16*(LN:Int):=by decide
theorem od_sum:lowV 32=(LN:Int):=by decide
def inS (X:List Int) (j:Nat) (y c:Int):List Int × Int :=
 (X.set j (X.getD j 0+(c - y) - (X.getD j 0+(c - y)+128)/256*256),(X.getD j 0+(c - y)+128)/256)
def inL (X:List Int) (i:Nat):Nat→List Int × Int
 | 0=>(X,0)
 | k+1=>inS (inL X i k).1 (i - 32+k) (16*X.getD i 0*odL.getD k 0) (inL X i k).2
def outS (X:List Int) (i:Nat):List Int:=((inL X i 20).1.set (i - 12) ((inL X i 20).1.getD (i - 12) 0+(inL X i 20).2)).set i 0
def ph1 (X:List Int):Nat→List Int
 | 0=>X
 | n+1=>outS (ph1 X n) (63 - n)
def cB (s:Bool) (k:Nat):Int:=if k≤16 then 268435456 else if k=17 then 2097152 else if s then (if k=18 then 8194 else if k=19 then 34 else 1) else 65536
structure In (X:List Int) (i k:Nat) (s:Bool):Prop where
 len:(inL X i k).1.length=64
 out:∀ j,j<i - 32∨i - 32+k≤j→(inL X i k).1.getD j 0=X.getD j 0
 norm:∀ j,i - 32≤j→j<i - 32+k→-128≤(inL X i k).1.getD j 0∧(inL X i k).1.getD j 0≤127
 car:-cB s k≤(inL X i k).2∧(inL X i k).2≤cB s k
 val:vI (inL X i k).1+(inL X i k).2*256^(i - 32+k)=vI X - 16*X.getD i 0*256^(i - 32)*lowV k
structure Pre (X:List Int) (i:Nat) (s:Bool):Prop where
 len:X.length=64
 big:∀ j,-8388608≤X.getD j 0∧X.getD j 0≤8388608
 sml:s=true→∀ j,i - 31≤j→j≤i - 12→-128≤X.getD j 0∧X.getD j 0≤127
theorem prod_bound {x o:Int} (h:-8388608≤x∧x≤8388608) (k:0≤o∧o≤255):-34225520640≤16*x*o∧16*x*o≤34225520640:=by
 obtain ⟨h1,h2⟩:=h;obtain ⟨k1,k2⟩:=k;have a1:16*x*o≤134217728*o:=Int.mul_le_mul_of_nonneg_right (by omega) k1;have a2:-134217728*o≤16*x*o:=Int.mul_le_mul_of_nonneg_right (by omega) k1;omega
theorem in_step {X:List Int} {i k:Nat} {s:Bool} (hi:32≤i) (hi2:i≤63) (hk:k<20) (P:Pre X i s) (h:In X i k s):In X i (k+1) s:=by
 obtain ⟨hl,ho,hn,hc,hv⟩:=h;have hj:(inL X i k).1.getD (i - 32+k) 0=X.getD (i - 32+k) 0:=ho _ (.inr (Nat.le_refl _));have hb:=P.big (i - 32+k);have hp:=prod_bound (P.big i) (od_lt k);obtain ⟨Y,hY⟩:∃ Y,Y=(inL X i k).1:=⟨_,rfl⟩;obtain ⟨c,hcc⟩:∃ c,c=(inL X i k).2:=⟨_,rfl⟩;obtain ⟨y,hy⟩:∃ y,y=16*X.getD i 0*odL.getD k 0:=⟨_,rfl⟩;obtain ⟨r,hr⟩:∃ r,r=Y.getD (i - 32+k) 0+(c - y):=⟨_,rfl⟩;have hE:inL X i (k+1)=(Y.set (i - 32+k) (r - (r+128)/256*256),(r+128)/256):=by rw [hr,hY,hcc,hy]; rfl
 have hjl:i - 32+k<Y.length:=by rw [hY,hl]; omega
 rw [← hY] at hl ho hn hv hj;rw [← hcc] at hc hv;rw [← hy] at hp;have hrv:r=X.getD (i - 32+k) 0+(c - y):=by rw [hr,hj]
 constructor
 ·rw [hE,List.length_set]; exact hl
 ·intro j h;rw [hE,getD_set_ne _ (by omega)];exact ho j (by omega)
 ·intro j h1 h2;rw [hE]
  by_cases hjj:j=i - 32+k
  ·subst hjj;rw [getD_set_same _ hjl];omega
  ·rw [getD_set_ne _ (by omega)];exact hn j h1 (by omega)
 ·rw [hE];show -cB s (k+1)≤(r+128)/256∧(r+128)/256≤cB s (k+1)
  by_cases h16:k<16
  ·have e1:cB s k=268435456:=by rw [cB,if_pos (by omega)]
   have e2:cB s (k+1)=268435456:=by rw [cB,if_pos (by omega)]
   rw [e1] at hc;rw [e2];omega
  ·have hz:y=0:=by rw [hy,od_zero k (by omega) (by omega),Int.mul_zero]
   rw [hz] at hrv;have hs:s=true→k≠16∨True→-128≤X.getD (i - 32+k) 0∧X.getD (i - 32+k) 0≤127:=fun h _=>P.sml h _ (by omega) (by omega);have hk4:k=16∨k=17∨k=18∨k=19:=by omega
   cases s
   ·rcases hk4 with rfl | rfl | rfl | rfl <;> simp [cB] at hc ⊢ <;> omega
   ·have hs2:=hs rfl (.inr trivial)
    rcases hk4 with rfl | rfl | rfl | rfl <;> simp [cB] at hc ⊢ <;> omega
 ·rw [hE,vI_set _ _ _ hjl];show vI Y+(r - (r+128)/256*256 - Y.getD (i - 32+k) 0)*256^(i - 32+k)+(r+128)/256*256^(i - 32+k+1)=_;rw [lowV,Int.mul_add,← Int.sub_sub,← hv,hr,hy,Int.pow_add (256:Int) (i - 32) k,Int.pow_succ,Int.pow_add];generalize (Y.getD (i - 32+k) 0+(c - 16*X.getD i 0*odL.getD k 0)+128)/256=q;generalize Y.getD (i - 32+k) 0=a;generalize (256:Int)^(i - 32)=p;generalize (256:Int)^k=t;generalize X.getD i 0=x;generalize odL.getD k 0=o
  grind
theorem in_all {X:List Int} {i:Nat} {s:Bool} (hi:32≤i) (hi2:i≤63) (P:Pre X i s):∀ k,k≤20→In X i k s
 | 0,_=>⟨P.len,fun _ _=>rfl,fun j h1 h2=>by omega,by simp [inL,cB],by simp [inL,lowV]⟩
 | k+1,h=>in_step hi hi2 (by omega) P (in_all hi hi2 P k (by omega))
structure Aft (X:List Int) (i:Nat):Prop where
 len:X.length=64
 big:∀ j,-8388608≤X.getD j 0∧X.getD j 0≤8388608
 top:∀ j,i<j→X.getD j 0=0
 low:i≤62→∀ j,i - 31≤j→j≤i - 12→-128≤X.getD j 0∧X.getD j 0≤127
 mid:i≤62→∀ j,i - 12<j→j≤50→-129≤X.getD j 0∧X.getD j 0≤129
theorem fin_alg {Y X c t x p w m L a:Int} (hv:Y+c*t=X - 16*x*p*w) (e3:16*w+m=16*L):Y+(a+c - a)*t+(0 - x)*(p*m)=X - 16*x*p*L:=by grind
set_option maxHeartbeats 1000000 in
theorem out_step {X:List Int} {i:Nat} (hi:32≤i) (hi2:i≤63) (A:Aft X i) (h51:i=63→∀ j,-4194304≤X.getD j 0∧X.getD j 0≤4194304) :
  Aft (outS X i) (i - 1)∧∃ q:Int,vI (outS X i)=vI X - q*(LN:Int):=by
 obtain ⟨s,hs⟩:∃ s,s=decide (i≤62):=⟨_,rfl⟩;have P:Pre X i s:=⟨A.len,A.big,fun h=>A.low (by rw [hs] at h; exact of_decide_eq_true h)⟩;have I:=in_all hi hi2 P 20 (Nat.le_refl _);obtain ⟨Y,hY⟩:∃ Y,Y=(inL X i 20).1:=⟨_,rfl⟩;obtain ⟨c,hcc⟩:∃ c,c=(inL X i 20).2:=⟨_,rfl⟩;obtain ⟨hl,ho,hn,hc,hv⟩:=I;have hE:outS X i=(Y.set (i - 12) (Y.getD (i - 12) 0+c)).set i 0:=by rw [outS,hY,hcc]
 rw [← hY] at hl ho hn hv;rw [← hcc] at hc hv;have h12:Y.getD (i - 12) 0=X.getD (i - 12) 0:=ho _ (.inr (by omega));have hxi:Y.getD i 0=X.getD i 0:=ho _ (.inr (by omega));have hl1:i - 12<Y.length:=by rw [hl]; omega
 have hl2:i<(Y.set (i - 12) (Y.getD (i - 12) 0+c)).length:=by rw [List.length_set,hl]; omega
 have hat:∀ j,(outS X i).getD j 0=if j=i then 0 else if j=i - 12 then X.getD (i - 12) 0+c else Y.getD j 0:=fun j=>by
  rw [hE]
  by_cases h1:j=i
  ·subst h1; rw [if_pos rfl,getD_set_same _ hl2]
  ·rw [if_neg h1,getD_set_ne _ (by omega)]
   by_cases h2:j=i - 12
   ·subst h2; rw [if_pos rfl,getD_set_same _ hl1,h12]
   ·rw [if_neg h2,getD_set_ne _ (by omega)]
 have hcar:(i≤62→-1≤c∧c≤1)∧-65536≤c∧c≤65536:=by
  rw [hs] at hc
  by_cases h:i≤62
  ·rw [decide_eq_true h] at hc;simp [cB] at hc;omega
  ·rw [decide_eq_false h] at hc;simp [cB] at hc;omega
 have hY':∀ j,(i - 32≤j∧j<i - 12→-128≤Y.getD j 0∧Y.getD j 0≤127)∧(j<i - 32∨i - 12≤j→Y.getD j 0=X.getD j 0):=fun j =>
  ⟨fun h=>hn j h.1 (by omega),fun h=>ho j (by omega)⟩
 refine ⟨⟨by rw [hE,List.length_set,List.length_set]; exact hl,fun j=>?_,fun j hj=>?_,fun _ j h1 h2=>?_,fun _ j h1 h2=>?_⟩,16*X.getD i 0*256^(i - 32),?_⟩
 ·rw [hat];have hb:=A.big j;have hy:=hY' j;have hb12:=A.big (i - 12)
  split
  ·omega
  ·split
   ·by_cases h62:i≤62
    ·have:=A.low h62 (i - 12) (by omega) (Nat.le_refl _);have:=hcar.1 h62;omega
    ·have:=h51 (by omega) (i - 12);have:=hcar.2;omega
   ·by_cases h:i - 32≤j∧j<i - 12
    ·have:=hy.1 h; omega
    ·rw [hy.2 (by omega)]; exact hb
 ·rw [hat]
  by_cases h1:j=i
  ·rw [if_pos h1]
  ·rw [if_neg h1,if_neg (by omega),(hY' j).2 (by omega)];exact A.top j (by omega)
 ·rw [hat,if_neg (by omega),if_neg (by omega)];exact (hY' j).1 (by omega)
 ·rw [hat]
  by_cases h3:j=i
  ·rw [if_pos h3]; omega
  ·rw [if_neg h3]
   by_cases h4:j=i - 12
   ·rw [if_pos h4];have h62:i≤62:=by omega
    have:=A.low h62 (i - 12) (by omega) (Nat.le_refl _);have:=hcar.1 h62;omega
   ·rw [if_neg h4,(hY' j).2 (by omega)]
    by_cases h62:i≤62
    ·exact A.mid h62 j (by omega) h2
    ·omega
 ·rw [hE,vI_set _ _ _ hl2,vI_set _ _ _ hl1,getD_set_ne _ (by omega),hxi];have e1:i - 32+20=i - 12:=by omega
  rw [e1] at hv;have e2:(256:Int)^i=256^(i - 32)*256^32:=by rw [← Int.pow_add,Nat.sub_add_cancel hi]
  rw [e2];exact fin_alg hv low_end
theorem ph1_all {X:List Int} (hl:X.length=64) (hb:∀ j,-4194304≤X.getD j 0∧X.getD j 0≤4194304):∀ n,n≤32→Aft (ph1 X n) (63 - n)∧∃ q:Int,vI (ph1 X n)=vI X - q*(LN:Int)
 | 0,_=>⟨⟨hl,fun j=>(show -8388608≤X.getD j 0∧X.getD j 0≤8388608 by have:=hb j; omega),fun j hj=>by
   show X.getD j 0=0;rw [List.getD_eq_getElem?_getD,List.getElem?_eq_none (by omega)]; rfl,fun h=>by omega,fun h=>by omega⟩,0,by simp [ph1]⟩
 | n+1,h=>by
  obtain ⟨A,q,hq⟩:=ph1_all hl hb n (by omega)
  obtain ⟨B,r,hr⟩:=out_step (X:=ph1 X n) (i:=63 - n) (by omega) (by omega) A (fun h0=>by
   obtain rfl:n=0:=by omega
   exact hb)
  refine ⟨by rw [show 63 - (n+1)=63 - n - 1 by omega]; exact B,q+r,?_⟩;show vI (outS (ph1 X n) (63 - n))=_;rw [hr,hq];generalize (LN:Int)=L
  grind
end Go.Proofs.YtdgheahbafnboaaDoor
/-
  Plain: the last steps of what is left of a number by the order of the base.
-/
namespace Go.Proofs.YtdgheahbafnboaaDoor
set_option linter.unusedSimpArgs false
set_option linter.unusedVariables false
open Go.RowKit
theorem vI_zero:∀ (l:List Int),(∀ j,l.getD j 0=0)→vI l=0
 | [],_=>rfl
 | x :: r,h=>by
  have h0:x=0:=h 0;have ih:=vI_zero r fun j=>by have:=h (j+1); simpa using this
  rw [vI,h0,ih]; rfl
theorem vI_split:∀ (l:List Int) (k:Nat),vI l=vI (l.take k)+256^k*vI (l.drop k)
 | l,0=>by simp [vI]
 | [],k+1=>by simp [vI]
 | x :: r,k+1=>by
  have ih:=vI_split r k;rw [List.take_succ_cons,List.drop_succ_cons,vI,vI,ih,Int.pow_succ];generalize vI (r.take k)=a;generalize vI (r.drop k)=b;generalize (256:Int)^k=p
  grind
theorem vI_bound (lo hi:Int):∀ (l:List Int),(∀ j,j<l.length→lo≤l.getD j 0∧l.getD j 0≤hi)→lo*(256^l.length - 1)≤255*vI l∧255*vI l≤hi*(256^l.length - 1)
 | [],_=>by simp [vI]
 | x :: r,h=>by
  have h0:lo≤x∧x≤hi:=h 0 (by simp);have ih:=vI_bound lo hi r fun j hj=>by have:=h (j+1) (by simpa using hj); simpa using this
  rw [vI,List.length_cons,Int.pow_succ];generalize (256:Int)^r.length=p at *;generalize vI r=v at *;have e1:lo*(p*256 - 1)=256*(lo*(p - 1))+255*lo:=by grind
  have e2:hi*(p*256 - 1)=256*(hi*(p - 1))+255*hi:=by grind
  rw [e1,e2];omega
theorem getD_take {l:List Int} {k j:Nat} (h:j<k):(l.take k).getD j 0=l.getD j 0:=by
 rw [List.getD_eq_getElem?_getD,List.getElem?_take,if_pos h,← List.getD_eq_getElem?_getD]
theorem getD_drop' {l:List Int} {k j:Nat}:(l.drop k).getD j 0=l.getD (k+j) 0:=by
 rw [List.getD_eq_getElem?_getD,List.getElem?_drop,← List.getD_eq_getElem?_getD]
def p2 (X:List Int) (t:Int):Nat→List Int × Int
 | 0=>(X,0)
 | j+1=>((p2 X t j).1.set j (((p2 X t j).1.getD j 0+((p2 X t j).2 - t*odL.getD j 0))%256),((p2 X t j).1.getD j 0+((p2 X t j).2 - t*odL.getD j 0))/256)
structure P2 (X:List Int) (t:Int) (k:Nat):Prop where
 len:(p2 X t k).1.length=64
 out:∀ j,k≤j→(p2 X t k).1.getD j 0=X.getD j 0
 norm:∀ j,j<k→0≤(p2 X t k).1.getD j 0∧(p2 X t k).1.getD j 0≤255
 car:-20≤(p2 X t k).2∧(p2 X t k).2≤20
 val:vI (p2 X t k).1+(p2 X t k).2*256^k=vI X - t*lowV k
theorem t_bound {t o:Int} (h:-9≤t∧t≤9) (k:0≤o∧o≤255):-2295≤t*o∧t*o≤2295:=by
 obtain ⟨h1,h2⟩:=h;obtain ⟨k1,k2⟩:=k;have a1:t*o≤9*o:=Int.mul_le_mul_of_nonneg_right h2 k1;have a2:-9*o≤t*o:=Int.mul_le_mul_of_nonneg_right h1 k1;omega
theorem p2_all {X:List Int} {t:Int} (hl:X.length=64) (hb:∀ j,j<32→-129≤X.getD j 0∧X.getD j 0≤129) (ht:-9≤t∧t≤9):∀ k,k≤32→P2 X t k
 | 0,_=>⟨hl,fun _ _=>rfl,fun j h=>by omega,by simp [p2],by simp [p2,lowV]⟩
 | k+1,h=>by
  obtain ⟨h1,h2,h3,h4,h5⟩:=p2_all hl hb ht k (by omega);have hj:(p2 X t k).1.getD k 0=X.getD k 0:=h2 k (Nat.le_refl _);have hbk:=hb k (by omega);have htb:=t_bound ht (od_lt k);obtain ⟨Y,hY⟩:∃ Y,Y=(p2 X t k).1:=⟨_,rfl⟩;obtain ⟨c,hcc⟩:∃ c,c=(p2 X t k).2:=⟨_,rfl⟩;obtain ⟨y,hy⟩:∃ y,y=t*odL.getD k 0:=⟨_,rfl⟩;obtain ⟨r,hr⟩:∃ r,r=Y.getD k 0+(c - y):=⟨_,rfl⟩;have hE:p2 X t (k+1)=(Y.set k (r%256),r/256):=by rw [hr,hY,hcc,hy]; rfl
  rw [← hY] at h1 h2 h3 h5 hj;rw [← hcc] at h4 h5;rw [← hy] at htb;have hkl:k<Y.length:=by rw [h1]; omega
  have hrv:r=X.getD k 0+(c - y):=by rw [hr,hj]
  constructor
  ·rw [hE,List.length_set]; exact h1
  ·intro j h;rw [hE,getD_set_ne _ (by omega)];exact h2 j (by omega)
  ·intro j h;rw [hE]
   by_cases hjj:j=k
   ·subst hjj; rw [getD_set_same _ hkl]; omega
   ·rw [getD_set_ne _ (by omega)]; exact h3 j (by omega)
  ·rw [hE];show -20≤r/256∧r/256≤20;omega
  ·rw [hE,vI_set _ _ _ hkl];show vI Y+(r%256 - Y.getD k 0)*256^k+r/256*256^(k+1)=_;have em:r%256=r - 256*(r/256):=by omega
   rw [lowV,Int.mul_add,← Int.sub_sub,← h5,em,hr,hy,Int.pow_succ];generalize (Y.getD k 0+(c - t*odL.getD k 0))/256=q;generalize Y.getD k 0=a;generalize (256:Int)^k=p;generalize odL.getD k 0=o
   grind
def p3 (X:List Int) (c:Int):Nat→List Int
 | 0=>X
 | j+1=>(p3 X c j).set j ((p3 X c j).getD j 0 - c*odL.getD j 0)
structure P3 (X:List Int) (c:Int) (k:Nat):Prop where
 len:(p3 X c k).length=64
 out:∀ j,k≤j→(p3 X c k).getD j 0=X.getD j 0
 norm:∀ j,j<k→0≤(p3 X c k).getD j 0∧(p3 X c k).getD j 0≤510
 val:vI (p3 X c k)=vI X - c*lowV k
theorem p3_all {X:List Int} {c:Int} (hl:X.length=64) (hb:∀ j,j<32→0≤X.getD j 0∧X.getD j 0≤255) (hc:c=0∨c=-1):∀ k,k≤32→P3 X c k
 | 0,_=>⟨hl,fun _ _=>rfl,fun j h=>by omega,by simp [p3,lowV]⟩
 | k+1,h=>by
  obtain ⟨h1,h2,h3,h5⟩:=p3_all hl hb hc k (by omega);have hj:(p3 X c k).getD k 0=X.getD k 0:=h2 k (Nat.le_refl _);have hbk:=hb k (by omega);have hod:=od_lt k;have hkl:k<(p3 X c k).length:=by rw [h1]; omega
  have hE:p3 X c (k+1)=(p3 X c k).set k ((p3 X c k).getD k 0 - c*odL.getD k 0):=rfl
  constructor
  ·rw [hE,List.length_set]; exact h1
  ·intro j h;rw [hE,getD_set_ne _ (by omega)];exact h2 j (by omega)
  ·intro j h;rw [hE]
   by_cases hjj:j=k
   ·subst hjj;rw [getD_set_same _ hkl,hj]
    rcases hc with rfl | rfl <;> omega
   ·rw [getD_set_ne _ (by omega)]; exact h3 j (by omega)
  ·rw [hE,vI_set _ _ _ hkl,h5,lowV];generalize (p3 X c k).getD k 0=a;generalize odL.getD k 0=o;generalize (256:Int)^k=p;generalize lowV k=w
   grind
def p4 (X:List Int):Nat→List Int × List Nat
 | 0=>(X,[])
 | i+1=>((p4 X i).1.set (i+1) ((p4 X i).1.getD (i+1) 0+(p4 X i).1.getD i 0/256),(p4 X i).2++[((p4 X i).1.getD i 0%256).toNat])
structure P4 (X:List Int) (k:Nat):Prop where
 len:(p4 X k).1.length=64
 out:∀ j,k<j→(p4 X k).1.getD j 0=X.getD j 0
 cur:0≤(p4 X k).1.getD k 0∧(p4 X k).1.getD k 0≤520
 ol:(p4 X k).2.length=k
 dg:Dg (p4 X k).2
 val:(leV (p4 X k).2:Int)+256^k*vI ((p4 X k).1.drop k)=vI X
theorem drop_cons {l:List Int} {k:Nat} (h:k<l.length):l.drop k=l.getD k 0 :: l.drop (k+1):=by
 rw [List.drop_eq_getElem_cons h,List.getD_eq_getElem?_getD,List.getElem?_eq_getElem h]; rfl
theorem p4_all {X:List Int} (hl:X.length=64) (hb:∀ j,0≤X.getD j 0∧X.getD j 0≤510):∀ k,k≤32→P4 X k
 | 0,_=>⟨hl,fun _ _=>rfl,by have:=hb 0; simp [p4]; exact ⟨this.1,Int.le_trans this.2 (by decide)⟩,rfl,fun d h=>by simp [p4] at h,by simp [p4,leV]⟩
 | k+1,h=>by
  obtain ⟨h1,h2,h3,h4,h5,h6⟩:=p4_all hl hb k (by omega);obtain ⟨Y,hY⟩:∃ Y,Y=(p4 X k).1:=⟨_,rfl⟩;obtain ⟨o,ho⟩:∃ o,o=(p4 X k).2:=⟨_,rfl⟩;obtain ⟨x,hx⟩:∃ x,x=Y.getD k 0:=⟨_,rfl⟩;have hE:p4 X (k+1)=(Y.set (k+1) (Y.getD (k+1) 0+x/256),o++[(x%256).toNat]):=by rw [hx,hY,ho]; rfl
  rw [← hY] at h1 h2 h3 h6;rw [← ho] at h4 h5 h6;rw [← hx] at h3;have hkl:k+1<Y.length:=by rw [h1]; omega
  have hn:Y.getD (k+1) 0=X.getD (k+1) 0:=h2 (k+1) (Nat.lt_succ_self _);have hbn:=hb (k+1)
  constructor
  ·rw [hE,List.length_set]; exact h1
  ·intro j h;rw [hE,getD_set_ne _ (by omega)];exact h2 j (by omega)
  ·rw [hE,getD_set_same _ hkl,hn];omega
  ·rw [hE,List.length_append,h4]; rfl
  ·rw [hE];exact dg_snoc h5 (by omega)
  ·rw [hE,← h6,leV_append,h4];show ((leV o+256^k*leV [(x%256).toNat]:Nat):Int)+256^(k+1)*vI ((Y.set (k+1) (Y.getD (k+1) 0+x/256)).drop (k+1))=_;rw [drop_cons (l:=Y) (k:=k) (by omega),← hx,drop_cons (l:=Y) hkl,drop_cons (by rw [List.length_set]; exact hkl),getD_set_same _ hkl,List.drop_set_of_lt (by omega)]
   have e:((leV [(x%256).toNat]:Nat):Int)=x - 256*(x/256):=by
    simp [leV];omega
   have e0:((leV o+256^k*leV [(x%256).toNat]:Nat):Int)=(leV o:Int)+256^k*((leV [(x%256).toNat]:Nat):Int):=by rw [Int.natCast_add,Int.natCast_mul,Int.natCast_pow]; rfl
   rw [e0,e,vI,vI,vI,Int.pow_succ];generalize x/256=q;generalize Y.getD (k+1) 0=a;generalize vI (Y.drop (k+1+1))=v;generalize (256:Int)^k=p;generalize (leV o:Int)=w
   grind
def topD (X:List Int):Int:=(ph1 X 32).getD 31 0/16
def ph2 (X:List Int):List Int × Int:=p2 (ph1 X 32) (topD X) 32
def leftL (X:List Int):List Nat:=(p4 (p3 (ph2 X).1 (ph2 X).2 32) 32).2
theorem small_low:(LN:Int)=16*256^31+27742317777372353535851937790883648493:=by decide
structure LeftP (X:List Int):Prop where
 aft:Aft (ph1 X 32) 31
 top:-9≤topD X∧topD X≤9
 q2:∀ k,k≤32→P2 (ph1 X 32) (topD X) k
 car:(ph2 X).2=0∨(ph2 X).2=-1
 q3:∀ k,k≤32→P3 (ph2 X).1 (ph2 X).2 k
 q4:∀ k,k≤32→P4 (p3 (ph2 X).1 (ph2 X).2 32) k
 val:(leV (leftL X):Int)=vI X%(LN:Int)
theorem mod_pick {v q L:Int} (h1:-L<v) (h2:v<L):(if v<0 then v+L else v)=(v+q*L)%L:=by
 rw [Int.add_mul_emod_self_right]
 split
 ·rw [← Int.add_emod_right,Int.emod_eq_of_lt (by omega) (by omega)]
 ·rw [Int.emod_eq_of_lt (by omega) (by omega)]
theorem left_ok {X:List Int} (hl:X.length=64) (hb:∀ j,-4194304≤X.getD j 0∧X.getD j 0≤4194304):LeftP X:=by
 obtain ⟨A,q,hq⟩:=ph1_all hl hb 32 (Nat.le_refl _);rw [show 63 - 32=31 from rfl] at A;obtain ⟨Y,hY⟩:∃ Y,Y=ph1 X 32:=⟨_,rfl⟩;obtain ⟨t,ht⟩:∃ t,t=topD X:=⟨_,rfl⟩;have ht2:t=Y.getD 31 0/16:=by rw [ht,hY]; rfl
 rw [← hY] at A hq
 have hY129:∀ j,j<32→-129≤Y.getD j 0∧Y.getD j 0≤129:=fun j hj=>by
  by_cases h:j≤19
  ·have:=A.low (by omega) j (by omega) (by omega); omega
  ·exact A.mid (by omega) j (by omega) (by omega)
 have ht9:-9≤t∧t≤9:=by
  have:=hY129 31 (by omega);rw [ht2]; omega
 have H2:=p2_all A.len hY129 ht9;have h2:=H2 32 (Nat.le_refl _);obtain ⟨Z,hZ⟩:∃ Z,Z=(p2 Y t 32).1:=⟨_,rfl⟩;obtain ⟨c,hc⟩:∃ c,c=(p2 Y t 32).2:=⟨_,rfl⟩;obtain ⟨z1,z2,z3,z4,z5⟩:=h2;rw [← hZ] at z1 z2 z3 z5;rw [← hc] at z4 z5;rw [od_sum] at z5;obtain ⟨v,hv⟩:∃ v,v=vI Y - t*(LN:Int):=⟨_,rfl⟩;have hsplit:=vI_split Y 31
 have hdrop:vI (Y.drop 31)=Y.getD 31 0:=by
  rw [drop_cons (by rw [A.len]; omega),vI,vI_zero _ fun j=>by rw [getD_drop']; exact A.top _ (by omega)];omega
 have hlow:=vI_bound (-129) 129 (Y.take 31) (fun j hj=>by
  rw [List.length_take,A.len] at hj;rw [getD_take (by omega)];exact hY129 j (by omega))
 rw [List.length_take,A.len,show min 31 64=31 from rfl] at hlow
 have hrange:-(LN:Int)<v∧v<(LN:Int):=by
  rw [hv,hsplit,hdrop,small_low];generalize vI (Y.take 31)=w at *;have hm:Y.getD 31 0=16*t+Y.getD 31 0%16:=by rw [ht2]; omega
  have hs:0≤Y.getD 31 0%16∧Y.getD 31 0%16≤15:=by omega
  generalize Y.getD 31 0%16=s at *;rw [hm]
  have e:w+256^31*(16*t+s) - t*(16*256^31+27742317777372353535851937790883648493)=w+256^31*s - t*27742317777372353535851937790883648493:=by
   generalize (256:Int)^31=p
   grind
  rw [e];have hp:(256:Int)^31=452312848583266388373324160190187140051835877600158453279131187530910662656:=by decide
  rw [hp] at hlow ⊢;omega
 have hzl:vI Z=vI (Z.take 32):=by
  rw [vI_split Z 32,vI_zero (Z.drop 32) fun j=>by rw [getD_drop',z2 _ (by omega)]; exact A.top _ (by omega)];omega
 have hzb:=vI_bound 0 255 (Z.take 32) (fun j hj=>by
  rw [List.length_take,z1] at hj;rw [getD_take (by omega)];exact z3 j (by omega))
 rw [List.length_take,z1,show min 32 64=32 from rfl,← hzl] at hzb;have hp32:(256:Int)^32=115792089237316195423570985008687907853269984665640564039457584007913129639936:=by decide
 have hLN:(LN:Int)=7237005577332262213973186563042994240857116359379907606001950938285454250989:=by decide
 rw [← hv] at z5
 have hc01:(v<0∧c=-1)∨(0≤v∧c=0):=by
  rw [hp32] at hzb z5;rw [hLN] at hrange;omega
 have hc0:c=0∨c=-1:=by omega
 have H3:=p3_all (X:=Z) (c:=c) z1 z3 hc0;have h3:=H3 32 (Nat.le_refl _);obtain ⟨T,hT⟩:∃ T,T=p3 Z c 32:=⟨_,rfl⟩;obtain ⟨y1,y2,y3,y5⟩:=h3;rw [← hT] at y1 y2 y3 y5;rw [od_sum] at y5
 have H4:=p4_all (X:=T) y1 (fun j=>by
  by_cases h:j<32
  ·exact y3 j h
  ·rw [y2 j (by omega),z2 j (by omega),A.top j (by omega)]; decide)
 have h4:=H4 32 (Nat.le_refl _);obtain ⟨O,hO⟩:∃ O,O=(p4 T 32).2:=⟨_,rfl⟩
 have hval:(leV O:Int)=if v<0 then v+(LN:Int) else v:=by
  have hle:=leV_lt O (by rw [hO]; exact h4.dg);rw [show O.length=32 by rw [hO]; exact h4.ol] at hle;have h6:=h4.val;rw [← hO,y5] at h6;generalize vI ((p4 T 32).1.drop 32)=d at *;rw [show (256:Nat)^32=115792089237316195423570985008687907853269984665640564039457584007913129639936 by decide] at hle;have hle2:(leV O:Int)<115792089237316195423570985008687907853269984665640564039457584007913129639936:=by omega
  rw [hp32] at h6 z5
  split
  ·obtain rfl:c=-1:=by omega
   omega
  ·obtain rfl:c=0:=by omega
   omega
 have hph:ph2 X=(Z,c):=by rw [ph2,← hY,← ht,hZ,hc]
 have hleft:leftL X=O:=by rw [leftL,hph,← hT,hO]
 refine ⟨by rw [← hY]; exact A,by rw [← ht]; exact ht9,by rw [← hY,← ht]; exact H2,by rw [hph]; exact hc0,by rw [hph]; exact H3,by rw [hph,← hT]; exact H4,?_⟩;rw [hleft,hval]
 have hvX:vI X=v+(q+t)*(LN:Int):=by
  rw [hv,hq];generalize (LN:Int)=L
  grind
 rw [hvX];exact mod_pick hrange.1 hrange.2
theorem leftL_len {X:List Int} (h:LeftP X):(leftL X).length=32:=(h.q4 32 (Nat.le_refl _)).ol
theorem leftL_dg {X:List Int} (h:LeftP X):Dg (leftL X):=(h.q4 32 (Nat.le_refl _)).dg
end Go.Proofs.YtdgheahbafnboaaDoor
/-
  Walk: the scalar's order and left.
-/
namespace Go.Proofs.YtdgheahbafnboaaDoor
set_option linter.unusedSimpArgs false
set_option linter.unusedVariables false
open Go.RowKit
theorem and255 (r:Int):Go.bits .and .i64 r 255=r%256:=by
 have h2:(BitVec.ofInt 64 (255:Int)).toNat=255:=by decide
 show IntKind.i64.wrap ((BitVec.ofInt 64 r &&& BitVec.ofInt 64 255).toNat:Int)=_;rw [BitVec.toNat_and,h2,BitVec.toNat_ofInt,show (255:Nat)=2^8 - 1 from rfl,Nat.and_two_pow_sub_one_eq_mod]
 have h3:((r%((2^64:Nat):Int)).toNat:Int)=r%18446744073709551616:=by
  rw [Int.toNat_of_nonneg (Int.emod_nonneg _ (by decide))]; rfl
 have h4:(((r%((2^64:Nat):Int)).toNat%2^8:Nat):Int)=r%256:=by
  rw [show (2:Nat)^8=256 from rfl];omega
 rw [h4,IntKind.wrap_i64];omega
def iV (l:List Int):List Value:=l.map fun x=>Value.int .i64 x
theorem iV_at {l:List Int} {k:Nat} (h:k<l.length):(iV l).toArray[k]?=some (.int .i64 (l.getD k 0)):=by
 simp [iV,List.getD_eq_getElem?_getD,List.getElem?_eq_getElem h]
theorem iV_set (l:List Int) (j:Nat) (n:Int):(iV l).toArray.setIfInBounds j (.int .i64 n)=(iV (l.set j n)).toArray:=by simp [iV,List.map_set]
theorem iV_size (l:List Int):(iV l).toArray.size=l.length:=by simp [iV]
theorem od_len:odL.length=32:=rfl
theorem oarr_size:(Tryd.prog.info? 91).map (·.size)=some (iV odL).toArray.size:=by rw [iV_size]; kernel_rfl
theorem order_build (u:World):(Instr.build 91 #[(0,.int .i64 237),(1,.int .i64 211),(2,.int .i64 245),(3,.int .i64 92),(4,.int .i64 26),(5,.int .i64 99),(6,.int .i64 18),(7,.int .i64 88),(8,.int .i64 214),(9,.int .i64 156),(10,.int .i64 247),(11,.int .i64 162),(12,.int .i64 222),(13,.int .i64 249),(14,.int .i64 222),(15,.int .i64 20),(31,.int .i64 16)]).run Tryd.prog u=.ok (.agg (iV odL).toArray) u:=by kernel_rfl
theorem wpList_build_od {w:World} {ops:Array Oper} {rest:List Oper} {o:Oper} {a:Act} {Q:Exit→Act→World→Prop} {od:Array Value} (hod:od=(iV odL).toArray)
  (hgd:o.guard=none) (ho:o.op=.build 91 #[(0,.const (.int .i64 237)),(1,.const (.int .i64 211)),(2,.const (.int .i64 245)),(3,.const (.int .i64 92)),(4,.const (.int .i64 26)),(5,.const (.int .i64 99)),(6,.const (.int .i64 18)),(7,.const (.int .i64 88)),(8,.const (.int .i64 214)),(9,.const (.int .i64 156)),(10,.const (.int .i64 247)),(11,.const (.int .i64 162)),(12,.const (.int .i64 222)),(13,.const (.int .i64 249)),(14,.const (.int .i64 222)),(15,.const (.int .i64 20)),(31,.const (.int .i64 16))])
  (h:wpList Tryd.prog ops Q rest (a.put o.dst (.agg od)) w):wpList Tryd.prog ops Q (o :: rest) a w:=by
 refine wpList_plain hgd fun K hK=>?_;unfold Oper.wp execOp;simp only [ho,List.map_toArray,List.map_cons,List.map_nil,Act.eval,Sem.run_bind,Sem.run_pure,Result.andThen_ok,order_build];rw [← hod];exact hK _ _ h
theorem order_new (w:World):Blk (w.alloc (.cells (iV (List.replicate 32 0)).toArray 91)) w.heap.size 91 (iV (List.replicate 32 0)).toArray:=Blk.new _ _ _
set_option maxRecDepth 100000 in
set_option maxHeartbeats 2000000 in
theorem order_any (w:World):Calls Tryd.prog 73 #[] w (fun e w'=>e=.returned (.agg (iV odL).toArray)∧Below w.heap.size w w'):=by
 have hu:=Tryd.underlying91;have HB:=zY (order_new w);obtain ⟨od,hod⟩:∃ od,od=(iV odL).toArray:=⟨_,rfl⟩;have hsz:(Tryd.prog.info? 91).map (·.size)=some od.size:=by rw [hod]; exact oarr_size
 have h32:(iV (List.replicate 32 0)).toArray.size=od.size:=by rw [hod,iV_size,iV_size]; rfl
 have hall:od.all (·.oneCell')=true:=by rw [hod]; simp [iV,odL,Value.oneCell']
 rw [← hod];have HOD:=zY hod;have HALL:=zY hall;have H32:=zY h32;have HSZ:=zY hsz;clear hod hall h32 hsz;go_enter Tryd.func73,Tryd.ntmps73
 go_wp2_with (first
  | (refine wpList_build_od HOD.out rfl rfl ?_)
  | (refine wpList_put_box (cells:=od) HB.out rfl rfl rfl rfl HSZ.out H32.out HALL.out ?_; intro w5 hb5 hw5))
 refine bodyPost_ret (results_box (P:=Tryd.prog) rfl rfl hb5 hu rfl HSZ.out) rfl ⟨rfl,hw5.below (below_new w _) (Nat.le_refl _) (by simp)⟩
structure LW (w0:World) (g o:Nat) (OD:Array Value) (X:List Int) (u:World):Prop where
 bel:Below g w0 u
 x:Blk u g 62 (iV X).toArray
 l:Blk u o 91 OD
 lo:w0.heap.size≤o
 gl:g<w0.heap.size
theorem LW.sz {w0 u:World} {g o:Nat} {OD:Array Value} {X:List Int} (k:LW w0 g o OD X u):w0.heap.size≤u.heap.size:=by
 have:=k.l.lt; have:=k.lo; have:=k.bel.size; omega
theorem LW.put {w0 u u':World} {g o:Nat} {OD:Array Value} {X X':List Int} (k:LW w0 g o OD X u) (hw:Wrote g u u') (hb:Blk u' g 62 (iV X').toArray):LW w0 g o OD X' u' :=
 ⟨hw.below k.bel (Nat.le_refl _) (Nat.le_of_lt (Nat.lt_of_lt_of_le k.gl k.sz)),hb,hw.blk k.l (by have:=k.lo; have:=k.gl; omega),k.lo,k.gl⟩
theorem LW.drew {w0 u:World} {g o:Nat} {OD:Array Value} {X:List Int} (k:LW w0 g o OD X u):LW w0 g o OD X u.drew:=⟨k.bel.drew,k.x,k.l,k.lo,k.gl⟩
structure LV (w0:World) (g o oo:Nat) (OD:Array Value) (X:List Int) (L:List Nat) (u:World):Prop where
 a:LW w0 g o OD X u
 out:Blk u oo 5 (bnV L).toArray
 lo:w0.heap.size≤oo
 ne:o≠oo
theorem LV.gne {w0 u:World} {g o oo:Nat} {OD:Array Value} {X:List Int} {L:List Nat} (k:LV w0 g o oo OD X L u):oo≠g:=by have:=k.lo; have:=k.a.gl; omega
theorem LV.put {w0 u u':World} {g o oo:Nat} {OD:Array Value} {X X':List Int} {L:List Nat} (k:LV w0 g o oo OD X L u) (hw:Wrote g u u') (hb:Blk u' g 62 (iV X').toArray):LV w0 g o oo OD X' L u' :=
 ⟨k.a.put hw hb,hw.blk k.out k.gne,k.lo,k.ne⟩
theorem LV.putO {w0 u u':World} {g o oo:Nat} {OD:Array Value} {X:List Int} {L L':List Nat} (k:LV w0 g o oo OD X L u) (hw:Wrote oo u u') (hb:Blk u' oo 5 (bnV L').toArray):LV w0 g o oo OD X L' u' :=
 ⟨⟨hw.below k.a.bel (by have:=k.lo; have:=k.a.gl; omega) (Nat.le_of_lt (Nat.lt_of_lt_of_le k.a.gl k.a.sz)),hw.blk k.a.x (Ne.symm k.gne),hw.blk k.a.l k.ne,k.a.lo,k.a.gl⟩,hb,k.lo,k.ne⟩
theorem LV.drew {w0 u:World} {g o oo:Nat} {OD:Array Value} {X:List Int} {L:List Nat} (k:LV w0 g o oo OD X L u):LV w0 g o oo OD X L u.drew:=⟨k.a.drew,k.out,k.lo,k.ne⟩
theorem lv_new {w0 u:World} {g o:Nat} {OD:Array Value} {X:List Int} {L:List Nat} (k:LW w0 g o OD X u):LV w0 g o u.heap.size OD X L (u.alloc (.cells (bnV L).toArray 5)) :=
 ⟨⟨k.bel.alloc (Nat.le_of_lt (Nat.lt_of_lt_of_le k.gl k.sz)) _,k.x.alloc _,k.l.alloc _,k.lo,k.gl⟩,Blk.new _ _ _,k.sz,Nat.ne_of_lt k.l.lt⟩
theorem cB_le (s:Bool) (k:Nat):cB s k≤268435456:=by
 unfold cB
 repeat' split
 all_goals decide
theorem aft_pre {X:List Int} {i:Nat} (A:Aft X i):Pre X i (decide (i≤62)):=⟨A.len,A.big,fun h=>A.low (of_decide_eq_true h)⟩
def LeftPost (g:Nat) (X:List Int) (w:World) (e:Ending) (w':World):Prop :=
 ∃ o,e=.returned (.slice (some ⟨o,0,none⟩) 32 32)∧w.heap.size≤o∧Blk w' o 5 (bnV (leftL X)).toArray∧Below g w w'
set_option maxRecDepth 100000 in
set_option maxHeartbeats 4000000 in
theorem left_any (X:List Int) (hl:X.length=64) (hb:∀ j,-4194304≤X.getD j 0∧X.getD j 0≤4194304) (g:Nat) (w:World) (hx:Blk w g 62 (iV X).toArray) :
  Calls Tryd.prog 44 #[.pointer (some ⟨g,0,none⟩)] w (LeftPost g X w):=by
 have hu:=Tryd.underlying91;have LP:=zY (left_ok hl hb);have PH:=zY (fun n (h:n≤32)=>(ph1_all hl hb n h).1);have HX0:=zY hx;have HG:=zY hx.lt;have HSZ:=oarr_size;have hoc:∀ k,k<32→(iV odL).toArray[k]?=some (.int .i64 (odL.getD k 0)):=fun k h=>iV_at h;have h32:(iV (List.replicate 32 0)).toArray.size=(iV odL).toArray.size:=by rw [iV_size,iV_size]; rfl
 have hall:(iV odL).toArray.all (·.oneCell')=true:=by simp [iV,odL,Value.oneCell']
 have CO:=order_any;generalize (iV odL).toArray=OD at CO HSZ hoc h32 hall;have HOC:=zY hoc;have H32:=zY h32;have HALL:=zY hall;have HSZ':=zY HSZ;have CO':=zY CO;clear hl hb hx hoc h32 hall HSZ CO;go_enter Tryd.func44,Tryd.ntmps44;go_wp2_with fail;refine calls_then (CO'.out _) ?_;rintro e w1 ⟨rfl,hb1⟩;have HX1:=zY (HX0.out.below hb1 HX0.out.lt);have HB1:=zY hb1;have HO1:=zY (order_new w1);clear hb1 HX0;go_wp2_with (refine wpList_put_box (cells:=OD) HO1.out rfl rfl rfl rfl HSZ'.out H32.out HALL.out ?_; intro w5 hb5 hw5; have HB5:=zY hb5; have HW5:=zY hw5; clear hb5 hw5);generalize ho:w1.heap.size=o at HB5 HW5 HO1 ⊢
 have hst0:LW w g o OD (ph1 X 0) w5:=by
  have hg:=HG.out;have hs:=HB1.out.size;exact ⟨HW5.out.below ((HB1.out.mono (Nat.le_of_lt hg)).alloc (by omega) _) (by omega) (by simp; omega),HW5.out.blk (HX1.out.alloc _) (by omega),HB5.out,by omega,hg⟩
 have HST0:=zY hst0;clear hst0 HB5 HW5 HO1 HX1 HB1 ho
 go_loopw [4] (fun iv wr=>∃ n i:Nat,n≤32∧i+n=63∧iv=.int .i64 (i:Int)∧LW w g o OD (ph1 X n) wr) (fun iv _=>(intOf iv - 31).toNat)
 case atStart=>exact ⟨0,63,by omega,by omega,rfl,HST0.out⟩
 case round =>
  clear HST0;obtain ⟨n,i,hn,hin,rfl,hst⟩:=hrel
  by_cases hlt:n<32
  ·have hge:(32:Int)≤(i:Int):=by omega
   have hi63:(i:Int)≤63:=by omega
   obtain ⟨b,hbb⟩:∃ b:Nat,b+32=i:=⟨i - 32,by omega⟩;have hbi:(i:Int) - 32=(b:Int):=by omega
   have hb31:(b:Int)≤31:=by omega
   obtain ⟨Z,hZ⟩:∃ Z,Z=ph1 X n:=⟨_,rfl⟩;have hA:Aft Z i:=by have h:=PH.out n hn; rw [show 63 - n=i by omega,← hZ] at h; exact h
   have hI:=in_all (by omega) (by omega) (aft_pre hA);have hnx:ph1 X (n+1)=outS Z i:=by rw [hZ,show i=63 - n by omega]; rfl
   rw [← hZ] at hst;have HA:=zY hA;have HI:=zY hI;have HNX:=zY hnx;have HST:=zY hst;have HIN:=zY hin;have HBB:=zY hbb;clear hA hI hnx hst hZ hin hbb;go_wp2_with fail;obtain ⟨wo,rfl⟩:∃ x:World,x=wr:=⟨_,rfl⟩
   go_loopw [5,6] (fun cv jv wr=>∃ (k p:Nat) (c:Int) (Y:List Int),k≤20∧p=b+k∧jv=.int .i64 (p:Int)∧cv=.int .i64 c∧(Y,c)=inL Z i k∧LW w g o OD Y wr) (fun _ jv _=>((b:Int)+20 - intOf jv).toNat)
   case atStart=>exact ⟨0,b,0,Z,by omega,by omega,rfl,rfl,rfl,HST.out⟩
   case round =>
    clear HST;obtain ⟨k,p,c,Y,hk,hp,rfl,rfl,hY,hst⟩:=hrel;obtain ⟨hY1,hY2⟩:Y=(inL Z i k).1∧c=(inL Z i k).2:=by rw [← hY]; exact ⟨rfl,rfl⟩
    have I:=HI.out k hk;have hYl:Y.length=64:=by rw [hY1]; exact I.len
    have hbb:=HBB.out;have hyi:Y.getD i 0=Z.getD i 0:=by rw [hY1]; exact I.out i (.inr (by omega))
    have hyp:Y.getD p 0=Z.getD p 0:=by rw [hY1]; exact I.out p (.inr (by omega))
    have hcl:-268435456≤c∧c≤268435456:=by have h:=I.car; rw [← hY2] at h; have:=cB_le (decide (i≤62)) k; omega
    by_cases hlt2:k<20
    ·have hpl:(p:Int)<(b:Int)+20:=by omega
     have hpb:(p:Int) - (b:Int)=(k:Int):=by omega
     have hk32:(k:Int)<32:=by omega
     have hp64:(p:Int)<64:=by omega
     have hip:i - 32+k=p:=by omega
     obtain ⟨xi,hxi⟩:∃ xi,xi=Z.getD i 0:=⟨_,rfl⟩;obtain ⟨a,ha⟩:∃ a,a=Z.getD p 0:=⟨_,rfl⟩;obtain ⟨d,hd⟩:∃ d,d=odL.getD k 0:=⟨_,rfl⟩;have hxb:=HA.out.big i;have hab:=HA.out.big p;have hdb:=od_lt k;have hyb:=prod_bound hxb hdb;rw [← hxi] at hxb hyb hyi;rw [← ha] at hab hyp;rw [← hd] at hdb hyb;obtain ⟨x16,hx16⟩:∃ z,16*xi=z:=⟨_,rfl⟩;have hx16b:-134217728≤x16∧x16≤134217728:=by omega
     obtain ⟨y,hy⟩:∃ z,x16*d=z:=⟨_,rfl⟩;rw [hx16,hy] at hyb;obtain ⟨s,hs⟩:∃ z,c - y=z:=⟨_,rfl⟩;have hsb:-35000000000≤s∧s≤35000000000:=by omega
     obtain ⟨r,hr⟩:∃ z,a+s=z:=⟨_,rfl⟩;have hrb:-36000000000≤r∧r≤36000000000:=by omega
     obtain ⟨c2,hc2⟩:∃ z,(r+128)/256=z:=⟨_,rfl⟩;have hc2b:-200000000≤c2∧c2≤200000000:=by omega
     obtain ⟨v,hv⟩:∃ z,r - c2*256=z:=⟨_,rfl⟩
     have hstep:inL Z i (k+1)=(Y.set p v,c2):=by
      show inS (inL Z i k).1 (i - 32+k) (16*Z.getD i 0*odL.getD k 0) (inL Z i k).2=_;rw [← hY1,← hY2,hip,← hxi,← hd,hx16,hy,inS,hyp,hs,hr,hc2,hv]
     have d0:∀ u,LW w g o OD Y u→u.cell? ⟨g,p,none⟩=some (.int .i64 a):=fun u h=>by rw [h.x.cell,iV_at (by omega),hyp]
     have d1:∀ u,LW w g o OD Y u→u.cell? ⟨g,i,none⟩=some (.int .i64 xi):=fun u h=>by rw [h.x.cell,iV_at (by omega),hyi]
     have d2:∀ u,LW w g o OD Y u→u.cell? ⟨o,k,none⟩=some (.int .i64 d):=fun u h=>by rw [h.l.cell,HOC.out k (by omega),hd]
     have d3:∀ z u,LW w g o OD (Y.set p z) u→u.cell? ⟨g,p,none⟩=some (.int .i64 z):=fun z u h=>by rw [h.x.cell,iV_at (by rw [List.length_set]; omega),getD_set_same _ (by omega)]
     have D0:=zY d0;have D1:=zY d1;have D2:=zY d2;have D3:=zY d3;have HSTEP:=zY hstep;have HP:=zY hp;have HK:=zY hlt2;have HC0:=hst.drew;obtain ⟨lx,hx1⟩:=hx16b;obtain ⟨ly,hy1⟩:=hyb;obtain ⟨ls,hs1⟩:=hsb;obtain ⟨lr,hr1⟩:=hrb;obtain ⟨lc,hc1⟩:=hc2b;obtain ⟨la,ha1⟩:=hab;obtain ⟨lxb,hxb1⟩:=hxb;obtain ⟨ldb,hdb1⟩:=hdb;obtain ⟨lcb,hcb1⟩:=hcl;have HC2:=zY hc2;have HV:=zY hv;clear d0 d1 d2 d3 hstep hst hY hY1 hY2 hyi hyp hxi ha hd I hYl hp hk hlt2 hip hbb;go_wp2_with fail;refine wp_region_det (fun u=>LW w g o OD Y u) (fun u=>LW w g o OD (Y.set p r) u) [(0,some 27),(1,some 28),(2,some 29),(3,some 30),(4,some 31),(5,some 32),(6,some 33),(7,some 34),(8,some 35),(9,some 36),(10,some 37),(11,some 38),(12,some 39),(13,some 40),(14,some 41),(15,some 42),(16,some 43),(17,some 44),(18,some 45),(19,some 46),(20,some 47),(21,some 48),(22,some 49),(23,none)] (by kernel_rfl) (by kernel_rfl) (by decide) (by kernel_rfl) (fun _=>rfl) HC0 ?_;apply DetL.next
     ·apply dP [];exact fun _=>rfl;rfl;rintro vals - w1 hC1 E hE;simp only [sP] at hE ⊢;go_wp2;exact .mk (hE _ hC1)
     apply DetL.next
     ·apply dP [];exact fun _=>rfl;rfl;rintro vals ⟨-,-⟩ w1 hC1 E hE;simp only [sP] at hE ⊢;go_wp2;exact .mk (hE _ hC1)
     apply DetL.next
     ·apply dP [(0,some 27)];exact fun _=>rfl;rfl;rintro vals ⟨⟨-,f0⟩,-⟩ w1 hC1 E hE;simp only [sP,f0] at hE ⊢;clear f0;go_wp2;exact .mk (hE _ hC1)
     apply DetL.next
     ·apply dP [(2,some 29),(1,some 28)];exact fun _=>rfl;rfl;rintro vals ⟨⟨⟨-,-⟩,f1⟩,f2⟩ w1 hC1 E hE;simp only [sP,f1,f2] at hE ⊢;clear f1 f2;go_wp2;exact .mk (hE _ hC1)
     apply DetL.next
     ·apply dP [(3,some 30)];exact fun _=>rfl;rfl;intro vals vq w1 hC1 E hE;have f3:=vq.2;clear vq;have d0:=D0.out _ hC1;simp only [sP,f3] at hE ⊢;clear f3;go_wp2;exact .mk (hE _ hC1)
     apply DetL.next
     ·apply dP [];exact fun _=>rfl;rfl;intro vals vq w1 hC1 E hE;clear vq;simp only [sP] at hE ⊢;go_wp2;exact .mk (hE _ hC1)
     apply DetL.next
     ·apply dP [];exact fun _=>rfl;rfl;intro vals vq w1 hC1 E hE;clear vq;simp only [sP] at hE ⊢;go_wp2;exact .mk (hE _ hC1)
     apply DetL.next
     ·apply dP [];exact fun _=>rfl;rfl;intro vals vq w1 hC1 E hE;clear vq;simp only [sP] at hE ⊢;go_wp2;exact .mk (hE _ hC1)
     apply DetL.next
     ·apply dP [(6,some 33)];exact fun _=>rfl;rfl;intro vals vq w1 hC1 E hE;have f6:=vq.1.2;clear vq;simp only [sP,f6] at hE ⊢;clear f6;go_wp2;exact .mk (hE _ hC1)
     apply DetL.next
     ·apply dP [(8,some 35),(7,some 34)];exact fun _=>rfl;rfl;intro vals vq w1 hC1 E hE;have f7:=vq.1.2;have f8:=vq.2;clear vq;simp only [sP,f7,f8] at hE ⊢;clear f7 f8;go_wp2;exact .mk (hE _ hC1)
     apply DetL.next
     ·apply dP [(9,some 36)];exact fun _=>rfl;rfl;intro vals vq w1 hC1 E hE;have f9:=vq.2;clear vq;have d0:=D1.out _ hC1;simp only [sP,f9] at hE ⊢;clear f9;go_wp2;exact .mk (hE _ hC1)
     apply DetL.next
     ·apply dP [(10,some 37)];exact fun _=>rfl;rfl;intro vals vq w1 hC1 E hE;have f10:=vq.2;clear vq;simp only [sP,f10] at hE ⊢;clear f10;go_wp2;exact .mk (hE _ hC1)
     apply DetL.next
     ·apply dP [];exact fun _=>rfl;rfl;intro vals vq w1 hC1 E hE;clear vq;simp only [sP] at hE ⊢;go_wp2;exact .mk (hE _ hC1)
     apply DetL.next
     ·apply dP [];exact fun _=>rfl;rfl;intro vals vq w1 hC1 E hE;clear vq;simp only [sP] at hE ⊢;go_wp2;exact .mk (hE _ hC1)
     apply DetL.next
     ·apply dP [(13,some 40)];exact fun _=>rfl;rfl;intro vals vq w1 hC1 E hE;have f13:=vq.2;clear vq;simp only [sP,f13] at hE ⊢;clear f13;go_wp2;exact .mk (hE _ hC1)
     apply DetL.next
     ·apply dP [(12,some 39),(14,some 41)];exact fun _=>rfl;rfl;intro vals vq w1 hC1 E hE;have f12:=vq.1.1.2;have f14:=vq.2;clear vq;simp only [sP,f12,f14] at hE ⊢;clear f12 f14;go_wp2;exact .mk (hE _ hC1)
     apply DetL.next
     ·apply dP [(15,some 42)];exact fun _=>rfl;rfl;intro vals vq w1 hC1 E hE;have f15:=vq.2;clear vq;simp only [sP,f15] at hE ⊢;clear f15;go_wp2;exact .mk (hE _ hC1)
     apply DetL.next
     ·apply dP [(16,some 43)];exact fun _=>rfl;rfl;intro vals vq w1 hC1 E hE;have f16:=vq.2;clear vq;have d0:=D2.out _ hC1;simp only [sP,f16] at hE ⊢;clear f16;go_wp2;exact .mk (hE _ hC1)
     apply DetL.next
     ·apply dP [(11,some 38),(17,some 44)];exact fun _=>rfl;rfl;intro vals vq w1 hC1 E hE;have f11:=vq.1.1.1.1.1.1.2;have f17:=vq.2;clear vq;simp only [sP,f11,f17] at hE ⊢;clear f11 f17;go_wp2;exact .mk (hE _ hC1)
     apply DetL.next
     ·apply dP [(5,some 32),(18,some 45)];exact fun _=>rfl;rfl;intro vals vq w1 hC1 E hE;have f5:=vq.1.1.1.1.1.1.1.1.1.1.1.1.1.2;have f18:=vq.2;clear vq;simp only [sP,f5,f18] at hE ⊢;clear f5 f18;go_wp2;exact .mk (hE _ hC1)
     apply DetL.next
     ·apply dP [(4,some 31),(19,some 46)];exact fun _=>rfl;rfl;intro vals vq w1 hC1 E hE;have f4:=vq.1.1.1.1.1.1.1.1.1.1.1.1.1.1.1.2;have f19:=vq.2;clear vq;simp only [sP,f4,f19] at hE ⊢;clear f4 f19;go_wp2;exact .mk (hE _ hC1)
     apply DetL.next
     ·apply dP [(0,some 27)];exact fun _=>rfl;rfl;intro vals vq w1 hC1 E hE;have f0:=vq.1.1.1.1.1.1.1.1.1.1.1.1.1.1.1.1.1.1.1.1.2;clear vq;simp only [sP,f0] at hE ⊢;clear f0;go_wp2;exact .mk (hE _ hC1)
     apply DetL.next
     ·apply dP [(21,some 48),(1,some 28),(0,some 27),(1,some 28),(2,some 29),(3,some 30),(4,some 31),(5,some 32),(6,some 33),(7,some 34),(8,some 35),(9,some 36),(10,some 37),(11,some 38),(12,some 39),(13,some 40),(14,some 41),(15,some 42),(16,some 43),(17,some 44),(18,some 45),(19,some 46),(20,some 47)];exact fun _=>rfl;rfl;rintro vals ⟨⟨⟨⟨⟨⟨⟨⟨⟨⟨⟨⟨⟨⟨⟨⟨⟨⟨⟨⟨⟨⟨-,f0⟩,f1⟩,f2⟩,f3⟩,f4⟩,f5⟩,f6⟩,f7⟩,f8⟩,f9⟩,f10⟩,f11⟩,f12⟩,f13⟩,f14⟩,f15⟩,f16⟩,f17⟩,f18⟩,f19⟩,f20⟩,f21⟩ w1 hC1 E hE;simp only [sP,f0,f1,f2,f3,f4,f5,f6,f7,f8,f9,f10,f11,f12,f13,f14,f15,f16,f17,f18,f19,f20,f21] at hE ⊢;clear f0 f1 f2 f3 f4 f5 f6 f7 f8 f9 f10 f11 f12 f13 f14 f15 f16 f17 f18 f19 f20 f21;go_wp2;exact .mk (hE _ hC1)
     apply DetL.last (v:=undef)
     ·apply dP [(22,some 49),(20,some 47),(0,some 27),(1,some 28),(2,some 29),(3,some 30),(4,some 31),(5,some 32),(6,some 33),(7,some 34),(8,some 35),(9,some 36),(10,some 37),(11,some 38),(12,some 39),(13,some 40),(14,some 41),(15,some 42),(16,some 43),(17,some 44),(18,some 45),(19,some 46),(20,some 47)];exact fun _=>rfl;rfl;rintro vals ⟨⟨⟨⟨⟨⟨⟨⟨⟨⟨⟨⟨⟨⟨⟨⟨⟨⟨⟨⟨⟨⟨⟨-,f0⟩,f1⟩,f2⟩,f3⟩,f4⟩,f5⟩,f6⟩,f7⟩,f8⟩,f9⟩,f10⟩,f11⟩,f12⟩,f13⟩,f14⟩,f15⟩,f16⟩,f17⟩,f18⟩,f19⟩,f20⟩,-⟩,f22⟩ w1 hC1 E hE;have d0:=D0.out _ hC1;have q0:=hC1.x.free p;simp only [sP,f0,f1,f2,f3,f4,f5,f6,f7,f8,f9,f10,f11,f12,f13,f14,f15,f16,f17,f18,f19,f20,f22] at hE ⊢;clear f0 f1 f2 f3 f4 f5 f6 f7 f8 f9 f10 f11 f12 f13 f14 f15 f16 f17 f18 f19 f20 f22;go_wp2;refine .mk (hE _ (hC1.put (wrote_setCell_at _ _ _ _) ?_));have h:=blk_setCell_at (i:=p) hC1.x (.int .i64 r);rw [iV_set] at h;exact h
     rintro vals ⟨⟨⟨⟨⟨⟨⟨⟨⟨⟨⟨⟨⟨⟨⟨⟨⟨⟨⟨⟨⟨⟨⟨⟨-,f0⟩,f1⟩,f2⟩,f3⟩,f4⟩,f5⟩,f6⟩,f7⟩,f8⟩,f9⟩,f10⟩,f11⟩,f12⟩,f13⟩,f14⟩,f15⟩,f16⟩,f17⟩,f18⟩,f19⟩,f20⟩,f21⟩,f22⟩,f23⟩ w1 hC1;simp only [sP,f0,f1,f2,f3,f4,f5,f6,f7,f8,f9,f10,f11,f12,f13,f14,f15,f16,f17,f18,f19,f20,f21,f22,f23];clear f0 f1 f2 f3 f4 f5 f6 f7 f8 f9 f10 f11 f12 f13 f14 f15 f16 f17 f18 f19 f20 f21 f22 f23;have d0:=D3.out _ _ hC1;have HW1:=zY hC1;clear HC0 hC1;go_wp2_with fail;have HC0:=HW1.out.drew;clear HW1 d0;refine wp_region_det (fun u=>LW w g o OD (Y.set p r) u) (fun u=>LW w g o OD (Y.set p v) u) [(0,some 57),(1,some 58),(2,some 59),(3,some 60),(4,some 61),(5,some 62),(6,some 63),(7,some 64),(8,some 65),(9,some 66),(10,none)] (by kernel_rfl) (by kernel_rfl) (by decide) (by kernel_rfl) (fun _=>rfl) HC0 ?_;apply DetL.next
     ·apply dP [];exact fun _=>rfl;rfl;rintro vals - w1 hC1 E hE;simp only [sP] at hE ⊢;go_wp2;exact .mk (hE _ hC1)
     apply DetL.next
     ·apply dP [];exact fun _=>rfl;rfl;rintro vals ⟨-,-⟩ w1 hC1 E hE;simp only [sP] at hE ⊢;go_wp2;exact .mk (hE _ hC1)
     apply DetL.next
     ·apply dP [(0,some 57)];exact fun _=>rfl;rfl;rintro vals ⟨⟨-,f0⟩,-⟩ w1 hC1 E hE;simp only [sP,f0] at hE ⊢;clear f0;go_wp2;exact .mk (hE _ hC1)
     apply DetL.next
     ·apply dP [(2,some 59),(1,some 58)];exact fun _=>rfl;rfl;rintro vals ⟨⟨⟨-,-⟩,f1⟩,f2⟩ w1 hC1 E hE;simp only [sP,f1,f2] at hE ⊢;clear f1 f2;go_wp2;exact .mk (hE _ hC1)
     apply DetL.next
     ·apply dP [(3,some 60)];exact fun _=>rfl;rfl;intro vals vq w1 hC1 E hE;have f3:=vq.2;clear vq;have d0:=D3.out _ _ hC1;simp only [sP,f3] at hE ⊢;clear f3;go_wp2;exact .mk (hE _ hC1)
     apply DetL.next
     ·apply dP [];exact fun _=>rfl;rfl;intro vals vq w1 hC1 E hE;clear vq;simp only [sP] at hE ⊢;go_wp2;exact .mk (hE _ hC1)
     apply DetL.next
     ·apply dP [(5,some 62)];exact fun _=>rfl;rfl;intro vals vq w1 hC1 E hE;have f5:=vq.2;clear vq;simp only [sP,f5] at hE ⊢;clear f5;go_wp2;exact .mk (hE _ hC1)
     apply DetL.next
     ·apply dP [(4,some 61),(6,some 63)];exact fun _=>rfl;rfl;intro vals vq w1 hC1 E hE;have f4:=vq.1.1.2;have f6:=vq.2;clear vq;simp only [sP,f4,f6] at hE ⊢;clear f4 f6;go_wp2;exact .mk (hE _ hC1)
     apply DetL.next
     ·apply dP [(0,some 57)];exact fun _=>rfl;rfl;intro vals vq w1 hC1 E hE;have f0:=vq.1.1.1.1.1.1.1.2;clear vq;simp only [sP,f0] at hE ⊢;clear f0;go_wp2;exact .mk (hE _ hC1)
     apply DetL.next
     ·apply dP [(8,some 65),(1,some 58),(0,some 57),(1,some 58),(2,some 59),(3,some 60),(4,some 61),(5,some 62),(6,some 63),(7,some 64)];exact fun _=>rfl;rfl;rintro vals ⟨⟨⟨⟨⟨⟨⟨⟨⟨-,f0⟩,f1⟩,f2⟩,f3⟩,f4⟩,f5⟩,f6⟩,f7⟩,f8⟩ w1 hC1 E hE;simp only [sP,f0,f1,f2,f3,f4,f5,f6,f7,f8] at hE ⊢;clear f0 f1 f2 f3 f4 f5 f6 f7 f8;go_wp2;exact .mk (hE _ hC1)
     apply DetL.last (v:=undef)
     ·apply dP [(9,some 66),(7,some 64),(0,some 57),(1,some 58),(2,some 59),(3,some 60),(4,some 61),(5,some 62),(6,some 63),(7,some 64)];exact fun _=>rfl;rfl;rintro vals ⟨⟨⟨⟨⟨⟨⟨⟨⟨⟨-,f0⟩,f1⟩,f2⟩,f3⟩,f4⟩,f5⟩,f6⟩,f7⟩,-⟩,f9⟩ w1 hC1 E hE;have d0:=D3.out _ _ hC1;have q0:=hC1.x.free p;simp only [sP,f0,f1,f2,f3,f4,f5,f6,f7,f9] at hE ⊢;clear f0 f1 f2 f3 f4 f5 f6 f7 f9;go_wp2;refine .mk (hE _ (hC1.put (wrote_setCell_at _ _ _ _) ?_));have h:=blk_setCell_at (i:=p) hC1.x (.int .i64 v);rw [iV_set,List.set_set] at h;exact h
     rintro vals ⟨⟨⟨⟨⟨⟨⟨⟨⟨⟨⟨-,f0⟩,f1⟩,f2⟩,f3⟩,f4⟩,f5⟩,f6⟩,f7⟩,f8⟩,f9⟩,f10⟩ w1 hC1;simp only [sP,f0,f1,f2,f3,f4,f5,f6,f7,f8,f9,f10];clear f0 f1 f2 f3 f4 f5 f6 f7 f8 f9 f10;have HW2:=zY hC1;clear HC0 hC1;go_wp2_with fail;refine ⟨⟨k+1,p+1,c2,Y.set p v,HK.out,by rw [HP.out]; omega,by go_num,rfl,HSTEP.out.symm,HW2.out⟩,by have:=HK.out; simp [intOf]; omega⟩
    ·obtain rfl:k=20:=by omega
     have hpl:¬ (p:Int)<(b:Int)+20:=by omega
     have hpi:(b:Int)+20=(p:Int):=by omega
     have hp64:(p:Int)<64:=by omega
     obtain ⟨a,ha⟩:∃ a,a=Z.getD p 0:=⟨_,rfl⟩;have hab:=HA.out.big p;rw [← ha] at hab hyp;obtain ⟨r,hr⟩:∃ z,a+c=z:=⟨_,rfl⟩;have hrb:-36000000000≤r∧r≤36000000000:=by omega
     have hip:i - 12=p:=by omega
     have hstep:outS Z i=(Y.set p r).set i 0:=by
      rw [outS,← hY1,← hY2,hip,hyp,hr]
     have d0:∀ u,LW w g o OD Y u→u.cell? ⟨g,p,none⟩=some (.int .i64 a):=fun u h=>by rw [h.x.cell,iV_at (by omega),hyp]
     have d1:∀ u,LW w g o OD (Y.set p r) u→∃ z,u.cell? ⟨g,i,none⟩=some (.int .i64 z):=fun u h=>⟨_,by rw [h.x.cell,iV_at (by rw [List.length_set]; omega)]⟩;have D0:=zY d0;have D1:=zY d1;have HSTEP:=zY hstep;have HC0:=hst.drew;obtain ⟨lr,hr1⟩:=hrb;obtain ⟨la,ha1⟩:=hab;obtain ⟨lcb,hcb1⟩:=hcl;clear d0 d1 hstep hst hY hY1 hY2 hyi hyp ha I hYl hp hip hbb;go_wp2_with fail;refine wp_region_det (fun u=>LW w g o OD Y u) (fun u=>LW w g o OD (Y.set p r) u) [(0,some 67),(1,some 68),(2,some 69),(3,some 70),(4,some 71),(5,some 72),(6,some 73),(7,some 74),(8,some 75),(9,some 76),(10,some 77),(11,none)] (by kernel_rfl) (by kernel_rfl) (by decide) (by kernel_rfl) (fun _=>rfl) HC0 ?_;apply DetL.next
     ·apply dP [];exact fun _=>rfl;rfl;rintro vals - w1 hC1 E hE;simp only [sP] at hE ⊢;go_wp2;exact .mk (hE _ hC1)
     apply DetL.next
     ·apply dP [];exact fun _=>rfl;rfl;rintro vals ⟨-,-⟩ w1 hC1 E hE;simp only [sP] at hE ⊢;go_wp2;exact .mk (hE _ hC1)
     apply DetL.next
     ·apply dP [(1,some 68)];exact fun _=>rfl;rfl;rintro vals ⟨⟨-,-⟩,f1⟩ w1 hC1 E hE;simp only [sP,f1] at hE ⊢;clear f1;go_wp2;exact .mk (hE _ hC1)
     apply DetL.next
     ·apply dP [(2,some 69)];exact fun _=>rfl;rfl;intro vals vq w1 hC1 E hE;have f2:=vq.2;clear vq;simp only [sP,f2] at hE ⊢;clear f2;go_wp2;exact .mk (hE _ hC1)
     apply DetL.next
     ·apply dP [(0,some 67)];exact fun _=>rfl;rfl;intro vals vq w1 hC1 E hE;have f0:=vq.1.1.1.2;clear vq;simp only [sP,f0] at hE ⊢;clear f0;go_wp2;exact .mk (hE _ hC1)
     apply DetL.next
     ·apply dP [(4,some 71),(3,some 70)];exact fun _=>rfl;rfl;intro vals vq w1 hC1 E hE;have f3:=vq.1.2;have f4:=vq.2;clear vq;simp only [sP,f3,f4] at hE ⊢;clear f3 f4;go_wp2;exact .mk (hE _ hC1)
     apply DetL.next
     ·apply dP [(5,some 72)];exact fun _=>rfl;rfl;intro vals vq w1 hC1 E hE;have f5:=vq.2;clear vq;have d0:=D0.out _ hC1;simp only [sP,f5] at hE ⊢;clear f5;go_wp2;exact .mk (hE _ hC1)
     apply DetL.next
     ·apply dP [];exact fun _=>rfl;rfl;intro vals vq w1 hC1 E hE;clear vq;simp only [sP] at hE ⊢;go_wp2;exact .mk (hE _ hC1)
     apply DetL.next
     ·apply dP [(6,some 73),(7,some 74)];exact fun _=>rfl;rfl;intro vals vq w1 hC1 E hE;have f6:=vq.1.2;have f7:=vq.2;clear vq;simp only [sP,f6,f7] at hE ⊢;clear f6 f7;go_wp2;exact .mk (hE _ hC1)
     apply DetL.next
     ·apply dP [(0,some 67)];exact fun _=>rfl;rfl;intro vals vq w1 hC1 E hE;have f0:=vq.1.1.1.1.1.1.1.1.2;clear vq;simp only [sP,f0] at hE ⊢;clear f0;go_wp2;exact .mk (hE _ hC1)
     apply DetL.next
     ·apply dP [(9,some 76),(3,some 70),(0,some 67),(1,some 68),(2,some 69),(3,some 70),(4,some 71),(5,some 72),(6,some 73),(7,some 74),(8,some 75)];exact fun _=>rfl;rfl;rintro vals ⟨⟨⟨⟨⟨⟨⟨⟨⟨⟨-,f0⟩,f1⟩,f2⟩,f3⟩,f4⟩,f5⟩,f6⟩,f7⟩,f8⟩,f9⟩ w1 hC1 E hE;simp only [sP,f0,f1,f2,f3,f4,f5,f6,f7,f8,f9] at hE ⊢;clear f0 f1 f2 f3 f4 f5 f6 f7 f8 f9;go_wp2;exact .mk (hE _ hC1)
     apply DetL.last (v:=undef)
     ·apply dP [(10,some 77),(8,some 75),(0,some 67),(1,some 68),(2,some 69),(3,some 70),(4,some 71),(5,some 72),(6,some 73),(7,some 74),(8,some 75)];exact fun _=>rfl;rfl;rintro vals ⟨⟨⟨⟨⟨⟨⟨⟨⟨⟨⟨-,f0⟩,f1⟩,f2⟩,f3⟩,f4⟩,f5⟩,f6⟩,f7⟩,f8⟩,-⟩,f10⟩ w1 hC1 E hE;have d0:=D0.out _ hC1;have q0:=hC1.x.free p;simp only [sP,f0,f1,f2,f3,f4,f5,f6,f7,f8,f10] at hE ⊢;clear f0 f1 f2 f3 f4 f5 f6 f7 f8 f10;go_wp2;refine .mk (hE _ (hC1.put (wrote_setCell_at _ _ _ _) ?_));have h:=blk_setCell_at (i:=p) hC1.x (.int .i64 r);rw [iV_set] at h;exact h
     rintro vals ⟨⟨⟨⟨⟨⟨⟨⟨⟨⟨⟨⟨-,f0⟩,f1⟩,f2⟩,f3⟩,f4⟩,f5⟩,f6⟩,f7⟩,f8⟩,f9⟩,f10⟩,f11⟩ w1 hC1;simp only [sP,f0,f1,f2,f3,f4,f5,f6,f7,f8,f9,f10,f11];clear f0 f1 f2 f3 f4 f5 f6 f7 f8 f9 f10 f11;obtain ⟨z0,d0⟩:=D1.out _ hC1;have q0:=hC1.x.free i;have HW1:=zY hC1;have hi64:(i:Int)<64:=by omega
     clear HC0 hC1;go_wp2_with fail;refine ⟨⟨n+1,i - 1,by omega,by have:=HIN.out; omega,by go_num,?_⟩,by simp [intOf]; omega⟩;have h:=blk_setCell_at (i:=i) HW1.out.x (.int .i64 0);rw [iV_set] at h;rw [HNX.out,HSTEP.out];exact HW1.out.put (wrote_setCell_at _ _ _ _) h
  ·obtain rfl:n=32:=by omega
   obtain rfl:i=31:=by omega
   obtain ⟨X1,hX1⟩:∃ X1,X1=ph1 X 32:=⟨_,rfl⟩;obtain ⟨tp,htp⟩:∃ tp,tp=topD X:=⟨_,rfl⟩;have hA:Aft X1 31:=by rw [hX1]; exact LP.out.aft
   have ht9:=LP.out.top;rw [← htp] at ht9;obtain ⟨a,ha⟩:∃ a,a=X1.getD 31 0:=⟨_,rfl⟩;have hat:a/16=tp:=by rw [ha,hX1,htp]; rfl
   have hab:=hA.big 31;rw [← ha] at hab;rw [← hX1] at hst;have d0:∀ u,LW w g o OD X1 u→u.cell? ⟨g,31,none⟩=some (.int .i64 a):=fun u h=>by rw [h.x.cell,iV_at (by rw [hA.len]; decide),ha]
   have D0:=zY d0;have HQ2:=zY (show ∀ k,k≤32→P2 X1 tp k by rw [hX1,htp]; exact LP.out.q2);have HP2:=zY (show ph2 X=p2 X1 tp 32 by rw [hX1,htp]; rfl);have HA:=zY hA;have HTB:=zY ht9;have HC0:=hst.drew;obtain ⟨la,ha1⟩:=hab;obtain ⟨lt1,ht1⟩:=ht9;clear d0 hX1 htp hA ha hst;go_wp2_with fail;refine wp_region_det (fun u=>LW w g o OD X1 u) (fun u=>LW w g o OD X1 u) [(0,some 82),(1,some 83),(2,some 84),(3,some 85),(4,some 86),(5,some 7),(6,some 8)] (by kernel_rfl) (by kernel_rfl) (by decide) (by kernel_rfl) (fun _=>rfl) HC0 ?_;apply DetL.next
   ·apply dP [];exact fun _=>rfl;rfl;rintro vals - w1 hC1 E hE;simp only [sP] at hE ⊢;go_wp2;exact .mk (hE _ hC1)
   apply DetL.next
   ·apply dP [(0,some 82)];exact fun _=>rfl;rfl;rintro vals ⟨-,f0⟩ w1 hC1 E hE;simp only [sP,f0] at hE ⊢;clear f0;go_wp2;exact .mk (hE _ hC1)
   apply DetL.next
   ·apply dP [(1,some 83)];exact fun _=>rfl;rfl;rintro vals ⟨⟨-,-⟩,f1⟩ w1 hC1 E hE;simp only [sP,f1] at hE ⊢;clear f1;go_wp2;exact .mk (hE _ hC1)
   apply DetL.next
   ·apply dP [(2,some 84)];exact fun _=>rfl;rfl;intro vals vq w1 hC1 E hE;have f2:=vq.2;clear vq;have d0:=D0.out _ hC1;simp only [sP,f2] at hE ⊢;clear f2;go_wp2;exact .mk (hE _ hC1)
   apply DetL.next
   ·apply dP [(3,some 85)];exact fun _=>rfl;rfl;intro vals vq w1 hC1 E hE;have f3:=vq.2;clear vq;simp only [sP,f3] at hE ⊢;clear f3;go_wp2;exact .mk (hE _ hC1)
   apply DetL.next
   ·apply dP [];exact fun _=>rfl;rfl;intro vals vq w1 hC1 E hE;clear vq;simp only [sP] at hE ⊢;go_wp2;exact .mk (hE _ hC1)
   apply DetL.last
   ·apply dP [(4,some 86),(5,some 7),(0,some 82),(1,some 83),(2,some 84),(3,some 85),(4,some 86),(5,some 7)];exact fun _=>rfl;rfl;rintro vals ⟨⟨⟨⟨⟨⟨-,f0⟩,f1⟩,f2⟩,f3⟩,f4⟩,f5⟩ w1 hC1 E hE;simp only [sP,f0,f1,f2,f3,f4,f5] at hE ⊢;clear f0 f1 f2 f3 f4 f5;go_wp2;exact .mk (hE _ hC1)
   rintro vals ⟨⟨⟨⟨⟨⟨⟨-,f0⟩,f1⟩,f2⟩,f3⟩,f4⟩,f5⟩,f6⟩ w1 hC1;simp only [sP,f0,f1,f2,f3,f4,f5,f6];clear f0 f1 f2 f3 f4 f5 f6;have HST:=zY hC1;clear HC0 hC1 D0;go_wp2_with fail;obtain ⟨wo,rfl⟩:∃ x:World,x=w1:=⟨_,rfl⟩
   go_loopw [7,87] (fun cv jv wr=>∃ (k:Nat) (c:Int) (Y:List Int),k≤32∧jv=.int .i64 (k:Int)∧cv=.int .i64 c∧(Y,c)=p2 X1 tp k∧LW w g o OD Y wr) (fun _ jv _=>(32 - intOf jv).toNat)
   case atStart=>exact ⟨0,0,X1,by omega,rfl,rfl,rfl,HST.out⟩
   case round =>
    clear HST;obtain ⟨k,c,Y,hk,rfl,rfl,hY,hst⟩:=hrel;obtain ⟨hY1,hY2⟩:Y=(p2 X1 tp k).1∧c=(p2 X1 tp k).2:=by rw [← hY]; exact ⟨rfl,rfl⟩
    have I:=HQ2.out k hk;have hYl:Y.length=64:=by rw [hY1]; exact I.len
    have hcl:=I.car;rw [← hY2] at hcl
    by_cases hlt2:k<32
    ·have hk32:(k:Int)<32:=by omega
     have hk64:(k:Int)<64:=by omega
     have hyp:Y.getD k 0=X1.getD k 0:=by rw [hY1]; exact I.out k (Nat.le_refl _)
     obtain ⟨a,ha⟩:∃ a,a=X1.getD k 0:=⟨_,rfl⟩;obtain ⟨d,hd⟩:∃ d,d=odL.getD k 0:=⟨_,rfl⟩;have hab:=HA.out.big k;have hdb:=od_lt k;have hyb:=t_bound HTB.out hdb;rw [← ha] at hab hyp;rw [← hd] at hdb hyb;obtain ⟨y,hy⟩:∃ z,tp*d=z:=⟨_,rfl⟩;rw [hy] at hyb;obtain ⟨s,hs⟩:∃ z,c - y=z:=⟨_,rfl⟩;have hsb:-3000≤s∧s≤3000:=by omega
     obtain ⟨r,hr⟩:∃ z,a+s=z:=⟨_,rfl⟩;have hrb:-9000000≤r∧r≤9000000:=by omega
     obtain ⟨c2,hc2⟩:∃ z,r/256=z:=⟨_,rfl⟩;obtain ⟨v,hv⟩:∃ z,r%256=z:=⟨_,rfl⟩;have han:Go.bits .and .i64 r 255=v:=by rw [and255,hv]
     have hstep:p2 X1 tp (k+1)=(Y.set k v,c2):=by
      rw [p2,← hY1,← hY2,hyp,← hd,hy,hs,hr,hc2,hv]
     have d0:∀ u,LW w g o OD Y u→u.cell? ⟨g,k,none⟩=some (.int .i64 a):=fun u h=>by rw [h.x.cell,iV_at (by omega),hyp]
     have d2:∀ u,LW w g o OD Y u→u.cell? ⟨o,k,none⟩=some (.int .i64 d):=fun u h=>by rw [h.l.cell,HOC.out k (by omega),hd]
     have d3:∀ z u,LW w g o OD (Y.set k z) u→u.cell? ⟨g,k,none⟩=some (.int .i64 z):=fun z u h=>by rw [h.x.cell,iV_at (by rw [List.length_set]; omega),getD_set_same _ (by omega)]
     have D0:=zY d0;have D2:=zY d2;have D3:=zY d3;have HSTEP:=zY hstep;have HK:=zY hlt2;have HAN:=zY han;have HC0:=hst.drew;obtain ⟨ly,hy1⟩:=hyb;obtain ⟨ls,hs1⟩:=hsb;obtain ⟨lr,hr1⟩:=hrb;obtain ⟨la,ha1⟩:=hab;obtain ⟨ldb,hdb1⟩:=hdb;obtain ⟨lcb,hcb1⟩:=hcl;clear d0 d2 d3 hstep hst hY hY1 hY2 hyp ha hd I hYl hk hlt2 hv han;go_wp2_with fail;refine wp_region_det (fun u=>LW w g o OD Y u) (fun u=>LW w g o OD (Y.set k r) u) [(0,some 90),(1,some 91),(2,some 92),(3,some 93),(4,some 94),(5,some 95),(6,some 96),(7,some 97),(8,some 98),(9,some 99),(10,some 100),(11,some 101),(12,some 102),(13,some 103),(14,some 104),(15,none)] (by kernel_rfl) (by kernel_rfl) (by decide) (by kernel_rfl) (fun _=>rfl) HC0 ?_;apply DetL.next
     ·apply dP [];exact fun _=>rfl;rfl;rintro vals - w1 hC1 E hE;simp only [sP] at hE ⊢;go_wp2;exact .mk (hE _ hC1)
     apply DetL.next
     ·apply dP [];exact fun _=>rfl;rfl;rintro vals ⟨-,-⟩ w1 hC1 E hE;simp only [sP] at hE ⊢;go_wp2;exact .mk (hE _ hC1)
     apply DetL.next
     ·apply dP [(0,some 90)];exact fun _=>rfl;rfl;rintro vals ⟨⟨-,f0⟩,-⟩ w1 hC1 E hE;simp only [sP,f0] at hE ⊢;clear f0;go_wp2;exact .mk (hE _ hC1)
     apply DetL.next
     ·apply dP [(2,some 92),(1,some 91)];exact fun _=>rfl;rfl;rintro vals ⟨⟨⟨-,-⟩,f1⟩,f2⟩ w1 hC1 E hE;simp only [sP,f1,f2] at hE ⊢;clear f1 f2;go_wp2;exact .mk (hE _ hC1)
     apply DetL.next
     ·apply dP [(3,some 93)];exact fun _=>rfl;rfl;intro vals vq w1 hC1 E hE;have f3:=vq.2;clear vq;have d0:=D0.out _ hC1;simp only [sP,f3] at hE ⊢;clear f3;go_wp2;exact .mk (hE _ hC1)
     apply DetL.next
     ·apply dP [];exact fun _=>rfl;rfl;intro vals vq w1 hC1 E hE;clear vq;simp only [sP] at hE ⊢;go_wp2;exact .mk (hE _ hC1)
     apply DetL.next
     ·apply dP [];exact fun _=>rfl;rfl;intro vals vq w1 hC1 E hE;clear vq;simp only [sP] at hE ⊢;go_wp2;exact .mk (hE _ hC1)
     apply DetL.next
     ·apply dP [];exact fun _=>rfl;rfl;intro vals vq w1 hC1 E hE;clear vq;simp only [sP] at hE ⊢;go_wp2;exact .mk (hE _ hC1)
     apply DetL.next
     ·apply dP [(7,some 97)];exact fun _=>rfl;rfl;intro vals vq w1 hC1 E hE;have f7:=vq.2;clear vq;simp only [sP,f7] at hE ⊢;clear f7;go_wp2;exact .mk (hE _ hC1)
     apply DetL.next
     ·apply dP [(8,some 98)];exact fun _=>rfl;rfl;intro vals vq w1 hC1 E hE;have f8:=vq.2;clear vq;have d0:=D2.out _ hC1;simp only [sP,f8] at hE ⊢;clear f8;go_wp2;exact .mk (hE _ hC1)
     apply DetL.next
     ·apply dP [(6,some 96),(9,some 99)];exact fun _=>rfl;rfl;intro vals vq w1 hC1 E hE;have f6:=vq.1.1.1.2;have f9:=vq.2;clear vq;simp only [sP,f6,f9] at hE ⊢;clear f6 f9;go_wp2;exact .mk (hE _ hC1)
     apply DetL.next
     ·apply dP [(5,some 95),(10,some 100)];exact fun _=>rfl;rfl;intro vals vq w1 hC1 E hE;have f5:=vq.1.1.1.1.1.2;have f10:=vq.2;clear vq;simp only [sP,f5,f10] at hE ⊢;clear f5 f10;go_wp2;exact .mk (hE _ hC1)
     apply DetL.next
     ·apply dP [(4,some 94),(11,some 101)];exact fun _=>rfl;rfl;intro vals vq w1 hC1 E hE;have f4:=vq.1.1.1.1.1.1.1.2;have f11:=vq.2;clear vq;simp only [sP,f4,f11] at hE ⊢;clear f4 f11;go_wp2;exact .mk (hE _ hC1)
     apply DetL.next
     ·apply dP [(0,some 90)];exact fun _=>rfl;rfl;intro vals vq w1 hC1 E hE;have f0:=vq.1.1.1.1.1.1.1.1.1.1.1.1.2;clear vq;simp only [sP,f0] at hE ⊢;clear f0;go_wp2;exact .mk (hE _ hC1)
     apply DetL.next
     ·apply dP [(13,some 103),(1,some 91),(0,some 90),(1,some 91),(2,some 92),(3,some 93),(4,some 94),(5,some 95),(6,some 96),(7,some 97),(8,some 98),(9,some 99),(10,some 100),(11,some 101),(12,some 102)];exact fun _=>rfl;rfl;rintro vals ⟨⟨⟨⟨⟨⟨⟨⟨⟨⟨⟨⟨⟨⟨-,f0⟩,f1⟩,f2⟩,f3⟩,f4⟩,f5⟩,f6⟩,f7⟩,f8⟩,f9⟩,f10⟩,f11⟩,f12⟩,f13⟩ w1 hC1 E hE;simp only [sP,f0,f1,f2,f3,f4,f5,f6,f7,f8,f9,f10,f11,f12,f13] at hE ⊢;clear f0 f1 f2 f3 f4 f5 f6 f7 f8 f9 f10 f11 f12 f13;go_wp2;exact .mk (hE _ hC1)
     apply DetL.last (v:=undef)
     ·apply dP [(14,some 104),(12,some 102),(0,some 90),(1,some 91),(2,some 92),(3,some 93),(4,some 94),(5,some 95),(6,some 96),(7,some 97),(8,some 98),(9,some 99),(10,some 100),(11,some 101),(12,some 102)];exact fun _=>rfl;rfl;rintro vals ⟨⟨⟨⟨⟨⟨⟨⟨⟨⟨⟨⟨⟨⟨⟨-,f0⟩,f1⟩,f2⟩,f3⟩,f4⟩,f5⟩,f6⟩,f7⟩,f8⟩,f9⟩,f10⟩,f11⟩,f12⟩,-⟩,f14⟩ w1 hC1 E hE;have d0:=D0.out _ hC1;have q0:=hC1.x.free k;simp only [sP,f0,f1,f2,f3,f4,f5,f6,f7,f8,f9,f10,f11,f12,f14] at hE ⊢;clear f0 f1 f2 f3 f4 f5 f6 f7 f8 f9 f10 f11 f12 f14;go_wp2;refine .mk (hE _ (hC1.put (wrote_setCell_at _ _ _ _) ?_));have h:=blk_setCell_at (i:=k) hC1.x (.int .i64 r);rw [iV_set] at h;exact h
     rintro vals ⟨⟨⟨⟨⟨⟨⟨⟨⟨⟨⟨⟨⟨⟨⟨⟨-,f0⟩,f1⟩,f2⟩,f3⟩,f4⟩,f5⟩,f6⟩,f7⟩,f8⟩,f9⟩,f10⟩,f11⟩,f12⟩,f13⟩,f14⟩,f15⟩ w1 hC1;simp only [sP,f0,f1,f2,f3,f4,f5,f6,f7,f8,f9,f10,f11,f12,f13,f14,f15];clear f0 f1 f2 f3 f4 f5 f6 f7 f8 f9 f10 f11 f12 f13 f14 f15;have d0:=D3.out _ _ hC1;have HW1:=zY hC1;clear HC0 hC1;go_wp2_with fail;have HC0:=HW1.out.drew;clear HW1 d0;refine wp_region_det (fun u=>LW w g o OD (Y.set k r) u) (fun u=>LW w g o OD (Y.set k v) u) [(0,some 111),(1,some 112),(2,some 113),(3,some 114),(4,some 115),(5,some 116),(6,some 117),(7,some 118),(8,none)] (by kernel_rfl) (by kernel_rfl) (by decide) (by kernel_rfl) (fun _=>rfl) HC0 ?_;apply DetL.next
     ·apply dP [];exact fun _=>rfl;rfl;rintro vals - w1 hC1 E hE;simp only [sP] at hE ⊢;go_wp2;exact .mk (hE _ hC1)
     apply DetL.next
     ·apply dP [];exact fun _=>rfl;rfl;rintro vals ⟨-,-⟩ w1 hC1 E hE;simp only [sP] at hE ⊢;go_wp2;exact .mk (hE _ hC1)
     apply DetL.next
     ·apply dP [(0,some 111)];exact fun _=>rfl;rfl;rintro vals ⟨⟨-,f0⟩,-⟩ w1 hC1 E hE;simp only [sP,f0] at hE ⊢;clear f0;go_wp2;exact .mk (hE _ hC1)
     apply DetL.next
     ·apply dP [(2,some 113),(1,some 112)];exact fun _=>rfl;rfl;rintro vals ⟨⟨⟨-,-⟩,f1⟩,f2⟩ w1 hC1 E hE;simp only [sP,f1,f2] at hE ⊢;clear f1 f2;go_wp2;exact .mk (hE _ hC1)
     apply DetL.next
     ·apply dP [(3,some 114)];exact fun _=>rfl;rfl;intro vals vq w1 hC1 E hE;have f3:=vq.2;clear vq;have d0:=D3.out _ _ hC1;simp only [sP,f3] at hE ⊢;clear f3;go_wp2;exact .mk (hE _ hC1)
     apply DetL.next
     ·apply dP [(4,some 115)];exact fun _=>rfl;rfl;intro vals vq w1 hC1 E hE;have f4:=vq.2;clear vq;simp only [sP,f4] at hE ⊢;clear f4;go_wp2;rw [HAN.out];exact .mk (hE _ hC1)
     apply DetL.next
     ·apply dP [(0,some 111)];exact fun _=>rfl;rfl;intro vals vq w1 hC1 E hE;have f0:=vq.1.1.1.1.1.2;clear vq;simp only [sP,f0] at hE ⊢;clear f0;go_wp2;exact .mk (hE _ hC1)
     apply DetL.next
     ·apply dP [(6,some 117),(1,some 112),(0,some 111),(1,some 112),(2,some 113),(3,some 114),(4,some 115),(5,some 116)];exact fun _=>rfl;rfl;rintro vals ⟨⟨⟨⟨⟨⟨⟨-,f0⟩,f1⟩,f2⟩,f3⟩,f4⟩,f5⟩,f6⟩ w1 hC1 E hE;simp only [sP,f0,f1,f2,f3,f4,f5,f6] at hE ⊢;clear f0 f1 f2 f3 f4 f5 f6;go_wp2;exact .mk (hE _ hC1)
     apply DetL.last (v:=undef)
     ·apply dP [(7,some 118),(5,some 116),(0,some 111),(1,some 112),(2,some 113),(3,some 114),(4,some 115),(5,some 116)];exact fun _=>rfl;rfl;rintro vals ⟨⟨⟨⟨⟨⟨⟨⟨-,f0⟩,f1⟩,f2⟩,f3⟩,f4⟩,f5⟩,-⟩,f7⟩ w1 hC1 E hE;have d0:=D3.out _ _ hC1;have q0:=hC1.x.free k;simp only [sP,f0,f1,f2,f3,f4,f5,f7] at hE ⊢;clear f0 f1 f2 f3 f4 f5 f7;go_wp2;refine .mk (hE _ (hC1.put (wrote_setCell_at _ _ _ _) ?_));have h:=blk_setCell_at (i:=k) hC1.x (.int .i64 v);rw [iV_set,List.set_set] at h;exact h
     rintro vals ⟨⟨⟨⟨⟨⟨⟨⟨⟨-,f0⟩,f1⟩,f2⟩,f3⟩,f4⟩,f5⟩,f6⟩,f7⟩,f8⟩ w1 hC1;simp only [sP,f0,f1,f2,f3,f4,f5,f6,f7,f8];clear f0 f1 f2 f3 f4 f5 f6 f7 f8;have HW2:=zY hC1;clear HC0 hC1;go_wp2_with fail;refine ⟨⟨k+1,c2,Y.set k v,HK.out,by go_num,rfl,HSTEP.out.symm,HW2.out⟩,by have:=HK.out; simp [intOf]; omega⟩
    ·obtain rfl:k=32:=by omega
     have hc0:=LP.out.car;have hq3:=LP.out.q3;have hq4:=LP.out.q4;have hlf:leftL X=(p4 (p3 Y c 32) 32).2:=by rw [leftL,HP2.out,← hY1,← hY2]
     rw [HP2.out,← hY1,← hY2] at hq4;rw [HP2.out,← hY2] at hc0;rw [HP2.out,← hY1,← hY2] at hq3;have hcb:-1≤c∧c≤0:=by omega
     have hyb:∀ j,j<32→0≤Y.getD j 0∧Y.getD j 0≤255:=fun j h=>by rw [hY1]; exact I.norm j h
     have hpd:∀ k,-255≤c*odL.getD k 0∧c*odL.getD k 0≤0:=fun k=>by
      have:=od_lt k
      rcases hc0 with h | h <;> rw [h] <;> omega
     have hyg:∀ j,32≤j→-8388608≤Y.getD j 0∧Y.getD j 0≤8388608:=fun j h=>by rw [hY1,I.out j h]; exact HA.out.big j
     have HYG:=zY hyg;have HQ3:=zY hq3;have HQ4:=zY hq4;have HLF:=zY hlf;have HPD:=zY hpd;have HYB:=zY hyb;have HYL:=zY hYl;have HST:=zY (show LW w g o OD (p3 Y c 0) wr from hst);obtain ⟨lcb,hcb1⟩:=hcb;clear hyg hc0 hq3 hq4 hlf hpd hyb hY hY1 hY2 I hYl hcl hst;go_wp2_with fail;obtain ⟨wo2,rfl⟩:∃ x:World,x=wr:=⟨_,rfl⟩
     go_loopw [120] (fun jv wr=>∃ k:Nat,k≤32∧jv=.int .i64 (k:Int)∧LW w g o OD (p3 Y c k) wr) (fun jv _=>(32 - intOf jv).toNat)
     case atStart=>exact ⟨0,by omega,rfl,HST.out⟩
     case round =>
      clear HST;obtain ⟨k,hk,rfl,hst⟩:=hrel;obtain ⟨V,hV⟩:∃ V,V=p3 Y c k:=⟨_,rfl⟩;have I:=HQ3.out k hk;rw [← hV] at hst;have hVl:V.length=64:=by rw [hV]; exact I.len
      by_cases hlt3:k<32
      ·have hk32:(k:Int)<32:=by omega
       have hk64:(k:Int)<64:=by omega
       have hyp:V.getD k 0=Y.getD k 0:=by rw [hV]; exact I.out k (Nat.le_refl _)
       obtain ⟨a,ha⟩:∃ a,a=Y.getD k 0:=⟨_,rfl⟩;obtain ⟨d,hd⟩:∃ d,d=odL.getD k 0:=⟨_,rfl⟩;have hab:=HYB.out k hlt3;have hyb:=HPD.out k;have hdb:=od_lt k;rw [← ha] at hab hyp;rw [← hd] at hyb hdb;obtain ⟨y,hy⟩:∃ z,c*d=z:=⟨_,rfl⟩;rw [hy] at hyb;obtain ⟨r,hr⟩:∃ z,a - y=z:=⟨_,rfl⟩;have hrb:-9000000≤r∧r≤9000000:=by omega
       have hstep:p3 Y c (k+1)=V.set k r:=by rw [p3,← hV,hyp,← hd,hy,hr]
       have d0:∀ u,LW w g o OD V u→u.cell? ⟨g,k,none⟩=some (.int .i64 a):=fun u h=>by rw [h.x.cell,iV_at (by omega),hyp]
       have d2:∀ u,LW w g o OD V u→u.cell? ⟨o,k,none⟩=some (.int .i64 d):=fun u h=>by rw [h.l.cell,HOC.out k (by omega),hd]
       have D0:=zY d0;have D2:=zY d2;have HSTEP:=zY hstep;have HK:=zY hlt3;have HC0:=hst.drew;obtain ⟨ly,hy1⟩:=hyb;obtain ⟨lr,hr1⟩:=hrb;obtain ⟨la,ha1⟩:=hab;obtain ⟨ldb,hdb1⟩:=hdb;clear d0 d2 hstep hst hV hyp ha hd I hVl hk hlt3;go_wp2_with fail;refine wp_region_det (fun u=>LW w g o OD V u) (fun u=>LW w g o OD (V.set k r) u) [(0,some 123),(1,some 124),(2,some 125),(3,some 126),(4,some 127),(5,some 128),(6,some 129),(7,some 130),(8,some 131),(9,some 132),(10,some 133),(11,some 134),(12,some 135),(13,none)] (by kernel_rfl) (by kernel_rfl) (by decide) (by kernel_rfl) (fun _=>rfl) HC0 ?_;apply DetL.next
       ·apply dP [];exact fun _=>rfl;rfl;rintro vals - w1 hC1 E hE;simp only [sP] at hE ⊢;go_wp2;exact .mk (hE _ hC1)
       apply DetL.next
       ·apply dP [];exact fun _=>rfl;rfl;rintro vals ⟨-,-⟩ w1 hC1 E hE;simp only [sP] at hE ⊢;go_wp2;exact .mk (hE _ hC1)
       apply DetL.next
       ·apply dP [(0,some 123)];exact fun _=>rfl;rfl;rintro vals ⟨⟨-,f0⟩,-⟩ w1 hC1 E hE;simp only [sP,f0] at hE ⊢;clear f0;go_wp2;exact .mk (hE _ hC1)
       apply DetL.next
       ·apply dP [(2,some 125),(1,some 124)];exact fun _=>rfl;rfl;rintro vals ⟨⟨⟨-,-⟩,f1⟩,f2⟩ w1 hC1 E hE;simp only [sP,f1,f2] at hE ⊢;clear f1 f2;go_wp2;exact .mk (hE _ hC1)
       apply DetL.next
       ·apply dP [(3,some 126)];exact fun _=>rfl;rfl;intro vals vq w1 hC1 E hE;have f3:=vq.2;clear vq;have d0:=D0.out _ hC1;simp only [sP,f3] at hE ⊢;clear f3;go_wp2;exact .mk (hE _ hC1)
       apply DetL.next
       ·apply dP [];exact fun _=>rfl;rfl;intro vals vq w1 hC1 E hE;clear vq;simp only [sP] at hE ⊢;go_wp2;exact .mk (hE _ hC1)
       apply DetL.next
       ·apply dP [];exact fun _=>rfl;rfl;intro vals vq w1 hC1 E hE;clear vq;simp only [sP] at hE ⊢;go_wp2;exact .mk (hE _ hC1)
       apply DetL.next
       ·apply dP [(6,some 129)];exact fun _=>rfl;rfl;intro vals vq w1 hC1 E hE;have f6:=vq.2;clear vq;simp only [sP,f6] at hE ⊢;clear f6;go_wp2;exact .mk (hE _ hC1)
       apply DetL.next
       ·apply dP [(7,some 130)];exact fun _=>rfl;rfl;intro vals vq w1 hC1 E hE;have f7:=vq.2;clear vq;have d0:=D2.out _ hC1;simp only [sP,f7] at hE ⊢;clear f7;go_wp2;exact .mk (hE _ hC1)
       apply DetL.next
       ·apply dP [(5,some 128),(8,some 131)];exact fun _=>rfl;rfl;intro vals vq w1 hC1 E hE;have f5:=vq.1.1.1.2;have f8:=vq.2;clear vq;simp only [sP,f5,f8] at hE ⊢;clear f5 f8;go_wp2;exact .mk (hE _ hC1)
       apply DetL.next
       ·apply dP [(4,some 127),(9,some 132)];exact fun _=>rfl;rfl;intro vals vq w1 hC1 E hE;have f4:=vq.1.1.1.1.1.2;have f9:=vq.2;clear vq;simp only [sP,f4,f9] at hE ⊢;clear f4 f9;go_wp2;exact .mk (hE _ hC1)
       apply DetL.next
       ·apply dP [(0,some 123)];exact fun _=>rfl;rfl;intro vals vq w1 hC1 E hE;have f0:=vq.1.1.1.1.1.1.1.1.1.1.2;clear vq;simp only [sP,f0] at hE ⊢;clear f0;go_wp2;exact .mk (hE _ hC1)
       apply DetL.next
       ·apply dP [(11,some 134),(1,some 124),(0,some 123),(1,some 124),(2,some 125),(3,some 126),(4,some 127),(5,some 128),(6,some 129),(7,some 130),(8,some 131),(9,some 132),(10,some 133)];exact fun _=>rfl;rfl;rintro vals ⟨⟨⟨⟨⟨⟨⟨⟨⟨⟨⟨⟨-,f0⟩,f1⟩,f2⟩,f3⟩,f4⟩,f5⟩,f6⟩,f7⟩,f8⟩,f9⟩,f10⟩,f11⟩ w1 hC1 E hE;simp only [sP,f0,f1,f2,f3,f4,f5,f6,f7,f8,f9,f10,f11] at hE ⊢;clear f0 f1 f2 f3 f4 f5 f6 f7 f8 f9 f10 f11;go_wp2;exact .mk (hE _ hC1)
       apply DetL.last (v:=undef)
       ·apply dP [(12,some 135),(10,some 133),(0,some 123),(1,some 124),(2,some 125),(3,some 126),(4,some 127),(5,some 128),(6,some 129),(7,some 130),(8,some 131),(9,some 132),(10,some 133)];exact fun _=>rfl;rfl;rintro vals ⟨⟨⟨⟨⟨⟨⟨⟨⟨⟨⟨⟨⟨-,f0⟩,f1⟩,f2⟩,f3⟩,f4⟩,f5⟩,f6⟩,f7⟩,f8⟩,f9⟩,f10⟩,-⟩,f12⟩ w1 hC1 E hE;have d0:=D0.out _ hC1;have q0:=hC1.x.free k;simp only [sP,f0,f1,f2,f3,f4,f5,f6,f7,f8,f9,f10,f12] at hE ⊢;clear f0 f1 f2 f3 f4 f5 f6 f7 f8 f9 f10 f12;go_wp2;refine .mk (hE _ (hC1.put (wrote_setCell_at _ _ _ _) ?_));have h:=blk_setCell_at (i:=k) hC1.x (.int .i64 r);rw [iV_set] at h;exact h
       rintro vals ⟨⟨⟨⟨⟨⟨⟨⟨⟨⟨⟨⟨⟨⟨-,f0⟩,f1⟩,f2⟩,f3⟩,f4⟩,f5⟩,f6⟩,f7⟩,f8⟩,f9⟩,f10⟩,f11⟩,f12⟩,f13⟩ w1 hC1;simp only [sP,f0,f1,f2,f3,f4,f5,f6,f7,f8,f9,f10,f11,f12,f13];clear f0 f1 f2 f3 f4 f5 f6 f7 f8 f9 f10 f11 f12 f13;have HW2:=zY hC1;clear HC0 hC1;go_wp2_with fail;refine ⟨⟨k+1,HK.out,by go_num,by rw [HSTEP.out]; exact HW2.out⟩,by have:=HK.out; simp [intOf]; omega⟩
      ·obtain rfl:k=32:=by omega
       have hmk:∀ u:World,(Instr.makeSlice 22 (.int .i64 32) (.int .i64 32)).run Tryd.prog u=.ok (.slice (some ⟨u.heap.size,0,none⟩) 32 32) (u.alloc (.cells (bnV (partL [] 32)).toArray 5)):=fun _=>by kernel_rfl
       have hvb:∀ j,-8388608≤V.getD j 0∧V.getD j 0≤8388608:=fun j=>by
        by_cases h:j<32
        ·have:=I.norm j h; rw [← hV] at this; omega
        ·have h2:=I.out j (by omega); rw [← hV] at h2; rw [h2]; exact HYG.out j (by omega)
       have HVB:=zY hvb;have HQ4':=zY (show ∀ k,k≤32→P4 V k by rw [hV]; exact HQ4.out);have HLF':=zY (show leftL X=(p4 V 32).2 by rw [hV]; exact HLF.out);have hst':LV w g o wr.heap.size OD V (partL [] 32) (wr.alloc (.cells (bnV (partL [] 32)).toArray 5)):=lv_new hst;have HST:=zY hst';clear hvb hst hst' I hVl hV HQ4 HLF HQ3 HPD HYB HYL;go_wp2_with fail;clear hmk;generalize hoo:wr.heap.size=oo at HST ⊢;clear hoo
       go_loopw [138] (fun jv wr=>∃ k:Nat,k≤32∧jv=.int .i64 (k:Int)∧LV w g o oo OD (p4 V k).1 (partL (p4 V k).2 32) wr) (fun jv _=>(32 - intOf jv).toNat)
       case atStart=>exact ⟨0,by omega,rfl,HST.out⟩
       case round =>
        clear HST;obtain ⟨k,hk,rfl,hst⟩:=hrel;obtain ⟨Z,hZ⟩:∃ Z,Z=(p4 V k).1:=⟨_,rfl⟩;obtain ⟨L,hL⟩:∃ L,L=(p4 V k).2:=⟨_,rfl⟩;have I:=HQ4'.out k hk;rw [← hZ,← hL] at hst;have hZl:Z.length=64:=by rw [hZ]; exact I.len
        have hLl:L.length=k:=by rw [hL]; exact I.ol
        by_cases hlt4:k<32
        ·have hk32:(k:Int)<32:=by omega
         have hk64:(k:Int)<63:=by omega
         have hyp:Z.getD (k+1) 0=V.getD (k+1) 0:=by rw [hZ]; exact I.out _ (Nat.lt_succ_self _)
         have hcur:=I.cur;rw [← hZ] at hcur;obtain ⟨a,ha⟩:∃ a,a=V.getD (k+1) 0:=⟨_,rfl⟩;obtain ⟨e,he⟩:∃ e,e=Z.getD k 0:=⟨_,rfl⟩;obtain ⟨k1,hk1⟩:∃ k1,k1=k+1:=⟨_,rfl⟩;have hk1i:(k:Int)+1=(k1:Int):=by omega
         have hk164:(k1:Int)<64:=by omega
         have hab:=HVB.out (k+1);rw [← ha] at hab hyp;rw [← he] at hcur;obtain ⟨f,hf⟩:∃ z,e/256=z:=⟨_,rfl⟩;have hfb:0≤f∧f≤3:=by omega
         obtain ⟨r,hr⟩:∃ z,a+f=z:=⟨_,rfl⟩;have hrb:-9000000≤r∧r≤9000000:=by omega
         obtain ⟨dn,hdn⟩:∃ dn,dn=(e%256).toNat:=⟨_,rfl⟩;have hdi:e%256=(dn:Int):=by omega
         have hstep:p4 V (k+1)=(Z.set k1 r,L++[dn]):=by rw [p4,← hZ,← hL,hyp,← he,hf,hr,← hdn,← hk1]
         have hset:(partL L 32).set k dn=partL (L++[dn]) 32:=partL_set L 32 k dn hLl hlt4;rw [← hk1] at hyp;have d0:∀ u,LV w g o oo OD Z (partL L 32) u→u.cell? ⟨g,k1,none⟩=some (.int .i64 a):=fun u h=>by rw [h.a.x.cell,iV_at (by omega),hyp]
         have d1:∀ u,LV w g o oo OD Z (partL L 32) u→u.cell? ⟨g,k,none⟩=some (.int .i64 e):=fun u h=>by rw [h.a.x.cell,iV_at (by omega),he]
         have d2:∀ u,LV w g o oo OD (Z.set k1 r) (partL L 32) u→u.cell? ⟨g,k,none⟩=some (.int .i64 e):=fun u h=>by rw [h.a.x.cell,iV_at (by rw [List.length_set]; omega),getD_set_ne _ (by omega),he]
         have d3:∀ u,LV w g o oo OD (Z.set k1 r) (partL L 32) u→∃ z,u.cell? ⟨oo,k,none⟩=some z:=fun u h=>by
          have h9:=h.out.cell k;rw [List.getElem?_toArray,List.getElem?_eq_getElem (by rw [bnV,List.length_map,partL_length _ _ (by omega)]; exact hlt4)] at h9;exact ⟨_,h9⟩
         have D0:=zY d0;have D1:=zY d1;have D2:=zY d2;have D3:=zY d3;have HSTEP:=zY hstep;have HSET:=zY hset;have HK:=zY hlt4;have HC0:=hst.drew;obtain ⟨lr,hr1⟩:=hrb;obtain ⟨la,ha1⟩:=hab;obtain ⟨lf,hf1⟩:=hfb;obtain ⟨lc2,hc21⟩:=hcur;clear d0 d1 d2 d3 hstep hset hst hZ hL hyp ha he I hZl hLl hk hlt4 hdn hk1;go_wp2_with fail;refine wp_region_det (fun u=>LV w g o oo OD Z (partL L 32) u) (fun u=>LV w g o oo OD (Z.set k1 r) (partL L 32) u) [(0,some 141),(1,some 142),(2,some 143),(3,some 144),(4,some 145),(5,some 146),(6,some 147),(7,some 148),(8,some 149),(9,some 150),(10,some 151),(11,some 152),(12,some 153),(13,some 154),(14,some 155),(15,none)] (by kernel_rfl) (by kernel_rfl) (by decide) (by kernel_rfl) (fun _=>rfl) HC0 ?_;apply DetL.next
         ·apply dP [];exact fun _=>rfl;rfl;rintro vals - w1 hC1 E hE;simp only [sP] at hE ⊢;go_wp2;exact .mk (hE _ hC1)
         apply DetL.next
         ·apply dP [];exact fun _=>rfl;rfl;rintro vals ⟨-,-⟩ w1 hC1 E hE;simp only [sP] at hE ⊢;go_wp2;exact .mk (hE _ hC1)
         apply DetL.next
         ·apply dP [(1,some 142)];exact fun _=>rfl;rfl;rintro vals ⟨⟨-,-⟩,f1⟩ w1 hC1 E hE;simp only [sP,f1] at hE ⊢;clear f1;go_wp2;exact .mk (hE _ hC1)
         apply DetL.next
         ·apply dP [(0,some 141)];exact fun _=>rfl;rfl;intro vals vq w1 hC1 E hE;have f0:=vq.1.1.2;clear vq;simp only [sP,f0] at hE ⊢;clear f0;go_wp2;exact .mk (hE _ hC1)
         apply DetL.next
         ·apply dP [(3,some 144),(2,some 143)];exact fun _=>rfl;rfl;rintro vals ⟨⟨⟨⟨-,-⟩,-⟩,f2⟩,f3⟩ w1 hC1 E hE;simp only [sP,f2,f3] at hE ⊢;clear f2 f3;go_wp2;exact .mk (hE _ hC1)
         apply DetL.next
         ·apply dP [(4,some 145)];exact fun _=>rfl;rfl;intro vals vq w1 hC1 E hE;have f4:=vq.2;clear vq;have d0:=D0.out _ hC1;simp only [sP,f4] at hE ⊢;clear f4;go_wp2;exact .mk (hE _ hC1)
         apply DetL.next
         ·apply dP [];exact fun _=>rfl;rfl;intro vals vq w1 hC1 E hE;clear vq;simp only [sP] at hE ⊢;go_wp2;exact .mk (hE _ hC1)
         apply DetL.next
         ·apply dP [];exact fun _=>rfl;rfl;intro vals vq w1 hC1 E hE;clear vq;simp only [sP] at hE ⊢;go_wp2;exact .mk (hE _ hC1)
         apply DetL.next
         ·apply dP [(6,some 147)];exact fun _=>rfl;rfl;intro vals vq w1 hC1 E hE;have f6:=vq.1.2;clear vq;simp only [sP,f6] at hE ⊢;clear f6;go_wp2;exact .mk (hE _ hC1)
         apply DetL.next
         ·apply dP [(8,some 149),(7,some 148)];exact fun _=>rfl;rfl;intro vals vq w1 hC1 E hE;have f7:=vq.1.2;have f8:=vq.2;clear vq;simp only [sP,f7,f8] at hE ⊢;clear f7 f8;go_wp2;exact .mk (hE _ hC1)
         apply DetL.next
         ·apply dP [(9,some 150)];exact fun _=>rfl;rfl;intro vals vq w1 hC1 E hE;have f9:=vq.2;clear vq;have d0:=D1.out _ hC1;simp only [sP,f9] at hE ⊢;clear f9;go_wp2;exact .mk (hE _ hC1)
         apply DetL.next
         ·apply dP [(10,some 151)];exact fun _=>rfl;rfl;intro vals vq w1 hC1 E hE;have f10:=vq.2;clear vq;simp only [sP,f10] at hE ⊢;clear f10;go_wp2;exact .mk (hE _ hC1)
         apply DetL.next
         ·apply dP [(5,some 146),(11,some 152)];exact fun _=>rfl;rfl;intro vals vq w1 hC1 E hE;have f5:=vq.1.1.1.1.1.1.2;have f11:=vq.2;clear vq;simp only [sP,f5,f11] at hE ⊢;clear f5 f11;go_wp2;exact .mk (hE _ hC1)
         apply DetL.next
         ·apply dP [(0,some 141)];exact fun _=>rfl;rfl;intro vals vq w1 hC1 E hE;have f0:=vq.1.1.1.1.1.1.1.1.1.1.1.1.2;clear vq;simp only [sP,f0] at hE ⊢;clear f0;go_wp2;exact .mk (hE _ hC1)
         apply DetL.next
         ·apply dP [(13,some 154),(2,some 143),(0,some 141),(1,some 142),(2,some 143),(3,some 144),(4,some 145),(5,some 146),(6,some 147),(7,some 148),(8,some 149),(9,some 150),(10,some 151),(11,some 152),(12,some 153)];exact fun _=>rfl;rfl;rintro vals ⟨⟨⟨⟨⟨⟨⟨⟨⟨⟨⟨⟨⟨⟨-,f0⟩,f1⟩,f2⟩,f3⟩,f4⟩,f5⟩,f6⟩,f7⟩,f8⟩,f9⟩,f10⟩,f11⟩,f12⟩,f13⟩ w1 hC1 E hE;simp only [sP,f0,f1,f2,f3,f4,f5,f6,f7,f8,f9,f10,f11,f12,f13] at hE ⊢;clear f0 f1 f2 f3 f4 f5 f6 f7 f8 f9 f10 f11 f12 f13;go_wp2;exact .mk (hE _ hC1)
         apply DetL.last (v:=undef)
         ·apply dP [(14,some 155),(12,some 153),(0,some 141),(1,some 142),(2,some 143),(3,some 144),(4,some 145),(5,some 146),(6,some 147),(7,some 148),(8,some 149),(9,some 150),(10,some 151),(11,some 152),(12,some 153)];exact fun _=>rfl;rfl;rintro vals ⟨⟨⟨⟨⟨⟨⟨⟨⟨⟨⟨⟨⟨⟨⟨-,f0⟩,f1⟩,f2⟩,f3⟩,f4⟩,f5⟩,f6⟩,f7⟩,f8⟩,f9⟩,f10⟩,f11⟩,f12⟩,-⟩,f14⟩ w1 hC1 E hE;have d0:=D0.out _ hC1;have q0:=hC1.a.x.free k1;simp only [sP,f0,f1,f2,f3,f4,f5,f6,f7,f8,f9,f10,f11,f12,f14] at hE ⊢;clear f0 f1 f2 f3 f4 f5 f6 f7 f8 f9 f10 f11 f12 f14;go_wp2;refine .mk (hE _ (hC1.put (wrote_setCell_at _ _ _ _) ?_));have h:=blk_setCell_at (i:=k1) hC1.a.x (.int .i64 r);rw [iV_set] at h;exact h
         rintro vals ⟨⟨⟨⟨⟨⟨⟨⟨⟨⟨⟨⟨⟨⟨⟨⟨-,f0⟩,f1⟩,f2⟩,f3⟩,f4⟩,f5⟩,f6⟩,f7⟩,f8⟩,f9⟩,f10⟩,f11⟩,f12⟩,f13⟩,f14⟩,f15⟩ w1 hC1;simp only [sP,f0,f1,f2,f3,f4,f5,f6,f7,f8,f9,f10,f11,f12,f13,f14,f15];clear f0 f1 f2 f3 f4 f5 f6 f7 f8 f9 f10 f11 f12 f13 f14 f15;have d0:=D2.out _ hC1;obtain ⟨z0,d1⟩:=D3.out _ hC1;have q0:=hC1.out.free k;have HW2:=zY hC1;clear HC0 hC1;go_wp2_with fail;refine ⟨⟨k+1,HK.out,by go_num,?_⟩,by have:=HK.out; simp [intOf]; omega⟩;have h:=blk_setCell_at (i:=k) HW2.out.out (.int .u8 (dn:Int));rw [bnV_set,HSET.out] at h;rw [HSTEP.out];exact HW2.out.putO (wrote_setCell_at _ _ _ _) h
        ·obtain rfl:k=32:=by omega
         have hpl:partL L 32=leftL X:=by rw [HLF'.out,← hL]; exact partL_full _ _ hLl
         rw [hpl] at hst;have HST:=zY hst;clear hst hpl hZ hL I hZl hLl;go_wp2_with fail;go_ret;exact ⟨oo,rfl,HST.out.lo,HST.out.out,HST.out.a.bel⟩
end Go.Proofs.YtdgheahbafnboaaDoor
/-
  Walk: the scalar's Reduce.
-/
namespace Go.Proofs.YtdgheahbafnboaaDoor
set_option linter.unusedSimpArgs false
set_option linter.unusedVariables false
open Go.RowKit
def padI (l:List Nat):List Int:=(partL l 64).map fun n:Nat=>(n:Int)
theorem padI_len {l:List Nat} (h:l.length≤64):(padI l).length=64:=by rw [padI,List.length_map,partL_length _ _ h]
theorem padI_set (l:List Nat) (k d:Nat) (hk:l.length=k) (h:k<64):(padI l).set k (d:Int)=padI (l++[d]):=by
 rw [padI,padI,← partL_set l 64 k d hk h,List.map_set]
theorem vI_map:∀ l:List Nat,vI (l.map fun n:Nat=>(n:Int))=(leV l:Int)
 | []=>rfl
 | x :: r=>by
  show (x:Int)+256*vI (r.map _)=((x+256*leV r:Nat):Int);rw [vI_map r]; omega
theorem leV_part (l:List Nat) (n:Nat):leV (partL l n)=leV l:=by rw [partL,leV_append,leV_replicate,Nat.mul_zero,Nat.add_zero]
theorem padI_val (l:List Nat):vI (padI l)=(leV l:Int):=by rw [padI,vI_map,leV_part]
theorem part_dg {l:List Nat} (h:Dg l) (n:Nat):Dg (partL l n):=fun d hd=>by
 rcases List.mem_append.1 hd with h1 | h1
 ·exact h d h1
 ·rw [List.eq_of_mem_replicate h1]; decide
theorem getD_mapI (l:List Nat) (j:Nat):(l.map fun n:Nat=>(n:Int)).getD j 0=((l.getD j 0:Nat):Int):=by
 rw [List.getD_eq_getElem?_getD,List.getD_eq_getElem?_getD,List.getElem?_map]
 cases l[j]? <;> rfl
theorem padI_bd {l:List Nat} (h:Dg l) (j:Nat):-4194304≤(padI l).getD j 0∧(padI l).getD j 0≤4194304:=by
 rw [padI,getD_mapI];have:=dg_getD (part_dg h 64) j;omega
theorem ln_pos:0<LN:=by decide
theorem left_val {X:List Int} {N:Nat} (P:LeftP X) (h:vI X=(N:Int)):leftL X=digN 32 (N%LN):=by
 refine digN_eq (leftL_dg P) (leftL_len P) ?_;have h1:=P.val;rw [h,← Int.natCast_emod] at h1;exact Int.ofNat_inj.1 h1
structure D64 (w0:World) (g:Nat) (X:List Int) (u:World):Prop where
 bel:Below w0.heap.size w0 u
 x:Blk u g 62 (iV X).toArray
 lo:w0.heap.size≤g
theorem D64.put {w0 u u':World} {g:Nat} {X X':List Int} (k:D64 w0 g X u) (hw:Wrote g u u') (hb:Blk u' g 62 (iV X').toArray):D64 w0 g X' u' :=
 ⟨hw.below k.bel k.lo k.bel.size,hb,k.lo⟩
theorem D64.drew {w0 u:World} {g:Nat} {X:List Int} (k:D64 w0 g X u):D64 w0 g X u.drew:=⟨k.bel.drew,k.x,k.lo⟩
def SclPost (N:Nat) (w:World) (e:Ending) (w':World):Prop :=
 ∃ o,e=.returned (.slice (some ⟨o,0,none⟩) 32 32)∧w.heap.size≤o∧Blk w' o 5 (bnV (digN 32 N)).toArray∧Below w.heap.size w w'
theorem bn_cell {w:World} {A:Option Addr} {l:List Nat} {B:Nat} (h:Rd w B A (bnV l)) {k:Nat} (hk:k<l.length):∃ ad,A=some ad∧w.cell? (ad.add k)=some (.int .u8 ((l.getD k 0:Nat):Int)):=by
 obtain ⟨ad,rfl,_,hcell⟩:=h.at_ (k:=k) (by rw [bnV,List.length_map]; exact hk);refine ⟨ad,rfl,?_⟩;rw [hcell,List.getD_eq_getElem?_getD,List.getElem?_eq_getElem hk];simp [bnV]
theorem min_run (n m:Nat) (h:min n 64=m) (ts:Array TypeId) (t:TypeId) (u:World):(Builtin.min_ ts t #[.int .i64 (n:Int),.int .i64 64]).run Tryd.prog u=.ok (.int .i64 (m:Int)) u:=by
 by_cases h1:n≤64
 ·obtain rfl:m=n:=by omega
  have h2:(m:Int)≤64:=by omega
  have h3:¬ (64:Int)<(m:Int):=by omega
  simp [Builtin.min_,Builtin.min2,List.foldlM]
  try omega
 ·obtain rfl:m=64:=by omega
  have h2:¬ (n:Int)≤64:=by omega
  have h3:(64:Int)<(n:Int):=by omega
  simp [Builtin.min_,Builtin.min2,List.foldlM]
  try omega
theorem scl_new (w:World):D64 w w.heap.size (padI []) (w.alloc (.cells (iV (padI [])).toArray 62)):=⟨below_new _ _,Blk.new _ _ _,Nat.le_refl _⟩
set_option maxRecDepth 100000 in
set_option maxHeartbeats 4000000 in
theorem scl_reduce (l:List Nat) (hd:Dg l) (A:Option Addr) (c:Nat) (w:World) (hr:Rd w w.heap.size A (bnV l)) (hl:l.length≤1000000) :
  Calls Tryd.prog 20 #[.slice A l.length c] w (SclPost (leV (l.take 64)%LN) w):=by
 obtain ⟨n,hn⟩:∃ n,n=l.length:=⟨_,rfl⟩;obtain ⟨m,hm⟩:∃ m,m=(l.take 64).length:=⟨_,rfl⟩;have hmn:m≤n:=by rw [hm,hn,List.length_take]; exact Nat.min_le_right _ _
 have hm64:m≤64:=by rw [hm,List.length_take]; exact Nat.min_le_left _ _
 rw [← hn];have hn63:(n:Int)≤1000000:=by omega
 have hmin:=min_run n m (by rw [hm,List.length_take,← hn]; omega);have hst0:=scl_new w;have HR:=zY hr;have HD:=zY hd;have HN:=zY hn;have HM:=zY hm;have HMN:=zY hmn;have HST0:=zY hst0;clear hr hd hn hm hl hst0 hmn;go_enter Tryd.func20,Tryd.ntmps20;go_wp2_with fail;generalize hg:w.heap.size=g at HST0 HR ⊢;have HG:=zY hg;clear hg hmin
 change Code.wp Tryd.prog _ _ _ (w.alloc (.cells (iV (padI [])).toArray 62))
 generalize w.alloc (.cells (iV (padI [])).toArray 62)=w9 at HST0 ⊢
 go_loopw [8] (fun jv wr=>∃ k:Nat,k≤m∧jv=.int .i64 (k:Int)∧D64 w g (padI (l.take k)) wr) (fun jv _=>((m:Int) - intOf jv).toNat)
 case atStart=>exact ⟨0,by omega,rfl,HST0.out⟩
 case round =>
  clear HST0;obtain ⟨k,hk,rfl,hst⟩:=hrel
  by_cases hlt:k<m
  ·have hlt':(k:Int)<(m:Int):=by omega
   have hk64:(k:Int)<64:=by omega
   have hkn:(k:Int)<(n:Int):=by have:=HMN.out; omega
   have hkl:k<l.length:=by rw [← HN.out]; omega
   have hrd:=HR.out.below (by have h:=hst.bel; rw [HG.out] at h; exact h);obtain ⟨ad,rfl,d1⟩:=bn_cell hrd hkl;obtain ⟨b,hb⟩:∃ b,b=l.getD k 0:=⟨_,rfl⟩;have hbl:(b:Int)<256:=by have:=dg_getD HD.out k; rw [← hb] at this; omega
   rw [← hb] at d1;have htl:(l.take k).length=k:=by rw [List.length_take]; omega
   have hset:(padI (l.take k)).set k (b:Int)=padI (l.take (k+1)):=by
    rw [padI_set _ k b htl (by omega),take_snoc hkl,hb,List.getD_eq_getElem?_getD,List.getElem?_eq_getElem hkl]; rfl
   have hd0:∃ z,wr.cell? ⟨g,k,none⟩=some (.int .i64 z):=⟨_,by rw [hst.x.cell,iV_at (by rw [padI_len (by rw [htl]; omega)]; omega)]⟩;obtain ⟨z0,d0⟩:=hd0;have q0:=hst.x.free k;have HSET:=zY hset;have HST:=zY hst;have HK:=zY hlt;clear hst hset hrd hb hkl htl hk hlt;go_wp2_with fail;refine ⟨⟨k+1,HK.out,by go_num,?_⟩,by have:=HK.out; simp [intOf]; omega⟩;have h:=blk_setCell_at (i:=k) HST.out.x (.int .i64 (b:Int));rw [iV_set,HSET.out] at h;exact HST.out.put (wrote_setCell_at _ _ _ _) h
  ·obtain rfl:k=m:=by omega
   obtain ⟨T,hT⟩:∃ T,T=l.take 64:=⟨_,rfl⟩
   have htk:l.take k=T:=by
    rw [hT,HM.out,List.length_take]
    by_cases h:64≤l.length
    ·rw [Nat.min_eq_left h]
    ·rw [Nat.min_eq_right (by omega),List.take_of_length_le (Nat.le_refl _),List.take_of_length_le (by omega)]
   have hTd:Dg T:=fun d h=>HD.out d (List.mem_of_mem_take (by rw [hT] at h; exact h));have hTl:T.length≤64:=by rw [hT,List.length_take]; exact Nat.min_le_left _ _
   rw [htk] at hst;have hpost:=left_any (padI T) (padI_len hTl) (padI_bd hTd) g wr hst.x;have hval:=left_val (left_ok (padI_len hTl) (padI_bd hTd)) (padI_val T);have HT:=zY hT;have HST:=zY hst;have HPOST:=zY hpost;have HVAL:=zY hval;clear hst hpost hval hT htk hTd hTl;go_wp2_with fail;refine calls_then HPOST.out ?_;rintro e w2 ⟨o,rfl,ho,hbk,hb2⟩;rw [HVAL.out] at hbk
   have HF:=zY (show w.heap.size≤o∧Blk w2 o 5 (bnV (digN 32 (leV T%LN))).toArray∧Below w.heap.size w w2 from
    ⟨Nat.le_trans HST.out.bel.size ho,hbk,HST.out.bel.trans (hb2.mono HST.out.lo)⟩)
   clear ho hbk hb2;go_wp2_with fail;go_ret;have hf:=HF.out;rw [HT.out] at hf;exact ⟨o,rfl,hf⟩
end Go.Proofs.YtdgheahbafnboaaDoor
/-
  Walks: the reference's Bytes, Base and Read of points.
-/
namespace Go.Proofs.YtdgheahbafnboaaDoor
set_option linter.unusedSimpArgs false
set_option linter.unusedVariables false
open Go.RowKit
def BnPost (L:List Nat) (w:World) (e:Ending) (w':World):Prop:=∃ A c,e=.returned (.slice A 32 c)∧32≤c∧Rd w' w'.heap.size A (bnV L)∧Below w.heap.size w w'
theorem bnVl (l:List Nat):(bnV l).length=l.length:=by simp [bnV]
set_option maxRecDepth 100000 in
set_option maxHeartbeats 4000000 in
theorem nbytes_any {x y:Nat} (lx:x<PN) (ly:y<PN) {X Y:Option Addr} {cx cy:Nat} {w:World} (hc:32≤cy) (hx:Rd w w.heap.size X (DN x)) (hy:Rd w w.heap.size Y (DN y)) :
  Calls Tryd.prog 24 #[.agg (pairV (.slice X 32 cx) (.slice Y 32 cy))] w (BnPost (byP x y) w):=by
 have hpt:=Tryd.underlying50;obtain ⟨L,hL⟩:∃ L,L=byN y:=⟨_,rfl⟩;obtain ⟨b,hb⟩:∃ b,b=L.getD 31 0:=⟨_,rfl⟩;have hLl:L.length=32:=by rw [hL]; exact byN_length _
 have hb128:b<128:=by rw [hb,hL]; exact byN_high ly
 have hres:byP x y=if x%2=1 then L.set 31 (b+128) else L:=by rw [hb,hL]; rfl
 obtain ⟨M,hM⟩:∃ M,M=byP x y:=⟨_,rfl⟩;rw [← hM];rw [← hM] at hres
 have CB:=zY (show ∀ ww,Rd ww ww.heap.size Y (DN y)→Calls Tryd.prog 48 #[.slice Y 32 cy] ww (OwnPostZ 5 32 (bnV L) ww) from fun ww h=>by
  have q:=rbytesz_any (digN 32 y) (digN_dg _ _) Y cy ww h (by rw [digN_length]; exact hc) (by rw [digN_length]; decide);rw [digN_length,refB_dig,← bnV_byB,← hL] at q;exact q)
 have HB:=zY (below_new w (.cells (pairV (.slice X 32 cx) (.slice Y 32 cy)) 50));have HP:=zY (Blk.new w 50 (pairV (.slice X 32 cx) (.slice Y 32 cy)));have RX:=zY (rd_next hx HB.out);have RY:=zY (rd_next hy HB.out);have HRES:=zY hres;have HLX:=zY lx;have HLL:=zY hLl;have HBB:=zY hb;have hr2:x%256%2=x%2:=Nat.mod_mod_of_dvd x (by decide);have H2:=zY hr2;clear hL hb hLl hres hM lx ly hc hx hy hr2;have d0:=(HP.out.cell 0).trans (show (pairV (.slice X 32 cx) (.slice Y 32 cy))[0]?=some (.slice X 32 cx) from rfl);have d1:=(HP.out.cell 1).trans (show (pairV (.slice X 32 cx) (.slice Y 32 cy))[1]?=some (.slice Y 32 cy) from rfl);go_enter Tryd.func24,Tryd.ntmps24;go_wp2_with fail;clear d0 d1;refine calls_then (CB.out _ RY.out) ?_;rintro e w1 ⟨A1,c1,rfl,hown,hb1⟩;obtain ⟨g1,ys,rfl,hg1,hc1,hblk⟩:=hown.blk (by decide);have HP1:=zY (HP.out.below hb1 HP.out.lt);have RX1:=zY (rd_next RX.out hb1);have HB1:=zY (HB.out.trans (hb1.mono HB.out.size));have HG1:=zY (Nat.le_trans HB.out.size hg1);have HQ:=zY hblk;have HC1:=zY hc1;clear hown hb1 hg1 hc1 hblk HP RX RY HB;generalize w.heap.size=g at HP1 ⊢;have d0:=(HP1.out.cell 0).trans (show (pairV (.slice X 32 cx) (.slice Y 32 cy))[0]?=some (.slice X 32 cx) from rfl);obtain ⟨ad,had,dd⟩:=digit0 HLX.out RX1.out;subst had;rw [show ad.add 0=ad from rfl] at dd;obtain ⟨m,hm⟩:∃ m,m=x%256:=⟨_,rfl⟩;rw [← hm] at dd;have hm2:m%2=x%2:=by rw [hm]; exact H2.out
 by_cases hodd:x%2=1
 ·have hmi:(m:Int)%2=1:=by omega
  have e1:M=L.set 31 (b+128):=by rw [HRES.out,if_pos hodd]
  have HE:=zY e1;have hb2:(b:Int)<128:=by omega
  have dl:=HQ.out.cell 31
  rw [show (bnV L++ys).toArray[31]?=some (.int .u8 (b:Int)) by
   rw [List.getElem?_toArray,List.getElem?_append_left (by rw [bnVl,HLL.out]; decide),← List.getElem?_toArray,bnV_get (by rw [HLL.out]; decide),HBB.out]] at dl
  have hfr:=HQ.out.free 31;clear hodd e1 hm hm2 hb128;go_wp2_with (refine wpList_put_cell (x:=.tmp 18) (i:=31) (v:=.int .u8 ((b:Int)+128)) HQ.out rfl rfl rfl rfl u8_size (by rw [List.size_toArray,List.length_append,bnVl,HLL.out]; omega) rfl ?_; intro w5 hb5 hw5; have HB5:=zY hb5; have HW5:=zY hw5; clear hb5 hw5);go_ret;have hq:=HB5.out;rw [set_front (by rw [bnVl,HLL.out]; decide),show ((b:Int)+128)=((b+128:Nat):Int) from rfl,show (bnV L).set 31 (.int .u8 ((b+128:Nat):Int))=bnV (L.set 31 (b+128)) by simp [bnV,List.map_set],← HE.out] at hq;exact ⟨_,c1,rfl,HC1.out,(Rd.of_blk hq hq.lt).front,HW5.out.below HB1.out HG1.out HB1.out.size⟩
 ·have hmi:(m:Int)%2=0:=by omega
  have e1:M=L:=by rw [HRES.out,if_neg hodd]
  have HE:=zY e1;clear hodd e1 hm hm2 hb128;go_wp2_with fail;go_ret;have hq:=HQ.out;rw [← HE.out] at hq;exact ⟨_,c1,rfl,HC1.out,(Rd.of_blk hq hq.lt).front,HB1.out⟩
theorem base_y:4*(5^(PN - 2)%PN)%PN=byNN:=by
 rw [← invL_val,← pm_eq]
 decide
theorem base_w {y2 u t v i a x q:Nat} (W:OfW byNN y2 u t v i a x q):ofR (rtV a x q) (rtB a x q) false=some bxN:=by
 obtain ⟨h1,h2,h3,h4,h5,h6,h7,h8⟩:=W;have e1:y2=37053468555941182535542715202780130513046395093004980492626426882532201484768:=h1.trans (by decide);have e2:u=37053468555941182535542715202780130513046395093004980492626426882532201484767:=by rw [h2,e1]; decide
 have e3:t=35320460721920060721965471946471712506633951349663716574434581141966314745465:=by rw [h3,e1]; decide
 have e4:v=35320460721920060721965471946471712506633951349663716574434581141966314745466:=by rw [h4,e3]; decide
 have e5:i=36615873626505047815401509688526422966742341385236691817538452001808239043262:=by rw [h5,e4,← invL_val,← pm_eq]; decide
 have e6:a=26187595835145689230469591415084376402084551887632582719101735842039498021991:=by rw [h6,e2,e5]; decide
 have e7:x=42783823269122696939284341094755422415180979639778424813682678720006717057747:=by rw [h7,e6,← pm_eq]; decide
 clear h1 h2 h3 h4 h5 h6 h7 h8 e1 e2 e3 e4 e5
 have r1:rtV a x q=42783823269122696939284341094755422415180979639778424813682678720006717057747:=by
  rw [rtV,e6,e7,if_pos (by decide)]
 have r2:rtB a x q=true:=by
  rw [rtB,e6,e7,if_pos (by decide)]
 rw [r1,r2]
 decide
set_option maxRecDepth 100000 in
set_option maxHeartbeats 4000000 in
theorem nbase_any (w:World):Calls Tryd.prog 26 #[] w (PairPost bxN byNN w):=by
 have hpt:=Tryd.underlying50;obtain ⟨i5,hi5⟩:∃ i,i=5^(PN - 2)%PN:=⟨_,rfl⟩;have li5:i5<PN:=by rw [hi5]; exact mod_lt' _
 have hy:=base_y;rw [← hi5] at hy;obtain ⟨y2,u,t,v,i,a,x,q,W⟩:∃ y2 u t v i a x q,OfW byNN y2 u t v i a x q:=⟨_,_,_,_,_,_,_,_,⟨rfl,rfl,rfl,rfl,rfl,rfl,rfl,rfl⟩⟩;have hbw:=base_w W;have lby:byNN<PN:=by decide
 have C4:=zY (show ∀ u,Calls Tryd.prog 50 #[.int .i64 4] u (NumPost 4 u) from fun u=>nint 4 (by decide) u);have C5:=zY (show ∀ u,Calls Tryd.prog 50 #[.int .i64 5] u (NumPost 5 u) from fun u=>nint 5 (by decide) u);have CI:=zY (show ∀ ww XA xc,Rd ww ww.heap.size XA (DN 5)→Calls Tryd.prog 52 #[.slice XA 32 xc] ww (NumPost i5 ww) from fun ww XA xc xh=>by rw [hi5]; exact ninv (by decide) xh);have CM:=zY (show ∀ ww XA xc XB xd,Rd ww ww.heap.size XA (DN 4)→Rd ww ww.heap.size XB (DN i5)→Calls Tryd.prog 53 #[.slice XA 32 xc,.slice XB 32 xd] ww (NumPost byNN ww) from fun ww XA xc XB xd xh xk=>by rw [← hy]; exact nmul (by decide) li5 xh xk)
 have CO:=zY (show ∀ ww XA xc,32≤xc→Rd ww ww.heap.size XA (DN byNN)→Calls Tryd.prog 54 #[.slice XA 32 xc,.bool false] ww (OfNPost (some bxN) (.slice XA 32 xc) ww) from fun ww XA xc hc xh=>by
  have h:=nof_any W lby false hc xh;rw [hbw] at h;exact h)
 clear hi5 li5 hy W hbw lby;generalize byNN=Y at *;generalize bxN=X at *;have HB:=zY (below_new w (.cells (pairV nilS nilS) 50));have HP:=zY (Blk.new w 50 (pairV nilS nilS));go_enter Tryd.func26,Tryd.ntmps26;go_wp2_with fail;refine calls_then (C4.out _) ?_;rintro e w1 ⟨A4,c4,rfl,hc4,hr4,hb1⟩;have HB1:=zY (HB.out.trans (hb1.mono HB.out.size));have HP1:=zY (HP.out.below hb1 HP.out.lt);have R4:=zY hr4;clear hc4 hr4 hb1 HB HP;generalize hg:w.heap.size=g at HP1 ⊢;have HG:=zY hg;clear hg;go_wp2_with fail;refine calls_then (C5.out _) ?_;rintro e w2 ⟨A5,c5,rfl,hc5,hr5,hb⟩;replace HB1:=zY (HB1.out.trans (hb.mono HB1.out.size));replace HP1:=zY (HP1.out.below hb HP1.out.lt);replace R4:=zY (rd_next R4.out hb);have R5:=zY hr5;clear hc5 hr5 hb;go_wp2_with fail;refine calls_then (CI.out _ _ _ R5.out) ?_;rintro e w3 ⟨A6,c6,rfl,hc6,hr6,hb⟩;replace HB1:=zY (HB1.out.trans (hb.mono HB1.out.size));replace HP1:=zY (HP1.out.below hb HP1.out.lt);replace R4:=zY (rd_next R4.out hb);have R6:=zY hr6;clear hc6 hr6 hb R5;go_wp2_with fail;refine calls_then (CM.out _ _ _ _ _ R4.out R6.out) ?_;rintro e w4 ⟨A7,c7,rfl,hc7,hr7,hb⟩;replace HB1:=zY (HB1.out.trans (hb.mono HB1.out.size));replace HP1:=zY (HP1.out.below hb HP1.out.lt);have R7:=zY hr7;have L7:=zY hc7;clear hc7 hr7 hb R4 R6;go_wp2_with fail;refine calls_then (CO.out _ _ _ L7.out R7.out) ?_;rintro e w5 ⟨hb,A8,c8,rfl,hc8,hr8⟩;replace HB1:=zY (HB1.out.trans (hb.mono HB1.out.size));replace HP1:=zY (HP1.out.below hb HP1.out.lt);replace R7:=zY (rd_next R7.out hb);have R8:=zY hr8;have L8:=zY hc8;clear hc8 hr8 hb
 go_wp2_with (first
  | (refine wpList_put_box (x:=.tmp 1) (cells:=pairV (.slice A8 32 c8) (.slice A7 32 c7)) (Blk.new _ _ _) rfl rfl rfl rfl pair_size rfl (by simp [pairV,Value.oneCell']) ?_; intro w6 hb6 hw6; have hk6:=box_low hw6; have HQ:=zY hb6; have HP6:=zY (HP1.out.below hk6 HP1.out.lt); have HB6:=zY (HB1.out.trans (hk6.mono HB1.out.size)); have R76:=zY (rd_next R7.out hk6); have R86:=zY (rd_next R8.out hk6); clear hb6 hw6 hk6 HP1 HB1 R7 R8)
  | (refine wpList_get_box (x:=.tmp 1) HQ.out rfl rfl rfl hpt rfl pair_size ?_)
  | (refine wpList_put_box (x:=.tmp 0) (cells:=pairV (.slice A8 32 c8) (.slice A7 32 c7)) HP6.out rfl rfl rfl rfl pair_size rfl (by simp [pairV,Value.oneCell']) ?_; intro w7 hb7 hw7; have HP7:=zY hb7; have HW7:=zY hw7; clear hb7 hw7))
 refine bodyPost_ret (results_box (P:=Tryd.prog) rfl rfl HP7.out hpt rfl pair_size) rfl ?_;exact ⟨_,_,_,_,rfl,L8.out,L7.out,rd_size (R86.out.pair HP6.out HW7.out) HW7.out.size,rd_size (R76.out.pair HP6.out HW7.out) HW7.out.size,HW7.out.below HB6.out (Nat.le_of_eq HG.out) HB6.out.size⟩
def rdL (b:List UInt8):List Nat:=(digs b).set 31 ((digs b).getD 31 0%128)
def yOf (b:List UInt8):Nat:=leV (rdL b)
def oddOf (b:List UInt8):Bool:=decide (128≤(digs b).getD 31 0)
def RReadPost (o:Option (Nat × Nat)) (w:World) (e:Ending) (w':World):Prop :=
 Below w.heap.size w w'∧match o with
  | none=>e=.returned (.tuple #[.agg (pairV nilS nilS),.bool false])
  | some p=>∃ A c B d,e=.returned (.tuple #[.agg (pairV (.slice A 32 c) (.slice B 32 d)),.bool true])∧32≤c∧32≤d∧Rd w' w'.heap.size A (DN p.1)∧Rd w' w'.heap.size B (DN p.2)
theorem rdL_dg (b:List UInt8):Dg (rdL b):=by
 intro n hn
 rcases List.mem_or_eq_of_mem_set hn with h | h
 ·exact digs_lt b n h
 ·rw [h]; exact Nat.lt_trans (Nat.mod_lt _ (by decide)) (by decide)
end Go.Proofs.YtdgheahbafnboaaDoor
/-
  Plain: a seed's key, a message's signature.
-/
namespace Go.Proofs.YtdgheahbafnboaaDoor
set_option linter.unusedSimpArgs false
set_option linter.unusedVariables false
open Go.RowKit
def hshN (d:List UInt8):Nat:=leV (secD d)%LN
def keyN (b:List UInt8):Nat:=leV ((secL b).take 32)
def pubL (n:Nat):List Nat:=byF (times baseF n)
theorem digS_len (b:List UInt8):(Sh.digS Sh.F64 b).length=64:=Sh.outW_length 64 8 (Sh.runS Sh.F64 (Sh.padS Sh.F64 b) ((Sh.padS Sh.F64 b).length/(2*Sh.F64.bits))) 8 (Nat.le_refl _)
theorem secD_len (b:List UInt8) (h:(Sh.digS Sh.F64 b).length=64):(secL b).length=64:=by rw [secL,clampL_len,secD,digs,List.length_map,h]
def prefB (b:List UInt8):List UInt8:=bsN ((secL b).drop 32)
def secN (b m:List UInt8):Nat:=hshN (prefB b++m++[])
def ptB (n:Nat):List UInt8:=bsN (pubL n)
def sigN (b m:List UInt8):Nat:=(hshN (ptB (secN b m)++ptB (keyN b)++m)*keyN b+secN b m)%LN
def sigB (b m:List UInt8):List UInt8:=ptB (secN b m)++byB (sigN b m)
theorem secL_dg (b:List UInt8):Dg (secL b):=clampL_dg (digs_dg _)
theorem pubL_dg (n:Nat):Dg (pubL n):=byP_dg (times baseF n).y.isLt
theorem pubL_len (n:Nat):(pubL n).length=32:=byP_len _ _
theorem ptB_len (n:Nat):(ptB n).length=32:=by rw [ptB,bsN,List.length_map,pubL_len]
theorem digs_byB_val {N:Nat} (h:N<LN):leV (digs (byB N))=N:=by
 rw [digs_byB];exact leV_byN N (Nat.lt_trans h (by decide))
theorem hshN_lt (d:List UInt8):hshN d<LN:=Nat.mod_lt _ ln_pos
theorem bsN_val {l:List Nat} (h:Dg l):leV (digs (bsN l))=leV l:=by rw [digs_bsN h]
theorem sigB_len (b m:List UInt8):(sigB b m).length=64:=by rw [sigB,List.length_append,ptB_len,byB_length]
theorem sigB_take (b m:List UInt8):(sigB b m).take 32=ptB (secN b m):=by rw [sigB,List.take_left' (ptB_len _)]
theorem sigB_drop (b m:List UInt8):(sigB b m).drop 32=byB (sigN b m):=by rw [sigB,List.drop_left' (ptB_len _)]
theorem sigN_lt (b m:List UInt8):sigN b m<LN:=Nat.mod_lt _ ln_pos
end Go.Proofs.YtdgheahbafnboaaDoor
/-
  Walk: the law's few.
-/
namespace Go.Proofs.YtdgheahbafnboaaDoor
set_option linter.unusedSimpArgs false
set_option linter.unusedVariables false
open Go.RowKit
theorem nil_len' {l:List UInt8} {A:Option Addr} {w:World} (hr:Rd w w.heap.size A (bytesV l)):A=none→l.length=0:=fun h=>by
 by_cases h0:0<l.length
 ·obtain ⟨ad,h1,_⟩:=hr.at_ (k:=0) (by rw [bytesV_length]; exact h0);rw [h] at h1; cases h1
 ·omega
set_option maxRecDepth 100000 in
set_option maxHeartbeats 1000000 in
theorem few_any (l:List UInt8) (m:Nat) (hm:m≤1000) (A:Option Addr) (c:Nat) (w:World) (hnil:A=none→l.length=0) (hc:l.length≤c) :
  Calls Tryd.prog 8 #[.slice A l.length c,.int .i64 (m:Int)] w (fun e w'=>e=.returned (.slice A (l.take m).length c)∧w'=w):=by
 have hlt2:(l.take m).length=min m l.length:=List.length_take;rw [hlt2];generalize l.length=n at *;have hmb:(m:Int)≤1000:=by omega
 by_cases hlt:m<n
 ·obtain ⟨ad,rfl⟩:∃ ad,A=some ad:=by
   cases A with
   | none=>have:=hnil rfl; omega
   | some ad=>exact ⟨ad,rfl⟩
  have hgt:(n:Int) > (m:Int):=by omega
  have hmc:(m:Int)≤(c:Int):=by omega
  have hmin:min m n=m:=by omega
  rw [hmin];clear hlt hmin hlt2 hnil hm hc;go_enter Tryd.func8,Tryd.ntmps8;go_wp2_with fail;go_ret;exact ⟨rfl,rfl⟩
 ·have hgt:¬ (n:Int) > (m:Int):=by omega
  have hmin:min m n=n:=by omega
  rw [hmin];clear hlt hmin hlt2 hnil hm hc;go_enter Tryd.func8,Tryd.ntmps8;go_wp2_with fail;go_ret;exact ⟨rfl,rfl⟩
end Go.Proofs.YtdgheahbafnboaaDoor
/-
  Walk: slices.Grow of nothing.
-/
namespace Go.Proofs.YtdgheahbafnboaaDoor
set_option linter.unusedSimpArgs false
set_option linter.unusedVariables false
open Go.RowKit
theorem own_none {w:World} {base e m c:Nat} {A:Option Addr} {xs:List Value} (h:w.ownsRow base e 1 (.slice A m c) m xs):w.ownsRow base e 1 (.slice A 0 c) 0 []:=by
 refine ⟨rfl,?_⟩
 rcases h.2 with ⟨hv,rfl⟩ | ⟨g,cap,cur,hv,hb,hg,hn,hm,hs,_⟩
 ·exact .inl ⟨hv,rfl⟩
 ·injection hv with h1 h2 h3
  subst h1 h3;exact .inr ⟨g,c,cur,rfl,hb,hg,Nat.zero_le _,hm,hs,by simp⟩
theorem u8z:∃ i,Tryd.prog.info? 5=some i∧i.zero=some (.int .u8 0):=by
 obtain ⟨i,hi,h0,_,_⟩:=info_parts (show (Tryd.prog.info? 5).map (fun i=>(i.zero,i.size,i.bytes))=some (some (.int .u8 0),1,1) by kernel_rfl);exact ⟨i,hi,h0⟩
def GrowPost (w:World) (e:Ending) (w':World):Prop :=
 ∃ A c,e=.returned (.slice A 0 c)∧w'.ownsRow w.heap.size 5 1 (.slice A 0 c) 0 []∧Below w.heap.size w w'
set_option maxRecDepth 100000 in
set_option maxHeartbeats 2000000 in
theorem grow_any (n:Nat) (hn:n≤1000) (w:World) :
  Calls Tryd.prog 75 #[.slice none 0 0,.int .i64 (n:Int)] w (GrowPost w):=by
 have h0:(0:Int)≤n:=by omega
 have h1:(n:Int)≤1000:=by omega
 have hu8:∃ i,Tryd.prog.info? 5=some i∧i.zero=some (.int .u8 0):=u8z
 rcases Nat.eq_zero_or_pos n with h00 | hp
 ·have h2:(n:Int)≤0:=by omega
  clear h00;go_enter Tryd.func75,Tryd.ntmps75;go_wp2_with fail;go_ret;exact ⟨_,_,rfl,⟨rfl,.inl ⟨rfl,rfl⟩⟩,Below.refl _ _⟩
 ·have h2:(0:Int)<n:=by omega
  have HP:=zY hp;clear hp;go_enter Tryd.func75,Tryd.ntmps75;have hg:=own_grown (w:=w) (base:=w.heap.size) (e:=5) (n:=0) (m:=n) (old:=0) (z:=.int .u8 0) (xs:=[]) (news:=List.replicate n (Value.int .u8 0)) (size:=1) (by simp) (by simp) rfl (by unfold maxLen; omega) (Nat.le_refl _);simp only [Nat.zero_add,List.nil_append,Array.empty_append] at hg;have hzc:Builtin.zeroCells #[.int .u8 0] n=(List.replicate n (Value.int .u8 0)).toArray:=by apply Array.ext'; exact zeroCells_u8 n
  rw [← hzc] at hg;have HO:=zY (own_none hg);have hcap:=(own_cap (OwnX.of hg)).1;have HB:=zY (fun o=>below_of_grown (B:=w.heap.size) (v:=.slice none 0 0) (grown_draw_alloc w o _) (Nat.le_refl _) (by intro k hk; simp [Value.ownBlock] at hk))
  have h48:¬ (281474976710656<Builtin.nextslicecap n 0*Tryd.t5.bytes):=by
   have:=growslice_fits (bytes:=Tryd.t5.bytes) (need:=n) (old:=0) (by omega) (by show n*1≤_; omega);omega
  have h63:¬ (9223372036854775807<(n:Int)):=by omega
  have hbb:¬ (281474976710656<(n:Int)*(Tryd.t5.bytes:Int)):=by show ¬ (281474976710656<(n:Int)*1); omega
  have hmm:¬ (281474976710656<(n:Int)):=by omega
  have hn0:¬ n=0:=by omega
  clear hg hzc;go_wp2_with fail;go_ret;exact ⟨_,_,rfl,HO.out,HB.out _⟩
end Go.Proofs.YtdgheahbafnboaaDoor
/-
  Walk: slices.Concat of a few rows of bytes.
-/
namespace Go.Proofs.YtdgheahbafnboaaDoor
set_option linter.unusedSimpArgs false
set_option linter.unusedVariables false
open Go.RowKit
structure Segs (w:World) (bs:List (List UInt8)) (vs:List Value):Prop where
 len:vs.length=bs.length
 at_:∀ (i:Nat) (b:List UInt8),bs[i]?=some b→∃ A c,vs[i]?=some (Value.slice A b.length c)∧Rd w w.heap.size A (bytesV b)
def catL (bs:List (List UInt8)) (k:Nat):List UInt8:=(bs.take k).flatten
theorem catL_next {bs:List (List UInt8)} {k:Nat} (h:k<bs.length):catL bs (k+1)=catL bs k++bs[k]:=by
 rw [catL,catL,List.take_add_one,List.getElem?_eq_getElem h,List.flatten_append];simp
theorem catL_le (bs:List (List UInt8)):∀ k,(catL bs k).length≤bs.flatten.length:=fun k=>by
 have h:=congrArg (fun l=>(List.flatten l).length) (List.take_append_drop k bs);simp only [List.flatten_append,List.length_append] at h;unfold catL;omega
theorem catL_all (bs:List (List UInt8)):catL bs bs.length=bs.flatten:=by rw [catL,List.take_length]
theorem bytesV_one1 (b:List UInt8):∀ u ∈ bytesV b,u.oneCell'=true:=fun u h=>by
 rw [bytesV] at h;obtain ⟨x,_,rfl⟩:=List.mem_map.1 h;rfl
set_option maxRecDepth 100000 in
set_option maxHeartbeats 2000000 in
theorem concat_any (bs:List (List UInt8)) (vs:List Value) (o:Nat) (w:World) (hs:Segs w bs vs) (hb:Blk w o 22 vs.toArray) (hl:bs.flatten.length≤1000) (hn:bs.length≤4) :
  Calls Tryd.prog 46 #[.slice (some ⟨o,0,none⟩) bs.length bs.length] w (OwnPost 5 bs.flatten.length (bytesV bs.flatten) w):=by
 obtain ⟨n,hn0⟩:∃ n,n=bs.length:=⟨_,rfl⟩;rw [← hn0] at hn ⊢;have hn63:(n:Int)≤4:=by omega
 obtain ⟨z,hz⟩:∃ z,z=bs.flatten.length:=⟨_,rfl⟩;have hz63:(z:Int)≤1000:=by omega
 have hcat:∀ k,(catL bs k).length≤z:=fun k=>by rw [hz]; exact catL_le bs k
 have hcell:∀ k,k<n→∃ b A c,bs[k]?=some b∧Rd w w.heap.size A (bytesV b)∧(w.cell? ⟨o,k,none⟩=some (Value.slice A b.length c)):=fun k hk=>by
  have hk':k<bs.length:=by rw [← hn0]; exact hk
  obtain ⟨A,c,h1,h2⟩:=hs.at_ k _ (List.getElem?_eq_getElem hk');exact ⟨_,A,c,List.getElem?_eq_getElem hk',h2,by rw [hb.cell,List.getElem?_toArray,h1]⟩
 have HC:=zY hcell;have HK:=zY hcat;have HN:=zY hn0;have HZ:=zY hz;have HO:=zY hb.lt;rw [← hz];clear hcell hcat hn0 hs hb hl hz hn;go_enter Tryd.func46,Tryd.ntmps46;go_wp2_with fail
 go_loopw [3,11] (fun s i wr=>∃ k:Nat,k≤n∧s=.int .i64 (((catL bs k).length:Nat):Int)∧i=.int .i64 (k:Int)∧w=wr) (fun _ i _=>n - (intOf i).toNat)
 case atStart=>exact ⟨0,by omega,rfl,rfl,rfl⟩
 case round =>
  obtain ⟨k,hk,rfl,rfl,rfl⟩:=hrel
  by_cases hlt:k<n
  ·have hlt':(k:Int)<(n:Int):=by omega
   obtain ⟨b,A,c,hbk,hrd,hce⟩:=HC.out k hlt
   have hnx:catL bs (k+1)=catL bs k++b:=by
    have hk':k<bs.length:=by rw [← HN.out]; exact hlt
    rw [List.getElem?_eq_getElem hk'] at hbk;rw [catL_next hk',Option.some.inj hbk]
   have h1:=HK.out k;have h2:=HK.out (k+1);have h3:(catL bs (k+1)).length=(catL bs k).length+b.length:=by rw [hnx,List.length_append]
   obtain ⟨s,hs⟩:∃ s,s=(catL bs k).length:=⟨_,rfl⟩;obtain ⟨s2,hs2⟩:∃ s,s=(catL bs (k+1)).length:=⟨_,rfl⟩;obtain ⟨m,hm⟩:∃ s,s=b.length:=⟨_,rfl⟩;rw [← hs] at h1 h3 ⊢;rw [← hs2] at h2 h3;rw [← hm] at h3 hce;have hs1':(s:Int)≤1000:=by omega
   have hs2':(s:Int)+m=s2:=by omega
   have hs3':(s2:Int)≤1000:=by omega
   have hm':(m:Int)≤1000:=by omega
   have HS2:=zY hs2;clear h1 h2 h3 hs hs2 hm hbk hrd hnx;go_wp2_with fail;refine ⟨⟨k+1,by omega,?_,by go_num,trivial⟩,by simp [intOf]; omega⟩;rw [← HS2.out]
  ·obtain rfl:k=n:=by omega
   have hzz:(catL bs k).length=z:=by rw [HN.out,catL_all,HZ.out]
   rw [hzz];have HG:=zY (grow_any z (by omega) w);clear hlt hk;go_wp2_with fail;refine calls_then HG.out ?_;rintro e w1 ⟨A1,c1,rfl,ho1,hb1⟩;have HO1:=zY ho1;have HB1:=zY hb1;clear ho1 hb1;go_wp2_with fail
   go_loopw [6,27] (fun v i wr=>∃ (j:Nat) (A2:Option Addr) (c2:Nat),j≤k∧i=.int .i64 (j:Int)∧v=.slice A2 (catL bs j).length c2∧OwnX wr w.heap.size 5 1 (.slice A2 (catL bs j).length c2) (catL bs j).length (bytesV (catL bs j))∧Below w.heap.size w wr) (fun _ i _=>k - (intOf i).toNat)
   case atStart=>exact ⟨0,A1,c1,by omega,rfl,rfl,OwnX.of HO1.out,HB1.out⟩
   case round =>
    clear HO1 HB1;obtain ⟨j,A2,c2,hj,rfl,rfl,hown,hbel⟩:=hrel
    by_cases hlt:j<k
    ·have hlt':(j:Int)<(k:Int):=by omega
     obtain ⟨b,A,c,hbk,hrd,hce⟩:=HC.out j hlt
     have hnx:catL bs (j+1)=catL bs j++b:=by
      have hk':j<bs.length:=by rw [← HN.out]; exact hlt
      rw [List.getElem?_eq_getElem hk'] at hbk;rw [catL_next hk',Option.some.inj hbk]
     have h1:=HK.out j;have h2:=HK.out (j+1);have h3:(catL bs (j+1)).length=(catL bs j).length+b.length:=by rw [hnx,List.length_append]
     have hbv:bytesV (catL bs (j+1))=bytesV (catL bs j)++bytesV b:=by rw [hnx,bytesV_append]
     have hbl:(bytesV b).length=b.length*1:=by rw [bytesV_length,Nat.mul_one]
     have h1v:=bytesV_one1 b;have hce2:wr.cell? ⟨o,j,none⟩=some (Value.slice A b.length c):=(hbel.cell HO.out).trans hce;have hcap:=(own_cap hown).1;obtain ⟨s,hs⟩:∃ s,s=(catL bs j).length:=⟨_,rfl⟩;obtain ⟨m,hm⟩:∃ s,s=b.length:=⟨_,rfl⟩;rw [← hs] at h1 h3 hown ⊢;rw [← hm] at h3 hce2 hbl;have hs1':s≤1000:=by omega
     have hm':m≤1000:=by omega
     have HOWN:=zY hown;have HBEL:=zY hbel;have HBV:=zY hbv;have HBL:=zY hbl;have H1V:=zY h1v;have HRD:=zY (hrd.below hbel);have H3:=zY h3;clear h1 h2 h3 hs hm hbk hrd hnx hown hbel hbv hbl h1v hce hcap;go_wp2_with (refine wpList_append_rd sl_bytes rfl rfl HOWN.out rfl rfl HBL.out HRD.out H1V.out (by unfold maxLen; omega) (by omega) HBEL.out.size ?_; intro A3 c3 w3 hown3 hg3 hn3; have HOWN3:=zY hown3; have HB3:Hid (Below w.heap.size w w3):=zY (below_grow HBEL.out HOWN.out HBEL.out.size hg3); clear hown3 hg3 hn3);refine ⟨⟨j+1,A3,c3,by omega,by go_num,by rw [H3.out],?_,HB3.out⟩,by simp [intOf]; omega⟩;rw [H3.out,HBV.out];exact HOWN3.out
    ·obtain rfl:j=k:=by omega
     have hzz:(catL bs j).length=z:=by rw [HN.out,catL_all,HZ.out]
     rw [hzz] at hown ⊢;have hall:catL bs j=bs.flatten:=by rw [HN.out,catL_all]
     rw [hall] at hown;have HOWN:=zY hown;have HBEL:=zY hbel;clear hown hbel;go_wp2_with fail;go_ret;exact ⟨A2,c2,rfl,HOWN.out,HBEL.out⟩
end Go.Proofs.YtdgheahbafnboaaDoor
/-
  Walks: the digests of 64 bytes as they are called.
-/
namespace Go.Proofs.YtdgheahbafnboaaDoor.Sh
set_option linter.unusedSimpArgs false
set_option linter.unusedVariables false
open Go.RowKit
set_option maxRecDepth 100000 in
theorem p512_any (data:List UInt8) (A:Option Addr) (c B:Nat) (w:World) (hr:Rd w B A (bytesV data)) (hB:B≤w.heap.size) (hl:data.length≤1000) (hc:data.length≤c) (hcm:c≤9223372036854775807) (hG:TabG w) :
  Calls Tryd.prog 45 #[.slice A data.length c] w (SumPost64 data w):=by
 have hs:=sum64_any data A c B w hr hB hl hc hcm hG;rw [f64C] at hs;go_enter Tryd.func45,Tryd.ntmps45;go_wp2_with fail;refine calls_then hs ?_;rintro e w' ⟨A2,c2,rfl,ho,hb⟩;have HO:=zY ho;have HB:=zY hb;clear ho hb hs;go_wp2_with fail;go_ret;exact ⟨A2,c2,rfl,HO.out,HB.out⟩
end Go.Proofs.YtdgheahbafnboaaDoor.Sh
/-
  Walks: sign's digest and its secret.
-/
namespace Go.Proofs.YtdgheahbafnboaaDoor
set_option linter.unusedSimpArgs false
set_option linter.unusedVariables false
open Go.RowKit
set_option maxRecDepth 100000 in
set_option maxHeartbeats 2000000 in
theorem sdigest_any (bs:List (List UInt8)) (vs:List Value) (o:Nat) (w:World) (hs:Segs w bs vs) (hb:Blk w o 22 vs.toArray) (hl:bs.flatten.length≤1000) (hn:bs.length≤4) (hG:Sh.TabG w) :
  Calls Tryd.prog 21 #[.slice (some ⟨o,0,none⟩) bs.length bs.length] w (Sh.SumPost64 bs.flatten w):=by
 have hc:=concat_any bs vs o w hs hb hl hn;have HC:=zY hc;have HG:=zY hG;have HL:=zY hl;clear hc hG hl hn hs hb;obtain ⟨n,hn0⟩:∃ n,n=bs.length:=⟨_,rfl⟩;rw [← hn0] at HC ⊢;clear hn0;go_enter Tryd.func21,Tryd.ntmps21;go_wp2_with fail;refine calls_then HC.out ?_;rintro e w1 ⟨A1,c1,rfl,ho,hb⟩;have hcap:=own_cap ho;have hs:=Sh.p512_any bs.flatten A1 c1 w1.heap.size w1 (Rd.of_own ho (Nat.le_refl _)) (Nat.le_refl _) HL.out hcap.1 hcap.2 (HG.out.below hb HG.out.size);have HS:=zY hs;have HB:=zY hb;clear hs hcap ho hb;obtain ⟨m,hm⟩:∃ n,n=bs.flatten.length:=⟨_,rfl⟩;rw [← hm] at HS ⊢;clear hm;go_wp2_with fail;refine calls_then HS.out ?_;rintro e w2 ⟨A2,c2,rfl,ho2,hb2⟩;have HF:=zY (And.intro (own_mono ho2 HB.out.size) (HB.out.trans (hb2.mono HB.out.size)));clear ho2 hb2;go_wp2_with fail;go_ret;exact ⟨A2,c2,rfl,HF.out⟩
theorem and248:∀ x,x<256→x &&& (255 - 7)=x - x%8:=by decide +kernel
theorem and127:∀ x,x<256→x &&& (255 - 128)=x%128:=by decide +kernel
theorem or64s:∀ x,x<256→(x%128) ||| 64=x%64+64:=by decide +kernel
theorem bits_an7 {x:Nat} (h:x<256):bits .andNot .u8 (x:Int) 7=((x - x%8:Nat):Int):=by
 rw [← and248 x h];exact u8_andNot_nat x 7 h (by decide)
theorem bits_an128 {x:Nat} (h:x<256):bits .andNot .u8 (x:Int) 128=((x%128:Nat):Int):=by
 rw [← and127 x h];exact u8_andNot_nat x 128 h (by decide)
theorem bits_or64 {x:Nat} (h:x<256):bits .or .u8 ((x%128:Nat):Int) 64=((x%64+64:Nat):Int):=by
 rw [← or64s x h];exact u8_or_nat (x%128) 64 (by omega) (by decide)
theorem segs1 {w:World} {b:List UInt8} {A:Option Addr} {c:Nat} (h:Rd w w.heap.size A (bytesV b)):Segs w [b] [.slice A b.length c] :=
 ⟨rfl,fun i x hi=>by
  match i with
  | 0=>injection hi with hi; subst hi; exact ⟨A,c,rfl,h⟩
  | i+1=>cases hi⟩
set_option maxRecDepth 100000 in
set_option maxHeartbeats 4000000 in
theorem ssecret_any (data:List UInt8) (A:Option Addr) (c:Nat) (w:World) (hr:Rd w w.heap.size A (bytesV data)) (hl:data.length≤200) (hc:data.length≤c) (hG:Sh.TabG w) :
  Calls Tryd.prog 16 #[.slice A data.length c] w (SecPost (secL data) w):=by
 obtain ⟨n,hn⟩:∃ n,n=data.length:=⟨_,rfl⟩;have HR:=zY hr;have HG:=zY hG;have HL:=zY hl;have HN:=zY hn;rw [← hn] at hc ⊢;clear hr hG hl hn;go_enter Tryd.func16,Tryd.ntmps16;go_wp2_with fail;obtain ⟨w0,hw0⟩:∃ w0,w0=w.alloc (.cells #[.slice A n c] 22):=⟨_,rfl⟩;have hb0:Below w.heap.size w w0:=by rw [hw0]; exact below_new _ _
 have hk0:Blk w0 w.heap.size 22 [Value.slice A n c].toArray:=by rw [hw0]; exact Blk.new _ _ _
 have hs0:=sdigest_any [data] [.slice A data.length c] w.heap.size w0 (segs1 (rd_next HR.out hb0)) (by rw [← HN.out]; exact hk0) (by simpa using Nat.le_trans HL.out (by decide)) (by show 1≤4; decide) (HG.out.below hb0 HG.out.size);rw [show [data].flatten=data by simp] at hs0;rw [← hw0];have HS:=zY hs0;have HB0:=zY hb0;clear hs0 hk0 hb0 hw0;refine calls_then HS.out ?_;rintro e w1 ⟨A1,c1,rfl,ho,hb⟩;have hcap:=own_cap (OwnX.of ho);obtain ⟨g,ys,rfl,hg,_,hblk⟩:=OwnZ.blk ho (by decide)
 have hlen:(secD data).length=64:=by
  have h:=ho.1;rw [bytesV_length] at h;rw [secD,digs,List.length_map,h]
 rw [← bnV_digs'] at hblk;obtain ⟨L,hL⟩:∃ L,L=secD data:=⟨_,rfl⟩;have hdg:Dg L:=by rw [hL]; exact digs_dg _
 rw [← hL] at hlen;have hst:SecW w g ys L w1:=⟨HB0.out.trans (hb.mono HB0.out.size),by rw [hL]; exact hblk,Nat.le_trans HB0.out.size hg⟩;have hkl:secL data=clampL L:=by rw [hL]; rfl
 obtain ⟨x,hx⟩:∃ x,x=L.getD 0 0:=⟨_,rfl⟩;obtain ⟨y,hy⟩:∃ y,y=L.getD 31 0:=⟨_,rfl⟩;have hxl:x<256:=by rw [hx]; exact dg_getD hdg 0
 have hyl:y<256:=by rw [hy]; exact dg_getD hdg 31
 obtain ⟨s,hss⟩:∃ s,s=x - x%8:=⟨_,rfl⟩;obtain ⟨t,ht⟩:∃ t,t=y%128:=⟨_,rfl⟩;obtain ⟨z,hz⟩:∃ z,z=y%64+64:=⟨_,rfl⟩;have hb1:bits .andNot .u8 (x:Int) 7=(s:Int):=by rw [hss]; exact bits_an7 hxl
 have hb2:bits .andNot .u8 (y:Int) 128=(t:Int):=by rw [ht]; exact bits_an128 hyl
 have hb3:bits .or .u8 (t:Int) 64=(z:Int):=by rw [ht,hz]; exact bits_or64 hyl
 have hkl2:secL data=(((L.set 0 s).set 31 t).set 31 z):=by
  rw [hkl,clampL,← hx,← hy,← hss,← hz,List.set_set]
 have d0:w1.cell? ⟨g,0,none⟩=some (.int .u8 (x:Int)):=by rw [hst.x.cell,sec_cell (by omega),hx]
 have d1:∀ u,SecW w g ys (L.set 0 s) u→u.cell? ⟨g,31,none⟩=some (.int .u8 (y:Int)):=fun u h=>by
  rw [h.x.cell,sec_cell (by rw [List.length_set]; omega),List.getD_eq_getElem?_getD,List.getElem?_set_ne (by decide),← List.getD_eq_getElem?_getD,hy]
 have d2:∀ u,SecW w g ys ((L.set 0 s).set 31 t) u→u.cell? ⟨g,31,none⟩=some (.int .u8 (t:Int)):=fun u h=>by
  rw [h.x.cell,sec_cell (by rw [List.length_set,List.length_set]; omega),List.getD_eq_getElem?_getD,List.getElem?_set_self (by rw [List.length_set]; omega)];rfl
 have q0:=hst.x.free 0
 have hst1:SecW w g ys (L.set 0 s) (w1.setCell ⟨g,0,none⟩ (.int .u8 (s:Int))):=by
  refine hst.put (wrote_setCell_at _ _ _ _) ?_;have h:=blk_setCell_at (i:=0) hst.x (.int .u8 (s:Int));rw [sec_set (by omega)] at h;exact h
 have e1:=d1 _ hst1;have q1:=hst1.x.free 31
 have hst2:SecW w g ys ((L.set 0 s).set 31 t) ((w1.setCell ⟨g,0,none⟩ (.int .u8 (s:Int))).setCell ⟨g,31,none⟩ (.int .u8 (t:Int))):=by
  refine hst1.put (wrote_setCell_at _ _ _ _) ?_;have h:=blk_setCell_at (i:=31) hst1.x (.int .u8 (t:Int));rw [sec_set (by rw [List.length_set]; omega)] at h;exact h
 have e2:=d2 _ hst2;have q2:=hst2.x.free 31
 have hst3:SecW w g ys (secL data) (((w1.setCell ⟨g,0,none⟩ (.int .u8 (s:Int))).setCell ⟨g,31,none⟩ (.int .u8 (t:Int))).setCell ⟨g,31,none⟩ (.int .u8 (z:Int))):=by
  rw [hkl2];refine hst2.put (wrote_setCell_at _ _ _ _) ?_;have h:=blk_setCell_at (i:=31) hst2.x (.int .u8 (z:Int));rw [sec_set (by rw [List.length_set,List.length_set]; omega)] at h;exact h
 have hxl':(x:Int)<256:=by omega
 have hsl':(s:Int)<256:=by omega
 have hyl':(y:Int)<256:=by omega
 have htl':(t:Int)<256:=by omega
 have hzl':(z:Int)<256:=by omega
 have hc64:64≤c1:=hcap.1;have hc63:c1≤9223372036854775807:=hcap.2;have HST:=zY hst3;clear d1 d2 hst hst1 hst2 hst3 hkl hkl2 hx hy hss ht hz hL hdg hlen ho hb hg hblk hxl hyl hcap;go_wp2_with fail;have HC0:=HST.out.drew;refine wp_region_det (fun u=>SecW w g ys (secL data) u) (fun u=>SecW w g ys (secL data) u) [(0,some 23),(1,some 24),(2,some 25),(3,some 26),(4,some 2),(5,some 3)] (by kernel_rfl) (by kernel_rfl) (by decide) (by kernel_rfl) (fun _=>rfl) HC0 ?_;apply DetL.next
 ·apply dP [];exact fun _=>rfl;rfl;rintro vals - w1 hC1 E hE;simp only [sP] at hE ⊢;go_wp2;exact .mk (hE _ hC1)
 apply DetL.next
 ·apply dP [(0,some 23)];exact fun _=>rfl;rfl;rintro vals ⟨-,f0⟩ w1 hC1 E hE;simp only [sP,f0] at hE ⊢;clear f0;go_wp2;exact .mk (hE _ hC1)
 apply DetL.next
 ·apply dP [];exact fun _=>rfl;rfl;intro vals vq w1 hC1 E hE;clear vq;simp only [sP] at hE ⊢;go_wp2;exact .mk (hE _ hC1)
 apply DetL.next
 ·apply dP [(2,some 25)];exact fun _=>rfl;rfl;intro vals vq w1 hC1 E hE;have f2:=vq.2;clear vq;simp only [sP,f2] at hE ⊢;clear f2;go_wp2;exact .mk (hE _ hC1)
 apply DetL.next
 ·apply dP [(1,some 24),(0,some 23),(1,some 24)];exact fun _=>rfl;rfl;rintro vals ⟨⟨⟨⟨-,f0⟩,f1⟩,-⟩,-⟩ w1 hC1 E hE;simp only [sP,f0,f1] at hE ⊢;clear f0 f1;go_wp2;exact .mk (hE _ hC1)
 apply DetL.last
 ·apply dP [(3,some 26),(4,some 2),(0,some 23),(1,some 24),(2,some 25),(3,some 26),(4,some 2)];exact fun _=>rfl;rfl;rintro vals ⟨⟨⟨⟨⟨-,f0⟩,f1⟩,f2⟩,f3⟩,f4⟩ w1 hC1 E hE;simp only [sP,f0,f1,f2,f3,f4] at hE ⊢;clear f0 f1 f2 f3 f4;go_wp2;exact .mk (hE _ hC1)
 rintro vals ⟨⟨⟨⟨⟨⟨-,f0⟩,f1⟩,f2⟩,f3⟩,f4⟩,f5⟩ w1 hC1;simp only [sP,f0,f1,f2,f3,f4,f5];clear f0 f1 f2 f3 f4 f5;obtain ⟨h1,h2⟩:=sec_rd hC1.x;have HF:=zY (And.intro h1 (And.intro h2 hC1.bel));clear HC0 hC1 h1 h2 HST;go_wp2_with fail;go_ret2;exact ⟨_,_,_,_,rfl,by omega,by omega,HF.out⟩
end Go.Proofs.YtdgheahbafnboaaDoor
/-
  Walk: sign's Public.
-/
namespace Go.Proofs.YtdgheahbafnboaaDoor
set_option linter.unusedSimpArgs false
set_option linter.unusedVariables false
open Go.RowKit
def bmP (kb:List UInt8):Pt4:=mulP baseP kb
theorem bmP_ok (kb:List UInt8):(bmP kb).Ok:=mulP_ok baseP_ok kb
theorem bmP_is {kb:List UInt8} (h:kb.length=32):Is (bmP kb) (times baseF (leV (digs kb))):=by
 have e:=Is.mul baseP_ok is_base kb;rw [List.take_of_length_le (by omega)] at e;exact e
theorem bmP_bytes {kb:List UInt8} (h:kb.length=32):bytP (bmP kb)=pubL (leV (digs kb)):=bytP_is (bmP_ok kb) (bmP_is h)
theorem bm_any (kb:List UInt8) (h:kb.length=32) (A:Option Addr) (c:Nat) (u:World) (hr:Rd u u.heap.size A (bytesV kb)) (hc:32≤c) :
  Calls Tryd.prog 18 #[.agg (ptV baseP),.slice A 32 c] u (PtPost (bmP kb) u):=by
 have e:=pmul_any baseP baseP_ok kb A c u hr (by omega);rw [h] at e;exact e
theorem bb_any (kb:List UInt8) (h:kb.length=32) (u:World):Calls Tryd.prog 19 #[.agg (ptV (bmP kb))] u
  (fun e w'=>∃ o,e=.returned (.slice (some ⟨o,0,none⟩) 32 32)∧u.heap.size≤o∧Blk w' o 5 (bnV (pubL (leV (digs kb)))).toArray∧Below u.heap.size u w'):=by
 have e:=pbytes_any (bmP kb) (bmP_ok kb) u;unfold PbyPost at e;rw [bmP_bytes h] at e;exact e
theorem ssec_any (b:List UInt8) (lb:b.length=32) (A:Option Addr) (c:Nat) (w:World) (hr:Rd w w.heap.size A (bytesV b)) (hc:32≤c) (hG:Sh.TabG w) :
  Calls Tryd.prog 16 #[.slice A 32 c] w (fun e w'=>∃ A c B d,e=.returned (.tuple #[.slice A 32 c,.slice B 32 d])∧32≤c∧32≤d∧Rd w' w'.heap.size A (bytesV (bsN ((secL b).take 32)))∧Rd w' w'.heap.size B (bytesV (prefB b))∧Below w.heap.size w w'):=by
 have hS:=ssecret_any b A c w hr (by rw [lb]; decide) (by rw [lb]; exact hc) hG;rw [lb] at hS;refine Calls.mono hS fun e w' q=>?_;obtain ⟨A1,c1,B1,d1,q1,q2,q3,q4,q5,q6⟩:=q;exact ⟨A1,c1,B1,d1,q1,q2,q3,by rw [← bnV_bsN (fun d hd=>secL_dg b d (List.mem_of_mem_take hd))]; exact q4,by rw [prefB,← bnV_bsN (fun d hd=>secL_dg b d (List.mem_of_mem_drop hd))]; exact q5,q6⟩
theorem keyB_val (b:List UInt8):leV (digs (bsN ((secL b).take 32)))=keyN b:=by rw [bsN_val (fun d hd=>secL_dg b d (List.mem_of_mem_take hd)),keyN]
theorem keyB_len (b:List UInt8):(bsN ((secL b).take 32)).length=32:=by rw [bsN,List.length_map,List.length_take,secD_len b (digS_len b)]; rfl
theorem prefB_len (b:List UInt8):(prefB b).length=32:=by rw [prefB,bsN,List.length_map,List.length_drop,secD_len b (digS_len b)]
def SpuPost (L:List Nat) (w:World) (e:Ending) (w':World):Prop :=
 ∃ o,e=.returned (.tuple #[.slice (some ⟨o,0,none⟩) 32 32,.int .i64 0])∧w.heap.size≤o∧Blk w' o 5 (bnV L).toArray∧Below w.heap.size w w'
set_option maxRecDepth 100000 in
set_option maxHeartbeats 2000000 in
theorem spublic_any (b:List UInt8) (lb:b.length=32) (A:Option Addr) (c:Nat) (w:World) (hr:Rd w w.heap.size A (bytesV b)) (hc:32≤c) (hG:Sh.TabG w) :
  Calls Tryd.prog 9 #[.slice A 32 c] w (SpuPost (pubL (keyN b)) w):=by
 have HS:=zY (ssec_any b lb A c w hr hc hG);obtain ⟨K,hK⟩:∃ K,K=bsN ((secL b).take 32):=⟨_,rfl⟩;have hKl:K.length=32:=by rw [hK]; exact keyB_len b
 have hkv:leV (digs K)=keyN b:=by rw [hK]; exact keyB_val b
 rw [← hK] at HS;rw [← hkv];obtain ⟨B,hB⟩:∃ B,B=baseP:=⟨_,rfl⟩;obtain ⟨P,hP⟩:∃ P,P=bmP K:=⟨_,rfl⟩;have CB:=zY (show ∀ u,Calls Tryd.prog 17 #[] u (PtPost B u) from fun u=>by rw [hB]; exact base_any u);have CM:=zY (show ∀ A c u,Rd u u.heap.size A (bytesV K)→32≤c→Calls Tryd.prog 18 #[.agg (ptV B),.slice A 32 c] u (PtPost P u) from fun A c u h1 h2=>by rw [hB,hP]; exact bm_any K hKl A c u h1 h2);have CY:=zY (show ∀ u,Calls Tryd.prog 19 #[.agg (ptV P)] u (fun e w'=>∃ o,e=.returned (.slice (some ⟨o,0,none⟩) 32 32)∧u.heap.size≤o∧Blk w' o 5 (bnV (pubL (leV (digs K)))).toArray∧Below u.heap.size u w') from fun u=>by rw [hP]; exact bb_any K hKl u);obtain ⟨L,hL⟩:∃ L,L=pubL (leV (digs K)):=⟨_,rfl⟩;rw [← hL] at CY ⊢;clear hr hc hG hK hKl hkv hB hP hL lb;go_enter Tryd.func9,Tryd.ntmps9;go_wp2_with fail;refine calls_then HS.out ?_;rintro e w1 ⟨A1,c1,B1,d1,rfl,hc1,hd1,r1,r2,hb1⟩;have R1:=zY r1;have HB:=zY hb1;have HC1:=zY hc1;clear r1 r2 hb1 hc1 hd1;go_wp2_with fail;refine calls_then (CB.out _) ?_;rintro e w2 ⟨rfl,hb⟩;replace R1:=zY (rd_next R1.out hb);replace HB:=zY (HB.out.trans (hb.mono HB.out.size));clear hb;go_wp2_with fail;refine calls_then (CM.out _ _ _ R1.out HC1.out) ?_;rintro e w3 ⟨rfl,hb⟩;replace HB:=zY (HB.out.trans (hb.mono HB.out.size));clear hb;go_wp2_with fail;refine calls_then (CY.out _) ?_;rintro e w4 ⟨o,rfl,ho,hk,hb⟩;have HF:=zY (And.intro (Nat.le_trans HB.out.size ho) (And.intro hk (HB.out.trans (hb.mono HB.out.size))));clear ho hk hb;go_wp2_with fail;go_ret2;exact ⟨o,rfl,HF.out⟩
theorem spublic_bad (n:Nat) (hn:n≠32) (hl:n≤1000) (A:Option Addr) (c:Nat) (w:World) :
  Calls Tryd.prog 9 #[.slice A n c] w (fun e w'=>e=.returned (.tuple #[.slice none 0 0,.int .i64 1])∧w'=w):=by
 have h1:¬ (n:Int)=32:=by omega
 have h2:(n:Int)≤1000:=by omega
 clear hn hl;go_enter Tryd.func9,Tryd.ntmps9;go_wp2_with fail;go_ret2;exact ⟨rfl,rfl⟩
end Go.Proofs.YtdgheahbafnboaaDoor
/-
  Walk: the law's seed.
-/
namespace Go.Proofs.YtdgheahbafnboaaDoor
set_option linter.unusedSimpArgs false
set_option linter.unusedVariables false
open Go.RowKit
def seedK (b:List UInt8) (k:Nat):List UInt8:=b.take k++List.replicate (32 - k) 0
def seedB (b:List UInt8):List UInt8:=seedK b (min 32 b.length)
theorem seedK_len {b:List UInt8} {k:Nat} (h:k≤b.length) (h2:k≤32):(seedK b k).length=32:=by
 rw [seedK,List.length_append,List.length_take,List.length_replicate];omega
theorem seedB_len (b:List UInt8):(seedB b).length=32:=seedK_len (Nat.min_le_right _ _) (Nat.min_le_left _ _)
theorem seedK_set {b:List UInt8} {k:Nat} (h:k<b.length) (h2:k<32):(seedK b k).set k b[k]=seedK b (k+1):=by
 have e:List.replicate (32 - k) (0:UInt8)=0 :: List.replicate (32 - (k+1)) 0:=by
  rw [show 32 - k=(32 - (k+1))+1 by omega,List.replicate_succ]
 rw [seedK,seedK,List.set_append_right _ _ (by rw [List.length_take]; omega),List.length_take,show k - min k b.length=0 by omega,e,List.set_cons_zero,List.take_succ_eq_append_getElem h,List.append_assoc];rfl
def SeedPost (L:List UInt8) (w:World) (e:Ending) (w':World):Prop :=
 ∃ o,e=.returned (.slice (some ⟨o,0,none⟩) 32 32)∧w.heap.size≤o∧Blk w' o 5 (bytesV L).toArray∧Below w.heap.size w w'
set_option maxRecDepth 100000 in
set_option maxHeartbeats 2000000 in
theorem seed_any (b:List UInt8) (A:Option Addr) (c:Nat) (w:World) (hr:Rd w w.heap.size A (bytesV b)) (hc:b.length≤c) (hcm:c≤9223372036854775807) :
  Calls Tryd.prog 13 #[.slice A b.length c] w (SeedPost (seedB b) w):=by
 have hmk:∀ u:World,(Instr.makeSlice 22 (.int .i64 32) (.int .i64 32)).run Tryd.prog u=.ok (.slice (some ⟨u.heap.size,0,none⟩) 32 32) (u.alloc (.cells (bytesV (List.replicate 32 0)).toArray 5)):=fun _=>by kernel_rfl
 obtain ⟨n,hn⟩:∃ n,n=b.length:=⟨_,rfl⟩;rw [← hn] at hc ⊢;have HR:=zY hr;have HN:=zY hn;have hn63:(n:Int)≤9223372036854775807:=by omega
 clear hr hn hcm;go_enter Tryd.func13,Tryd.ntmps13;go_wp2_with fail;have hb0:=below_new w (.cells (bytesV (List.replicate 32 0)).toArray 5);have hk0:=Blk.new w 5 (bytesV (List.replicate 32 0)).toArray;generalize ho:w.heap.size=o at hk0 ⊢;have HB0:=zY hb0;have HK0:=zY hk0;have HO:=zY ho;clear hb0 hk0 ho hmk
 go_loopw [4] (fun i wr=>∃ k:Nat,k≤32∧k≤n∧i=.int .i64 (k:Int)∧Blk wr o 5 (bytesV (seedK b k)).toArray∧Below w.heap.size w wr) (fun i _=>32 - (intOf i).toNat)
 case atStart=>exact ⟨0,by omega,by omega,rfl,HK0.out,HB0.out⟩
 case round =>
  clear HB0 HK0;obtain ⟨k,hk,hkn,rfl,hblk,hbel⟩:=hrel
  by_cases hlt:k<32
  ·have hlt':(k:Int)<32:=by omega
   by_cases hln:k<n
   ·have hln':(k:Int)<(n:Int):=by omega
    have hkl:k<b.length:=by rw [← HN.out]; exact hln
    obtain ⟨ad,rfl,hadl,hcell⟩:=(HR.out.below hbel).at_ (k:=k) (by rw [bytesV_length]; exact hkl);obtain ⟨x,hx⟩:∃ x,x=b[k].toNat:=⟨_,rfl⟩;have hxl:(x:Int)<256:=by have:=b[k].toNat_lt; omega
    have hbv:(bytesV b)[k]'(by rw [bytesV_length]; exact hkl)=.int .u8 (x:Int):=by
     rw [hx]; simp [bytesV,byteV]
    rw [hbv] at hcell;have hq:wr.frozen? ⟨o,k,none⟩=false:=hblk.free k
    obtain ⟨y,hcl⟩:∃ y:Nat,wr.cell? ⟨o,k,none⟩=some (.int .u8 (y:Int)) :=
     ⟨((seedK b k)[k]'(by rw [seedK_len (by omega) hk]; exact hlt)).toNat,by
      rw [hblk.cell,List.getElem?_toArray,bytesV,List.getElem?_map,List.getElem?_eq_getElem (by rw [seedK_len (by omega) hk]; exact hlt)]
      rfl⟩
    have hset:Blk (wr.setCell ⟨o,k,none⟩ (.int .u8 (x:Int))) o 5 (bytesV (seedK b (k+1))).toArray:=by
     have h:=blk_setCell_at (i:=k) hblk (.int .u8 (x:Int))
     rw [List.setIfInBounds_toArray,show (bytesV (seedK b k)).set k (.int .u8 (x:Int))=bytesV (seedK b (k+1)) by
      rw [← seedK_set hkl hlt,hx,bytesV,bytesV,List.map_set]
      rfl] at h
     exact h
    have hset2:Below w.heap.size w (wr.setCell ⟨o,k,none⟩ (.int .u8 (x:Int))):=(wrote_setCell_at wr o k (.int .u8 (x:Int))).below hbel (Nat.le_of_eq HO.out) hbel.size;have HSET:=zY (And.intro hset hset2);clear hx hbv hkl hblk hbel hset hset2 hadl;go_wp2_with fail;exact ⟨⟨k+1,by omega,by omega,by go_num,HSET.out⟩,by simp [intOf]; omega⟩
   ·have hln':¬ (k:Int)<(n:Int):=by omega
    have hkn2:k=n:=by omega
    have HF:=zY (show w.heap.size≤o∧Blk wr o 5 (bytesV (seedB b)).toArray∧Below w.heap.size w wr from ⟨Nat.le_of_eq HO.out,by rw [seedB,← HN.out,show min 32 n=k by omega]; exact hblk,hbel⟩);clear hblk hbel;go_wp2_with fail;go_ret;exact ⟨o,rfl,HF.out⟩
  ·have hk32:k=32:=by omega
   have hlt':¬ (k:Int)<32:=by omega
   have HF:=zY (show w.heap.size≤o∧Blk wr o 5 (bytesV (seedB b)).toArray∧Below w.heap.size w wr from ⟨Nat.le_of_eq HO.out,by rw [seedB,← HN.out,show min 32 n=k by omega]; exact hblk,hbel⟩);clear hblk hbel;go_wp2_with fail;go_ret;exact ⟨o,rfl,HF.out⟩
end Go.Proofs.YtdgheahbafnboaaDoor
/-
  Walk: the scalar's MulAdd.
-/
namespace Go.Proofs.YtdgheahbafnboaaDoor
set_option linter.unusedSimpArgs false
set_option linter.unusedVariables false
open Go.RowKit
theorem min_run32 (n m:Nat) (h:min n 32=m) (ts:Array TypeId) (t:TypeId) (u:World):(Builtin.min_ ts t #[.int .i64 (n:Int),.int .i64 32]).run Tryd.prog u=.ok (.int .i64 (m:Int)) u:=by
 by_cases h1:n≤32
 ·obtain rfl:m=n:=by omega
  have h3:¬ (32:Int)<(m:Int):=by omega
  simp [Builtin.min_,Builtin.min2,List.foldlM]
  try omega
 ·obtain rfl:m=32:=by omega
  have h3:(32:Int)<(n:Int):=by omega
  simp [Builtin.min_,Builtin.min2,List.foldlM]
  try omega
theorem leV_next (b:List Nat) (j:Nat) (h:j<b.length):leV (b.take (j+1))=leV (b.take j)+256^j*b.getD j 0:=by
 rw [take_snoc h,leV_append,List.length_take,Nat.min_eq_left (Nat.le_of_lt h),List.getD_eq_getElem?_getD,List.getElem?_eq_getElem h];show _+_*(b[j]+256*0)=_;simp
structure MA (C:Nat) (a b:List Nat) (i j:Nat) (X:List Int):Prop where
 len:X.length=64
 bd:∀ p,0≤X.getD p 0∧X.getD p 0≤255+65025*(if p<i+j then (i:Int)+1 else (i:Int))
 val:vI X=(C:Int)+(leV (a.take i):Int)*(leV b:Int)+256^i*((a.getD i 0:Nat)*(leV (b.take j):Int))
theorem ma_alg {V C S B p x t q y z:Int} (h:V=C+S*B+p*(x*t)) (hz:x*y=z):V+z*(p*q)=C+S*B+p*(x*(t+q*y)):=by grind
theorem MA.step {C:Nat} {a b:List Nat} {i j:Nat} {X:List Int} (h:MA C a b i j X) (ha:Dg a) (hb:Dg b) (hi:i<32) (hj:j<32) (hbl:j<b.length) {y:Int} {z:Nat} (hy:y=X.getD (i+j) 0) (hz:a.getD i 0*b.getD j 0=z) :
  MA C a b i (j+1) (X.set (i+j) (y+(z:Int))):=by
 have hzb:z≤255*255:=by rw [← hz]; exact Nat.mul_le_mul (by have:=dg_getD ha i; omega) (by have:=dg_getD hb j; omega)
 refine ⟨by rw [List.length_set]; exact h.len,fun p=>?_,?_⟩
 ·have h0:=h.bd p
  by_cases hp:p=i+j
  ·subst hp;rw [getD_set_same _ (by rw [h.len]; omega),if_pos (by omega)];rw [if_neg (by omega),← hy] at h0;omega
  ·rw [getD_set_ne _ (by omega)];refine ⟨h0.1,Int.le_trans h0.2 ?_⟩
   split <;> split <;> omega
 ·rw [vI_set _ _ _ (by rw [h.len]; omega),← hy,show y+(z:Int) - y=(z:Int) by omega,leV_next b j hbl,Int.pow_add];have hz':((a.getD i 0:Nat):Int)*((b.getD j 0:Nat):Int)=(z:Int):=by rw [← hz]; simp
  rw [Int.natCast_add,Int.natCast_mul,Int.natCast_pow];exact ma_alg h.val hz'
theorem ma_row {V C S B p x:Int} (h:V=C+S*B+p*(x*B)):V=C+(S+p*x)*B:=by grind
theorem MA.row {C:Nat} {a b:List Nat} {i j:Nat} {X:List Int} (h:MA C a b i j X) (hj:b.length≤j) (hj2:j≤32) (hi:i<a.length):MA C a b (i+1) 0 X:=by
 refine ⟨h.len,fun p=>?_,?_⟩
 ·have h0:=h.bd p;refine ⟨h0.1,Int.le_trans h0.2 ?_⟩
  split <;> split <;> omega
 ·have hv:=h.val;rw [List.take_of_length_le hj] at hv;rw [leV_next a i hi,Int.natCast_add,Int.natCast_mul,Int.natCast_pow];rw [show leV (b.take 0)=0 from rfl,Int.natCast_zero,Int.mul_zero,Int.mul_zero,Int.add_zero];exact ma_row hv
theorem MA.start {C:List Nat} (a b:List Nat) (hd:Dg C) (hl:C.length≤64):MA (leV C) a b 0 0 (padI C):=by
 refine ⟨padI_len hl,fun p=>?_,?_⟩
 ·rw [padI,getD_mapI];have:=dg_getD (part_dg hd 64) p;refine ⟨by omega,?_⟩
  split <;> omega
 ·rw [padI_val]; simp [leV]
theorem MA.fin {C:Nat} {a b:List Nat} {i:Nat} {X:List Int} (h:MA C a b i 0 X) (hi:a.length≤i) (hi2:i≤32):(∀ p,-4194304≤X.getD p 0∧X.getD p 0≤4194304)∧vI X=((leV a*leV b+C:Nat):Int):=by
 refine ⟨fun p=>?_,?_⟩
 ·have h0:=h.bd p
  split at h0 <;> omega
 ·have hv:=h.val;rw [List.take_of_length_le hi,show leV (b.take 0)=0 from rfl,Int.natCast_zero,Int.mul_zero,Int.mul_zero,Int.add_zero] at hv;rw [hv,Int.natCast_add,Int.natCast_mul];omega
set_option maxRecDepth 100000 in
set_option maxHeartbeats 4000000 in
theorem scl_muladd (a b d:List Nat) (ha:Dg a) (hb:Dg b) (hd:Dg d) (la:a.length=32) (lb:b.length=32) (ld:d.length=32) (A B D:Option Addr) (ca cb cd:Nat) (w:World)
  (ra:Rd w w.heap.size A (bnV a)) (rb:Rd w w.heap.size B (bnV b)) (rd:Rd w w.heap.size D (bnV d)) :
  Calls Tryd.prog 22 #[.slice A 32 ca,.slice B 32 cb,.slice D 32 cd] w (SclPost ((leV a*leV b+leV d)%LN) w):=by
 have hst0:=scl_new w;have hmin:=min_run32 32 32 rfl;have RA:=zY ra;have RB:=zY rb;have RD:=zY rd;have HA:=zY ha;have HB:=zY hb;have HD:=zY hd;have LA:=zY la;have LB:=zY lb;have LD:=zY ld;have HST0:=zY hst0;clear ra rb rd ha hb hd la lb ld hst0;go_enter Tryd.func22,Tryd.ntmps22;go_wp2_with fail;generalize hg:w.heap.size=g at HST0 RA RB RD ⊢;have HG:=zY hg;clear hg
 change Code.wp Tryd.prog _ _ _ (w.alloc (.cells (iV (padI [])).toArray 62))
 generalize w.alloc (.cells (iV (padI [])).toArray 62)=w9 at HST0 ⊢
 go_loopw [14] (fun jv wr=>∃ k:Nat,k≤32∧jv=.int .i64 (k:Int)∧D64 w g (padI (d.take k)) wr) (fun jv _=>(32 - intOf jv).toNat)
 case atStart=>exact ⟨0,by omega,rfl,HST0.out⟩
 case round =>
  clear HST0;obtain ⟨k,hk,rfl,hst⟩:=hrel
  by_cases hlt:k<32
  ·have hlt':(k:Int)<32:=by omega
   have hk64:(k:Int)<64:=by omega
   have hkl:k<d.length:=by rw [LD.out]; omega
   have hrd:=RD.out.below (by have h:=hst.bel; rw [HG.out] at h; exact h);obtain ⟨ad,rfl,d1⟩:=bn_cell hrd hkl;obtain ⟨y,hy⟩:∃ y,y=d.getD k 0:=⟨_,rfl⟩;have hyl:(y:Int)<256:=by have:=dg_getD HD.out k; rw [← hy] at this; omega
   rw [← hy] at d1;have htl:(d.take k).length=k:=by rw [List.length_take]; omega
   have hset:(padI (d.take k)).set k (y:Int)=padI (d.take (k+1)):=by
    rw [padI_set _ k y htl (by omega),take_snoc hkl,hy,List.getD_eq_getElem?_getD,List.getElem?_eq_getElem hkl]; rfl
   have hd0:∃ z,wr.cell? ⟨g,k,none⟩=some (.int .i64 z):=⟨_,by rw [hst.x.cell,iV_at (by rw [padI_len (by rw [htl]; omega)]; omega)]⟩;obtain ⟨z0,d0⟩:=hd0;have q0:=hst.x.free k;have HSET:=zY hset;have HST:=zY hst;have HK:=zY hlt;clear hst hset hrd hy hkl htl hk hlt;go_wp2_with fail;refine ⟨⟨k+1,HK.out,by go_num,?_⟩,by have:=HK.out; simp [intOf]; omega⟩;have h:=blk_setCell_at (i:=k) HST.out.x (.int .i64 (y:Int));rw [iV_set,HSET.out] at h;exact HST.out.put (wrote_setCell_at _ _ _ _) h
  ·obtain rfl:k=32:=by omega
   have hma:=MA.start a b HD.out (by rw [LD.out]; decide);rw [List.take_of_length_le (by rw [LD.out]; exact Nat.le_refl _)] at hst;have HST:=zY hst;have HMA:=zY hma;clear hst hma;go_wp2_with fail;obtain ⟨wo1,rfl⟩:∃ x:World,x=wr:=⟨_,rfl⟩
   go_loopw [28] (fun iv wr=>∃ (i:Nat) (X:List Int),i≤32∧iv=.int .i64 (i:Int)∧MA (leV d) a b i 0 X∧D64 w g X wr) (fun iv _=>(32 - intOf iv).toNat)
   case atStart=>exact ⟨0,padI d,by omega,rfl,HMA.out,HST.out⟩
   case round =>
    clear HST HMA;obtain ⟨i,X,hi,rfl,hma,hst⟩:=hrel
    by_cases hlti:i<32
    ·have hlti':(i:Int)<32:=by omega
     have HST:=zY hst;have HMA:=zY hma;have HLI:=zY hlti;clear hst hma hi hlti;go_wp2_with fail;obtain ⟨wo2,rfl⟩:∃ x:World,x=wr:=⟨_,rfl⟩
     go_loopw [34] (fun jv wr=>∃ (j:Nat) (Y:List Int),j≤32∧jv=.int .i64 (j:Int)∧MA (leV d) a b i j Y∧D64 w g Y wr) (fun jv _=>(32 - intOf jv).toNat)
     case atStart=>exact ⟨0,X,by omega,rfl,HMA.out,HST.out⟩
     case round =>
      clear HST HMA;obtain ⟨j,Y,hj,rfl,hma,hst⟩:=hrel
      by_cases hltj:j<32
      ·have hltj':(j:Int)<32:=by omega
       obtain ⟨p,hp⟩:∃ p,p=i+j:=⟨_,rfl⟩;have hpi:(i:Int)+(j:Int)=(p:Int):=by omega
       have hp64:(p:Int)<64:=by have:=HLI.out; omega
       have hel:∀ u,D64 w g Y u→Below g w u:=fun u h=>by have h2:=h.bel; rw [HG.out] at h2; exact h2
       obtain ⟨ad,rfl,_⟩:=bn_cell (RA.out.below (hel _ hst)) (k:=i) (by rw [LA.out]; exact HLI.out);obtain ⟨bd,rfl,_⟩:=bn_cell (RB.out.below (hel _ hst)) (k:=j) (by rw [LB.out]; exact hltj);obtain ⟨x,hx⟩:∃ x,x=a.getD i 0:=⟨_,rfl⟩;obtain ⟨y,hy⟩:∃ y,y=b.getD j 0:=⟨_,rfl⟩;have hxl:x<256:=by rw [hx]; exact dg_getD HA.out i
       have hyl:y<256:=by rw [hy]; exact dg_getD HB.out j
       obtain ⟨z,hz⟩:∃ z,x*y=z:=⟨_,rfl⟩;have hzl:z≤255*255:=by rw [← hz]; exact Nat.mul_le_mul (by omega) (by omega)
       have hzi:(x:Int)*(y:Int)=(z:Int):=by rw [← hz]; simp
       obtain ⟨e,he⟩:∃ e,e=Y.getD p 0:=⟨_,rfl⟩;have hbd:=hma.bd p;rw [← he] at hbd
       have heb:0≤e∧e≤2100000:=by
        have:=HLI.out
        split at hbd <;> omega
       obtain ⟨r,hr⟩:∃ r,e+(z:Int)=r:=⟨_,rfl⟩;have hrb:0≤r∧r≤3000000:=by omega
       have hstep:=hma.step HA.out HB.out HLI.out hltj (by rw [LB.out]; exact hltj) (y:=e) (z:=z) (by rw [he,hp]) (by rw [← hx,← hy,hz]);rw [hr,← hp] at hstep
       have dA:∀ u,D64 w g Y u→u.cell? (ad.add i)=some (.int .u8 (x:Int)):=fun u h=>by
        obtain ⟨ad2,h1,h2⟩:=bn_cell (RA.out.below (hel _ h)) (k:=i) (by rw [LA.out]; exact HLI.out)
        injection h1 with h1
        rw [h1,h2,hx]
       have dB:∀ u,D64 w g Y u→u.cell? (bd.add j)=some (.int .u8 (y:Int)):=fun u h=>by
        obtain ⟨ad2,h1,h2⟩:=bn_cell (RB.out.below (hel _ h)) (k:=j) (by rw [LB.out]; exact hltj)
        injection h1 with h1
        rw [h1,h2,hy]
       have dX:∀ u,D64 w g Y u→u.cell? ⟨g,p,none⟩=some (.int .i64 e):=fun u h=>by
        rw [h.x.cell,iV_at (by rw [hma.len]; omega),he]
       have DA:=zY dA;have DB:=zY dB;have DX:=zY dX;have HSTEP:=zY hstep;have HJ:=zY hltj;have hxl':(x:Int)<256:=by omega
       have hyl':(y:Int)<256:=by omega
       have hzl':(z:Int)≤65025:=by omega
       obtain ⟨le,he1⟩:=heb;obtain ⟨lr,hr1⟩:=hrb;have HC0:=hst.drew;clear dA dB dX hstep hst hma hbd he hx hy hz hel hp hj hltj hxl hyl hzl;go_wp2_with fail;refine wp_region_det (fun u=>D64 w g Y u) (fun u=>D64 w g (Y.set p r) u) [(0,some 37),(1,some 38),(2,some 39),(3,some 40),(4,some 41),(5,some 42),(6,some 43),(7,some 44),(8,some 45),(9,some 46),(10,some 47),(11,some 48),(12,some 49),(13,some 50),(14,some 51),(15,some 52),(16,some 53),(17,some 54),(18,none)] (by kernel_rfl) (by kernel_rfl) (by decide) (by kernel_rfl) (fun _=>rfl) HC0 ?_;apply DetL.next
       ·apply dP [];exact fun _=>rfl;rfl;rintro vals - w1 hC1 E hE;simp only [sP] at hE ⊢;go_wp2;exact .mk (hE _ hC1)
       apply DetL.next
       ·apply dP [];exact fun _=>rfl;rfl;rintro vals ⟨-,-⟩ w1 hC1 E hE;simp only [sP] at hE ⊢;go_wp2;exact .mk (hE _ hC1)
       apply DetL.next
       ·apply dP [(0,some 37),(1,some 38)];exact fun _=>rfl;rfl;rintro vals ⟨⟨-,f0⟩,f1⟩ w1 hC1 E hE;simp only [sP,f0,f1] at hE ⊢;clear f0 f1;go_wp2;exact .mk (hE _ hC1)
       apply DetL.next
       ·apply dP [(2,some 39)];exact fun _=>rfl;rfl;intro vals vq w1 hC1 E hE;have f2:=vq.2;clear vq;simp only [sP,f2] at hE ⊢;clear f2;go_wp2;exact .mk (hE _ hC1)
       apply DetL.next
       ·apply dP [(3,some 40)];exact fun _=>rfl;rfl;intro vals vq w1 hC1 E hE;have f3:=vq.2;clear vq;have d0:=DX.out _ hC1;simp only [sP,f3] at hE ⊢;clear f3;go_wp2;exact .mk (hE _ hC1)
       apply DetL.next
       ·apply dP [];exact fun _=>rfl;rfl;intro vals vq w1 hC1 E hE;clear vq;simp only [sP] at hE ⊢;go_wp2;exact .mk (hE _ hC1)
       apply DetL.next
       ·apply dP [];exact fun _=>rfl;rfl;intro vals vq w1 hC1 E hE;clear vq;simp only [sP] at hE ⊢;go_wp2;exact .mk (hE _ hC1)
       apply DetL.next
       ·apply dP [(5,some 42),(6,some 43)];exact fun _=>rfl;rfl;intro vals vq w1 hC1 E hE;have f5:=vq.1.2;have f6:=vq.2;clear vq;simp only [sP,f5,f6] at hE ⊢;clear f5 f6;go_wp2;exact .mk (hE _ hC1)
       apply DetL.next
       ·apply dP [(7,some 44)];exact fun _=>rfl;rfl;intro vals vq w1 hC1 E hE;have f7:=vq.2;clear vq;have d0:=DA.out _ hC1;simp only [sP,f7] at hE ⊢;clear f7;go_wp2;exact .mk (hE _ hC1)
       apply DetL.next
       ·apply dP [(8,some 45)];exact fun _=>rfl;rfl;intro vals vq w1 hC1 E hE;have f8:=vq.2;clear vq;simp only [sP,f8] at hE ⊢;clear f8;go_wp2;exact .mk (hE _ hC1)
       apply DetL.next
       ·apply dP [];exact fun _=>rfl;rfl;intro vals vq w1 hC1 E hE;clear vq;simp only [sP] at hE ⊢;go_wp2;exact .mk (hE _ hC1)
       apply DetL.next
       ·apply dP [];exact fun _=>rfl;rfl;intro vals vq w1 hC1 E hE;clear vq;simp only [sP] at hE ⊢;go_wp2;exact .mk (hE _ hC1)
       apply DetL.next
       ·apply dP [(10,some 47),(11,some 48)];exact fun _=>rfl;rfl;intro vals vq w1 hC1 E hE;have f10:=vq.1.2;have f11:=vq.2;clear vq;simp only [sP,f10,f11] at hE ⊢;clear f10 f11;go_wp2;exact .mk (hE _ hC1)
       apply DetL.next
       ·apply dP [(12,some 49)];exact fun _=>rfl;rfl;intro vals vq w1 hC1 E hE;have f12:=vq.2;clear vq;have d0:=DB.out _ hC1;simp only [sP,f12] at hE ⊢;clear f12;go_wp2;exact .mk (hE _ hC1)
       apply DetL.next
       ·apply dP [(13,some 50)];exact fun _=>rfl;rfl;intro vals vq w1 hC1 E hE;have f13:=vq.2;clear vq;simp only [sP,f13] at hE ⊢;clear f13;go_wp2;exact .mk (hE _ hC1)
       apply DetL.next
       ·apply dP [(9,some 46),(14,some 51)];exact fun _=>rfl;rfl;intro vals vq w1 hC1 E hE;have f9:=vq.1.1.1.1.1.2;have f14:=vq.2;clear vq;simp only [sP,f9,f14] at hE ⊢;clear f9 f14;go_wp2;exact .mk (hE _ hC1)
       apply DetL.next
       ·apply dP [(4,some 41),(15,some 52)];exact fun _=>rfl;rfl;intro vals vq w1 hC1 E hE;have f4:=vq.1.1.1.1.1.1.1.1.1.1.1.2;have f15:=vq.2;clear vq;simp only [sP,f4,f15] at hE ⊢;clear f4 f15;go_wp2;exact .mk (hE _ hC1)
       apply DetL.next
       ·apply dP [(2,some 39),(0,some 37),(1,some 38),(2,some 39),(3,some 40),(4,some 41),(5,some 42),(6,some 43),(7,some 44),(8,some 45),(9,some 46),(10,some 47),(11,some 48),(12,some 49),(13,some 50),(14,some 51),(15,some 52),(16,some 53)];exact fun _=>rfl;rfl;rintro vals ⟨⟨⟨⟨⟨⟨⟨⟨⟨⟨⟨⟨⟨⟨⟨⟨⟨-,f0⟩,f1⟩,f2⟩,f3⟩,f4⟩,f5⟩,f6⟩,f7⟩,f8⟩,f9⟩,f10⟩,f11⟩,f12⟩,f13⟩,f14⟩,f15⟩,f16⟩ w1 hC1 E hE;simp only [sP,f0,f1,f2,f3,f4,f5,f6,f7,f8,f9,f10,f11,f12,f13,f14,f15,f16] at hE ⊢;clear f0 f1 f2 f3 f4 f5 f6 f7 f8 f9 f10 f11 f12 f13 f14 f15 f16;go_wp2;exact .mk (hE _ hC1)
       apply DetL.last (v:=undef)
       ·apply dP [(17,some 54),(16,some 53),(0,some 37),(1,some 38),(2,some 39),(3,some 40),(4,some 41),(5,some 42),(6,some 43),(7,some 44),(8,some 45),(9,some 46),(10,some 47),(11,some 48),(12,some 49),(13,some 50),(14,some 51),(15,some 52),(16,some 53)];exact fun _=>rfl;rfl;rintro vals ⟨⟨⟨⟨⟨⟨⟨⟨⟨⟨⟨⟨⟨⟨⟨⟨⟨⟨-,f0⟩,f1⟩,f2⟩,f3⟩,f4⟩,f5⟩,f6⟩,f7⟩,f8⟩,f9⟩,f10⟩,f11⟩,f12⟩,f13⟩,f14⟩,f15⟩,f16⟩,f17⟩ w1 hC1 E hE;have d0:=DX.out _ hC1;have q0:=hC1.x.free p;simp only [sP,f0,f1,f2,f3,f4,f5,f6,f7,f8,f9,f10,f11,f12,f13,f14,f15,f16,f17] at hE ⊢;clear f0 f1 f2 f3 f4 f5 f6 f7 f8 f9 f10 f11 f12 f13 f14 f15 f16 f17;go_wp2;refine .mk (hE _ (hC1.put (wrote_setCell_at _ _ _ _) ?_));have h:=blk_setCell_at (i:=p) hC1.x (.int .i64 r);rw [iV_set] at h;exact h
       rintro vals ⟨⟨⟨⟨⟨⟨⟨⟨⟨⟨⟨⟨⟨⟨⟨⟨⟨⟨⟨-,f0⟩,f1⟩,f2⟩,f3⟩,f4⟩,f5⟩,f6⟩,f7⟩,f8⟩,f9⟩,f10⟩,f11⟩,f12⟩,f13⟩,f14⟩,f15⟩,f16⟩,f17⟩,f18⟩ w1 hC1;simp only [sP,f0,f1,f2,f3,f4,f5,f6,f7,f8,f9,f10,f11,f12,f13,f14,f15,f16,f17,f18];clear f0 f1 f2 f3 f4 f5 f6 f7 f8 f9 f10 f11 f12 f13 f14 f15 f16 f17 f18;have HW1:=zY hC1;clear HC0 hC1;go_wp2_with fail;exact ⟨⟨j+1,Y.set p r,HJ.out,by go_num,HSTEP.out,HW1.out⟩,by have:=HJ.out; simp [intOf]; omega⟩
      ·obtain rfl:j=32:=by omega
       have hrow:=hma.row (by rw [LB.out]; exact Nat.le_refl _) (Nat.le_refl _) (by rw [LA.out]; exact HLI.out);have HROW:=zY hrow;have HST:=zY hst;clear hrow hst hma;go_wp2_with fail;exact ⟨⟨i+1,Y,HLI.out,by go_num,HROW.out,HST.out⟩,by have:=HLI.out; simp [intOf]; omega⟩
    ·obtain rfl:i=32:=by omega
     obtain ⟨hbd,hval⟩:=hma.fin (by rw [LA.out]; exact Nat.le_refl _) (Nat.le_refl _);have hpost:=left_any X hma.len hbd g wr hst.x;have hlv:=left_val (left_ok hma.len hbd) hval;have HST:=zY hst;have HPOST:=zY hpost;have HVAL:=zY hlv;clear hst hpost hlv hma hbd hval;go_wp2_with fail;refine calls_then HPOST.out ?_;rintro e w2 ⟨o,rfl,ho,hbk,hb2⟩;rw [HVAL.out] at hbk
     have HF:=zY (show w.heap.size≤o∧Blk w2 o 5 (bnV (digN 32 ((leV a*leV b+leV d)%LN))).toArray∧Below w.heap.size w w2 from
      ⟨Nat.le_trans HST.out.bel.size ho,hbk,HST.out.bel.trans (hb2.mono HST.out.lo)⟩)
     clear ho hbk hb2;go_wp2_with fail;go_ret;exact ⟨o,rfl,HF.out⟩
end Go.Proofs.YtdgheahbafnboaaDoor
/-
  Walk: sign's Sign.
-/
namespace Go.Proofs.YtdgheahbafnboaaDoor
set_option linter.unusedSimpArgs false
set_option linter.unusedVariables false
open Go.RowKit
def DgPost (d:List UInt8) (u:World) (e:Ending) (w':World):Prop :=
 ∃ A c,e=.returned (.slice A 64 c)∧Rd w' w'.heap.size A (bytesV (Sh.digS Sh.F64 d))∧Below u.heap.size u w'
theorem dgPost {d:List UInt8} {u u0:World} {e:Ending} {w':World} (hb:Below u.heap.size u u0) (q:Sh.SumPost64 d u0 e w'):DgPost d u e w':=by
 obtain ⟨A,c,q1,q2,q3⟩:=q;exact ⟨A,c,q1,Rd.of_own (OwnX.of q2) (Nat.le_refl _),hb.trans (q3.mono hb.size)⟩
theorem dig2 (a b:List UInt8) (n:Nat) (la:a.length=32) (lb:b.length=n) (hn:n≤200) (A B:Option Addr) (ca cb:Nat) (u:World) (ra:Rd u u.heap.size A (bytesV a)) (rb:Rd u u.heap.size B (bytesV b)) (hG:Sh.TabG u) :
  Calls Tryd.prog 21 #[.slice (some ⟨u.heap.size,0,none⟩) 2 2] (u.alloc (.cells #[.slice A 32 ca,.slice B n cb] 22)) (DgPost (a++b) u):=by
 have hb:=below_new u (.cells #[.slice A 32 ca,.slice B n cb] 22)
 have h:=sdigest_any [a,b] [.slice A a.length ca,.slice B b.length cb] u.heap.size _ ⟨rfl,fun i x hi=>by
  match i with
  | 0=>injection hi with hi; subst hi; exact ⟨A,ca,rfl,rd_next ra hb⟩
  | 1=>injection hi with hi; subst hi; exact ⟨B,cb,rfl,rd_next rb hb⟩
  | i+2=>cases hi⟩ (by rw [la,lb]; exact Blk.new u _ _) (by simp; omega) (by show 2≤4; decide) (hG.below hb hG.size)
 rw [show [a,b].flatten=a++b by simp] at h;exact Calls.mono h fun e w' q=>dgPost hb q
theorem dig3 (a b d:List UInt8) (n:Nat) (la:a.length=32) (lb:b.length=32) (ld:d.length=n) (hn:n≤200) (A B D:Option Addr) (ca cb cd:Nat) (u:World) (ra:Rd u u.heap.size A (bytesV a)) (rb:Rd u u.heap.size B (bytesV b)) (rd:Rd u u.heap.size D (bytesV d)) (hG:Sh.TabG u) :
  Calls Tryd.prog 21 #[.slice (some ⟨u.heap.size,0,none⟩) 3 3] (u.alloc (.cells #[.slice A 32 ca,.slice B 32 cb,.slice D n cd] 22)) (DgPost (a++b++d) u):=by
 have hb:=below_new u (.cells #[.slice A 32 ca,.slice B 32 cb,.slice D n cd] 22)
 have h:=sdigest_any [a,b,d] [.slice A a.length ca,.slice B b.length cb,.slice D d.length cd] u.heap.size _ ⟨rfl,fun i x hi=>by
  match i with
  | 0=>injection hi with hi; subst hi; exact ⟨A,ca,rfl,rd_next ra hb⟩
  | 1=>injection hi with hi; subst hi; exact ⟨B,cb,rfl,rd_next rb hb⟩
  | 2=>injection hi with hi; subst hi; exact ⟨D,cd,rfl,rd_next rd hb⟩
  | i+3=>cases hi⟩ (by rw [la,lb,ld]; exact Blk.new u _ _) (by simp; omega) (by show 3≤4; decide) (hG.below hb hG.size)
 rw [show [a,b,d].flatten=a++b++d by simp] at h;exact Calls.mono h fun e w' q=>dgPost hb q
theorem bn_byB (N:Nat):bnV (digN 32 N)=bytesV (byB N):=by rw [← byN_dig,bnV_bsN (byN_lt N)]; rfl
def NbPost (R:List UInt8) (u:World) (e:Ending) (w':World):Prop :=
 ∃ o,e=.returned (.slice (some ⟨o,0,none⟩) 32 32)∧Rd w' w'.heap.size (some ⟨o,0,none⟩) (bytesV R)∧Below u.heap.size u w'
theorem nbPost {N:Nat} {u:World} {e:Ending} {w':World} (q:SclPost N u e w'):NbPost (byB N) u e w':=by
 obtain ⟨o,q1,q2,q3,q4⟩:=q;exact ⟨o,q1,by rw [← bn_byB]; exact Rd.of_blk q3 q3.lt,q4⟩
theorem sreduce_any (d:List UInt8) (A:Option Addr) (c:Nat) (u:World) (hr:Rd u u.heap.size A (bytesV (Sh.digS Sh.F64 d))) :
  Calls Tryd.prog 20 #[.slice A 64 c] u (NbPost (byB (hshN d)) u):=by
 have hl:(digs (Sh.digS Sh.F64 d)).length=64:=by rw [digs,List.length_map,digS_len]
 have h:=scl_reduce (digs (Sh.digS Sh.F64 d)) (digs_dg _) A c u (by rw [bnV_digs']; exact hr) (by rw [hl]; decide);rw [hl,List.take_of_length_le (by rw [hl]; decide)] at h;exact Calls.mono h fun e w' q=>nbPost q
theorem smuladd_any (H K R:List UInt8) (lh:H.length=32) (lk:K.length=32) (lr:R.length=32) (A B D:Option Addr) (ca cb cd:Nat) (u:World) (ra:Rd u u.heap.size A (bytesV H)) (rb:Rd u u.heap.size B (bytesV K)) (rd:Rd u u.heap.size D (bytesV R)) :
  Calls Tryd.prog 22 #[.slice A 32 ca,.slice B 32 cb,.slice D 32 cd] u (NbPost (byB ((leV (digs H)*leV (digs K)+leV (digs R))%LN)) u):=by
 have h:=scl_muladd (digs H) (digs K) (digs R) (digs_dg _) (digs_dg _) (digs_dg _) (by rw [digs,List.length_map,lh]) (by rw [digs,List.length_map,lk]) (by rw [digs,List.length_map,lr]) A B D ca cb cd u
  (by rw [bnV_digs']; exact ra) (by rw [bnV_digs']; exact rb) (by rw [bnV_digs']; exact rd)
 exact Calls.mono h fun e w' q=>nbPost q
theorem own_blk {w:World} {o base:Nat} {e:TypeId} {xs:List Value} {n:Nat} (h:Blk w o e xs.toArray) (hl:xs.length=n) (hn:n≤9223372036854775807) (hb:base≤o):OwnZ w base e 1 (.slice (some ⟨o,0,none⟩) n n) n xs :=
 ⟨by rw [hl,Nat.mul_one],.inr ⟨o,n,xs.toArray,rfl,hb,h,Nat.le_refl _,by unfold maxLen; omega,by simp [hl],by simp [← hl]⟩⟩
def SsgPost (L:List UInt8) (w:World) (e:Ending) (w':World):Prop :=
 ∃ A c,e=.returned (.tuple #[.slice A 64 c,.int .i64 0])∧OwnZ w' w.heap.size 5 1 (.slice A 64 c) 64 (bytesV L)∧Below w.heap.size w w'
set_option maxRecDepth 100000 in
set_option maxHeartbeats 4000000 in
theorem ssign_any (b m:List UInt8) (lb:b.length=32) (lm:m.length≤200) (A M:Option Addr) (c cm:Nat) (w:World) (rb:Rd w w.heap.size A (bytesV b)) (rm:Rd w w.heap.size M (bytesV m)) (hc:32≤c) (hG:Sh.TabG w) :
  Calls Tryd.prog 10 #[.slice A 32 c,.slice M m.length cm] w (SsgPost (sigB b m) w):=by
 obtain ⟨n,hn⟩:∃ n,n=m.length:=⟨_,rfl⟩;rw [← hn] at lm ⊢;obtain ⟨K,hK⟩:∃ K,K=bsN ((secL b).take 32):=⟨_,rfl⟩;have hKl:K.length=32:=by rw [hK]; exact keyB_len b
 have hkv:leV (digs K)=keyN b:=by rw [hK]; exact keyB_val b
 obtain ⟨F,hF⟩:∃ F,F=prefB b:=⟨_,rfl⟩;have hFl:F.length=32:=by rw [hF]; exact prefB_len b
 have CP:=zY (show ∀ u,Rd u u.heap.size A (bytesV b)→Sh.TabG u→Calls Tryd.prog 9 #[.slice A 32 c] u (SpuPost (pubL (keyN b)) u) from fun u h g=>spublic_any b lb A c u h hc g);have CS:=zY (show ∀ u,Rd u u.heap.size A (bytesV b)→Sh.TabG u→Calls Tryd.prog 16 #[.slice A 32 c] u (fun e w'=>∃ A c B d,e=.returned (.tuple #[.slice A 32 c,.slice B 32 d])∧32≤c∧32≤d∧Rd w' w'.heap.size A (bytesV K)∧Rd w' w'.heap.size B (bytesV F)∧Below u.heap.size u w') from fun u h g=>by rw [hK,hF]; exact ssec_any b lb A c u h hc g);have CD1:=zY (show ∀ u A B ca cb,Rd u u.heap.size A (bytesV F)→Rd u u.heap.size B (bytesV m)→Sh.TabG u→Calls Tryd.prog 21 #[.slice (some ⟨u.heap.size,0,none⟩) 2 2] (u.alloc (.cells #[.slice A 32 ca,.slice B n cb] 22)) (DgPost (F++m) u) from fun u A B ca cb h1 h2 g=>dig2 F m n hFl hn.symm lm A B ca cb u h1 h2 g);obtain ⟨R,hR⟩:∃ R,R=byB (secN b m):=⟨_,rfl⟩;have hRl:R.length=32:=by rw [hR,byB_length]
 have hRv:leV (digs R)=secN b m:=by rw [hR]; exact digs_byB_val (hshN_lt _)
 have CR1:=zY (show ∀ u A c,Rd u u.heap.size A (bytesV (Sh.digS Sh.F64 (F++m)))→Calls Tryd.prog 20 #[.slice A 64 c] u (NbPost R u) from fun u A c h=>by
  have e:=sreduce_any (F++m) A c u h;rw [show byB (hshN (F++m))=R by rw [hR,secN,hF,List.append_nil]] at e;exact e)
 obtain ⟨B,hB⟩:∃ B,B=baseP:=⟨_,rfl⟩;obtain ⟨P,hP⟩:∃ P,P=bmP R:=⟨_,rfl⟩;have CB:=zY (show ∀ u,Calls Tryd.prog 17 #[] u (PtPost B u) from fun u=>by rw [hB]; exact base_any u);have CM:=zY (show ∀ A c u,Rd u u.heap.size A (bytesV R)→32≤c→Calls Tryd.prog 18 #[.agg (ptV B),.slice A 32 c] u (PtPost P u) from fun A c u h1 h2=>by rw [hB,hP]; exact bm_any R hRl A c u h1 h2);obtain ⟨T,hT⟩:∃ T,T=ptB (secN b m):=⟨_,rfl⟩;obtain ⟨U,hU⟩:∃ U,U=ptB (keyN b):=⟨_,rfl⟩;have hTl:T.length=32:=by rw [hT,ptB_len]
 have hUl:U.length=32:=by rw [hU,ptB_len]
 have hTb:bnV (pubL (secN b m))=bytesV T:=by rw [hT,ptB,bnV_bsN (pubL_dg _)]
 have hUb:bnV (pubL (keyN b))=bytesV U:=by rw [hU,ptB,bnV_bsN (pubL_dg _)]
 have CY:=zY (show ∀ u,Calls Tryd.prog 19 #[.agg (ptV P)] u (fun e w'=>∃ o,e=.returned (.slice (some ⟨o,0,none⟩) 32 32)∧u.heap.size≤o∧Blk w' o 5 (bytesV T).toArray∧Below u.heap.size u w') from fun u=>by
  have e:=bb_any R hRl u;rw [hRv,hTb,← hP] at e;exact e)
 have CD2:=zY (show ∀ u A B D ca cb cd,Rd u u.heap.size A (bytesV T)→Rd u u.heap.size B (bytesV U)→Rd u u.heap.size D (bytesV m)→Sh.TabG u→Calls Tryd.prog 21 #[.slice (some ⟨u.heap.size,0,none⟩) 3 3] (u.alloc (.cells #[.slice A 32 ca,.slice B 32 cb,.slice D n cd] 22)) (DgPost (T++U++m) u) from fun u A B D ca cb cd h1 h2 h3 g=>dig3 T U m n hTl hUl hn.symm lm A B D ca cb cd u h1 h2 h3 g);obtain ⟨H,hH⟩:∃ H,H=byB (hshN (T++U++m)):=⟨_,rfl⟩;have hHl:H.length=32:=by rw [hH,byB_length]
 have hHv:leV (digs H)=hshN (T++U++m):=by rw [hH]; exact digs_byB_val (hshN_lt _)
 have CR2:=zY (show ∀ u A c,Rd u u.heap.size A (bytesV (Sh.digS Sh.F64 (T++U++m)))→Calls Tryd.prog 20 #[.slice A 64 c] u (NbPost H u) from fun u A c h=>by
  rw [hH]; exact sreduce_any (T++U++m) A c u h)
 obtain ⟨S,hS⟩:∃ S,S=byB (sigN b m):=⟨_,rfl⟩;have hSl:S.length=32:=by rw [hS,byB_length]
 have CA:=zY (show ∀ u Ah ch Ak ck Ar cr,Rd u u.heap.size Ah (bytesV H)→Rd u u.heap.size Ak (bytesV K)→Rd u u.heap.size Ar (bytesV R)→Calls Tryd.prog 22 #[.slice Ah 32 ch,.slice Ak 32 ck,.slice Ar 32 cr] u (NbPost S u) from fun u Ah ch Ak ck Ar cr h1 h2 h3=>by
  have h:=smuladd_any H K R hHl hKl hRl Ah Ak Ar ch ck cr u h1 h2 h3;rw [hHv,hkv,hRv,hT,hU,show byB ((hshN (ptB (secN b m)++ptB (keyN b)++m)*keyN b+secN b m)%LN)=S from hS.symm] at h;exact h)
 have hsig:bytesV (sigB b m)=bytesV T++bytesV S:=by rw [sigB,← hT,← hS,bytesV_append]
 have RB:=zY rb;have RM:=zY rm;have HUB:=zY hUb;have HTL:=zY (show (bytesV T).length=32 by rw [bytesV_length,hTl]);have HSL:=zY (show (bytesV S).length=32*1 by rw [bytesV_length,hSl]);have HSG:=zY hsig;have HB:=zY (Below.refl w.heap.size w);have HG:=zY hG;clear rb rm hc hG lb lm hn hK hKl hkv hF hFl hR hRl hRv hB hP hT hU hTl hUl hTb hUb hH hHl hHv hS hSl hsig;go_enter Tryd.func10,Tryd.ntmps10;go_wp2_with fail;refine calls_then (CP.out _ RB.out HG.out) ?_;rintro e w1 ⟨o1,rfl,ho1,hk1,hb⟩;rw [HUB.out] at hk1;replace HB:=zY (HB.out.trans (hb.mono HB.out.size));replace HG:=zY (HG.out.below hb HG.out.size);replace RB:=zY (rd_next RB.out hb);replace RM:=zY (rd_next RM.out hb);have RU:=zY (Rd.of_blk hk1 hk1.lt);clear ho1 hk1 hb;go_wp2_with fail;refine calls_then (CS.out _ RB.out HG.out) ?_;rintro e w2 ⟨A1,c1,B1,d1,rfl,hc1,hd1,r1,r2,hb⟩;replace HB:=zY (HB.out.trans (hb.mono HB.out.size));replace HG:=zY (HG.out.below hb HG.out.size);replace RM:=zY (rd_next RM.out hb);replace RU:=zY (rd_next RU.out hb);have RK:=zY r1;have RF:=zY r2;clear r1 r2 hb hc1 hd1 RB;go_wp2_with fail;refine calls_then (CD1.out _ _ _ _ _ RF.out RM.out HG.out) ?_;rintro e w3 ⟨A3,c3,rfl,r,hb⟩;replace HB:=zY (HB.out.trans (hb.mono HB.out.size));replace HG:=zY (HG.out.below hb HG.out.size);replace RM:=zY (rd_next RM.out hb);replace RU:=zY (rd_next RU.out hb);replace RK:=zY (rd_next RK.out hb);have RD:=zY r;clear r hb RF;go_wp2_with fail;refine calls_then (CR1.out _ _ _ RD.out) ?_;rintro e w4 ⟨o4,rfl,r,hb⟩;replace HB:=zY (HB.out.trans (hb.mono HB.out.size));replace HG:=zY (HG.out.below hb HG.out.size);replace RM:=zY (rd_next RM.out hb);replace RU:=zY (rd_next RU.out hb);replace RK:=zY (rd_next RK.out hb);have RR:=zY r;clear r hb RD;go_wp2_with fail;refine calls_then (CB.out _) ?_;rintro e w5 ⟨rfl,hb⟩;replace HB:=zY (HB.out.trans (hb.mono HB.out.size));replace HG:=zY (HG.out.below hb HG.out.size);replace RM:=zY (rd_next RM.out hb);replace RU:=zY (rd_next RU.out hb);replace RK:=zY (rd_next RK.out hb);replace RR:=zY (rd_next RR.out hb);clear hb;go_wp2_with fail;refine calls_then (CM.out _ _ _ RR.out (Nat.le_refl _)) ?_;rintro e w6 ⟨rfl,hb⟩;replace HB:=zY (HB.out.trans (hb.mono HB.out.size));replace HG:=zY (HG.out.below hb HG.out.size);replace RM:=zY (rd_next RM.out hb);replace RU:=zY (rd_next RU.out hb);replace RK:=zY (rd_next RK.out hb);replace RR:=zY (rd_next RR.out hb);clear hb;go_wp2_with fail;refine calls_then (CY.out _) ?_;rintro e w7 ⟨o7,rfl,ho7,hk7,hb⟩;have HO7:=zY (Nat.le_trans HB.out.size ho7);replace HB:=zY (HB.out.trans (hb.mono HB.out.size));replace HG:=zY (HG.out.below hb HG.out.size);replace RM:=zY (rd_next RM.out hb);replace RU:=zY (rd_next RU.out hb);replace RK:=zY (rd_next RK.out hb);replace RR:=zY (rd_next RR.out hb);have KT:=zY hk7;clear hk7 ho7 hb;go_wp2_with fail;refine calls_then (CD2.out _ _ _ _ _ _ _ (Rd.of_blk KT.out KT.out.lt) RU.out RM.out HG.out) ?_;rintro e w8 ⟨A8,c8,rfl,r,hb⟩;replace HB:=zY (HB.out.trans (hb.mono HB.out.size));replace RK:=zY (rd_next RK.out hb);replace RR:=zY (rd_next RR.out hb);replace KT:=zY (KT.out.below hb KT.out.lt);have RD:=zY r;clear r hb RU RM HG;go_wp2_with fail;refine calls_then (CR2.out _ _ _ RD.out) ?_;rintro e w9 ⟨o9,rfl,r,hb⟩;replace HB:=zY (HB.out.trans (hb.mono HB.out.size));replace RK:=zY (rd_next RK.out hb);replace RR:=zY (rd_next RR.out hb);replace KT:=zY (KT.out.below hb KT.out.lt);have RH:=zY r;clear r hb RD;go_wp2_with fail;refine calls_then (CA.out _ _ _ _ _ _ _ RH.out RK.out RR.out) ?_;rintro e w10 ⟨o10,rfl,r,hb⟩;replace HB:=zY (HB.out.trans (hb.mono HB.out.size));replace KT:=zY (KT.out.below hb KT.out.lt);have RS:=zY r;have HOW:=zY (own_blk KT.out HTL.out (by decide) HO7.out);clear r hb RH RK RR;go_wp2_with (refine wpList_append_rdZ (m:=32) sl_bytes rfl rfl HOW.out rfl rfl HSL.out (by decide) RS.out (bytesV_one S) (by unfold maxLen; omega) (by omega) HB.out.size ?_; intro A11 c11 w11 hown11 hg11; have HOWN:=zY hown11; have HB11:Hid (Below w.heap.size w w11):=zY (below_grow HB.out HOW.out.x HB.out.size hg11); clear hown11 hg11);go_ret2;exact ⟨A11,c11,rfl,by rw [HSG.out]; exact HOWN.out,HB11.out⟩
theorem ssign_bad (n:Nat) (hn:n≠32) (hl:n≤1000) (A M:Option Addr) (c k cm:Nat) (w:World) :
  Calls Tryd.prog 10 #[.slice A n c,.slice M k cm] w (fun e w'=>e=.returned (.tuple #[.slice none 0 0,.int .i64 1])∧w'=w):=by
 have HP:=zY (spublic_bad n hn hl A c w);clear hn hl;go_enter Tryd.func10,Tryd.ntmps10;go_wp2_with fail;refine calls_then HP.out ?_;rintro e w1 ⟨rfl,rfl⟩;go_wp2_with fail;go_ret2;exact ⟨rfl,rfl⟩
end Go.Proofs.YtdgheahbafnboaaDoor
/-
  Plain: the document's example.
-/
namespace Go.Proofs.YtdgheahbafnboaaDoor
set_option linter.unusedSimpArgs false
set_option linter.unusedVariables false
open Go.RowKit
set_option maxRecDepth 100000
def rk:List UInt8:=[0x9d,0x61,0xb1,0x9d,0xef,0xfd,0x5a,0x60,0xba,0x84,0x4a,0xf4,0x92,0xec,0x2c,0xc4,0x44,0x49,0xc5,0x69,0x7b,0x32,0x69,0x19,0x70,0x3b,0xac,0x03,0x1c,0xae,0x7f,0x60]
def rkK:List UInt8:=[48,124,131,134,79,40,51,203,66,122,46,241,192,10,1,60,253,255,39,104,217,128,192,163,165,32,240,6,144,77,233,79]
def rkR:Nat:=2015312323900227545039973048451112962192803170366412514267238242679089760755
theorem rkK_eq:bsN ((secL rk).take 32)=rkK:=by decide +kernel
theorem rkR_eq:secN rk []=rkR:=by decide +kernel
theorem rkP_eq:(bytP (bmP rkK)).take 4=[0xd7,0x5a,0x98,0x01]:=by decide +kernel
theorem rkS_eq:(bytP (bmP (byB rkR))).take 4=[0xe5,0x56,0x43,0x00]:=by decide +kernel
theorem rk_pub:(pubL (keyN rk)).take 4=[0xd7,0x5a,0x98,0x01]:=by
 rw [← keyB_val,rkK_eq,← bmP_bytes (by decide),rkP_eq]
theorem rk_sig:(sigB rk []).take 4=[0xe5,0x56,0x43,0x00]:=by
 have hL:rkR<LN:=by decide +kernel
 have h:(pubL (secN rk [])).take 4=[0xe5,0x56,0x43,0x00]:=by
  rw [rkR_eq,← digs_byB_val hL,← bmP_bytes (byB_length _),rkS_eq]
 rw [sigB,List.take_append_of_le_length (by rw [ptB_len]; decide),ptB,bsN,← List.map_take,h]
 decide
end Go.Proofs.YtdgheahbafnboaaDoor
/-
  Walk: the law's lives.
-/
namespace Go.Proofs.YtdgheahbafnboaaDoor
set_option linter.unusedSimpArgs false
set_option linter.unusedVariables false
open Go.RowKit
theorem rk_v:(bytesV rk).toArray=#[.int .u8 157,.int .u8 97,.int .u8 177,.int .u8 157,.int .u8 239,.int .u8 253,.int .u8 90,.int .u8 96,.int .u8 186,.int .u8 132,.int .u8 74,.int .u8 244,.int .u8 146,.int .u8 236,.int .u8 44,.int .u8 196,.int .u8 68,.int .u8 73,.int .u8 197,.int .u8 105,.int .u8 123,.int .u8 50,.int .u8 105,.int .u8 25,.int .u8 112,.int .u8 59,.int .u8 172,.int .u8 3,.int .u8 28,.int .u8 174,.int .u8 127,.int .u8 96]:=by rfl
theorem bn4 {w:World} {o:Nat} {L:List Nat} {a b c d:Nat} (h:Blk w o 5 (bnV L).toArray) (h4:L.take 4=[a,b,c,d]) :
  w.cell? ⟨o,0,none⟩=some (.int .u8 (a:Int))∧w.cell? ⟨o,1,none⟩=some (.int .u8 (b:Int))∧w.cell? ⟨o,2,none⟩=some (.int .u8 (c:Int))∧w.cell? ⟨o,3,none⟩=some (.int .u8 (d:Int)):=by
 have e:∀ (i x:Nat),[a,b,c,d][i]?=some x→i<4→w.cell? ⟨o,i,none⟩=some (.int .u8 (x:Int)):=fun i x hx hi=>by
  have h1:L[i]?=some x:=by rw [← hx,← h4,List.getElem?_take,if_pos hi]
  rw [h.cell,List.getElem?_toArray,bnV,List.getElem?_map,h1];rfl
 exact ⟨e 0 a rfl (by decide),e 1 b rfl (by decide),e 2 c rfl (by decide),e 3 d rfl (by decide)⟩
theorem by4 {w:World} {g B n c:Nat} {l:List UInt8} {x0 x1 x2 x3:UInt8} (h:OwnX w B 5 1 (.slice (some ⟨g,0,none⟩) n c) n (bytesV l)) (h4:l.take 4=[x0,x1,x2,x3]) :
  w.cell? ⟨g,0,none⟩=some (.int .u8 (x0.toNat:Int))∧w.cell? ⟨g,1,none⟩=some (.int .u8 (x1.toNat:Int))∧w.cell? ⟨g,2,none⟩=some (.int .u8 (x2.toNat:Int))∧w.cell? ⟨g,3,none⟩=some (.int .u8 (x3.toNat:Int)):=by
 have e:∀ (i:Nat) (x:UInt8),[x0,x1,x2,x3][i]?=some x→i<4→w.cell? ⟨g,i,none⟩=some (.int .u8 (x.toNat:Int)):=fun i x hx hi=>by
  have h1:l[i]?=some x:=by rw [← hx,← h4,List.getElem?_take,if_pos hi]
  exact h.atN (by rw [bytesV,List.getElem?_map,h1]; rfl)
 exact ⟨e 0 x0 rfl (by decide),e 1 x1 rfl (by decide),e 2 x2 rfl (by decide),e 3 x3 rfl (by decide)⟩
set_option maxRecDepth 100000 in
set_option maxHeartbeats 2000000 in
theorem lives_any (w:World) (hG:Sh.TabG w):Calls Tryd.prog 11 #[] w (BoolPost true w):=by
 have hb0:=below_new w (.cells (bytesV rk).toArray 5);have hk0:=Blk.new w 5 (bytesV rk).toArray;have CP:=zY (spublic_any rk (by decide) (some ⟨w.heap.size,0,none⟩) 32 _ (Rd.of_blk hk0 hk0.lt) (Nat.le_refl _) (hG.below hb0 hG.size));have CS:=zY (fun u (h:Rd u u.heap.size (some ⟨w.heap.size,0,none⟩) (bytesV rk)) (g:Sh.TabG u)=>ssign_any rk [] (by decide) (by decide) (some ⟨w.heap.size,0,none⟩) none 32 0 u h (Rd.nil _ _ _) (Nat.le_refl _) g);have R0:=zY (Rd.of_blk hk0 hk0.lt);have HB:=zY hb0;have HG:=zY (hG.below hb0 hG.size);obtain ⟨LP,hLP⟩:∃ L,L=pubL (keyN rk):=⟨_,rfl⟩;obtain ⟨LS,hLS⟩:∃ L,L=sigB rk []:=⟨_,rfl⟩;have e1:=rk_pub;have e2:=rk_sig;rw [← hLP] at CP e1;rw [← hLS] at CS e2;rw [rk_v] at CP;have E1:=zY e1;have E2:=zY e2;clear hb0 hk0 hG hLP hLS e1 e2;go_enter Tryd.func11,Tryd.ntmps11;go_wp2_with fail;refine calls_then CP.out ?_;rintro e w1 ⟨o1,rfl,ho1,hk1,hb⟩;rw [← rk_v] at hb;replace HB:=zY (HB.out.trans (hb.mono HB.out.size));replace HG:=zY (HG.out.below hb HG.out.size);replace R0:=zY (rd_next R0.out hb);have HK1:=zY hk1;clear ho1 hk1 hb CP;go_wp2_with fail;refine calls_then (CS.out _ R0.out HG.out) ?_;rintro e w2 ⟨A2,c2,rfl,ho2,hb⟩;replace HB:=zY (HB.out.trans (hb.mono HB.out.size));obtain ⟨g2,ys,rfl,hg2,hc2,_⟩:=OwnZ.blk ho2 (by decide);obtain ⟨d0,d1,d2,d3⟩:=bn4 (HK1.out.below hb HK1.out.lt) E1.out;obtain ⟨e0,e1,e2,e3⟩:=by4 ho2.x E2.out;clear ho2 hb hg2 HK1 E1 E2 CS R0 HG;simp at d0 d1 d2 d3 e0 e1 e2 e3;go_wp2_with fail;go_ret;exact ⟨rfl,HB.out⟩
end Go.Proofs.YtdgheahbafnboaaDoor
