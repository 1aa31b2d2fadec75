/-
  Joined texts: Jde Own Jfd Turned Cut32 Row32 Mix32 ShaS SumC Sum32 Top2 Fld Fw Byt Fb Rdp Rb Rl Nam TurnR RefT Rdx RefX ShaH RefB8 Dgs Less Roots Primes MulA MulB Root2 Root3 OfS HsS.
-/
import Derived.Test.YtlkikjeccamheaaGreatDoorProg
import Derived.BigQuiet
import Derived.Deep.QuietTactic
import Derived.IntWalk
import Derived.Deep.DeepCutAuto
import Derived.Stop.BytesEq
import Derived.Shelf.Bits.Mul64
import Derived.Shelf.Spec.BitsCarry
import Derived.Laws.MakeOwn
import Derived.Laws.OwnMore
import Derived.Test.YtlkikjeccamheaaGreatDoorJ3
import Derived.Test.YtlkikjeccamheaaGreatDoorJ1
import Derived.Test.YtlkikjeccamheaaGreatDoorJ2
namespace Go.Proofs.YtlkikjeccamheaaGreatDoor.Js
set_option linter.unusedSimpArgs false
set_option linter.unusedVariables false
set_option maxRecDepth 100000
set_option maxHeartbeats 4000000
open Go.RowKit
def decB (s:Bs):Bs:=(dec s).getD []
def decE (s:Bs):Int:=if (dec s).isSome then 0 else 13
def DecTo (s L:Bs) (m wv k:Nat):Prop:=dec s=(decS m wv (s.drop k)).map (L++·)
theorem DecTo.start (s:Bs):DecTo s [] 0 0 0:=by
 unfold DecTo dec;simp
theorem DecTo.bad {s L:Bs} {m wv k:Nat} (h:DecTo s L m wv k) (hk:k<s.length) (hb:idx64 s[k]<0):dec s=none:=by
 unfold DecTo at h;rw [h,List.drop_eq_getElem_cons hk,decS,if_pos hb];rfl
theorem DecTo.low {s L:Bs} {m wv k j:Nat} (h:DecTo s L m wv k) (hk:k<s.length) (hj:idx64 s[k]=(j:Int)) (hm:m+6<8):DecTo s L (m+6) (wv*64+j) (k+1):=by
 unfold DecTo at h ⊢;rw [h,List.drop_eq_getElem_cons hk,decS,hj,if_neg (by omega),if_pos hm];rfl
theorem DecTo.out {s L:Bs} {m wv k j:Nat} {z y:Nat} (h:DecTo s L m wv k) (hk:k<s.length) (hj:idx64 s[k]=(j:Int)) (hm:¬ m+6<8) (hz:z=(wv*64+j)/2^(m - 2)) (hy:y=(wv*64+j)%2^(m - 2)):DecTo s (L++[UInt8.ofNat z]) (m - 2) y (k+1):=by
 unfold DecTo at h ⊢;rw [h,List.drop_eq_getElem_cons hk,decS,hj,if_neg (by omega),if_neg hm,hy,hz];show Option.map _ (Option.map _ (decS (m - 2) ((wv*64+(j:Int).toNat)%2^(m - 2)) _))=_;rw [Option.map_map]
 congr 1
 funext r
 simp
theorem DecTo.fin {s L:Bs} {m wv k:Nat} (h:DecTo s L m wv k) (hk:k=s.length):dec s=if 6≤m∨wv≠0 then none else some L:=by
 unfold DecTo at h;rw [h,hk,List.drop_length,decS]
 split <;> simp
theorem or_low6:∀ (a:Fin 64) (x:Fin 64),bits .or .i64 ((a.1*64:Nat):Int) ((x.1:Nat):Int)=((a.1*64+x.1:Nat):Int):=by decide +kernel
theorem and_low8 {m V:Nat} (hm:m=2∨m=4∨m=6) (hV:V<2^(m+6)):bits .and .i64 (V:Int) (((2^(m - 2):Nat):Int) - 1)=((V%2^(m - 2):Nat):Int):=by
 have k1:∀ a:Fin 256,bits .and .i64 ((a.1:Nat):Int) 0=0:=by decide +kernel
 have k4:∀ (a:Fin 256) (b:Fin 4),bits .and .i64 ((a.1*4+b.1:Nat):Int) 3=((b.1:Nat):Int):=by decide +kernel
 have k16:∀ (a:Fin 256) (b:Fin 16),bits .and .i64 ((a.1*16+b.1:Nat):Int) 15=((b.1:Nat):Int):=by decide +kernel
 rcases hm with rfl | rfl | rfl
 ·have h:=k1 ⟨V,by simpa using hV⟩
  simpa [Nat.mod_one] using h
 ·have h:=k4 ⟨V/4,by simp at hV; omega⟩ ⟨V%4,Nat.mod_lt _ (by omega)⟩;rw [show V/4*4+V%4=V by omega] at h
  simpa using h
 ·have h:=k16 ⟨V/16,by simp at hV; omega⟩ ⟨V%16,Nat.mod_lt _ (by omega)⟩;rw [show V/16*16+V%16=V by omega] at h
  simpa using h
theorem ltr_idx2 {c:UInt8} (h:0≤idx64 c):∃ j:Nat,idx64 c=(j:Int)∧j<64:=⟨(idx64 c).toNat,by omega,(qcV h).2⟩
theorem byte_back {x:UInt8}:((x.toNat:Nat):Int).toNat.toUInt8=x:=by
 show Nat.toUInt8 x.toNat=x;simp
theorem pow_small8 {m:Nat} (hm:m=2∨m=4∨m=6):2^(m - 2)≤16:=by
 rcases hm with rfl | rfl | rfl <;> decide
theorem pow_split8 {m:Nat} (hm:m=2∨m=4∨m=6):2^(m+6)=256*2^(m - 2):=by
 rcases hm with rfl | rfl | rfl <;> decide
theorem sl_u88:SlT Tryz.prog 40 5 1 1:=SlT.mk1 (z:=.int .u8 0) Tryz.underlying40 (by kernel_rfl) rfl (by decide)
theorem decode_any (s:Bs) (hl:s.length≤100000) (w:World) :
  Calls Tryz.prog 24 #[.string (bs s)] w fun e w'=>∃ A c,e=.returned (.tuple #[.slice A (decB s).length c,.int .i64 (decE s)])∧(decB s).length≤c∧Rd w' w'.heap.size A (bytesV (decB s))∧Below w.heap.size w w':=by
 obtain ⟨n,hn⟩:=eX (s.length);have hsz:((bs s).size:Int)=(n:Int):=by rw [qay,hn]
 have HSZ:=zY hsz;have HN:=zY hn;have hn1:(n:Int)≤100000:=by omega
 have HIX:=zY (fun (x:UInt8) (u:World)=>show Calls Tryz.prog 43 #[.string ⟨#[65,66,67,68,69,70,71,72,73,74,75,76,77,78,79,80,81,82,83,84,85,86,87,88,89,90,97,98,99,100,101,102,103,104,105,106,107,108,109,110,111,112,113,114,115,116,117,118,119,120,121,122,48,49,50,51,52,53,54,55,56,57,45,95]⟩,.int .u8 ((x.toNat:Nat):Int)] u fun e w'=>e=.returned (.int .i64 (idx64 x))∧w'=u by
  have h:=idxb_any ⟨#[65,66,67,68,69,70,71,72,73,74,75,76,77,78,79,80,81,82,83,84,85,86,87,88,89,90,97,98,99,100,101,102,103,104,105,106,107,108,109,110,111,112,113,114,115,116,117,118,119,120,121,122,48,49,50,51,52,53,54,55,56,57,45,95]⟩ ((x.toNat:Nat):Int) u;rw [byte_back] at h;exact h)
 have HR0:=zY (Below.refl w.heap.size w);clear hn hl;go_enter Tryz.func24,Tryz.ntmps24;go_wp2_with fail
 go_loopw [4,5,6,11] (fun o x y z wr=>∃ (k m wv:Nat) (L:Bs) (A1:Option Addr) (c1:Nat),k≤n∧z=.int .i64 (k:Int)∧y=.int .i64 (m:Int)∧x=.int .i64 (wv:Int)∧o=.slice A1 L.length c1∧(m=0∨m=2∨m=4∨m=6)∧wv<2^m∧DecTo s L m wv k∧L.length≤k ∧
  OwnR wr w.heap.size 5 1 A1 c1 L.length (bytesV L)∧Below w.heap.size w wr) (fun _ _ _ z _=>n - (intOf z).toNat)
 case atStart=>exact ⟨0,0,0,[],none,0,Nat.zero_le _,rfl,rfl,rfl,rfl,.inl rfl,by decide,DecTo.start s,Nat.le_refl _,OwnR.nil _ _ _ _,HR0.out⟩
 case round =>
  obtain ⟨k,m,wv,L,A1,c1,hk,rfl,rfl,rfl,rfl,hm,hwv,hto,hLk,hown,hbel⟩:=hrel;have HTO:=zY hto;have HOW:=zY hown;have HBE:=zY hbel;have HWV:=zY hwv;have HMM:=zY hm;have HLK:=zY hLk;have hm6:(m:Int)≤6:=by omega
  have hwv64:wv<64:=Nat.lt_of_lt_of_le hwv (by rcases hm with rfl | rfl | rfl | rfl <;> decide);clear hto hown hbel hwv hLk hm
  by_cases hlt:k<n
  ·have hks:k<s.length:=by rw [← HN.out]; exact hlt
   have hkb:k<(bs s).size:=by have:=HSZ.out; omega
   have hlt':(k:Int)<(n:Int):=by omega
   obtain ⟨x,hx⟩:∃ x:UInt8,x=s[k]:=⟨_,rfl⟩;have hxv:(((bs s)[k]'hkb).toNat:Int)=((x.toNat:Nat):Int):=by rw [hx]; rfl
   have CI:=zY (HIX.out x);have HXX:=zY (show ∃ h:k<s.length,s[k]=x from ⟨hks,hx.symm⟩);have HLT:=zY hlt;have hxl:(x.toNat:Int)<256:=by have:=x.toNat_lt; omega
   clear hx hlt hks;go_wp2_with fail;refine qaa (CI.out _) ?_;rintro e w2 ⟨rfl,rfl⟩
   by_cases hneg:idx64 x<0
   ·have HDN:=zY (show dec s=none by
     obtain ⟨h,he⟩:=HXX.out;exact HTO.out.bad h (by rw [he]; exact hneg))
    have HPO:=zY (show decB s=[]∧decE s=13 by rw [decB,decE,HDN.out]; exact ⟨rfl,rfl⟩);go_wp2_with fail;go_ret2;exact ⟨none,0,by rw [HPO.out.1,HPO.out.2]; rfl,by rw [HPO.out.1]; exact Nat.le_refl _,by rw [HPO.out.1]; exact Rd.nil _ _ _,HBE.out⟩
   ·obtain ⟨j,hj,hj64⟩:=ltr_idx2 (c:=x) (by omega);have hor:bits .or .i64 ((wv:Int)*64) (j:Int)=((wv*64+j:Nat):Int):=by have:=or_low6 ⟨wv,hwv64⟩ ⟨j,hj64⟩; simpa using this
    have hwz:(wv:Int)<64:=by omega
    have hjz:(j:Int)<64:=by omega
    have hj0:¬ (j:Int)<0:=by omega
    rw [hj];obtain ⟨V,hV⟩:=eX (wv*64+j);rw [← hV] at hor;have HVE:=zY hV;have HJE:=zY hj;have HJ6:=zY hj64;clear hneg hj hV hwv64 hj64
    by_cases hm2:m+6<8
    ·have hge:¬ (8:Int)≤(m:Int)+6:=by omega
     have HM0:=zY (show m=0 by have:=HMM.out; omega)
     have HTN:=zY (show DecTo s L (m+6) V (k+1) by
      obtain ⟨h,he⟩:=HXX.out;rw [HVE.out];exact HTO.out.low h (by rw [he]; exact HJE.out) hm2)
     have HVL:=zY (show V<2^(m+6) by
      have h0:=HM0.out;have h1:=HWV.out;have h2:=HJ6.out;have h3:=HVE.out;rw [h0] at h1 ⊢;simp at h1;rw [h3,h1]
      simpa using h2)
     clear hm2;go_wp2_with fail;exact ⟨⟨k+1,m+6,V,L,A1,c1,HLT.out,by go_num,by go_num,rfl,rfl,by have:=HM0.out; omega,HVL.out,HTN.out,Nat.le_succ_of_le HLK.out,HOW.out,HBE.out⟩,by have:=HLT.out; simp [intOf]; omega⟩
    ·have hge:(8:Int)≤(m:Int)+6:=by omega
     have hm3:m=2∨m=4∨m=6:=by have:=HMM.out; omega
     obtain ⟨M,hM⟩:=eX (m - 2);have hMi:(m:Int)+6 - 8=(M:Int):=by omega
     have hM4:(M:Int)≤4:=by omega
     obtain ⟨P,hP⟩:=eX (2^M);have hPi:(2:Int)^M=(P:Int):=by rw [hP]; simp
     have hP1:1≤P:=by rw [hP]; exact Nat.pow_pos (by omega)
     have hP16:P≤16:=by rw [hP,hM]; exact pow_small8 hm3
     have hVlt:V<2^(m+6):=by
      rw [HVE.out,Nat.pow_add];have h1:=HWV.out;have h2:=HJ6.out;have:(wv+1)*2^6≤2^m*2^6:=Nat.mul_le_mul_right _ h1;omega
     have hlow:=and_low8 hm3 hVlt;obtain ⟨z,hz⟩:=eX (V/2^(m - 2));obtain ⟨y,hy⟩:=eX (V%2^(m - 2));have hyl:y<2^(m - 2):=by rw [hy]; exact Nat.mod_lt _ (Nat.pow_pos (by omega))
     have hz256:z<256:=by
      rw [hz,Nat.div_lt_iff_lt_mul (Nat.pow_pos (by omega)),← pow_split8 hm3];exact hVlt
     have HTN:=zY (show DecTo s (L++[UInt8.ofNat z]) (m - 2) y (k+1) by
      obtain ⟨h,he⟩:=HXX.out;exact HTO.out.out h (by rw [he]; exact HJE.out) hm2 (by rw [hz,HVE.out]) (by rw [hy,HVE.out]))
     rw [← hy,← hM,← hP] at hlow;have hzi:((V:Int)/(P:Int))=(z:Int):=by rw [hz,hP,hM]; simp
     have hz1:(z:Int)<256:=by omega
     have hzm:(z:Int)%256=(z:Int):=by omega
     have hpl:(P:Int)≤16:=by omega
     have hp1:1≤(P:Int):=by omega
     have hVz:(V:Int)<4096:=by
      have h1:=HVE.out;have h2:=HJ6.out;omega
     have HYL:=zY hyl;have HM3:=zY (show M=m - 2∧(m=2∨m=4∨m=6) from ⟨hM,hm3⟩);have HZB:=zY (show [Value.int .u8 (z:Int)]=bytesV [UInt8.ofNat z] by simp [bytesV,byteV]; omega);have hLL:(L.length:Int)≤100000:=by have:=HLK.out; have:=HLT.out; omega
     have hLN:=zY (Nat.le_refl L.length);clear hy hyl hz hP hM hm3 hVlt hP1 hP16 hz256 hm2;go_wp2_with (refine qaP (ys:=[.int .u8 (z:Int)]) sl_u88 rfl rfl HOW.out rfl rfl rfl rfl (by simp [Value.oneCell']) (by unfold maxLen; omega) (by omega) HBE.out.size ?_; intro A5 c5 w5 ho hg hn5);have HO5:=zY (show OwnR w5 w.heap.size 5 1 A5 c5 (L++[UInt8.ofNat z]).length (bytesV (L++[UInt8.ofNat z])) by rw [List.length_append,qaD,← HZB.out]; exact ho);have HB5:=zY (HBE.out.grown hg HBE.out.size (fun k hk=>(HOW.out.lt k hk).1));clear ho hg hn5;have hM:=HM3.out;exact ⟨⟨k+1,M,y,L++[UInt8.ofNat z],A5,c5,HLT.out,by go_num,rfl,rfl,by rw [List.length_append]; rfl,by omega,by rw [hM.1]; exact HYL.out,by rw [hM.1]; exact HTN.out,by rw [List.length_append]; exact Nat.succ_le_succ HLK.out,HO5.out,HB5.out⟩,by have:=HLT.out; simp [intOf]; omega⟩
  ·obtain rfl:k=n:=by omega
   have hfin:=HTO.out.fin HN.out
   by_cases h6:6≤m
   ·have h6':(6:Int)≤(m:Int):=by omega
    have HPO:=zY (show decB s=[]∧decE s=13 by rw [decB,decE,hfin,if_pos (.inl h6)]; exact ⟨rfl,rfl⟩);clear hfin h6;go_wp2_with fail;go_ret2;exact ⟨none,0,by rw [HPO.out.1,HPO.out.2]; rfl,by rw [HPO.out.1]; exact Nat.le_refl _,by rw [HPO.out.1]; exact Rd.nil _ _ _,HBE.out⟩
   ·have h6':¬ (6:Int)≤(m:Int):=by omega
    by_cases hw0:wv=0
    ·subst hw0;have HPO:=zY (show decB s=L∧decE s=0 by rw [decB,decE,hfin,if_neg (by omega)]; exact ⟨rfl,rfl⟩);clear hfin h6 hwv64;go_wp2_with fail;go_ret2;exact ⟨A1,c1,by rw [HPO.out.1,HPO.out.2]; rfl,by rw [HPO.out.1]; exact HOW.out.cap,by rw [HPO.out.1]; exact HOW.out.row.rd,HBE.out⟩
    ·have hw0':((wv:Int) == 0)=false:=by simp; exact hw0
     have HPO:=zY (show decB s=[]∧decE s=13 by rw [decB,decE,hfin,if_pos (.inr hw0)]; exact ⟨rfl,rfl⟩);clear hfin h6 hwv64 hw0;go_wp2_with fail;go_ret2;exact ⟨none,0,by rw [HPO.out.1,HPO.out.2]; rfl,by rw [HPO.out.1]; exact Nat.le_refl _,by rw [HPO.out.1]; exact Rd.nil _ _ _,HBE.out⟩
end Go.Proofs.YtlkikjeccamheaaGreatDoor.Js
namespace Go.Proofs.YtlkikjeccamheaaGreatDoor
set_option linter.unusedSimpArgs false
set_option linter.unusedVariables false
set_option maxRecDepth 100000
set_option maxHeartbeats 4000000
open Go.RowKit
theorem own_lt {w:World} {base e size n:Nat} {v:Value} {xs:List Value} (h:w.ownsRow base e size v n xs):∀ k,v.ownBlock=some k→base≤k∧k<w.heap.size:=(OwnX.of h).lt
theorem own_mono {w:World} {base base' e size n:Nat} {v:Value} {xs:List Value} (h:w.ownsRow base e size v n xs) (hb:base'≤base):w.ownsRow base' e size v n xs :=
 ⟨h.1,h.2.elim .inl fun ⟨g,cap,cur,hv,hg,r⟩=>.inr ⟨g,cap,cur,hv,Nat.le_trans hb hg,r⟩⟩
theorem own_cap {w:World} {base e size n c:Nat} {A:Option Addr} {xs:List Value} (h:OwnX w base e size (.slice A n c) n xs):n≤c∧c≤9223372036854775807:=by
 rcases h.2 with ⟨hv,hn⟩ | ⟨g,cap,cur,fz,hv,_,_,hnc,hcm,_⟩
 ·injection hv with _ _ h3; omega
 ·injection hv with _ _ h3; unfold maxLen at hcm; omega
section
variable {P:Program}
theorem qbC {w0:World} {y:Value} {ops:Array Oper} {rest:List Oper} {o:Oper} {a:Act} {Q:Exit→Act→World→Prop} {s x:Operand} {t e:TypeId} {bytes:Nat} (T:SlT P t e 1 bytes)
  (hgd:o.guard=none) (ho:o.op=.call { callee:=.builtin .append,args:=#[s,x],argTypes:=#[t,t] })
  {base n:Nat} {v:Value} {xs:List Value} {ad:Nat} (hown:w0.ownsRow base e 1 v n xs) (hs:a.eval s=v) (hx:a.eval x=.slice (some ⟨ad,0,none⟩) 1 1) (had:ad=w0.heap.size)
  (hy:y.oneCell'=true)
  (h63:n+1≤maxLen) (hbytes:(n+1)*bytes≤140737488355328) (hbase:base≤w0.heap.size)
  (h:∀ A c w',w'.ownsRow base e 1 (.slice A (n+1) c) (n+1) (xs++[y])→w0.grownBy w' v.ownBlock→wpList P ops Q rest (a.put o.dst (.slice A (n+1) c)) w') :
  wpList P ops Q (o :: rest) a (w0.alloc (.cells #[y] e)):=by
 subst had;obtain ⟨i,z,hi,hz,hsz,hby,hzs⟩:=T.info
 obtain ⟨v',w',hr,h2,h3,_,_⟩:=run_append_own_at (P:=P) (w0.alloc (.cells #[y] e)) base t o.type e i z 1 bytes T.und hi hz hsz hby hzs (by omega) v n xs (hown.alloc _) ⟨w0.heap.size,0,none⟩ 1 1 [y] rfl (fun j u hu=>cell_one_new _ _ _ j u hu)
  (by intro u hu; simp at hu; subst hu; exact hy) h63 hbytes (by simp; omega)
 have hv:∃ A c,v'=.slice A (n+1) c:=by
  rcases h2.2 with ⟨_,h0⟩ | ⟨g,cap,cur,rfl,_⟩
  ·omega
  ·exact ⟨_,_,rfl⟩
 obtain ⟨A,c,rfl⟩:=hv;refine qaH (R:=fun v' w1=>v'=.slice A (n+1) c∧w1=w') hgd ho hs hx ⟨_,_,hr,rfl,rfl⟩ ?_;rintro v' w1 ⟨rfl,rfl⟩;exact h _ _ _ h2 ((World.grownBy_alloc w0 _ _).trans h3)
end
end Go.Proofs.YtlkikjeccamheaaGreatDoor
namespace Go.Proofs.YtlkikjeccamheaaGreatDoor.Js
set_option linter.unusedSimpArgs false
set_option linter.unusedVariables false
set_option maxRecDepth 100000
set_option maxHeartbeats 4000000
open Go.RowKit
def kCell (k:Bs × Bs):Array Value:=#[.string (bs k.1),.string (bs k.2)]
theorem qdR (k:Bs × Bs):(kCell k).all (·.oneCell')=true:=by simp [kCell,Value.oneCell']
theorem qbR:(Tryz.prog.info? 38).map (·.size)=some 2:=by kernel_rfl
end Go.Proofs.YtlkikjeccamheaaGreatDoor.Js
namespace Go.Proofs.YtlkikjeccamheaaGreatDoor.Sh
set_option linter.unusedSimpArgs false
set_option linter.unusedVariables false
set_option maxRecDepth 100000
set_option maxHeartbeats 4000000
open Go.RowKit
def f64C:Array Value:=#[.int .i64 64,.int .i64 80,.int .i64 28,.int .i64 34,.int .i64 39,.int .i64 14,.int .i64 18,.int .i64 41,.int .i64 1,.int .i64 8,.int .i64 7,.int .i64 19,.int .i64 61,.int .i64 6]
def f32C:Array Value:=#[.int .i64 32,.int .i64 64,.int .i64 2,.int .i64 13,.int .i64 22,.int .i64 6,.int .i64 11,.int .i64 25,.int .i64 7,.int .i64 18,.int .i64 3,.int .i64 17,.int .i64 19,.int .i64 10]
theorem below_new (w:World) (o:Obj):Below w.heap.size w (w.alloc o):=(Below.refl _ _).alloc (Nat.le_refl _) _
theorem qbd (x n:Nat) (w:World) (hx:x<18446744073709551616) (hn:n<32) :
  Calls Tryz.prog 138 #[.agg f32C,.int .u64 x,.int .i64 n] w fun e w'=>e=.returned (.int .u64 (turnedN 32 x n:Nat))∧Below w.heap.size w w':=by
 have c0:=(Blk.new w 136 f32C).cell 0;simp only [f32C,List.getElem?_toArray,List.getElem?_cons_zero] at c0;have hnn:(0:Int)≤(32:Int) - (n:Int):=by omega
 have hn1:(n:Int)<32:=by omega
 have hx1:(x:Int)<18446744073709551616:=by omega
 have HX:=zY hx;clear hx;rw [f32C];go_enter Tryz.func138,Tryz.ntmps138;go_wp2
 go_quiet (fail)
 go_wp2;go_ret;refine ⟨qa3 ?_,qcb (below_new _ _) _⟩;exact rot_walk32' x n
theorem qaY:(Tryz.prog.info? 136).map (·.size)=some 14:=by kernel_rfl
theorem qcO (x p q c:Nat) (shift:Bool) (w:World) (hx:x<18446744073709551616) (hp:p<32) (hq:q<32) (hc:c<32) :
  Calls Tryz.prog 131 #[.agg f32C,.int .u64 x,.agg #[.int .i64 p,.int .i64 q,.int .i64 c],.bool shift] w fun e w'=>e=.returned (.int .u64 (allN 32 x p q c shift:Nat))∧Below w.heap.size w w':=by
 obtain ⟨W0,hW0⟩:=eX (((w.alloc (.cells f32C 136)).alloc (.cells #[.int .i64 p,.int .i64 q,.int .i64 c] 132)));have hb:Below w.heap.size w W0:=by rw [hW0]; exact (below_new _ _).alloc (by simp) _
 have hb4:Blk W0 w.heap.size 136 f32C:=by rw [hW0]; exact (Blk.new _ _ _).alloc _
 have hb6:Blk W0 (w.heap.size+1) 132 #[.int .i64 p,.int .i64 q,.int .i64 c]:=by
  have:=Blk.new (w.alloc (.cells f32C 136)) 132 #[.int .i64 p,.int .i64 q,.int .i64 c];rw [hW0]; simpa using this
 have hl4:=hb4.lt;have hl6:=hb6.lt;have HB:=zY hb;have H4:=zY hb4;have H6:=zY hb6;have HW:=zY hW0;have hu:=Tryz.underlying136;have hx1:(x:Int)<18446744073709551616:=by omega
 have HX:=zY hx;have hc1:(c:Int)<32:=by omega
 obtain ⟨L,hL⟩:∃ L:Nat,L=lastN 32 x c shift:=⟨_,rfl⟩;have HL:=zY hL;have c2:=hb6.cell 2;simp at c2;have hb40:=hb4;have c20:=c2;rw [hW0] at hb40 c20;have hHC:∀ (f:List Value),f=f:=fun _=>rfl;clear hb hb4 hb6 hW0 hx hL hHC
 cases shift with
 | false =>
  go_enter Tryz.func131,Tryz.ntmps131;go_wp2_with (refine qad (x:=.tmp 4) hb40 rfl rfl rfl hu rfl qaY ?_);rw [← HW.out];clear hb40 c20;refine qaa (qbd x c W0 HX.out hc) ?_;rintro e w1 ⟨rfl,hb1⟩;rw [show turnedN 32 x c=L from HL.out.symm];have g4:=H4.out.below hb1 hl4;have g6:=H6.out.below hb1 hl6;have hBw:=HB.out.trans (hb1.mono HB.out.size);have h14:=g4.lt;have h16:=g6.lt;have G4:=zY g4;have G6:=zY g6;have HBw:=zY hBw;clear g4 g6 hBw hb1 c2;go_wp2_with fail;have HC0:Below w1.heap.size w1 w1.drew:=(Below.refl _ _).drew;refine qaj (fun u=>Below w1.heap.size w1 u) (fun u=>Below w1.heap.size w1 u) [(0,some 20),(1,some 21),(2,some 22),(3,some 23),(4,some 24),(5,some 25),(6,some 26),(7,some 27),(8,some 28),(9,some 29),(10,some 30),(11,some 31),(12,some 32),(13,some 8)] (by kernel_rfl) (by kernel_rfl) (by decide) (by kernel_rfl) (fun _=>rfl) HC0 ?_;apply yN_
  ·apply dP [];exact fun _=>rfl;rfl;rintro vals - w1 hC1 E hE;simp only [sP] at hE ⊢;refine qad (G4.out.below hC1 h14) rfl rfl rfl hu rfl qaY ?_;go_wp2_with fail;exact .mk (hE _ hC1)
  apply yN_
  ·apply dP [];exact fun _=>rfl;rfl;rintro vals ⟨-,-⟩ w1 hC1 E hE;simp only [sP] at hE ⊢;go_wp2;exact .mk (hE _ hC1)
  apply yN_
  ·apply dP [];exact fun _=>rfl;rfl;intro vals vq w1 hC1 E hE;clear vq;simp only [sP] at hE ⊢;go_wp2;exact .mk (hE _ hC1)
  apply yN_
  ·apply dP [(2,some 22)];exact fun _=>rfl;rfl;intro vals vq w1 hC1 E hE;have d0:=(G6.out.below hC1 h16).cell 0;simp at d0;simp only [sP,vq] at hE ⊢;clear vq;go_wp2;exact .mk (hE _ hC1)
  apply yN_
  ·apply dP [(0,some 20),(1,some 21),(3,some 23)];exact fun _=>rfl;rfl;intro vals vq w1 hC1 E hE;simp only [sP,vq] at hE ⊢;clear vq;go_wp2_with fail;refine qaa (qbd x p _ HX.out hp) ?_;rintro e w2 ⟨rfl,hb2⟩;go_wp2_with fail;exact .mk (hE _ (hC1.trans (hb2.mono hC1.size)))
  apply yN_
  ·apply dP [];exact fun _=>rfl;rfl;intro vals vq w1 hC1 E hE;clear vq;simp only [sP] at hE ⊢;refine qad (G4.out.below hC1 h14) rfl rfl rfl hu rfl qaY ?_;go_wp2_with fail;exact .mk (hE _ hC1)
  apply yN_
  ·apply dP [];exact fun _=>rfl;rfl;intro vals vq w1 hC1 E hE;clear vq;simp only [sP] at hE ⊢;go_wp2;exact .mk (hE _ hC1)
  apply yN_
  ·apply dP [];exact fun _=>rfl;rfl;intro vals vq w1 hC1 E hE;clear vq;simp only [sP] at hE ⊢;go_wp2;exact .mk (hE _ hC1)
  apply yN_
  ·apply dP [(7,some 27)];exact fun _=>rfl;rfl;intro vals vq w1 hC1 E hE;have d0:=(G6.out.below hC1 h16).cell 1;simp at d0;simp only [sP,vq] at hE ⊢;clear vq;go_wp2;exact .mk (hE _ hC1)
  apply yN_
  ·apply dP [(5,some 25),(6,some 26),(8,some 28),(4,some 24)];exact fun _=>rfl;rfl;intro vals vq w1 hC1 E hE;simp only [sP,vq] at hE ⊢;clear vq;go_wp2_with fail;refine qaa (qbd x q _ HX.out hq) ?_;rintro e w2 ⟨rfl,hb2⟩;go_wp2_with fail;exact .mk (hE _ (hC1.trans (hb2.mono hC1.size)))
  apply yN_
  ·apply dP [(4,some 24),(9,some 29)];exact fun _=>rfl;rfl;intro vals vq w1 hC1 E hE;simp only [sP,vq] at hE ⊢;clear vq;go_wp2;exact .mk (hE _ hC1)
  apply yN_
  ·apply dP [];exact fun _=>rfl;rfl;intro vals vq w1 hC1 E hE;clear vq;simp only [sP] at hE ⊢;go_wp2;exact .mk (hE _ hC1)
  apply yN_
  ·apply dP [(10,some 30),(11,some 31)];exact fun _=>rfl;rfl;intro vals vq w1 hC1 E hE;simp only [sP,vq] at hE ⊢;clear vq;go_wp2;exact .mk (hE _ hC1)
  apply yL_
  ·apply dP [(12,some 32),(9,some 29),(0,some 20),(1,some 21),(2,some 22),(3,some 23),(4,some 24),(5,some 25),(6,some 26),(7,some 27),(8,some 28),(9,some 29),(10,some 30),(11,some 31),(12,some 32)];exact fun _=>rfl;rfl;intro vals vq w1 hC1 E hE;simp only [sP,vq] at hE ⊢;clear vq;go_wp2;exact .mk (hE _ hC1)
  intro vals vq w1 hC1;simp only [sP,vq];clear vq;go_wp2_with fail;go_ret;refine ⟨qa3 ?_,HBw.out.trans (hC1.mono HBw.out.size)⟩;rw [xor64 _ _ (qaL HX.out) (qaL HX.out),xor64 _ _ (qc8 (qaL HX.out) (qaL HX.out)) (by rw [HL.out]; exact qdf HX.out),HL.out];rfl
 | true =>
  go_enter Tryz.func131,Tryz.ntmps131;go_wp2_with (refine qad (x:=.tmp 4) hb40 rfl rfl rfl hu rfl qaY ?_);rw [← HW.out];clear hb40 c20;refine qaa (qbd x c W0 HX.out hc) ?_;rintro e w1 ⟨rfl,hb1⟩;have g4:=H4.out.below hb1 hl4;have g6:=H6.out.below hb1 hl6;have hBw:=HB.out.trans (hb1.mono HB.out.size);have h14:=g4.lt;have h16:=g6.lt;have cc:=g6.cell 2;simp at cc;have G4:=zY g4;have G6:=zY g6;have HBw:=zY hBw;clear g4 g6 hBw hb1 c2;go_wp2_with fail;rw [show (x:Int)/2^c=(L:Int) by rw [HL.out,shr_int]; rfl];clear cc;have HC0:Below w1.heap.size w1 w1.drew:=(Below.refl _ _).drew;refine qaj (fun u=>Below w1.heap.size w1 u) (fun u=>Below w1.heap.size w1 u) [(0,some 20),(1,some 21),(2,some 22),(3,some 23),(4,some 24),(5,some 25),(6,some 26),(7,some 27),(8,some 28),(9,some 29),(10,some 30),(11,some 31),(12,some 32),(13,some 8)] (by kernel_rfl) (by kernel_rfl) (by decide) (by kernel_rfl) (fun _=>rfl) HC0 ?_;apply yN_
  ·apply dP [];exact fun _=>rfl;rfl;rintro vals - w1 hC1 E hE;simp only [sP] at hE ⊢;refine qad (G4.out.below hC1 h14) rfl rfl rfl hu rfl qaY ?_;go_wp2_with fail;exact .mk (hE _ hC1)
  apply yN_
  ·apply dP [];exact fun _=>rfl;rfl;rintro vals ⟨-,-⟩ w1 hC1 E hE;simp only [sP] at hE ⊢;go_wp2;exact .mk (hE _ hC1)
  apply yN_
  ·apply dP [];exact fun _=>rfl;rfl;intro vals vq w1 hC1 E hE;clear vq;simp only [sP] at hE ⊢;go_wp2;exact .mk (hE _ hC1)
  apply yN_
  ·apply dP [(2,some 22)];exact fun _=>rfl;rfl;intro vals vq w1 hC1 E hE;have d0:=(G6.out.below hC1 h16).cell 0;simp at d0;simp only [sP,vq] at hE ⊢;clear vq;go_wp2;exact .mk (hE _ hC1)
  apply yN_
  ·apply dP [(0,some 20),(1,some 21),(3,some 23)];exact fun _=>rfl;rfl;intro vals vq w1 hC1 E hE;simp only [sP,vq] at hE ⊢;clear vq;go_wp2_with fail;refine qaa (qbd x p _ HX.out hp) ?_;rintro e w2 ⟨rfl,hb2⟩;go_wp2_with fail;exact .mk (hE _ (hC1.trans (hb2.mono hC1.size)))
  apply yN_
  ·apply dP [];exact fun _=>rfl;rfl;intro vals vq w1 hC1 E hE;clear vq;simp only [sP] at hE ⊢;refine qad (G4.out.below hC1 h14) rfl rfl rfl hu rfl qaY ?_;go_wp2_with fail;exact .mk (hE _ hC1)
  apply yN_
  ·apply dP [];exact fun _=>rfl;rfl;intro vals vq w1 hC1 E hE;clear vq;simp only [sP] at hE ⊢;go_wp2;exact .mk (hE _ hC1)
  apply yN_
  ·apply dP [];exact fun _=>rfl;rfl;intro vals vq w1 hC1 E hE;clear vq;simp only [sP] at hE ⊢;go_wp2;exact .mk (hE _ hC1)
  apply yN_
  ·apply dP [(7,some 27)];exact fun _=>rfl;rfl;intro vals vq w1 hC1 E hE;have d0:=(G6.out.below hC1 h16).cell 1;simp at d0;simp only [sP,vq] at hE ⊢;clear vq;go_wp2;exact .mk (hE _ hC1)
  apply yN_
  ·apply dP [(5,some 25),(6,some 26),(8,some 28),(4,some 24)];exact fun _=>rfl;rfl;intro vals vq w1 hC1 E hE;simp only [sP,vq] at hE ⊢;clear vq;go_wp2_with fail;refine qaa (qbd x q _ HX.out hq) ?_;rintro e w2 ⟨rfl,hb2⟩;go_wp2_with fail;exact .mk (hE _ (hC1.trans (hb2.mono hC1.size)))
  apply yN_
  ·apply dP [(4,some 24),(9,some 29)];exact fun _=>rfl;rfl;intro vals vq w1 hC1 E hE;simp only [sP,vq] at hE ⊢;clear vq;go_wp2;exact .mk (hE _ hC1)
  apply yN_
  ·apply dP [];exact fun _=>rfl;rfl;intro vals vq w1 hC1 E hE;clear vq;simp only [sP] at hE ⊢;go_wp2;exact .mk (hE _ hC1)
  apply yN_
  ·apply dP [(10,some 30),(11,some 31)];exact fun _=>rfl;rfl;intro vals vq w1 hC1 E hE;simp only [sP,vq] at hE ⊢;clear vq;go_wp2;exact .mk (hE _ hC1)
  apply yL_
  ·apply dP [(12,some 32),(9,some 29),(0,some 20),(1,some 21),(2,some 22),(3,some 23),(4,some 24),(5,some 25),(6,some 26),(7,some 27),(8,some 28),(9,some 29),(10,some 30),(11,some 31),(12,some 32)];exact fun _=>rfl;rfl;intro vals vq w1 hC1 E hE;simp only [sP,vq] at hE ⊢;clear vq;go_wp2;exact .mk (hE _ hC1)
  intro vals vq w1 hC1;simp only [sP,vq];clear vq;go_wp2_with fail;go_ret;refine ⟨qa3 ?_,HBw.out.trans (hC1.mono HBw.out.size)⟩;rw [xor64 _ _ (qaL HX.out) (qaL HX.out),xor64 _ _ (qc8 (qaL HX.out) (qaL HX.out)) (by rw [HL.out]; exact qdf HX.out),HL.out];rfl
theorem qb8 (x:Nat) (w:World) (hx:x<18446744073709551616):Calls Tryz.prog 116 #[.int .u64 x] w fun e w'=>e=.returned (.int .u32 (x%4294967296:Nat))∧w=w':=by
 have hx1:(x:Int)<18446744073709551616:=by omega
 clear hx;go_enter Tryz.func116,Tryz.ntmps116;go_wp2;go_ret;exact ⟨qa3 (by omega),rfl⟩
theorem elem32:(Tryz.prog.info? 131).map (fun i=>(i.zero,i.size,i.bytes))=some (some (.int .u32 0),1,4):=by kernel_rfl
theorem one32:(Tryz.prog.info? 131).map (·.size)=some 1:=by kernel_rfl
theorem qce:(Tryz.prog.info? 132).map (·.size)=some 3:=by kernel_rfl
def RowPost32 (blk:List UInt8) (w:World) (e:Ending) (w':World):Prop :=
 ∃ g,e=.returned (.slice (some ⟨g,0,none⟩) 64 64)∧w.heap.size≤g∧Blk w' g 131 (rowC .u32 (rowW F32 blk 64) 0)∧Below w.heap.size w w'
structure RowSt32 (w:World) (gf gw:Nat) (cs:Array Value) (u:World):Prop where
 below:Below gf w u
 form:Blk u gf 136 f32C
 row:Blk u gw 131 cs
 lw:gf<gw
theorem RowSt32.put {w u u':World} {gf gw:Nat} {cs cs':Array Value} (h:RowSt32 w gf gw cs u) (hw:Wrote gw u u') (hb:Blk u' gw 131 cs'):RowSt32 w gf gw cs' u' :=
 ⟨hw.below h.below (by have:=h.lw; omega) (by have:=h.form.lt; omega),hw.blk h.form (by have:=h.lw; omega),hb,h.lw⟩
theorem RowSt32.next {w u u':World} {gf gw:Nat} {cs:Array Value} (h:RowSt32 w gf gw cs u) (hb:Below u.heap.size u u'):RowSt32 w gf gw cs u' :=
 ⟨h.below.trans (hb.mono (by have:=h.form.lt; omega)),h.form.below hb h.form.lt,h.row.below hb h.row.lt,h.lw⟩
theorem RowSt32.drew {w u:World} {gf gw:Nat} {cs:Array Value} (h:RowSt32 w gf gw cs u):RowSt32 w gf gw cs u.drew:=⟨h.below.drew,h.form,h.row,h.lw⟩
theorem rowSt32_start (w:World) (cs:Array Value):RowSt32 w w.heap.size (w.heap.size+1) cs ((w.alloc (.cells f32C 136)).alloc (.cells cs 131)) :=
 ⟨(below_new _ _).alloc (by simp) _,(Blk.new _ _ _).alloc _,by have:=Blk.new (w.alloc (.cells f32C 136)) 131 cs; simpa using this,by omega⟩
theorem row32_any (blk:List UInt8) (A:Option Addr) (c B:Nat) (w:World) (hr:Rd w B A (bytesV blk)) (hB:B≤w.heap.size) (hl:blk.length=64) (hc:blk.length≤c) (hcm:c≤9223372036854775807) :
  Calls Tryz.prog 130 #[.agg f32C,.slice A blk.length c] w (RowPost32 blk w):=by
 obtain ⟨W0,hW0⟩:=eX (w.alloc (.cells f32C 136));have hb0:Below w.heap.size w W0:=by rw [hW0]; exact below_new _ _
 have hbf:Blk W0 w.heap.size 136 f32C:=by rw [hW0]; exact Blk.new _ _ _
 have hs0:W0.heap.size=w.heap.size+1:=by rw [hW0]; simp
 have c0:=hbf.cell 0;have c1:=hbf.cell 1;simp only [f32C,List.getElem?_toArray,List.getElem?_cons_zero,List.getElem?_cons_succ] at c0 c1;rw [hW0,f32C] at c0 c1;have HB:=zY hb0;have HF:=zY hbf;have HS:=zY hs0;have HR:=zY (hr.mono hB);have HL:=zY hl;have HW:=zY hW0;obtain ⟨ie,hie,hez,hes,heb⟩:=info_parts elem32;have hc2:64≤c:=by omega
 clear hb0 hbf hs0 hr hW0 HB HF HS hl hc;rw [HL.out];rw [f32C];have hmk:∀ u:World,(Instr.makeSlice 162 (.int .i64 64) (.int .i64 64)).run Tryz.prog u=.ok (.slice (some ⟨u.heap.size,0,none⟩) 64 64) (u.alloc (.cells (rowC .u32 [] 64) 131)):=fun _=>by kernel_rfl
 go_enter Tryz.func130,Tryz.ntmps130;go_wp2_with fail;have hst0:=rowSt32_start w (rowC .u32 (rowW F32 blk 0) (64 - 0));generalize hgw:w.heap.size+1=gw at *;generalize hgf:w.heap.size=gf at *;have HGF:=zY hgf;clear hgf hgw c0 c1 hmk
 go_loopw [20] (fun i wr=>∃ t:Nat,t≤64∧i=.int .i64 t∧RowSt32 w gf gw (rowC .u32 (rowW F32 blk t) (64 - t)) wr) (fun i _=>64 - (intOf i).toNat)
 case atStart=>exact ⟨0,by omega,rfl,hst0⟩
 case round =>
  obtain ⟨t,ht,rfl,hst⟩:=hrel;clear hst0;have hlen:=qaQ F32 blk t
  by_cases hlt:t<64
  ·have hlt':(t:Int)<64:=by omega
   by_cases h16:t<16
   ·have h16':(t:Int)<16:=by omega
    rw [show 64 - t=(64 - t - 1)+1 by omega,rowC_start] at hst;obtain ⟨l,hl'⟩:∃ l,l=rowW F32 blk t:=⟨_,rfl⟩;obtain ⟨m,hm⟩:=eX (64 - t - 1);rw [← hl'] at hst hlen;rw [← hm] at hst;have HL':=zY hl';have HM:=zY hm;have HLEN:=zY hlen;have HST:=zY hst;clear hl' hm hlen hst;obtain ⟨ad,rfl,hadB,_⟩:=(HR.out.below HST.out.below).at_ (k:=t*4) (by rw [qan,HL.out]; omega);go_wp2_with fail;rw [show (t+1)*4 - t*4=4 by omega];obtain ⟨pc,hpc⟩:=eX ((blk.drop (t*4)).take 4);have hpl:pc.length=4:=by rw [hpc]; simp; rw [HL.out]; omega
    have hrp:Rd w gf (some (ad.add (t*4))) (bytesV pc):=by rw [hpc,bytesV,List.map_take,List.map_drop]; exact rd_take (rd_drop HR.out (t*4)) 4
    have HPC:=zY hpc;have HRP:=zY hrp;have HPL:=zY hpl;clear hpc hrp hpl;obtain ⟨wo,rfl⟩:∃ wo:World,wo=wr:=⟨_,rfl⟩
    go_loopw [35] (fun i wi=>∃ j:Nat,j≤4∧i=.int .i64 j∧RowSt32 w gf gw (rowP .u32 l (beN (pc.take j)) m) wi) (fun i _=>4 - (intOf i).toNat)
    case atStart=>exact ⟨0,by omega,rfl,by simpa [beN] using HST.out⟩
    case round =>
     obtain ⟨j,hj,rfl,hsi⟩:=hrel
     by_cases hjl:j<4
     ·have hjl':(j:Int)<4:=by omega
      have hpj:j<pc.length:=by rw [HPL.out]; exact hjl
      obtain ⟨ad',hae,_,hcell⟩:=(HRP.out.below hsi.below).at_ (k:=j) (by rw [qan]; exact hpj)
      injection hae with hae
      subst hae;obtain ⟨z,hz⟩:=eX (pc[j]);have hcl:wr.cell? ((ad.add (t*4)).add j)=some (.int .u8 (z.toNat:Int)):=by rw [hcell,hz]; simp [bytesV,byteV]
      have hzl:=z.toNat_lt;have hzl2:(z.toNat:Int)<256:=by omega
      obtain ⟨x,hx⟩:=eX (beN (pc.take j))
      have hxl:x<256^j:=by
       rw [hx];have h1:=beN_lt (pc.take j);have h2:(pc.take j).length≤j:=List.length_take_le _ _;exact Nat.lt_of_lt_of_le h1 (Nat.pow_le_pow_right (by omega) h2)
      have hst:beN (pc.take (j+1))=x*256+z.toNat:=by
       rw [List.take_succ_eq_append_getElem hpj,beN_snoc,hx,hz]
      rw [← hx] at hsi;have crow:=hsi.row.cell t;rw [show (rowP .u32 l x m)[t]?=some (.int .u32 (x:Int)) by have:=rowP_at .u32 l x m; rwa [HLEN.out] at this] at crow;have frow:=hsi.row.free t;have HSI:=zY hsi;have HST2:=zY hst;have HXL:=zY hxl;clear hcell hz hx hst hsi hpj hxl;go_wp2_with fail;refine ⟨⟨j+1,hjl,by go_num,?_⟩,by simp [intOf]; omega⟩;have hx8:x<256^(4 - 1):=Nat.lt_of_lt_of_le HXL.out (Nat.pow_le_pow_right (by omega) (by omega));rw [or_byte32 x z.toNat hx8 hzl,HST2.out];refine HSI.out.put (qap _ _ _ _) ?_;have:=qau (i:=t) HSI.out.row (.int .u32 ((x*256+z.toNat:Nat):Int));have h9:=rowP_set .u32 l x (x*256+z.toNat) m;rw [HLEN.out] at h9
      rwa [h9] at this
     ·have hjl':¬ (j:Int)<4:=by omega
      have hfin:RowSt32 w gf gw (rowC .u32 (rowW F32 blk (t+1)) (64 - (t+1))) wr:=by
       obtain rfl:j=4:=by omega
       rw [rowP_end,List.take_of_length_le (by rw [HPL.out]; omega)] at hsi;rw [rowW,if_pos h16,← HL'.out,show 64 - (t+1)=m by rw [HM.out]; omega];rw [show pieceN (F32.bits/8) blk t=beN pc by rw [HPC.out]; rfl];exact hsi
      have HFIN:=zY hfin;clear hfin hsi;go_wp2_with fail;exact ⟨⟨t+1,hlt,by go_num,HFIN.out⟩,by simp [intOf]; omega⟩
   ·have h16':¬ (t:Int)<16:=by omega
    rw [show 64 - t=(64 - t - 1)+1 by omega,rowC_start] at hst;obtain ⟨l,hl'⟩:∃ l,l=rowW F32 blk t:=⟨_,rfl⟩;obtain ⟨m,hm⟩:=eX (64 - t - 1);have hlw:∀ i,l.getD i 0<2^32:=by rw [hl']; exact qb6 (qdw F32 (by decide) blk t) (by decide)
    rw [← hl'] at hst hlen;rw [← hm] at hst;have HL':=zY hl';have HM:=zY hm;have HLEN:=zY hlen;have HLW:=zY hlw;obtain ⟨a15,h15⟩:=eX (l.getD (t - 15) 0);obtain ⟨a2,h2⟩:=eX (l.getD (t - 2) 0);obtain ⟨a16,h16e⟩:=eX (l.getD (t - 16) 0);obtain ⟨a7,h7⟩:=eX (l.getD (t - 7) 0);have w15:a15<2^32:=by rw [h15]; exact hlw _
    have w2:a2<2^32:=by rw [h2]; exact hlw _
    have w16:a16<2^32:=by rw [h16e]; exact hlw _
    have w7:a7<2^32:=by rw [h7]; exact hlw _
    have e15:(rowP .u32 l 0 m)[t - 15]?=some (.int .u32 (a15:Int)):=by rw [qda _ _ _ _ _ (by omega),h15]
    have e2:(rowP .u32 l 0 m)[t - 2]?=some (.int .u32 (a2:Int)):=by rw [qda _ _ _ _ _ (by omega),h2]
    have e16:(rowP .u32 l 0 m)[t - 16]?=some (.int .u32 (a16:Int)):=by rw [qda _ _ _ _ _ (by omega),h16e]
    have e7:(rowP .u32 l 0 m)[t - 7]?=some (.int .u32 (a7:Int)):=by rw [qda _ _ _ _ _ (by omega),h7]
    have E15:=zY e15;have E2:=zY e2;have E16:=zY e16;have E7:=zY e7;have W15:=zY (show a15<18446744073709551616 by omega);have W2:=zY (show a2<18446744073709551616 by omega);have W16:=zY w16;have W7:=zY w7;have H15:=zY h15;have H2:=zY h2;have H16:=zY h16e;have H7:=zY h7;have i15:(a15:Int)<4294967296:=by omega
    have i2:(a2:Int)<4294967296:=by omega
    clear hl' hm hlen hlw h15 h2 h16e h7 w15 w2 w16 w7 e15 e2 e16 e7;have hu:=Tryz.underlying136;have hu3:=Tryz.underlying132;have HC0:=hst.drew;clear hst;go_wp2_with fail;refine qaj (fun u=>RowSt32 w gf gw (rowP .u32 l 0 m) u) (fun u=>RowSt32 w gf gw (rowP .u32 l 0 m) u) [(0,some 51),(1,some 52),(2,some 53),(3,some 54),(4,some 55),(5,some 56),(6,some 57),(7,some 58),(8,some 59),(9,some 60),(10,some 61),(11,some 62),(12,some 63),(13,some 64),(14,some 65),(15,some 66),(16,some 67),(17,some 68),(18,some 69),(19,some 70),(20,some 71),(21,some 72),(22,some 10),(23,some 11)] (by kernel_rfl) (by kernel_rfl) (by decide) (by kernel_rfl) (fun _=>rfl) HC0 ?_;apply yN_
    ·apply dP [];exact fun _=>rfl;rfl;rintro vals - w1 hC1 E hE;simp only [sP] at hE ⊢;refine qad hC1.form rfl rfl rfl hu rfl qaY ?_;go_wp2_with fail;exact .mk (hE _ hC1)
    apply yN_
    ·apply dP [];exact fun _=>rfl;rfl;rintro vals ⟨-,-⟩ w1 hC1 E hE;simp only [sP] at hE ⊢;go_wp2;exact .mk (hE _ hC1)
    apply yN_
    ·apply dP [];exact fun _=>rfl;rfl;intro vals vq w1 hC1 E hE;clear vq;simp only [sP] at hE ⊢;go_wp2;exact .mk (hE _ hC1)
    apply yN_
    ·apply dP [(2,some 53)];exact fun _=>rfl;rfl;intro vals vq w1 hC1 E hE;simp only [sP,vq] at hE ⊢;clear vq;go_wp2;exact .mk (hE _ hC1)
    apply yN_
    ·apply dP [(1,some 52),(3,some 54)];exact fun _=>rfl;rfl;intro vals vq w1 hC1 E hE;simp only [sP,vq] at hE ⊢;clear vq;go_wp2;exact .mk (hE _ hC1)
    apply yN_
    ·apply dP [(4,some 55)];exact fun _=>rfl;rfl;intro vals vq w1 hC1 E hE;have d0:=hC1.row.cell (t - 15);rw [E15.out] at d0;simp only [sP,vq] at hE ⊢;clear vq;go_wp2;exact .mk (hE _ hC1)
    apply yN_
    ·apply dP [(5,some 56)];exact fun _=>rfl;rfl;intro vals vq w1 hC1 E hE;simp only [sP,vq] at hE ⊢;clear vq;go_wp2;exact .mk (hE _ hC1)
    apply yN_
    ·apply dP [];exact fun _=>rfl;rfl;intro vals vq w1 hC1 E hE;clear vq;simp only [sP] at hE ⊢;go_wp2;exact .mk (hE _ hC1)
    apply yN_
    ·apply dP [(7,some 58)];exact fun _=>rfl;rfl;intro vals vq w1 hC1 E hE;simp only [sP,vq] at hE ⊢;clear vq;go_wp2;exact .mk (hE _ hC1)
    apply yN_
    ·apply dP [(8,some 59)];exact fun _=>rfl;rfl;intro vals vq w1 hC1 E hE;simp only [sP,vq] at hE ⊢;clear vq;refine qbf (n:=3) (r:=#[.int .i64 7,.int .i64 18,.int .i64 3]) hC1.form (by decide) rfl rfl rfl rfl hu3 rfl qce ?_;go_wp2_with fail;exact .mk (hE _ hC1)
    apply yN_
    ·apply dP [(0,some 51),(6,some 57),(9,some 60)];exact fun _=>rfl;rfl;intro vals vq w1 hC1 E hE;simp only [sP,vq] at hE ⊢;clear vq;go_wp2_with fail;refine qaa (qcO a15 7 18 3 true _ W15.out (by decide) (by decide) (by decide)) ?_;rintro e w2 ⟨rfl,hb2⟩;go_wp2_with fail;exact .mk (hE _ (hC1.next hb2))
    apply yN_
    ·apply dP [];exact fun _=>rfl;rfl;intro vals vq w1 hC1 E hE;clear vq;simp only [sP] at hE ⊢;refine qad hC1.form rfl rfl rfl hu rfl qaY ?_;go_wp2_with fail;exact .mk (hE _ hC1)
    apply yN_
    ·apply dP [];exact fun _=>rfl;rfl;intro vals vq w1 hC1 E hE;clear vq;simp only [sP] at hE ⊢;go_wp2;exact .mk (hE _ hC1)
    apply yN_
    ·apply dP [];exact fun _=>rfl;rfl;intro vals vq w1 hC1 E hE;clear vq;simp only [sP] at hE ⊢;go_wp2;exact .mk (hE _ hC1)
    apply yN_
    ·apply dP [(13,some 64)];exact fun _=>rfl;rfl;intro vals vq w1 hC1 E hE;simp only [sP,vq] at hE ⊢;clear vq;go_wp2;exact .mk (hE _ hC1)
    apply yN_
    ·apply dP [(12,some 63),(14,some 65)];exact fun _=>rfl;rfl;intro vals vq w1 hC1 E hE;simp only [sP,vq] at hE ⊢;clear vq;go_wp2;exact .mk (hE _ hC1)
    apply yN_
    ·apply dP [(15,some 66)];exact fun _=>rfl;rfl;intro vals vq w1 hC1 E hE;have d0:=hC1.row.cell (t - 2);rw [E2.out] at d0;simp only [sP,vq] at hE ⊢;clear vq;go_wp2;exact .mk (hE _ hC1)
    apply yN_
    ·apply dP [(16,some 67)];exact fun _=>rfl;rfl;intro vals vq w1 hC1 E hE;simp only [sP,vq] at hE ⊢;clear vq;go_wp2;exact .mk (hE _ hC1)
    apply yN_
    ·apply dP [];exact fun _=>rfl;rfl;intro vals vq w1 hC1 E hE;clear vq;simp only [sP] at hE ⊢;go_wp2;exact .mk (hE _ hC1)
    apply yN_
    ·apply dP [(18,some 69)];exact fun _=>rfl;rfl;intro vals vq w1 hC1 E hE;simp only [sP,vq] at hE ⊢;clear vq;go_wp2;exact .mk (hE _ hC1)
    apply yN_
    ·apply dP [(19,some 70)];exact fun _=>rfl;rfl;intro vals vq w1 hC1 E hE;simp only [sP,vq] at hE ⊢;clear vq;refine qbf (n:=3) (r:=#[.int .i64 17,.int .i64 19,.int .i64 10]) hC1.form (by decide) rfl rfl rfl rfl hu3 rfl qce ?_;go_wp2_with fail;exact .mk (hE _ hC1)
    apply yN_
    ·apply dP [(11,some 62),(17,some 68),(20,some 71),(10,some 61)];exact fun _=>rfl;rfl;intro vals vq w1 hC1 E hE;simp only [sP,vq] at hE ⊢;clear vq;go_wp2_with fail;refine qaa (qcO a2 17 19 10 true _ W2.out (by decide) (by decide) (by decide)) ?_;rintro e w2 ⟨rfl,hb2⟩;go_wp2_with fail;exact .mk (hE _ (hC1.next hb2))
    apply yN_
    ·apply dP [(10,some 61),(21,some 72),(0,some 51),(1,some 52),(2,some 53),(3,some 54),(4,some 55),(5,some 56),(6,some 57),(7,some 58),(8,some 59),(9,some 60),(10,some 61)];exact fun _=>rfl;rfl;intro vals vq w1 hC1 E hE;simp only [sP,vq] at hE ⊢;clear vq;go_wp2;exact .mk (hE _ hC1)
    apply yL_
    ·apply dP [(21,some 72),(22,some 10),(0,some 51),(1,some 52),(2,some 53),(3,some 54),(4,some 55),(5,some 56),(6,some 57),(7,some 58),(8,some 59),(9,some 60),(10,some 61),(11,some 62),(12,some 63),(13,some 64),(14,some 65),(15,some 66),(16,some 67),(17,some 68),(18,some 69),(19,some 70),(20,some 71),(21,some 72),(22,some 10)];exact fun _=>rfl;rfl;intro vals vq w1 hC1 E hE;simp only [sP,vq] at hE ⊢;clear vq;go_wp2;exact .mk (hE _ hC1)
    intro vals vq w1 hC1;simp only [sP,vq];clear vq;obtain ⟨X,hX⟩:∃ X:Nat,X=allN 32 a15 7 18 3 true:=⟨_,rfl⟩;obtain ⟨Y,hY⟩:∃ X:Nat,X=allN 32 a2 17 19 10 true:=⟨_,rfl⟩;rw [← hX,← hY];obtain ⟨NV,hNV⟩:∃ v:Nat,v=(a16+a7+(X+Y))%2^32:=⟨_,rfl⟩;have HX:=zY hX;have HY:=zY hY;have HNV:=zY hNV;have lX:(X:Int)<18446744073709551616:=by have:=allN_lt (b:=32) (p:=7) (q:=18) (c:=3) (shift:=true) W15.out; rw [← HX.out] at this; omega
    have lY:(Y:Int)<18446744073709551616:=by have:=allN_lt (b:=32) (p:=17) (q:=19) (c:=10) (shift:=true) W2.out; rw [← HY.out] at this; omega
    have l16:(a16:Int)<4294967296:=by have:=W16.out; omega
    have l7:(a7:Int)<4294967296:=by have:=W7.out; omega
    clear HC0 hX hY hNV;go_wp2_with fail;have HC0:=hC1.drew;refine qaj (fun u=>RowSt32 w gf gw (rowP .u32 l 0 m) u) (fun u=>RowSt32 w gf gw (rowP .u32 l NV m) u) [(0,some 73),(1,some 74),(2,some 75),(3,some 76),(4,some 77),(5,some 78),(6,some 79),(7,some 80),(8,some 81),(9,some 82),(10,some 83),(11,some 84),(12,some 85),(13,some 86),(14,some 87),(15,some 88),(16,some 89),(17,some 90),(18,some 91),(19,none)] (by kernel_rfl) (by kernel_rfl) (by decide) (by kernel_rfl) (fun _=>rfl) HC0 ?_;apply yN_
    ·apply dP [];exact fun _=>rfl;rfl;rintro vals - w1 hC1 E hE;simp only [sP] at hE ⊢;go_wp2;exact .mk (hE _ hC1)
    apply yN_
    ·apply dP [];exact fun _=>rfl;rfl;rintro vals ⟨-,-⟩ w1 hC1 E hE;simp only [sP] at hE ⊢;go_wp2;exact .mk (hE _ hC1)
    apply yN_
    ·apply dP [];exact fun _=>rfl;rfl;intro vals vq w1 hC1 E hE;clear vq;simp only [sP] at hE ⊢;go_wp2;exact .mk (hE _ hC1)
    apply yN_
    ·apply dP [];exact fun _=>rfl;rfl;intro vals vq w1 hC1 E hE;clear vq;simp only [sP] at hE ⊢;go_wp2;exact .mk (hE _ hC1)
    apply yN_
    ·apply dP [(3,some 76)];exact fun _=>rfl;rfl;intro vals vq w1 hC1 E hE;simp only [sP,vq] at hE ⊢;clear vq;go_wp2;exact .mk (hE _ hC1)
    apply yN_
    ·apply dP [(2,some 75),(4,some 77)];exact fun _=>rfl;rfl;intro vals vq w1 hC1 E hE;simp only [sP,vq] at hE ⊢;clear vq;go_wp2;exact .mk (hE _ hC1)
    apply yN_
    ·apply dP [(5,some 78)];exact fun _=>rfl;rfl;intro vals vq w1 hC1 E hE;have d0:=hC1.row.cell (t - 16);rw [E16.out] at d0;simp only [sP,vq] at hE ⊢;clear vq;go_wp2;exact .mk (hE _ hC1)
    apply yN_
    ·apply dP [];exact fun _=>rfl;rfl;intro vals vq w1 hC1 E hE;clear vq;simp only [sP] at hE ⊢;go_wp2;exact .mk (hE _ hC1)
    apply yN_
    ·apply dP [];exact fun _=>rfl;rfl;intro vals vq w1 hC1 E hE;clear vq;simp only [sP] at hE ⊢;go_wp2;exact .mk (hE _ hC1)
    apply yN_
    ·apply dP [(8,some 81)];exact fun _=>rfl;rfl;intro vals vq w1 hC1 E hE;simp only [sP,vq] at hE ⊢;clear vq;go_wp2;exact .mk (hE _ hC1)
    apply yN_
    ·apply dP [(7,some 80),(9,some 82)];exact fun _=>rfl;rfl;intro vals vq w1 hC1 E hE;simp only [sP,vq] at hE ⊢;clear vq;go_wp2;exact .mk (hE _ hC1)
    apply yN_
    ·apply dP [(10,some 83)];exact fun _=>rfl;rfl;intro vals vq w1 hC1 E hE;have d0:=hC1.row.cell (t - 7);rw [E7.out] at d0;simp only [sP,vq] at hE ⊢;clear vq;go_wp2;exact .mk (hE _ hC1)
    apply yN_
    ·apply dP [(6,some 79),(11,some 84)];exact fun _=>rfl;rfl;intro vals vq w1 hC1 E hE;simp only [sP,vq] at hE ⊢;clear vq;go_wp2;exact .mk (hE _ hC1)
    apply yN_
    ·apply dP [];exact fun _=>rfl;rfl;intro vals vq w1 hC1 E hE;clear vq;simp only [sP] at hE ⊢;go_wp2;exact .mk (hE _ hC1)
    apply yN_
    ·apply dP [];exact fun _=>rfl;rfl;intro vals vq w1 hC1 E hE;clear vq;simp only [sP] at hE ⊢;go_wp2;exact .mk (hE _ hC1)
    apply yN_
    ·apply dP [(13,some 86),(14,some 87)];exact fun _=>rfl;rfl;intro vals vq w1 hC1 E hE;simp only [sP,vq] at hE ⊢;clear vq;go_wp2;exact .mk (hE _ hC1)
    apply yN_
    ·apply dP [(15,some 88)];exact fun _=>rfl;rfl;intro vals vq w1 hC1 E hE;simp only [sP,vq] at hE ⊢;clear vq;go_wp2_with fail;rw [sum64w X Y];refine qaa (qb8 _ _ (Nat.mod_lt _ (by decide))) ?_;rintro e w2 ⟨rfl,rfl⟩;go_wp2_with fail;exact .mk (hE _ hC1)
    apply yN_
    ·apply dP [(12,some 85),(16,some 89)];exact fun _=>rfl;rfl;intro vals vq w1 hC1 E hE;simp only [sP,vq] at hE ⊢;clear vq;go_wp2;rw [sum32f a16 a7 X Y,← HNV.out];exact .mk (hE _ hC1)
    apply yN_
    ·apply dP [(0,some 73),(1,some 74),(0,some 73),(1,some 74),(2,some 75),(3,some 76),(4,some 77),(5,some 78),(6,some 79),(7,some 80),(8,some 81),(9,some 82),(10,some 83),(11,some 84),(12,some 85),(13,some 86),(14,some 87),(15,some 88),(16,some 89),(17,some 90)];exact fun _=>rfl;rfl;intro vals vq w1 hC1 E hE;simp only [sP,vq] at hE ⊢;clear vq;go_wp2;exact .mk (hE _ hC1)
    apply yL_ (v:=undef)
    ·apply dP [(18,some 91),(17,some 90),(16,some 89),(0,some 73),(1,some 74),(2,some 75),(3,some 76),(4,some 77),(5,some 78),(6,some 79),(7,some 80),(8,some 81),(9,some 82),(10,some 83),(11,some 84),(12,some 85),(13,some 86),(14,some 87),(15,some 88),(16,some 89),(17,some 90)];exact fun _=>rfl;rfl;intro vals vq w1 hC1 E hE;simp only [sP,vq] at hE ⊢;clear vq;refine qaf (i:=t) (v:=.int .u32 (NV:Int)) hC1.row rfl rfl rfl rfl one32 (by rw [rowP_size,HLEN.out]; omega) rfl ?_;intro w2 hb2 hw2;go_wp2_with fail;exact .mk (hE _ (hC1.put hw2 (by have h9:=rowP_set .u32 l 0 NV m; rw [HLEN.out] at h9; rw [h9] at hb2; exact hb2)))
    intro vals vq w1 hC1;simp only [sP,vq];clear vq
    have hfin:RowSt32 w gf gw (rowC .u32 (rowW F32 blk (t+1)) (64 - (t+1))) w1:=by
     rw [rowP_end] at hC1;rw [rowW,if_neg h16,← HL'.out,show 64 - (t+1)=m by rw [HM.out]; omega]
     have:nextW F32 l t=NV:=by
      rw [HNV.out,nextW,← H16.out,← H7.out,← H15.out,← H2.out,HX.out,HY.out]; rfl
     rw [this];exact hC1
    have HFIN:=zY hfin;clear hfin hC1 HC0;go_wp2_with fail;exact ⟨⟨t+1,hlt,by go_num,HFIN.out⟩,by simp [intOf]; omega⟩
  ·have hge:¬ (t:Int)<64:=by omega
   go_wp2_with fail;go_ret;obtain rfl:t=64:=by omega
   exact ⟨gw,rfl,by rw [HGF.out]; have:=hst.lw; omega,hst.row,by rw [HGF.out]; exact hst.below⟩
theorem qaU:(Tryz.prog.info? 149).map (·.size)=some 8:=by kernel_rfl
structure MixSt32 (w0:World) (gf gr:Nat) (s:S8) (r:Array Value) (v:Array Value) (u:World):Prop where
 bel:Below gf w0 u
 form:Blk u gf 136 f32C
 s:Blk u (gf+1) 149 (s8V .u32 s)
 res:Blk u (gf+1+1) 149 (s8V .u32 ⟨0,0,0,0,0,0,0,0⟩)
 v:Blk u (gf+1+1+1) 149 v
 row:Blk u gr 131 r
 lr:gf+1+1+1<gr
theorem MixSt32.next {w0:World} {gf gr:Nat} {s:S8} {r v:Array Value} {u u':World} (h:MixSt32 w0 gf gr s r v u) (hb:Below u.heap.size u u'):MixSt32 w0 gf gr s r v u' :=
 ⟨h.bel.trans (hb.mono (by have:=h.form.lt; omega)),h.form.below hb h.form.lt,h.s.below hb h.s.lt,h.res.below hb h.res.lt,h.v.below hb h.v.lt,h.row.below hb h.row.lt,h.lr⟩
theorem MixSt32.drew {w0:World} {gf gr:Nat} {s:S8} {r v:Array Value} {u:World} (h:MixSt32 w0 gf gr s r v u):MixSt32 w0 gf gr s r v u.drew :=
 ⟨h.bel.drew,h.form,h.s,h.res,h.v,h.row,h.lr⟩
theorem MixSt32.put {w0:World} {gf gr:Nat} {s:S8} {r v v':Array Value} {u u':World} (h:MixSt32 w0 gf gr s r v u) (hw:Wrote (gf+1+1+1) u u') (hb:Blk u' (gf+1+1+1) 149 v'):MixSt32 w0 gf gr s r v' u' :=
 ⟨hw.below h.bel (by omega) (by have:=h.form.lt; omega),hw.blk h.form (by omega),hw.blk h.s (by omega),hw.blk h.res (by omega),hb,hw.blk h.row (by have:=h.lr; omega),h.lr⟩
def MixPost32 (s:S8) (blk:List UInt8) (w:World) (e:Ending) (w':World):Prop :=
 e=.returned (.agg (s8V .u32 (mixS F32 s blk)))∧Below w.heap.size w w'
theorem mix32_any (s:S8) (blk:List UInt8) (A:Option Addr) (c B:Nat) (w:World) (hr:Rd w B A (bytesV blk)) (hB:B≤w.heap.size) (hl:blk.length=64) (hc:blk.length≤c) (hcm:c≤9223372036854775807) (hs:s.Lt (2^32)) (hG:TabG w) :
  Calls Tryz.prog 117 #[.agg f32C,.agg (s8V .u32 s),.slice A blk.length c] w (MixPost32 s blk w):=by
 obtain ⟨W0,hW0⟩:∃ W0,W0=((w.alloc (.cells f32C 136)).alloc (.cells (s8V .u32 s) 149)).alloc (.cells (s8V .u32 ⟨0,0,0,0,0,0,0,0⟩) 149):=⟨_,rfl⟩;have hb0:Below w.heap.size w W0:=by rw [hW0]; exact ((below_new _ _).alloc (by simp) _).alloc (by simp; omega) _
 have hs0:W0.heap.size=w.heap.size+1+1+1:=by rw [hW0]; simp
 have hf0:Blk W0 w.heap.size 136 f32C:=by rw [hW0]; exact ((Blk.new _ _ _).alloc _).alloc _
 have hbs0:Blk W0 (w.heap.size+1) 149 (s8V .u32 s):=by
  have:=(Blk.new (w.alloc (.cells f32C 136)) 149 (s8V .u32 s)).alloc (.cells (s8V .u32 ⟨0,0,0,0,0,0,0,0⟩) 149);rw [hW0]; simpa using this
 have hbr0:Blk W0 (w.heap.size+1+1) 149 (s8V .u32 ⟨0,0,0,0,0,0,0,0⟩):=by
  have:=Blk.new ((w.alloc (.cells f32C 136)).alloc (.cells (s8V .u32 s) 149)) 149 (s8V .u32 ⟨0,0,0,0,0,0,0,0⟩);rw [hW0]; simpa using this
 have hbv0:Blk (W0.alloc (.cells (s8V .u32 ⟨0,0,0,0,0,0,0,0⟩) 149)) (w.heap.size+1+1+1) 149 (s8V .u32 ⟨0,0,0,0,0,0,0,0⟩):=by
  have:=Blk.new W0 149 (s8V .u32 ⟨0,0,0,0,0,0,0,0⟩)
  rwa [hs0] at this
 have hbs1:=hbs0;rw [hW0] at hbs1;have HB0:=zY hb0;have HS0:=zY hs0;have HF0:=zY hf0;have HBS0:=zY hbs0;have HBR0:=zY hbr0;have HR:=zY (hr.mono hB);have HL:=zY hl;have HG:=zY hG;have HSL:=zY hs;have hu8:=Tryz.underlying149;have hu:=Tryz.underlying136;have hu3:=Tryz.underlying132;have hc2:64≤c:=by omega
 rw [hW0] at hbv0;have HW:=zY hW0;rw [HL.out];clear hb0 hs0 hf0 hbs0 hbr0 hr hl hG hs hc hW0;go_enter Tryz.func117,Tryz.ntmps117
 go_wp2_with (first
  | (refine qad (x:=.tmp 4) (o:=⟨some 16,_,_,_,_,_⟩) (hbs1) rfl rfl rfl hu8 rfl qaU ?_)
  | (refine qac (x:=.tmp 7) hbv0 rfl rfl rfl rfl qaU rfl (by simp [s8V,Value.oneCell']) ?_; intro w1 hb1 hw1)
  | (refine qad (x:=.tmp 3) (hw1.blk (((Blk.new w 136 f32C).alloc _).alloc _ |>.alloc _) (by omega)) rfl rfl rfl hu rfl qaY ?_))
 have hf1:=hw1.blk (((Blk.new w 136 f32C).alloc (.cells (s8V .u32 s) 149)).alloc (.cells (s8V .u32 ⟨0,0,0,0,0,0,0,0⟩) 149) |>.alloc (.cells (s8V .u32 ⟨0,0,0,0,0,0,0,0⟩) 149)) (by omega);have hs1:Blk w1 (w.heap.size+1) 149 (s8V .u32 s):=hw1.blk (by have:=HBS0.out.alloc (.cells (s8V .u32 ⟨0,0,0,0,0,0,0,0⟩) 149); rwa [HW.out] at this) (by omega);have hr1:Blk w1 (w.heap.size+1+1) 149 (s8V .u32 ⟨0,0,0,0,0,0,0,0⟩):=hw1.blk (by have:=HBR0.out.alloc (.cells (s8V .u32 ⟨0,0,0,0,0,0,0,0⟩) 149); rwa [HW.out] at this) (by omega);have hbel1:Below w.heap.size w w1:=hw1.below (by have:=HB0.out.alloc HB0.out.size (.cells (s8V .u32 ⟨0,0,0,0,0,0,0,0⟩) 149); rwa [HW.out] at this) (by omega) (by simp; omega);have hz1:w1.heap.size=w.heap.size+1+1+1+1:=by rw [hw1.size]; simp
 have HF1:=zY hf1;have HS1:=zY hs1;have HR1:=zY hr1;have HV1:=zY hb1;have HBEL1:=zY hbel1;have HZ1:=zY hz1;have hrow:=row32_any blk A c w1.heap.size w1 ((HR.out.below hbel1).mono hbel1.size) (Nat.le_refl _) HL.out (by rw [HL.out]; exact hc2) hcm;rw [HL.out] at hrow;clear hf1 hs1 hr1 hb1 hbel1 hz1 hw1 hbv0 hbs1 HB0 HS0 HF0 HBS0 HBR0 HW W0;refine qaa hrow ?_;rintro e w2 ⟨gr,rfl,hgl,hbr,hbw⟩;clear hrow;obtain ⟨RW,hRW⟩:=eX (rowW F32 blk 64);rw [← hRW] at hbr
 have hst0:MixSt32 w w.heap.size gr s (rowC .u32 RW 0) (s8V .u32 s) w2 :=
  ⟨HBEL1.out.trans (hbw.mono HBEL1.out.size),HF1.out.below hbw HF1.out.lt,HS1.out.below hbw HS1.out.lt,HR1.out.below hbw HR1.out.lt,HV1.out.below hbw HV1.out.lt,hbr,by rw [HZ1.out] at hgl; omega⟩
 have HGP:=zY HG.out.size;have HRW:=zY hRW;clear hbr hbw hgl hRW HF1 HS1 HR1 HV1 HBEL1 HZ1 HR;generalize hgf:w.heap.size=gf at *;have HGF:=zY hgf;clear hgf;go_wp2_with fail
 go_loopw [21] (fun i wr=>∃ k:Nat,k≤64∧i=.int .i64 k∧MixSt32 w gf gr s (rowC .u32 RW 0) (s8V .u32 (mixTo F32 RW s k)) wr) (fun i _=>64 - (intOf i).toNat)
 case atStart=>exact ⟨0,by omega,rfl,hst0⟩
 case round =>
  obtain ⟨k,hk,rfl,hst⟩:=hrel;clear hst0
  by_cases hlt:k<64
  ·have hlt':(k:Int)<64:=by omega
   obtain ⟨vv,hvv⟩:=eX (mixTo F32 RW s k);have hvl:vv.Lt (2^32):=by rw [hvv]; exact mixTo_lt HSL.out k
   rw [← hvv] at hst;have HVV:=zY hvv;obtain ⟨va,vb,vc,vd,ve,vf,vg,vh⟩:=vv;obtain ⟨la,lb,lc,ld,le_,lf,lg,lh⟩:=hvl;dsimp only at la lb lc ld le_ lf lg lh;obtain ⟨wk,hwk⟩:=eX (RW.getD k 0);obtain ⟨kk,hkk⟩:=eX (stepsN.getD k 0);have hRL:RW.length=64:=by rw [HRW.out]; exact qaQ _ _ _
   have hwl:wk<2^32:=by rw [hwk,HRW.out]; exact qb6 (qdw F32 (by decide) blk 64) (by decide) k
   have hkl:kk<18446744073709551616:=by rw [hkk]; exact stepsN_lt k
   have hcr:(rowC .u32 RW 0)[k]?=some (.int .u32 (wk:Int)):=by rw [rowC_get _ _ _ _ (by rw [hRL]; exact hlt),hwk]
   have HGC:Hid (∀ u,Below gf w u→u.cell? ⟨1,k,none⟩=some (.int .u64 (kk:Int))):=zY fun u hu=>by
    rw [hkk]; exact (HG.out.below hu HGP.out).cell k (by omega)
   have crow:=hst.row.cell k;rw [hcr] at crow;have iwk:(wk:Int)<4294967296:=by omega
   have ikk:(kk:Int)<18446744073709551616:=by omega
   have HWK:=zY hwk;have HKK:=zY hkk;have HL8:=zY (show S8.Lt ⟨va,vb,vc,vd,ve,vf,vg,vh⟩ (2^32) from ⟨la,lb,lc,ld,le_,lf,lg,lh⟩);have HWL:=zY hwl;have HKL:=zY hkl;clear hvv la lb lc ld le_ lf lg lh hwk hkk hRL hwl hkl hcr;have HST:=zY hst;clear hst;go_wp2_with fail;obtain ⟨kn,hkn⟩:=eX (kN F32 k);have hkn2:kk/4294967296%4294967296=kn:=by rw [hkn,kN,← HKK.out]; rfl
   have hknl:kn<2^32:=by rw [hkn]; exact Nat.mod_lt _ (by decide)
   skip
   have HKN:=zY hkn2;have HKNE:=zY hkn;have HKNL:=zY hknl;clear hkn2 hkn hknl;have HC0:=HST.out.drew;refine qaj (fun u=>MixSt32 w gf gr s (rowC .u32 RW 0) (s8V .u32 ⟨va,vb,vc,vd,ve,vf,vg,vh⟩) u) (fun u=>MixSt32 w gf gr s (rowC .u32 RW 0) (s8V .u32 ⟨va,vb,vc,vd,ve,vf,vg,vh⟩) u) [(0,some 26),(1,some 27),(2,some 28),(3,some 29),(4,some 30),(5,some 31),(6,some 32),(7,some 33),(8,some 10)] (by kernel_rfl) (by kernel_rfl) (by decide) (by kernel_rfl) (fun _=>rfl) HC0 ?_;apply yN_
   ·apply dP [];exact fun _=>rfl;rfl;rintro vals - w1 hC1 E hE;simp only [sP] at hE ⊢;go_wp2;exact .mk (hE _ hC1)
   apply yN_
   ·apply dP [(0,some 26)];exact fun _=>rfl;rfl;intro vals vq w1 hC1 E hE;simp only [sP,vq] at hE ⊢;clear vq;go_wp2;exact .mk (hE _ hC1)
   apply yN_
   ·apply dP [(1,some 27)];exact fun _=>rfl;rfl;intro vals vq w1 hC1 E hE;have d0:=HGC.out _ hC1.bel;simp only [sP,vq] at hE ⊢;clear vq;go_wp2;exact .mk (hE _ hC1)
   apply yN_
   ·apply dP [];exact fun _=>rfl;rfl;intro vals vq w1 hC1 E hE;clear vq;simp only [sP] at hE ⊢;go_wp2;exact .mk (hE _ hC1)
   apply yN_
   ·apply dP [(3,some 29)];exact fun _=>rfl;rfl;intro vals vq w1 hC1 E hE;have d0:=hC1.form.cell 0;simp [f32C] at d0;simp only [sP,vq] at hE ⊢;clear vq;go_wp2;exact .mk (hE _ hC1)
   apply yN_
   ·apply dP [(4,some 30)];exact fun _=>rfl;rfl;intro vals vq w1 hC1 E hE;simp only [sP,vq] at hE ⊢;clear vq;go_wp2;exact .mk (hE _ hC1)
   apply yN_
   ·apply dP [(2,some 28),(5,some 31)];exact fun _=>rfl;rfl;intro vals vq w1 hC1 E hE;simp only [sP,vq] at hE ⊢;clear vq;go_wp2;exact .mk (hE _ hC1)
   apply yN_
   ·apply dP [(6,some 32)];exact fun _=>rfl;rfl;intro vals vq w1 hC1 E hE;simp only [sP,vq] at hE ⊢;clear vq;go_wp2_with fail;rw [show (kk:Int)/4294967296=((kk/4294967296:Nat):Int) from by omega];refine qaa (qb8 _ _ (by have:=HKL.out; omega)) ?_;rintro e w2 ⟨rfl,rfl⟩;rw [HKN.out];go_wp2_with fail;exact .mk (hE _ hC1)
   apply yL_
   ·apply dP [(7,some 33),(7,some 33),(0,some 26),(1,some 27),(2,some 28),(3,some 29),(4,some 30),(5,some 31),(6,some 32),(7,some 33)];exact fun _=>rfl;rfl;intro vals vq w1 hC1 E hE;simp only [sP,vq] at hE ⊢;clear vq;go_wp2;exact .mk (hE _ hC1)
   intro vals vq w1 hC1;simp only [sP,vq];clear vq;clear HC0 crow;go_wp2_with fail;have HC0:=hC1.drew;clear hC1;refine qaj (fun u=>MixSt32 w gf gr s (rowC .u32 RW 0) (s8V .u32 ⟨va,vb,vc,vd,ve,vf,vg,vh⟩) u) (fun u=>MixSt32 w gf gr s (rowC .u32 RW 0) (s8V .u32 ⟨va,vb,vc,vd,ve,vf,vg,vh⟩) u) [(0,some 34),(1,some 35),(2,some 36),(3,some 37),(4,some 11),(5,some 12)] (by kernel_rfl) (by kernel_rfl) (by decide) (by kernel_rfl) (fun _=>rfl) HC0 ?_;apply yN_
   ·apply dP [];exact fun _=>rfl;rfl;rintro vals - w1 hC1 E hE;simp only [sP] at hE ⊢;go_wp2;exact .mk (hE _ hC1)
   apply yN_
   ·apply dP [(0,some 34)];exact fun _=>rfl;rfl;intro vals vq w1 hC1 E hE;have d0:=hC1.v.cell 0;simp [s8V] at d0;simp only [sP,vq] at hE ⊢;clear vq;go_wp2;exact .mk (hE _ hC1)
   apply yN_
   ·apply dP [];exact fun _=>rfl;rfl;intro vals vq w1 hC1 E hE;clear vq;simp only [sP] at hE ⊢;go_wp2;exact .mk (hE _ hC1)
   apply yN_
   ·apply dP [(2,some 36)];exact fun _=>rfl;rfl;intro vals vq w1 hC1 E hE;have d0:=hC1.v.cell 4;simp [s8V] at d0;simp only [sP,vq] at hE ⊢;clear vq;go_wp2;exact .mk (hE _ hC1)
   apply yN_
   ·apply dP [(1,some 35),(0,some 34),(1,some 35)];exact fun _=>rfl;rfl;intro vals vq w1 hC1 E hE;simp only [sP,vq] at hE ⊢;clear vq;go_wp2;exact .mk (hE _ hC1)
   apply yL_
   ·apply dP [(3,some 37),(4,some 11),(0,some 34),(1,some 35),(2,some 36),(3,some 37),(4,some 11)];exact fun _=>rfl;rfl;intro vals vq w1 hC1 E hE;simp only [sP,vq] at hE ⊢;clear vq;go_wp2;exact .mk (hE _ hC1)
   intro vals vq w1 hC1;simp only [sP,vq];clear vq;clear HC0;have ive:(ve:Int)<4294967296:=by have:=HL8.out.e; dsimp only at this; omega
   have iva:(va:Int)<4294967296:=by have:=HL8.out.a; dsimp only at this; omega
   go_wp2_with fail;have HC0:=hC1.drew;clear hC1;obtain ⟨XA,hXA⟩:=eX (allN 32 ve 6 11 25 false);have lXA:XA<18446744073709551616:=by rw [hXA]; exact allN_lt (by have:=HL8.out.e; dsimp only at this; omega)
   obtain ⟨ca,hca⟩:=eX (XA%4294967296);obtain ⟨af,haf⟩:=eX (ve &&& vf);obtain ⟨ne,hne⟩:=eX (4294967295 - ve);obtain ⟨ng,hng⟩:=eX (ne &&& vg);obtain ⟨ch,hch⟩:=eX (af ^^^ ng);obtain ⟨p1,hp1⟩:=eX ((vh+ca)%2^32);obtain ⟨p2,hp2⟩:=eX ((p1+ch)%2^32);obtain ⟨p3,hp3⟩:=eX ((p2+kn)%2^32);obtain ⟨xx,hxx⟩:=eX ((p3+wk)%2^32);have HP1:=zY hp1;have HP2:=zY hp2;have HP3:=zY hp3;have HXA:=zY hXA;have LXA:=zY lXA;have HCA:=zY hca;have HAF:=zY haf;have HNE:=zY hne;have HNG:=zY hng;have HCH:=zY hch;have AFL:Hid (af<2^32):=zY (by rw [haf]; exact qcm HL8.out.e);have NEL:Hid (ne<2^32):=zY (by rw [hne]; omega);have NGL:Hid (ng<2^32):=zY (by rw [hng]; exact qcm NEL.out);have HXX:=zY hxx;clear hXA lXA hca haf hne hng hch hxx hp1 hp2 hp3;refine qaj (fun u=>MixSt32 w gf gr s (rowC .u32 RW 0) (s8V .u32 ⟨va,vb,vc,vd,ve,vf,vg,vh⟩) u) (fun u=>MixSt32 w gf gr s (rowC .u32 RW 0) (s8V .u32 ⟨va,vb,vc,vd,ve,vf,vg,vh⟩) u) [(0,some 38),(1,some 39),(2,some 40),(3,some 41),(4,some 42),(5,some 43),(6,some 44),(7,some 45),(8,some 46),(9,some 47),(10,some 48),(11,some 49),(12,some 50),(13,some 51),(14,some 52),(15,some 53),(16,some 54),(17,some 55),(18,some 56),(19,some 57),(20,some 58),(21,some 59),(22,some 60),(23,some 61),(24,some 62),(25,some 63),(26,some 13)] (by kernel_rfl) (by kernel_rfl) (by decide) (by kernel_rfl) (fun _=>rfl) HC0 ?_;apply yN_
   ·apply dP [];exact fun _=>rfl;rfl;rintro vals - w1 hC1 E hE;simp only [sP] at hE ⊢;go_wp2;exact .mk (hE _ hC1)
   apply yN_
   ·apply dP [(0,some 38)];exact fun _=>rfl;rfl;intro vals vq w1 hC1 E hE;have d0:=hC1.v.cell 7;simp [s8V] at d0;simp only [sP,vq] at hE ⊢;clear vq;go_wp2;exact .mk (hE _ hC1)
   apply yN_
   ·apply dP [];exact fun _=>rfl;rfl;intro vals vq w1 hC1 E hE;clear vq;simp only [sP] at hE ⊢;refine qad hC1.form rfl rfl rfl hu rfl qaY ?_;go_wp2_with fail;exact .mk (hE _ hC1)
   apply yN_
   ·apply dP [];exact fun _=>rfl;rfl;intro vals vq w1 hC1 E hE;clear vq;simp only [sP] at hE ⊢;go_wp2;exact .mk (hE _ hC1)
   apply yN_
   ·apply dP [(3,some 41)];exact fun _=>rfl;rfl;intro vals vq w1 hC1 E hE;simp only [sP,vq] at hE ⊢;clear vq;go_wp2;exact .mk (hE _ hC1)
   apply yN_
   ·apply dP [];exact fun _=>rfl;rfl;intro vals vq w1 hC1 E hE;clear vq;simp only [sP] at hE ⊢;go_wp2;exact .mk (hE _ hC1)
   apply yN_
   ·apply dP [(5,some 43)];exact fun _=>rfl;rfl;intro vals vq w1 hC1 E hE;simp only [sP,vq] at hE ⊢;clear vq;go_wp2;exact .mk (hE _ hC1)
   apply yN_
   ·apply dP [(6,some 44)];exact fun _=>rfl;rfl;intro vals vq w1 hC1 E hE;simp only [sP,vq] at hE ⊢;clear vq;refine qbf (n:=3) (r:=#[.int .i64 6,.int .i64 11,.int .i64 25]) hC1.form (by decide) rfl rfl rfl rfl hu3 rfl qce ?_;go_wp2_with fail;exact .mk (hE _ hC1)
   apply yN_
   ·apply dP [(2,some 40),(4,some 42),(7,some 45)];exact fun _=>rfl;rfl;intro vals vq w1 hC1 E hE;simp only [sP,vq] at hE ⊢;clear vq;go_wp2_with fail;refine qaa (qcO ve 6 11 25 false _ (by have:=HL8.out.e; dsimp only at this; omega) (by decide) (by decide) (by decide)) ?_;rintro e w2 ⟨rfl,hb2⟩;rw [← HXA.out];go_wp2_with fail;exact .mk (hE _ (hC1.next hb2))
   apply yN_
   ·apply dP [(8,some 46),(8,some 46)];exact fun _=>rfl;rfl;intro vals vq w1 hC1 E hE;simp only [sP,vq] at hE ⊢;clear vq;go_wp2_with fail;refine qaa (qb8 XA _ LXA.out) ?_;rintro e w2 ⟨rfl,rfl⟩;rw [← HCA.out];go_wp2_with fail;exact .mk (hE _ hC1)
   apply yN_
   ·apply dP [(1,some 39),(9,some 47)];exact fun _=>rfl;rfl;intro vals vq w1 hC1 E hE;simp only [sP,vq] at hE ⊢;clear vq;go_wp2;rw [qcc vh ca,← HP1.out];exact .mk (hE _ hC1)
   apply yN_
   ·apply dP [];exact fun _=>rfl;rfl;intro vals vq w1 hC1 E hE;clear vq;simp only [sP] at hE ⊢;go_wp2;exact .mk (hE _ hC1)
   apply yN_
   ·apply dP [];exact fun _=>rfl;rfl;intro vals vq w1 hC1 E hE;clear vq;simp only [sP] at hE ⊢;go_wp2;exact .mk (hE _ hC1)
   apply yN_
   ·apply dP [(12,some 50)];exact fun _=>rfl;rfl;intro vals vq w1 hC1 E hE;have d0:=hC1.v.cell 5;simp [s8V] at d0;simp only [sP,vq] at hE ⊢;clear vq;go_wp2;exact .mk (hE _ hC1)
   apply yN_
   ·apply dP [(11,some 49),(13,some 51)];exact fun _=>rfl;rfl;intro vals vq w1 hC1 E hE;simp only [sP,vq] at hE ⊢;clear vq;go_wp2;rw [and32 ve vf HL8.out.e HL8.out.f,← HAF.out];exact .mk (hE _ hC1)
   apply yN_
   ·apply dP [];exact fun _=>rfl;rfl;intro vals vq w1 hC1 E hE;clear vq;simp only [sP] at hE ⊢;go_wp2;exact .mk (hE _ hC1)
   apply yN_
   ·apply dP [(15,some 53)];exact fun _=>rfl;rfl;intro vals vq w1 hC1 E hE;simp only [sP,vq] at hE ⊢;clear vq;refine wpList_unary (run_not32 ve HL8.out.e) rfl rfl rfl ?_;rw [← HNE.out];go_wp2_with fail;exact .mk (hE _ hC1)
   apply yN_
   ·apply dP [];exact fun _=>rfl;rfl;intro vals vq w1 hC1 E hE;clear vq;simp only [sP] at hE ⊢;go_wp2;exact .mk (hE _ hC1)
   apply yN_
   ·apply dP [(17,some 55)];exact fun _=>rfl;rfl;intro vals vq w1 hC1 E hE;have d0:=hC1.v.cell 6;simp [s8V] at d0;simp only [sP,vq] at hE ⊢;clear vq;go_wp2;exact .mk (hE _ hC1)
   apply yN_
   ·apply dP [(16,some 54),(18,some 56)];exact fun _=>rfl;rfl;intro vals vq w1 hC1 E hE;simp only [sP,vq] at hE ⊢;clear vq;go_wp2;rw [and32 ne vg NEL.out HL8.out.g,← HNG.out];exact .mk (hE _ hC1)
   apply yN_
   ·apply dP [(14,some 52),(19,some 57)];exact fun _=>rfl;rfl;intro vals vq w1 hC1 E hE;simp only [sP,vq] at hE ⊢;clear vq;go_wp2;rw [xor32 af ng AFL.out NGL.out,← HCH.out];exact .mk (hE _ hC1)
   apply yN_
   ·apply dP [(10,some 48),(20,some 58)];exact fun _=>rfl;rfl;intro vals vq w1 hC1 E hE;simp only [sP,vq] at hE ⊢;clear vq;go_wp2;rw [qcc p1 ch,← HP2.out];exact .mk (hE _ hC1)
   apply yN_
   ·apply dP [];exact fun _=>rfl;rfl;intro vals vq w1 hC1 E hE;clear vq;simp only [sP] at hE ⊢;go_wp2;exact .mk (hE _ hC1)
   apply yN_
   ·apply dP [(21,some 59),(22,some 60)];exact fun _=>rfl;rfl;intro vals vq w1 hC1 E hE;simp only [sP,vq] at hE ⊢;clear vq;go_wp2;rw [qcc p2 kn,← HP3.out];exact .mk (hE _ hC1)
   apply yN_
   ·apply dP [];exact fun _=>rfl;rfl;intro vals vq w1 hC1 E hE;clear vq;simp only [sP] at hE ⊢;go_wp2;exact .mk (hE _ hC1)
   apply yN_
   ·apply dP [(23,some 61),(24,some 62)];exact fun _=>rfl;rfl;intro vals vq w1 hC1 E hE;simp only [sP,vq] at hE ⊢;clear vq;go_wp2;rw [qcc p3 wk,← HXX.out];exact .mk (hE _ hC1)
   apply yL_
   ·apply dP [(25,some 63),(9,some 47),(0,some 38),(1,some 39),(2,some 40),(3,some 41),(4,some 42),(5,some 43),(6,some 44),(7,some 45),(8,some 46),(9,some 47),(10,some 48),(11,some 49),(12,some 50),(13,some 51),(14,some 52),(15,some 53),(16,some 54),(17,some 55),(18,some 56),(19,some 57),(20,some 58),(21,some 59),(22,some 60),(23,some 61),(24,some 62),(25,some 63)];exact fun _=>rfl;rfl;intro vals vq w1 hC1 E hE;simp only [sP,vq] at hE ⊢;clear vq;go_wp2;exact .mk (hE _ hC1)
   intro vals vq w1 hC1;simp only [sP,vq];clear vq;clear HC0;go_wp2_with fail;have HC0:=hC1.drew;clear hC1;obtain ⟨YA,hYA⟩:=eX (allN 32 va 2 13 22 false);have lYA:YA<18446744073709551616:=by rw [hYA]; exact allN_lt (by have:=HL8.out.a; dsimp only at this; omega)
   obtain ⟨cy,hcy⟩:=eX (YA%4294967296);obtain ⟨ab,hab⟩:=eX (va &&& vb);obtain ⟨ac,hac⟩:=eX (va &&& vc);obtain ⟨bc,hbc⟩:=eX (vb &&& vc);obtain ⟨x1,hx1⟩:=eX (ab ^^^ ac);obtain ⟨mj,hmj⟩:=eX (x1 ^^^ bc);obtain ⟨yy,hyy⟩:=eX ((cy+mj)%2^32);have HYA:=zY hYA;have LYA:=zY lYA;have HCY:=zY hcy;have HAB:=zY hab;have HAC:=zY hac;have HBC:=zY hbc;have HX1:=zY hx1;have HMJ:=zY hmj;have HYY:=zY hyy;have ABL:Hid (ab<2^32):=zY (by rw [hab]; exact qcm HL8.out.a);have ACL:Hid (ac<2^32):=zY (by rw [hac]; exact qcm HL8.out.a);have BCL:Hid (bc<2^32):=zY (by rw [hbc]; exact qcm HL8.out.b);have X1L:Hid (x1<2^32):=zY (by rw [hx1]; exact Nat.xor_lt_two_pow ABL.out ACL.out);clear hYA lYA hcy hab hac hbc hx1 hmj hyy;refine qaj (fun u=>MixSt32 w gf gr s (rowC .u32 RW 0) (s8V .u32 ⟨va,vb,vc,vd,ve,vf,vg,vh⟩) u) (fun u=>MixSt32 w gf gr s (rowC .u32 RW 0) (s8V .u32 ⟨va,vb,vc,vd,ve,vf,vg,vh⟩) u) [(0,some 64),(1,some 65),(2,some 66),(3,some 67),(4,some 68),(5,some 69),(6,some 70),(7,some 71),(8,some 72),(9,some 73),(10,some 74),(11,some 75),(12,some 76),(13,some 77),(14,some 78),(15,some 79),(16,some 80),(17,some 81),(18,some 82),(19,some 83),(20,some 84),(21,some 85),(22,some 86),(23,some 87),(24,some 14)] (by kernel_rfl) (by kernel_rfl) (by decide) (by kernel_rfl) (fun _=>rfl) HC0 ?_;apply yN_
   ·apply dP [];exact fun _=>rfl;rfl;rintro vals - w1 hC1 E hE;simp only [sP] at hE ⊢;refine qad hC1.form rfl rfl rfl hu rfl qaY ?_;go_wp2_with fail;exact .mk (hE _ hC1)
   apply yN_
   ·apply dP [];exact fun _=>rfl;rfl;rintro vals ⟨-,-⟩ w1 hC1 E hE;simp only [sP] at hE ⊢;go_wp2;exact .mk (hE _ hC1)
   apply yN_
   ·apply dP [(1,some 65)];exact fun _=>rfl;rfl;intro vals vq w1 hC1 E hE;simp only [sP,vq] at hE ⊢;clear vq;go_wp2;exact .mk (hE _ hC1)
   apply yN_
   ·apply dP [];exact fun _=>rfl;rfl;intro vals vq w1 hC1 E hE;clear vq;simp only [sP] at hE ⊢;go_wp2;exact .mk (hE _ hC1)
   apply yN_
   ·apply dP [(3,some 67)];exact fun _=>rfl;rfl;intro vals vq w1 hC1 E hE;simp only [sP,vq] at hE ⊢;clear vq;go_wp2;exact .mk (hE _ hC1)
   apply yN_
   ·apply dP [(4,some 68)];exact fun _=>rfl;rfl;intro vals vq w1 hC1 E hE;simp only [sP,vq] at hE ⊢;clear vq;refine qbf (n:=3) (r:=#[.int .i64 2,.int .i64 13,.int .i64 22]) hC1.form (by decide) rfl rfl rfl rfl hu3 rfl qce ?_;go_wp2_with fail;exact .mk (hE _ hC1)
   apply yN_
   ·apply dP [(0,some 64),(2,some 66),(5,some 69)];exact fun _=>rfl;rfl;intro vals vq w1 hC1 E hE;simp only [sP,vq] at hE ⊢;clear vq;go_wp2_with fail;refine qaa (qcO va 2 13 22 false _ (by have:=HL8.out.a; dsimp only at this; omega) (by decide) (by decide) (by decide)) ?_;rintro e w2 ⟨rfl,hb2⟩;rw [← HYA.out];go_wp2_with fail;exact .mk (hE _ (hC1.next hb2))
   apply yN_
   ·apply dP [(6,some 70),(6,some 70)];exact fun _=>rfl;rfl;intro vals vq w1 hC1 E hE;simp only [sP,vq] at hE ⊢;clear vq;go_wp2_with fail;refine qaa (qb8 YA _ LYA.out) ?_;rintro e w2 ⟨rfl,rfl⟩;rw [← HCY.out];go_wp2_with fail;exact .mk (hE _ hC1)
   apply yN_
   ·apply dP [];exact fun _=>rfl;rfl;intro vals vq w1 hC1 E hE;clear vq;simp only [sP] at hE ⊢;go_wp2;exact .mk (hE _ hC1)
   apply yN_
   ·apply dP [];exact fun _=>rfl;rfl;intro vals vq w1 hC1 E hE;clear vq;simp only [sP] at hE ⊢;go_wp2;exact .mk (hE _ hC1)
   apply yN_
   ·apply dP [(9,some 73)];exact fun _=>rfl;rfl;intro vals vq w1 hC1 E hE;have d0:=hC1.v.cell 1;simp [s8V] at d0;simp only [sP,vq] at hE ⊢;clear vq;go_wp2;exact .mk (hE _ hC1)
   apply yN_
   ·apply dP [(8,some 72),(10,some 74)];exact fun _=>rfl;rfl;intro vals vq w1 hC1 E hE;simp only [sP,vq] at hE ⊢;clear vq;go_wp2;rw [and32 va vb HL8.out.a HL8.out.b,← HAB.out];exact .mk (hE _ hC1)
   apply yN_
   ·apply dP [];exact fun _=>rfl;rfl;intro vals vq w1 hC1 E hE;clear vq;simp only [sP] at hE ⊢;go_wp2;exact .mk (hE _ hC1)
   apply yN_
   ·apply dP [];exact fun _=>rfl;rfl;intro vals vq w1 hC1 E hE;clear vq;simp only [sP] at hE ⊢;go_wp2;exact .mk (hE _ hC1)
   apply yN_
   ·apply dP [(13,some 77)];exact fun _=>rfl;rfl;intro vals vq w1 hC1 E hE;have d0:=hC1.v.cell 2;simp [s8V] at d0;simp only [sP,vq] at hE ⊢;clear vq;go_wp2;exact .mk (hE _ hC1)
   apply yN_
   ·apply dP [(12,some 76),(14,some 78)];exact fun _=>rfl;rfl;intro vals vq w1 hC1 E hE;simp only [sP,vq] at hE ⊢;clear vq;go_wp2;rw [and32 va vc HL8.out.a HL8.out.c,← HAC.out];exact .mk (hE _ hC1)
   apply yN_
   ·apply dP [(11,some 75),(15,some 79)];exact fun _=>rfl;rfl;intro vals vq w1 hC1 E hE;simp only [sP,vq] at hE ⊢;clear vq;go_wp2;rw [xor32 ab ac ABL.out ACL.out,← HX1.out];exact .mk (hE _ hC1)
   apply yN_
   ·apply dP [];exact fun _=>rfl;rfl;intro vals vq w1 hC1 E hE;clear vq;simp only [sP] at hE ⊢;go_wp2;exact .mk (hE _ hC1)
   apply yN_
   ·apply dP [(17,some 81)];exact fun _=>rfl;rfl;intro vals vq w1 hC1 E hE;have d0:=hC1.v.cell 1;simp [s8V] at d0;simp only [sP,vq] at hE ⊢;clear vq;go_wp2;exact .mk (hE _ hC1)
   apply yN_
   ·apply dP [];exact fun _=>rfl;rfl;intro vals vq w1 hC1 E hE;clear vq;simp only [sP] at hE ⊢;go_wp2;exact .mk (hE _ hC1)
   apply yN_
   ·apply dP [(19,some 83)];exact fun _=>rfl;rfl;intro vals vq w1 hC1 E hE;have d0:=hC1.v.cell 2;simp [s8V] at d0;simp only [sP,vq] at hE ⊢;clear vq;go_wp2;exact .mk (hE _ hC1)
   apply yN_
   ·apply dP [(18,some 82),(20,some 84)];exact fun _=>rfl;rfl;intro vals vq w1 hC1 E hE;simp only [sP,vq] at hE ⊢;clear vq;go_wp2;rw [and32 vb vc HL8.out.b HL8.out.c,← HBC.out];exact .mk (hE _ hC1)
   apply yN_
   ·apply dP [(16,some 80),(21,some 85)];exact fun _=>rfl;rfl;intro vals vq w1 hC1 E hE;simp only [sP,vq] at hE ⊢;clear vq;go_wp2;rw [xor32 x1 bc X1L.out BCL.out,← HMJ.out];exact .mk (hE _ hC1)
   apply yN_
   ·apply dP [(7,some 71),(22,some 86)];exact fun _=>rfl;rfl;intro vals vq w1 hC1 E hE;simp only [sP,vq] at hE ⊢;clear vq;go_wp2;rw [qcc cy mj,← HYY.out];exact .mk (hE _ hC1)
   apply yL_
   ·apply dP [(23,some 87),(7,some 71),(0,some 64),(1,some 65),(2,some 66),(3,some 67),(4,some 68),(5,some 69),(6,some 70),(7,some 71),(8,some 72),(9,some 73),(10,some 74),(11,some 75),(12,some 76),(13,some 77),(14,some 78),(15,some 79),(16,some 80),(17,some 81),(18,some 82),(19,some 83),(20,some 84),(21,some 85),(22,some 86),(23,some 87)];exact fun _=>rfl;rfl;intro vals vq w1 hC1 E hE;simp only [sP,vq] at hE ⊢;clear vq;go_wp2;exact .mk (hE _ hC1)
   intro vals vq w1 hC1;simp only [sP,vq];clear vq;clear HC0;go_wp2_with fail;have HC0:=hC1.drew;clear hC1;refine qaj (fun u=>MixSt32 w gf gr s (rowC .u32 RW 0) (s8V .u32 ⟨va,vb,vc,vd,ve,vf,vg,vh⟩) u) (fun u=>MixSt32 w gf gr s (rowC .u32 RW 0) (s8V .u32 ⟨va,va,vb,vc,vd,ve,vf,vg⟩) u) [(0,some 88),(1,some 89),(2,some 90)] (by kernel_rfl) (by kernel_rfl) (by decide) (by kernel_rfl) (fun _=>rfl) HC0 ?_;apply yN_
   ·apply dP [];exact fun _=>rfl;rfl;rintro vals - w1 hC1 E hE;simp only [sP] at hE ⊢;go_wp2;exact .mk (hE _ hC1)
   apply yN_
   ·apply dP [];exact fun _=>rfl;rfl;rintro vals ⟨-,-⟩ w1 hC1 E hE;simp only [sP] at hE ⊢;go_wp2;exact .mk (hE _ hC1)
   apply yL_
   ·apply dP [(0,some 88),(1,some 89)];exact fun _=>rfl;rfl;intro vals vq w1 hC1 E hE;simp only [sP,vq] at hE ⊢;clear vq;refine qdk ((s8V .u32 ⟨va,vb,vc,vd,ve,vf,vg,vh⟩).toList.take 7) (new:=s8V .u32 ⟨va,va,vb,vc,vd,ve,vf,vg⟩) hC1.v rfl rfl Tryz.underlying162 one32 rfl rfl rfl (blk_src hC1.v 7) (by simp [s8V]) (by simp [s8V,Value.oneCell']) rfl ?_;intro w2 hb2 hw2;go_wp2_with fail;exact .mk (hE _ (hC1.put hw2 hb2))
   intro vals vq w1 hC1;simp only [sP,vq];clear vq;clear HC0;have d4:=hC1.v.cell 4;simp [s8V] at d4;have d0:=hC1.v.cell 0;simp [s8V] at d0;have g4:=hC1.v.free 4;have g0:=hC1.v.free 0;have HC1:=zY hC1;clear hC1 iwk ikk ive iva;have hu8':=zY hu8;have hu':=zY hu;have hu3':=zY hu3;clear hu8 hu hu3;obtain ⟨dx,hdx⟩:=eX ((vd+xx)%2^32);obtain ⟨xy,hxy⟩:=eX ((xx+yy)%2^32);have HDX:=zY hdx;have HXY:=zY hxy;clear hdx hxy
   have hfin:∀ u,u=(w1.setCell ⟨gf+1+1+1,4,none⟩ (.int .u32 (dx:Int))).setCell ⟨gf+1+1+1,0,none⟩ (.int .u32 (xy:Int))→MixSt32 w gf gr s (rowC .u32 RW 0) (s8V .u32 (mixTo F32 RW s (k+1))) u:=by
    intro u hu;rw [hu,mixTo,← HVV.out];have h1:=HC1.out.put (v':=s8V .u32 ⟨va,va,vb,vc,dx,ve,vf,vg⟩) (qap w1 (gf+1+1+1) 4 (.int .u32 (dx:Int))) (qau (i:=4) HC1.out.v (.int .u32 (dx:Int)));have h2:=h1.put (v':=s8V .u32 ⟨xy,va,vb,vc,dx,ve,vf,vg⟩) (qap _ (gf+1+1+1) 0 (.int .u32 (xy:Int))) (qau (i:=0) h1.v (.int .u32 (xy:Int)))
    have e1:mixX F32 ⟨va,vb,vc,vd,ve,vf,vg,vh⟩ (kN F32 k) (RW.getD k 0)=xx:=by
     rw [HXX.out,HP3.out,HP2.out,HP1.out,HCH.out,HNG.out,HNE.out,HAF.out,HCA.out,HXA.out,HWK.out,HKNE.out];exact mixX_32 _ _ _ _ _
    have e2:mixY F32 ⟨va,vb,vc,vd,ve,vf,vg,vh⟩=yy:=by
     rw [HYY.out,HMJ.out,HX1.out,HAB.out,HAC.out,HBC.out,HCY.out,HYA.out];exact mixY_32 _ _
    have e3:stepS F32 ⟨va,vb,vc,vd,ve,vf,vg,vh⟩ (kN F32 k) (RW.getD k 0)=⟨xy,va,vb,vc,dx,ve,vf,vg⟩:=by
     rw [stepS,e1,e2,HDX.out,HXY.out];rfl
    rw [e3];exact h2
   have HFIN:=zY hfin;clear hfin;go_wp2_with fail;rw [qcc vd xx,qcc xx yy,← HDX.out,← HXY.out];exact ⟨⟨k+1,hlt,by go_num,HFIN.out _ rfl⟩,by simp [intOf]; omega⟩
  ·have hge:¬ (k:Int)<64:=by omega
   obtain rfl:k=64:=by omega
   have HST:=zY hst;clear hst;go_wp2_with fail;obtain ⟨vv,hvv⟩:=eX (mixTo F32 RW s 64);have HVV:=zY hvv;have hst9:MixSt32 w gf gr s (rowC .u32 RW 0) (addC .u32 F32 s vv 0) wr:=by rw [addC_zero,HVV.out]; exact HST.out
   clear hvv HST;obtain ⟨wo,rfl⟩:∃ wo:World,wo=wr:=⟨_,rfl⟩
   go_loopw [101] (fun i wr=>∃ j:Nat,j≤8∧i=.int .i64 j∧MixSt32 w gf gr s (rowC .u32 RW 0) (addC .u32 F32 s vv j) wr) (fun i _=>8 - (intOf i).toNat)
   case atStart=>exact ⟨0,by omega,rfl,hst9⟩
   case round =>
    obtain ⟨j,hj,rfl,hsj⟩:=hrel;clear hst9
    by_cases hj8:j<8
    ·have hj8':(j:Int)<8:=by omega
     obtain ⟨vj,hvj⟩:=eX ((s8L vv).getD j 0);obtain ⟨sj,hsj'⟩:∃ x,x=(s8L s).getD j 0:=⟨_,rfl⟩;obtain ⟨aj,haj⟩:=eX ((vj+sj)%2^32);have E1:Hid ((addC .u32 F32 s vv j)[j]?=some (.int .u32 (vj:Int))):=zY (by rw [addC_at .u32 F32 s vv j hj8,hvj]);have E2:Hid ((s8V .u32 s)[j]?=some (.int .u32 (sj:Int))):=zY (by rw [s8V_at .u32 s j hj8,hsj']);have E3:Hid ((addC .u32 F32 s vv j).setIfInBounds j (.int .u32 (aj:Int))=addC .u32 F32 s vv (j+1)):=zY (by rw [haj,hvj,hsj']; exact addC_set .u32 F32 s vv j hj8);have HAJ:=zY haj;clear hvj hsj' haj;go_wp2_with fail;have HC0:=hsj.drew;clear hsj;refine qaj (fun u=>MixSt32 w gf gr s (rowC .u32 RW 0) (addC .u32 F32 s vv j) u) (fun u=>MixSt32 w gf gr s (rowC .u32 RW 0) (addC .u32 F32 s vv (j+1)) u) [(0,some 104),(1,some 105),(2,some 106),(3,some 107),(4,some 108),(5,some 109),(6,some 110),(7,some 111),(8,none)] (by kernel_rfl) (by kernel_rfl) (by decide) (by kernel_rfl) (fun _=>rfl) HC0 ?_;apply yN_
     ·apply dP [];exact fun _=>rfl;rfl;rintro vals - w1 hC1 E hE;simp only [sP] at hE ⊢;go_wp2;exact .mk (hE _ hC1)
     apply yN_
     ·apply dP [(0,some 104)];exact fun _=>rfl;rfl;intro vals vq w1 hC1 E hE;simp only [sP,vq] at hE ⊢;clear vq;go_wp2;exact .mk (hE _ hC1)
     apply yN_
     ·apply dP [(1,some 105)];exact fun _=>rfl;rfl;intro vals vq w1 hC1 E hE;have d0:=hC1.v.cell j;rw [E1.out] at d0;simp only [sP,vq] at hE ⊢;clear vq;go_wp2;exact .mk (hE _ hC1)
     apply yN_
     ·apply dP [];exact fun _=>rfl;rfl;intro vals vq w1 hC1 E hE;clear vq;simp only [sP] at hE ⊢;go_wp2;exact .mk (hE _ hC1)
     apply yN_
     ·apply dP [(3,some 107)];exact fun _=>rfl;rfl;intro vals vq w1 hC1 E hE;simp only [sP,vq] at hE ⊢;clear vq;go_wp2;exact .mk (hE _ hC1)
     apply yN_
     ·apply dP [(4,some 108)];exact fun _=>rfl;rfl;intro vals vq w1 hC1 E hE;have d0:=hC1.s.cell j;rw [E2.out] at d0;simp only [sP,vq] at hE ⊢;clear vq;go_wp2;exact .mk (hE _ hC1)
     apply yN_
     ·apply dP [(2,some 106),(5,some 109)];exact fun _=>rfl;rfl;intro vals vq w1 hC1 E hE;simp only [sP,vq] at hE ⊢;clear vq;go_wp2;rw [qcc vj sj,← HAJ.out];exact .mk (hE _ hC1)
     apply yN_
     ·apply dP [(0,some 104),(0,some 104),(1,some 105),(2,some 106),(3,some 107),(4,some 108),(5,some 109),(6,some 110)];exact fun _=>rfl;rfl;intro vals vq w1 hC1 E hE;simp only [sP,vq] at hE ⊢;clear vq;go_wp2;exact .mk (hE _ hC1)
     apply yL_ (v:=undef)
     ·apply dP [(7,some 111),(6,some 110),(0,some 104),(1,some 105),(2,some 106),(3,some 107),(4,some 108),(5,some 109),(6,some 110)];exact fun _=>rfl;rfl;intro vals vq w1 hC1 E hE;simp only [sP,vq] at hE ⊢;clear vq;refine qaf (i:=j) (v:=.int .u32 (aj:Int)) hC1.v rfl rfl rfl rfl one32 (by rw [addC_size]; exact hj8) rfl ?_;intro w2 hb2 hw2;go_wp2_with fail;exact .mk (hE _ (hC1.put hw2 (by rw [E3.out] at hb2; exact hb2)))
     intro vals vq w1 hC1;simp only [sP,vq];clear vq;clear HC0;have HC1:=zY hC1;clear hC1;go_wp2_with fail;exact ⟨⟨j+1,hj8,by go_num,HC1.out⟩,by simp [intOf]; omega⟩
    ·have hge:¬ (j:Int)<8:=by omega
     obtain rfl:j=8:=by omega
     rw [addC_end] at hsj
     go_wp2_with (first
      | (refine qad (x:=.tmp 7) hsj.v rfl rfl rfl hu8 rfl qaU ?_)
      | (refine qac (x:=.tmp 6) hsj.res rfl rfl rfl rfl qaU rfl (by simp [s8V,Value.oneCell']) ?_; intro w5 hb5 hw5))
     refine bodyPost_ret (qah (P:=Tryz.prog) rfl rfl hb5 hu8 rfl qaU) rfl ?_;refine ⟨?_,?_⟩
     ·rw [mixS,HVV.out,HRW.out]; rfl
     ·rw [HGF.out];exact hw5.below hsj.bel (by omega) (by have:=hsj.form.lt; omega)
def zeroN (F:ShaF) (n:Nat):Nat:=(2*F.bits - 8+2*F.bits - (n+1)%(2*F.bits))%(2*F.bits)
def moreN (F:ShaF) (n:Nat):Nat:=if 8<F.bits/4∧2*F.bits - F.bits/4≤n%(2*F.bits)∧n%(2*F.bits)<2*F.bits - 8 then 2*F.bits else 0
def be8 (n:Nat):Nat→List UInt8
 | 0=>[]
 | k+1=>be8 n k++[UInt8.ofNat (n/2^(56 - 8*k))]
def prepS (F:ShaF) (data:List UInt8):List UInt8:=data++[128]++List.replicate (zeroN F data.length) 0++List.replicate (moreN F data.length) 0
def padS (F:ShaF) (data:List UInt8):List UInt8:=data++[128]++List.replicate (zeroN F data.length) 0++List.replicate (moreN F data.length) 0++be8 (data.length*8) 8
def firstN:List Nat:=[7640891576956012808,13503953896175478587,4354685564936845355,11912009170470909681,5840696475078001361,11170449401992604703,2270897969802886507,6620516959819538809]
def startS (F:ShaF):S8 :=
 let f:=fun i=>firstN.getD i 0/2^(64 - F.bits)%2^F.bits
 ⟨f 0,f 1,f 2,f 3,f 4,f 5,f 6,f 7⟩
def runS (F:ShaF) (all:List UInt8):Nat→S8
 | 0=>startS F
 | k+1=>mixS F (runS F all k) ((all.drop (k*(2*F.bits))).take (2*F.bits))
def setC (K:IntKind) (s:S8) (i:Nat):Array Value:=(wordsV K ((s8L s).take i++(s8L ⟨0,0,0,0,0,0,0,0⟩).drop i)).toArray
theorem setC_end (K:IntKind) (s:S8):setC K s 8=s8V K s:=rfl
theorem setC_at (K:IntKind) (s:S8) (i:Nat) (h:i<8):(setC K s i)[i]?=some (.int K 0):=by
 match i,h with
 | 0,_=>rfl
 | 1,_=>rfl
 | 2,_=>rfl
 | 3,_=>rfl
 | 4,_=>rfl
 | 5,_=>rfl
 | 6,_=>rfl
 | 7,_=>rfl
theorem setC_set (K:IntKind) (s:S8) (i:Nat) (h:i<8):(setC K s i).setIfInBounds i (.int K (((s8L s).getD i 0:Nat):Int))=setC K s (i+1):=by
 match i,h with
 | 0,_=>rfl
 | 1,_=>rfl
 | 2,_=>rfl
 | 3,_=>rfl
 | 4,_=>rfl
 | 5,_=>rfl
 | 6,_=>rfl
 | 7,_=>rfl
theorem startS_at (F:ShaF) (i:Nat) (h:i<8):(s8L (startS F)).getD i 0=firstN.getD i 0/2^(64 - F.bits)%2^F.bits:=by
 match i,h with
 | 0,_=>rfl
 | 1,_=>rfl
 | 2,_=>rfl
 | 3,_=>rfl
 | 4,_=>rfl
 | 5,_=>rfl
 | 6,_=>rfl
 | 7,_=>rfl
theorem firstN_all:(firstN.all fun x=>decide (x<18446744073709551616))=true:=by decide +kernel
theorem firstN_lt (i:Nat):firstN.getD i 0<18446744073709551616 :=
 qb6 (fun x hx=>by simpa using (List.all_eq_true.1 firstN_all) x hx) (by decide) i
theorem startS_lt (F:ShaF):(startS F).Lt (2^F.bits):=by
 constructor <;> exact Nat.mod_lt _ (Nat.two_pow_pos _)
theorem mixS_lt (F:ShaF) (s:S8) (blk:List UInt8):(mixS F s blk).Lt (2^F.bits):=addS_lt _ _ _
theorem runS_lt (F:ShaF) (all:List UInt8):∀ k,(runS F all k).Lt (2^F.bits)
 | 0=>startS_lt F
 | _+1=>mixS_lt F _ _
theorem s8L_lt {s:S8} {m:Nat} (h:s.Lt m) (hm:0<m) (i:Nat):(s8L s).getD i 0<m :=
 qb6 (fun x hx=>by
  simp [s8L] at hx
  rcases hx with rfl | rfl | rfl | rfl | rfl | rfl | rfl | rfl
  all_goals first | exact h.a | exact h.b | exact h.c | exact h.d | exact h.e | exact h.f | exact h.g | exact h.h) hm i
def wordB (b:Nat) (x:Nat):Nat→List UInt8
 | 0=>[]
 | k+1=>wordB b x k++[UInt8.ofNat (x/2^(b - 8 - 8*k))]
def digS (F:ShaF) (data:List UInt8):List UInt8:=(s8L (runS F (padS F data) ((padS F data).length/(2*F.bits)))).flatMap fun x=>wordB F.bits x (F.bits/8)
theorem sl_bytes:SlT Tryz.prog 40 5 1 1:=SlT.mk1 (z:=.int .u8 0) Tryz.underlying40 (by kernel_rfl) rfl (by decide)
def lenOf:Value→Nat | .slice _ n _=>n | _=>0
def firstV:Array Value:=#[.int .u64 7640891576956012808,.int .u64 13503953896175478587,.int .u64 4354685564936845355,.int .u64 11912009170470909681,.int .u64 5840696475078001361,.int .u64 11170449401992604703,.int .u64 2270897969802886507,.int .u64 6620516959819538809]
theorem firstV_at (k:Nat) (h:k<8):firstV[k]?=some (.int .u64 ((firstN.getD k 0:Nat):Int)):=by
 match k,h with
 | 0,_=>rfl
 | 1,_=>rfl
 | 2,_=>rfl
 | 3,_=>rfl
 | 4,_=>rfl
 | 5,_=>rfl
 | 6,_=>rfl
 | 7,_=>rfl
def outW (b e:Nat) (s:S8) (k:Nat):List UInt8:=((s8L s).take k).flatMap fun x=>wordB b x e
theorem wordB_length (b x:Nat):∀ k,(wordB b x k).length=k
 | 0=>rfl
 | k+1=>by simp [wordB,wordB_length b x k]
theorem qbz (b e:Nat) (s:S8) (k:Nat) (h:k≤8):(outW b e s k).length=k*e:=by
 match k,h with
 | 0,_=>simp [outW,s8L]
 | 1,_=>simp [outW,s8L,wordB_length]
 | 2,_=>simp [outW,s8L,wordB_length]; omega
 | 3,_=>simp [outW,s8L,wordB_length]; omega
 | 4,_=>simp [outW,s8L,wordB_length]; omega
 | 5,_=>simp [outW,s8L,wordB_length]; omega
 | 6,_=>simp [outW,s8L,wordB_length]; omega
 | 7,_=>simp [outW,s8L,wordB_length]; omega
 | 8,_=>simp [outW,s8L,wordB_length]; omega
theorem outW_succ (b e:Nat) (s:S8) (k:Nat) (h:k<8):outW b e s (k+1)=outW b e s k++wordB b ((s8L s).getD k 0) e:=by
 match k,h with
 | 0,_=>simp [outW,s8L]
 | 1,_=>simp [outW,s8L]
 | 2,_=>simp [outW,s8L]
 | 3,_=>simp [outW,s8L]
 | 4,_=>simp [outW,s8L]
 | 5,_=>simp [outW,s8L]
 | 6,_=>simp [outW,s8L]
 | 7,_=>simp [outW,s8L]
theorem wordB_val (x sh b k:Nat) (h:sh=b - 8 - 8*k):(Value.int .u8 ((x:Int)/2^sh%256))=.int .u8 ((UInt8.ofNat (x/2^(b - 8 - 8*k))).toNat:Int):=by
 subst h;rw [shr_int]
 congr 1
theorem first_any (w:World):Calls Tryz.prog 115 #[] w fun e w'=>e=.returned (.agg firstV)∧Below w.heap.size w w':=by
 have hb:=Blk.new w 150 (s8V .u64 ⟨0,0,0,0,0,0,0,0⟩);have hu8:=Tryz.underlying150;go_enter Tryz.func115,Tryz.ntmps115;go_wp2_with (refine qac (x:=.tmp 0) (cells:=firstV) hb rfl rfl rfl rfl (by kernel_rfl) rfl (by simp [firstV,Value.oneCell']) ?_; intro w1 hb1 hw1);refine bodyPost_ret (qah (P:=Tryz.prog) rfl rfl hb1 hu8 rfl (by kernel_rfl)) rfl ⟨rfl,?_⟩;exact hw1.below (below_new _ _) (Nat.le_refl _) (by simp)
def oneZ (data:List UInt8) (k:Nat):List UInt8:=data++[128]++List.replicate k 0
theorem qaN (data:List UInt8) (k:Nat):(oneZ data k).length=data.length+1+k:=by simp [oneZ]; omega
theorem oneZ_zero (data:List UInt8):oneZ data 0=data++[128]:=by simp [oneZ]
theorem oneZ_succ (data:List UInt8) (k:Nat):oneZ data (k+1)=oneZ data k++[0]:=by simp [oneZ,List.replicate_succ']
theorem qbb (l:List UInt8) (b:UInt8):bytesV (l++[b])=bytesV l++[.int .u8 (b.toNat:Int)]:=by simp [bytesV,byteV]
theorem prepS_32 {data:List UInt8} (_:data.length≤1000):prepS F32 data=oneZ data (zeroN F32 data.length):=by simp [prepS,oneZ,moreN,F32]
theorem prep32_le {data:List UInt8} (h:data.length≤1000):(prepS F32 data).length≤3000:=by
 rw [prepS_32 h,qaN];have:zeroN F32 data.length<64:=Nat.mod_lt _ (by decide);omega
theorem qbm (n:Nat):∀ k,(be8 n k).length=k
 | 0=>rfl
 | k+1=>by simp [be8,qbm n k]
theorem be8_val (n sh k:Nat) (h:sh=56 - 8*k):(Value.int .u8 ((n:Int)*8/2^sh%256))=.int .u8 ((UInt8.ofNat (n*8/2^(56 - 8*k))).toNat:Int):=by
 subst h;rw [show (n:Int)*8=((n*8:Nat):Int) by omega,shr_int]
 congr 1
theorem own_empty (w:World) {B:Nat} {e:TypeId} (hB:B≤w.heap.size):OwnX (w.alloc (.cells #[] e)) B e 1 (.slice (some ⟨w.heap.size,0,none⟩) 0 0) 0 (bytesV []) :=
 ⟨rfl,.inr ⟨w.heap.size,0,#[],(0,0),rfl,hB,heap_alloc_new w _,Nat.le_refl _,by unfold maxLen; omega,rfl,rfl,.inl rfl⟩⟩
structure SumSt32 (w0:World) (gf:Nat) (xs:List UInt8) (v:Value) (u:World):Prop where
 bel:Below gf w0 u
 form:Blk u gf 136 f32C
 own:OwnX u (gf+1) 5 1 v xs.length (bytesV xs)
theorem SumSt32.grow {w0 u u':World} {gf:Nat} {xs ys:List UInt8} {v v':Value} (h:SumSt32 w0 gf xs v u) (hg:u.grownBy u' v.ownBlock) (ho:OwnX u' (gf+1) 5 1 v' ys.length (bytesV ys)):SumSt32 w0 gf ys v' u' :=
 ⟨h.bel.grown hg (by have:=h.form.lt; omega) (fun k hk=>by have:=(h.own.lt k hk).1; omega),h.form.grown hg (fun e=>by have:=(h.own.lt gf e.symm).1; omega),ho⟩
theorem zero32_ne (n k:Nat) (h:k<zeroN F32 n):((((n+1+k:Nat):Int)%64) != 56)=true:=by
 simp only [zeroN,F32] at h;rw [bne_iff_ne];omega
theorem zero32_eq (n:Nat):((((n+1+zeroN F32 n:Nat):Int)%64) != 56)=false:=by
 have h:zeroN F32 n=(2*32 - 8+2*32 - (n+1)%(2*32))%(2*32):=rfl;rw [bne_eq_false_iff_eq];omega
theorem qc4 (data:List UInt8):(padS F32 data).length%64=0:=by
 have hz:zeroN F32 data.length=(2*32 - 8+2*32 - (data.length+1)%(2*32))%(2*32):=rfl
 have hm:moreN F32 data.length=0∨moreN F32 data.length=64:=by
  unfold moreN
  split
  ·exact .inr rfl
  ·exact .inl rfl
 simp only [padS,List.length_append,List.length_replicate,List.length_singleton,qbm];omega
structure SumT32 (w0:World) (gf gs:Nat) (A:Option Addr) (xs:List UInt8) (cs:Array Value) (u:World):Prop where
 bel:Below gf w0 u
 form:Blk u gf 136 f32C
 rd:Rd u gs A (bytesV xs)
 s:Blk u gs 149 cs
 lg:gf<gs
theorem SumT32.next {w0 u u':World} {gf gs:Nat} {A:Option Addr} {xs:List UInt8} {cs:Array Value} (h:SumT32 w0 gf gs A xs cs u) (hb:Below u.heap.size u u'):SumT32 w0 gf gs A xs cs u' :=
 ⟨h.bel.trans (hb.mono (by have:=h.form.lt; omega)),h.form.below hb h.form.lt,h.rd.below (hb.mono (by have:=h.s.lt; omega)),h.s.below hb h.s.lt,h.lg⟩
theorem SumT32.drew {w0 u:World} {gf gs:Nat} {A:Option Addr} {xs:List UInt8} {cs:Array Value} (h:SumT32 w0 gf gs A xs cs u):SumT32 w0 gf gs A xs cs u.drew :=
 ⟨h.bel.drew,h.form,h.rd.below ((Below.refl _ _).drew),h.s,h.lg⟩
theorem SumT32.put {w0 u u':World} {gf gs:Nat} {A:Option Addr} {xs:List UInt8} {cs cs':Array Value} (h:SumT32 w0 gf gs A xs cs u) (hw:Wrote gs u u') (hb:Blk u' gs 149 cs'):SumT32 w0 gf gs A xs cs' u' :=
 ⟨hw.below h.bel (by have:=h.lg; omega) (by have:=h.form.lt; omega),hw.blk h.form (by have:=h.lg; omega),h.rd.below (hw.below (Below.refl _ _) (Nat.le_refl _) (by have:=h.s.lt; omega)),hb,h.lg⟩
structure SumO32 (w0:World) (gf gb:Nat) (xs:List UInt8) (v:Value) (u:World):Prop where
 bel:Below gf w0 u
 form:Blk u gf 136 f32C
 own:u.ownsRow gb 5 1 v xs.length (bytesV xs)
 lb:gb≤u.heap.size
theorem SumO32.grow {w0 u u':World} {gf gb:Nat} {xs ys:List UInt8} {v v':Value} (h:SumO32 w0 gf gb xs v u) (hlt:gf<gb) (hg:u.grownBy u' v.ownBlock) (ho:u'.ownsRow gb 5 1 v' ys.length (bytesV ys)):SumO32 w0 gf gb ys v' u' :=
 ⟨h.bel.grown hg (by have:=h.form.lt; omega) (fun k hk=>by have:=(own_lt h.own k hk).1; omega),h.form.grown hg (fun e=>by have:=(own_lt h.own gf e.symm).1; omega),ho,by have:=h.lb; have:=hg.size; omega⟩
def SumPost32 (data:List UInt8) (w:World) (e:Ending) (w':World):Prop :=
 ∃ A c,e=.returned (.slice A (8*4) c)∧w'.ownsRow w.heap.size 5 1 (.slice A (8*4) c) (8*4) (bytesV (digS F32 data))∧Below w.heap.size w w'
theorem sum32_any (data:List UInt8) (A:Option Addr) (c B:Nat) (w:World) (hr:Rd w B A (bytesV data)) (hB:B≤w.heap.size) (hl:data.length≤1000) (hc:data.length≤c) (hcm:c≤9223372036854775807) (hG:TabG w) :
  Calls Tryz.prog 92 #[.agg f32C,.slice A data.length c] w (SumPost32 data w):=by
 obtain ⟨W0,hW0⟩:=eX (w.alloc (.cells f32C 136));have hb0:Below w.heap.size w W0:=by rw [hW0]; exact below_new _ _
 have hf0:Blk W0 w.heap.size 136 f32C:=by rw [hW0]; exact Blk.new _ _ _
 have hs0:W0.heap.size=w.heap.size+1:=by rw [hW0]; simp
 have c0:=hf0.cell 0;simp [f32C] at c0;rw [hW0] at c0;have HB0:=zY hb0;have HF0:=zY hf0;have HS0:=zY hs0;have HR:=zY (hr.mono hB);have HW:=zY hW0;have HG:=zY hG;have hl':(data.length:Int)≤1000:=by omega
 clear hb0 hf0 hs0 hr hW0 hG;go_enter Tryz.func92,Tryz.ntmps92;go_wp2
 go_quiet (fail)
 have hb1:Below w.heap.size w ((w.alloc (.cells f32C 136)).drewN nq):=qcb (below_new _ _) nq;have hf1:Blk ((w.alloc (.cells f32C 136)).drewN nq) w.heap.size 136 f32C:=Blk.new _ _ _;have hz1:((w.alloc (.cells f32C 136)).drewN nq).heap.size=w.heap.size+1:=by simp
 generalize (w.alloc (.cells f32C 136)).drewN nq=W1 at *;have hr1:=HR.out.below hb1;generalize hgf:w.heap.size=gf at *;have HGF:=zY hgf
 have hst0:SumSt32 w gf [] (.slice (some ⟨W1.heap.size,0,none⟩) 0 0) (W1.alloc (.cells #[] 5)) :=
  ⟨hb1.alloc (by omega) _,hf1.alloc _,own_empty W1 (by omega)⟩
 have hr2:Rd (W1.alloc (.cells #[] 5)) gf A (bytesV data):=hr1.below ((Below.refl _ _).alloc (by omega) _);have HST0:=zY hst0;have HR2:=zY hr2;have HZ1:=zY hz1;clear hb1 hf1 hz1 hr1 hst0 hr2 hgf c0 HB0 HF0 HS0 HW;have HOWN0:Hid (OwnX (W1.alloc (.cells #[] 5)) (gf+1) 5 1 (.slice (some ⟨W1.heap.size,0,none⟩) 0 0) 0 []):=zY HST0.out.own
 go_wp2_with (first
  | (refine qaI (o:=⟨some 25,_,_,_,_,_⟩) sl_bytes rfl rfl HOWN0.out rfl rfl (by simp [bytesV]) HR2.out (by intro u hu; simp [bytesV,byteV] at hu; obtain ⟨_,_,rfl⟩:=hu; rfl) (by unfold maxLen; omega) (by omega) (by have:=HST0.out.form.lt; omega) ?_; intro A1 c1 w1 hown1 hg1 hn1; have HOWN1:Hid (OwnX w1 (gf+1) 5 1 (.slice A1 data.length c1) data.length (bytesV data)):=zY (by simpa using hown1); have H641:Hid (gf+1≤w1.heap.size):=zY (by have:=hg1.size; have:=HZ1.out; simp at *; omega); have HG1:=zY hg1; clear hown1 hg1 hn1)
  | (refine qak (o:=⟨some 28,_,_,_,_,_⟩) sl_bytes rfl rfl HOWN1.out rfl rfl rfl rfl (by unfold maxLen; omega) (by omega) H641.out ?_; intro A2 c2 w2 hown2 hg2 hn2; have HOWN2:=zY hown2; have HG2:=zY hg2; clear hown2 hg2 hn2))
 have hst2:SumSt32 w gf (oneZ data 0) (.slice A2 (data.length+1) c2) w2 :=
  (HST0.out.grow (ys:=data) HG1.out HOWN1.out).grow HG2.out (by rw [qaN,oneZ_zero,qbb]; exact HOWN2.out)
 have hzl:zeroN F32 data.length<64:=Nat.mod_lt _ (by decide);clear HST0 HOWN0 HR2 HZ1 HOWN1 H641 HG1 HOWN2 HG2
 go_loopw [7] (fun v wr=>∃ (k n:Nat) (A3:Option Addr) (c3:Nat),k≤zeroN F32 data.length∧n=data.length+1+k∧v=.slice A3 n c3∧SumSt32 w gf (oneZ data k) (.slice A3 n c3) wr) (fun v _=>data.length+1+zeroN F32 data.length - lenOf v)
 case atStart=>exact ⟨0,data.length+1,A2,c2,Nat.zero_le _,rfl,rfl,hst2⟩
 case round =>
  obtain ⟨k,n,A3,c3,hk,hn,rfl,hst⟩:=hrel;clear hst2;have hn2:n≤2000:=by omega
  by_cases hlt:k<zeroN F32 data.length
  ·have hne:(((n:Nat):Int)%64 != 56)=true:=by rw [hn]; exact zero32_ne _ _ hlt
   have ho:OwnX wr (gf+1) 5 1 (.slice A3 n c3) n (bytesV (oneZ data k)):=by have:=hst.own; rwa [qaN,← hn] at this
   have HO:=zY ho;have HN:=zY hn;have HST:=zY hst;clear ho hn hst;go_wp2_with (refine qak (o:=⟨some 38,_,_,_,_,_⟩) sl_bytes rfl rfl HO.out rfl rfl rfl rfl (by unfold maxLen; omega) (by omega) (by have:=HST.out.form.lt; omega) ?_; intro A4 c4 w4 hown4 hg4 hn4; have HOWN4:=zY hown4; have HG4:=zY hg4; clear hown4 hg4 hn4);exact ⟨⟨k+1,n+1,A4,c4,hlt,by rw [HN.out]; omega,rfl,HST.out.grow HG4.out (by rw [qaN,oneZ_succ,qbb,← Nat.add_assoc,← HN.out]; exact HOWN4.out)⟩,by simp only [lenOf]; have:=HN.out; omega⟩
  ·obtain rfl:k=zeroN F32 data.length:=by omega
   have hne:(((n:Nat):Int)%64 != 56)=false:=by rw [hn]; exact zero32_eq _
   have HN:=zY hn;have HST:=zY hst;clear hn hst;go_wp2_with fail;obtain ⟨pl,hpl⟩:=eX ((prepS F32 data).length);have hpl3:pl≤3000:=by rw [hpl]; exact prep32_le hl
   have hst3:SumSt32 w gf (prepS F32 data++be8 (data.length*8) 0) (.slice A3 n c3) wr:=by
    have h:=HST.out;simp only [be8,List.append_nil];rw [prepS_32 hl];exact h
   have hn3:n=pl+0:=by rw [hpl,prepS_32 hl,qaN,HN.out]; rfl
   have HPL:=zY hpl;have HN3:=zY hn3;clear hpl hn3 hn2;obtain ⟨wo,rfl⟩:∃ wo:World,wo=wr:=⟨_,rfl⟩
   go_loopw [7,8] (fun v i wr=>∃ (k m:Nat) (A4:Option Addr) (c4:Nat),k≤8∧m=pl+k∧v=.slice A4 m c4∧i=.int .i64 (56 - 8*(k:Int))∧SumSt32 w gf (prepS F32 data++be8 (data.length*8) k) (.slice A4 m c4) wr) (fun _ i _=>(intOf i+8).toNat)
   case atStart=>exact ⟨0,n,A3,c3,by omega,HN3.out,rfl,rfl,hst3⟩
   case round =>
    obtain ⟨k,m,A4,c4,hk8,hm,rfl,rfl,hs4⟩:=hrel;clear hst3
    by_cases hlt8:k<8
    ·obtain ⟨sh,hsh⟩:∃ sh:Nat,(56 - 8*(k:Int))=(sh:Int):=⟨56 - 8*k,by omega⟩;rw [hsh];have hsh2:sh=56 - 8*k:=by omega
     have hsl:(sh:Int)<64:=by omega
     have HSH:=zY hsh2;have HM:=zY hm;have HS4:=zY hs4
     have ho4:OwnX wr (gf+1) 5 1 (.slice A4 m c4) m (bytesV (prepS F32 data++be8 (data.length*8) k)):=by
      have:=hs4.own
      rwa [List.length_append,qbm,← HPL.out,← hm] at this
     have HO4:=zY ho4;have hm3:m≤4000:=by omega
     clear hsh hsh2 hm hs4 ho4;go_wp2_with (refine qak (o:=⟨some 76,_,_,_,_,_⟩) sl_bytes rfl rfl HO4.out rfl rfl rfl rfl (by unfold maxLen; omega) (by omega) (by have:=HS4.out.form.lt; omega) ?_; intro A5 c5 w5 hown5 hg5 hn5; have HOWN5:=zY hown5; have HG5:=zY hg5; clear hown5 hg5 hn5)
     have hfin:SumSt32 w gf (prepS F32 data++be8 (data.length*8) (k+1)) (.slice A5 (m+1) c5) w5:=by
      refine HS4.out.grow HG5.out ?_;have h:=HOWN5.out;rw [be8_val _ _ _ HSH.out,← qbb,List.append_assoc] at h;rw [List.length_append,qbm,← HPL.out,show pl+(k+1)=m+1 by rw [HM.out]; omega];exact h
     exact ⟨⟨k+1,m+1,A5,c5,hlt8,by rw [HM.out]; omega,rfl,by have:=HSH.out; exact congrArg (Value.int .i64) (by omega),hfin⟩,by have:=HSH.out; simp [intOf]; omega⟩
    ·obtain rfl:k=8:=by omega
     have HM:=zY hm;have HS4:=zY hs4;clear hm hs4;go_wp2_with fail;obtain ⟨A64,hA64⟩:=eX (padS F32 data);have hAll:A64=prepS F32 data++be8 (data.length*8) 8:=by rw [hA64]; rfl
     have hal:A64.length=m:=by rw [hAll,List.length_append,qbm,← HPL.out,HM.out]
     obtain ⟨gs,hgs⟩:=eX (wr.heap.size)
     have hst5:SumT32 w gf gs A4 A64 (setC .u32 (startS F32) 0) (wr.alloc (.cells (s8V .u32 ⟨0,0,0,0,0,0,0,0⟩) 149)) :=
      ⟨HS4.out.bel.alloc (by have:=HS4.out.form.lt; omega) _,HS4.out.form.alloc _,by
       have ho:OwnX wr (gf+1) 5 1 (.slice A4 m c4) m (bytesV A64):=by have:=HS4.out.own; rwa [← hAll,hal] at this
       have h:=Rd.of_own ho (Nat.le_refl _);rw [← hgs] at h;exact h.below ((Below.refl _ _).alloc (by omega) _),by rw [hgs]; exact Blk.new _ _ _,by have:=HS4.out.form.lt; omega⟩
     rw [← hgs];have HOWN4:Hid (OwnX wr (gf+1) 5 1 (.slice A4 m c4) m (bytesV A64)):=zY (by have:=HS4.out.own; rwa [← hAll,hal] at this);have HA64:=zY hA64;have HAL:=zY hal;have HGS:=zY hgs;have HS5:=zY hst5;clear hA64 hAll hal hgs hst5;refine qaa (first_any _) ?_;rintro e w6 ⟨rfl,hb6⟩;have hst6:=HS5.out.next hb6;clear HS5 hb6;go_wp2_with fail;have hu42:=Tryz.underlying150;have hst6':=hst6;clear hst6
     go_loopw [78] (fun i wr=>∃ k:Nat,k≤8∧i=.int .i64 k∧SumT32 w gf gs A4 A64 (setC .u32 (startS F32) k) wr) (fun i _=>8 - (intOf i).toNat)
     case atStart=>exact ⟨0,by omega,rfl,hst6'⟩
     case round =>
      obtain ⟨k,hk,rfl,hsk⟩:=hrel;clear hst6'
      by_cases hk8:k<8
      ·have hk8':(k:Int)<8:=by omega
       obtain ⟨x,hx⟩:=eX (firstN.getD k 0);obtain ⟨y,hy⟩:=eX ((s8L (startS F32)).getD k 0);have hxl:x<18446744073709551616:=by rw [hx]; exact firstN_lt k
       have hxl':(x:Int)<18446744073709551616:=by omega
       have hyx:y=x/4294967296%4294967296:=by rw [hy,hx,startS_at _ _ hk8]; rfl
       have hix:∀ u:World,(Instr.index 150 (.agg firstV) (.int .i64 (k:Int))).run Tryz.prog u=.ok (.int .u64 (x:Int)) u:=fun u =>
        qbZ (n:=8) (e:=118) hu42 hk8 (by rw [hx]; exact firstV_at k hk8) (by kernel_rfl) (by kernel_rfl) ⟨_,Tryz.underlying118⟩
       have f0:=hsk.form.cell 0;simp [f32C] at f0;have d0:=hsk.s.cell k;rw [setC_at _ _ _ hk8] at d0;have g0:=hsk.s.free k
       have hfin:SumT32 w gf gs A4 A64 (setC .u32 (startS F32) (k+1)) (wr.setCell ⟨gs,k,none⟩ (.int .u32 (y:Int))) :=
        hsk.put (qap _ _ _ _) (by have:=qau (i:=k) hsk.s (.int .u32 (y:Int)); rwa [hy,setC_set _ _ _ hk8,← hy] at this)
       have HFIN:=zY hfin;have HYX:=zY hyx;have HXL:=zY hxl;clear hfin hyx hxl hx hy hsk;go_wp2_with fail;rw [show (x:Int)/4294967296=((x/4294967296:Nat):Int) from by omega];refine qaa (qb8 _ _ (by have:=HXL.out; omega)) ?_;rintro e w7 ⟨rfl,rfl⟩;rw [← HYX.out];go_wp2_with fail;exact ⟨⟨k+1,hk8,by go_num,HFIN.out⟩,by simp [intOf]; omega⟩
      ·have hge:¬ (k:Int)<8:=by omega
       obtain rfl:k=8:=by omega
       rw [setC_end] at hsk;obtain ⟨nb,hnb⟩:∃ nb,m=nb*64:=⟨m/64,by have:=qc4 data; rw [← HA64.out,HAL.out] at this; omega⟩;have hm4:m≤4000:=by have:=HM.out; omega
       have hcap:m≤c4∧c4≤9223372036854775807:=by
        have ho:OwnX _ (gf+1) 5 1 (.slice A4 m c4) m (bytesV A64):=HOWN4.out;exact own_cap ho
       obtain ⟨hcap1,hcap2⟩:=hcap;have hst8:SumT32 w gf gs A4 A64 (s8V .u32 (runS F32 A64 0)) wr:=hsk;have HNB:=zY hnb;have HS8:=zY hst8;clear hnb hst8 hsk hu42;obtain ⟨wo3,rfl⟩:∃ wo3:World,wo3=wr:=⟨_,rfl⟩;go_wp2_with fail
       go_loopw [12] (fun i wr=>∃ j a:Nat,j≤nb∧a=j*64∧i=.int .i64 (a:Int)∧SumT32 w gf gs A4 A64 (s8V .u32 (runS F32 A64 j)) wr) (fun i _=>m - (intOf i).toNat)
       case atStart=>exact ⟨0,0,by omega,rfl,rfl,HS8.out⟩
       case round =>
        obtain ⟨j,a,hj,ha,rfl,hsj⟩:=hrel
        by_cases hjn:j<nb
        ·have ham:a+64≤m:=by rw [HNB.out,ha]; omega
         have hlt:a<m:=by omega
         have hle1:a+64≤c4:=by omega
         obtain ⟨ad,hAd,_,_⟩:=(hsj.rd).at_ (k:=a) (by rw [qan,HAL.out]; omega);subst hAd;obtain ⟨bk,hbk⟩:=eX ((A64.drop a).take 64);have hbl:bk.length=64:=by rw [hbk]; simp; rw [HAL.out]; omega
         have HRB:Hid (∀ u,SumT32 w gf gs (some ad) A64 (s8V .u32 (runS F32 A64 j)) u→Rd u gs (some (ad.add a)) (bytesV bk)):=zY fun u hu=>by
          rw [hbk,bytesV,List.map_take,List.map_drop]; exact rd_take (rd_drop hu.rd a) 64
         obtain ⟨sj,hsj2⟩:=eX (runS F32 A64 j);obtain ⟨sn,hsn⟩:=eX (mixS F32 sj bk);have hsl:sj.Lt (2^32):=by rw [hsj2]; exact runS_lt F32 A64 j
         have hs1:runS F32 A64 (j+1)=sn:=by rw [hsn,hsj2,hbk,ha]; rfl
         rw [← hsj2] at hsj;have HRB2:Hid (∀ u,SumT32 w gf gs (some ad) A64 (s8V .u32 sj) u→Rd u gs (some (ad.add a)) (bytesV bk)):=zY (by rw [hsj2]; exact HRB.out);have HBL:=zY hbl;have HSN:=zY hsn;have HSL:=zY hsl;have HS1:=zY hs1;have HA:=zY ha;clear HRB hbl hsn hsl hs1 hbk hsj2 ha;have HC0:=hsj.drew;clear hsj;have hu8:=Tryz.underlying149;have hu:=Tryz.underlying136;go_wp2_with fail;refine qaj (fun u=>SumT32 w gf gs (some ad) A64 (s8V .u32 sj) u) (fun u=>SumT32 w gf gs (some ad) A64 (s8V .u32 sn) u) [(0,some 98),(1,some 99),(2,some 100),(3,some 101),(4,some 102),(5,some 103),(6,some 104),(7,some 105),(8,some 106),(9,none)] (by kernel_rfl) (by kernel_rfl) (by decide) (by kernel_rfl) (fun _=>rfl) HC0 ?_;apply yN_
         ·apply dP [];exact fun _=>rfl;rfl;rintro vals - w1 hC1 E hE;simp only [sP] at hE ⊢;refine qad hC1.form rfl rfl rfl hu rfl qaY ?_;go_wp2_with fail;exact .mk (hE _ hC1)
         apply yN_
         ·apply dP [];exact fun _=>rfl;rfl;rintro vals ⟨-,-⟩ w1 hC1 E hE;simp only [sP] at hE ⊢;refine qad hC1.s rfl rfl rfl hu8 rfl qaU ?_;go_wp2_with fail;exact .mk (hE _ hC1)
         apply yN_
         ·apply dP [];exact fun _=>rfl;rfl;intro vals vq w1 hC1 E hE;clear vq;simp only [sP] at hE ⊢;go_wp2;exact .mk (hE _ hC1)
         apply yN_
         ·apply dP [];exact fun _=>rfl;rfl;intro vals vq w1 hC1 E hE;clear vq;simp only [sP] at hE ⊢;go_wp2;exact .mk (hE _ hC1)
         apply yN_
         ·apply dP [];exact fun _=>rfl;rfl;intro vals vq w1 hC1 E hE;clear vq;simp only [sP] at hE ⊢;go_wp2;exact .mk (hE _ hC1)
         apply yN_
         ·apply dP [];exact fun _=>rfl;rfl;intro vals vq w1 hC1 E hE;clear vq;simp only [sP] at hE ⊢;go_wp2;exact .mk (hE _ hC1)
         apply yN_
         ·apply dP [(4,some 102),(5,some 103)];exact fun _=>rfl;rfl;intro vals vq w1 hC1 E hE;simp only [sP,vq] at hE ⊢;clear vq;go_wp2;exact .mk (hE _ hC1)
         apply yN_
         ·apply dP [(2,some 100),(3,some 101),(6,some 104)];exact fun _=>rfl;rfl;intro vals vq w1 hC1 E hE;simp only [sP,vq] at hE ⊢;clear vq;go_wp2;rw [show a+64 - a=64 by omega];exact .mk (hE _ hC1)
         apply yN_
         ·apply dP [(0,some 98),(1,some 99),(7,some 105)];exact fun _=>rfl;rfl;intro vals vq w1 hC1 E hE;simp only [sP,vq] at hE ⊢;clear vq;go_wp2_with fail;have hmx:=mix32_any sj bk (some (ad.add a)) (c4 - a) gs w1 (HRB2.out _ hC1) (by have:=hC1.s.lt; omega) HBL.out (by rw [HBL.out]; omega) (by omega) HSL.out (HG.out.below hC1.bel (by rw [← HGF.out]; exact HG.out.size));rw [HBL.out] at hmx;refine qaa hmx ?_;rintro e w2 ⟨rfl,hb2⟩;rw [← HSN.out];go_wp2_with fail;exact .mk (hE _ (hC1.next hb2))
         apply yL_ (v:=undef)
         ·apply dP [(8,some 106),(8,some 106),(0,some 98),(1,some 99),(2,some 100),(3,some 101),(4,some 102),(5,some 103),(6,some 104),(7,some 105),(8,some 106)];exact fun _=>rfl;rfl;intro vals vq w1 hC1 E hE;simp only [sP,vq] at hE ⊢;clear vq;refine qac hC1.s rfl rfl rfl rfl qaU rfl (by simp [s8V,Value.oneCell']) ?_;intro w2 hb2 hw2;go_wp2_with fail;exact .mk (hE _ (hC1.put hw2 hb2))
         intro vals vq w1 hC1;simp only [sP,vq];clear vq;clear HC0;have hfin:SumT32 w gf gs (some ad) A64 (s8V .u32 (runS F32 A64 (j+1))) w1:=by rw [HS1.out]; exact hC1
         have HFIN:=zY hfin;clear hfin hC1;go_wp2_with fail;exact ⟨⟨j+1,a+64,hjn,by rw [HA.out]; omega,by go_num,HFIN.out⟩,by simp [intOf]; omega⟩
        ·obtain rfl:j=nb:=by omega
         have hge:¬ a<m:=by rw [HNB.out,ha]; omega
         have HA:=zY ha;obtain ⟨sv,hsv⟩:=eX (runS F32 A64 j);have hsl:sv.Lt (2^32):=by rw [hsv]; exact runS_lt F32 A64 j
         rw [← hsv] at hsj;have hu8:=Tryz.underlying149;have HSV:=zY hsv;have HSL:=zY hsl;clear ha hsv hsl;go_wp2_with (refine qad (x:=.tmp 9) hsj.s rfl rfl rfl hu8 rfl qaU ?_);obtain ⟨g2,hg2⟩:=eX (wr.heap.size);have hso:SumO32 w gf (gf+1) [] (.slice none 0 0) wr:=⟨hsj.bel,hsj.form,World.ownsRow_nil _ _ _ _,by have:=hsj.form.lt; omega⟩;have HSO:=zY hso;clear hso hsj;obtain ⟨wo4,rfl⟩:∃ wo4:World,wo4=wr:=⟨_,rfl⟩
         go_loopw [13,108] (fun v i wr=>∃ (k q:Nat) (A5:Option Addr) (c5:Nat),k≤8∧q=k*4∧i=.int .i64 k∧v=.slice A5 q c5∧SumO32 w gf (gf+1) (outW 32 4 sv k) (.slice A5 q c5) wr) (fun _ i _=>8 - (intOf i).toNat)
         case atStart=>exact ⟨0,0,none,0,by omega,by omega,rfl,rfl,HSO.out⟩
         case round =>
          obtain ⟨k,q,A5,c5,hk,hq,rfl,rfl,hso⟩:=hrel
          by_cases hk8:k<8
          ·have hk8':(k:Int)<8:=by omega
           obtain ⟨x,hx⟩:=eX ((s8L sv).getD k 0);have hxl:x<2^32:=by rw [hx]; exact s8L_lt HSL.out (by decide) k
           have hxl':(x:Int)<4294967296:=by omega
           have hix:∀ u:World,(Instr.index 149 (.agg (s8V .u32 sv)) (.int .i64 (k:Int))).run Tryz.prog u=.ok (.int .u32 (x:Int)) u:=fun u =>
            qbZ (n:=8) (e:=131) hu8 hk8 (by rw [hx]; exact s8V_at .u32 sv k hk8) (by kernel_rfl) (by kernel_rfl) ⟨_,Tryz.underlying131⟩
           have f0:=hso.form.cell 0;simp [f32C] at f0;have hs6:SumO32 w gf (gf+1) (outW 32 4 sv k++wordB 32 x 0) (.slice A5 q c5) wr:=by simpa [wordB] using hso
           have HX:=zY hx;have HQ:=zY hq;have HS6:=zY hs6;have HU8:=zY hu8;have hq9:q≤64:=by omega
           clear hx hq hs6 hso hxl hu8;go_wp2_with fail;clear hix f0;obtain ⟨wo5,rfl⟩:∃ wo5:World,wo5=wr:=⟨_,rfl⟩
           go_loopw [13,16] (fun v i wr=>∃ (p r:Nat) (A6:Option Addr) (c6:Nat),p≤4∧r=q+p∧v=.slice A6 r c6∧i=.int .i64 (32 - 8 - 8*(p:Int))∧SumO32 w gf (gf+1) (outW 32 4 sv k++wordB 32 x p) (.slice A6 r c6) wr) (fun _ i _=>(intOf i+8).toNat)
           case atStart=>exact ⟨0,q,A5,c5,by omega,by omega,rfl,rfl,HS6.out⟩
           case round =>
            obtain ⟨p,r,A6,c6,hp,hr6,rfl,rfl,hs7⟩:=hrel
            by_cases hp8:p<4
            ·obtain ⟨sh,hsh⟩:∃ sh:Nat,(32 - 8 - 8*(p:Int))=(sh:Int):=⟨32 - 8 - 8*p,by omega⟩;rw [hsh];have hsh2:sh=32 - 8 - 8*p:=by omega
             have hsl:(sh:Int)<32:=by omega
             have HSH:=zY hsh2;have HR6:=zY hr6;have HS7:=zY hs7
             have ho7:wr.ownsRow (gf+1) 5 1 (.slice A6 r c6) r (bytesV (outW 32 4 sv k++wordB 32 x p)):=by
              have:=hs7.own
              rwa [List.length_append,wordB_length,qbz _ _ _ _ (by omega),← HQ.out,← hr6] at this
             have HO7:=zY ho7;have hr9:r≤100:=by omega
             clear hsh hsh2 hr6 hs7 ho7;go_wp2_with (refine qbC sl_bytes rfl rfl HO7.out rfl rfl rfl rfl (by unfold maxLen; omega) (by omega) HS7.out.lb ?_; intro A8 c8 w8 hown8 hg8; have HOWN8:=zY hown8; have HG8:=zY hg8; clear hown8 hg8)
             have hfin:SumO32 w gf (gf+1) (outW 32 4 sv k++wordB 32 x (p+1)) (.slice A8 (r+1) c8) w8:=by
              refine HS7.out.grow (by omega) HG8.out ?_;have h:=HOWN8.out;rw [wordB_val _ _ _ _ HSH.out,← qbb,List.append_assoc] at h;rw [List.length_append,wordB_length,qbz _ _ _ _ (by omega),← HQ.out,show q+(p+1)=r+1 by rw [HR6.out]; omega];exact h
             exact ⟨⟨p+1,r+1,A8,c8,hp8,by rw [HR6.out]; omega,rfl,by have:=HSH.out; exact congrArg (Value.int .i64) (by omega),hfin⟩,by have:=HSH.out; simp [intOf]; omega⟩
            ·obtain rfl:p=4:=by omega
             have hfin:SumO32 w gf (gf+1) (outW 32 4 sv (k+1)) (.slice A6 r c6) wr:=by rw [outW_succ _ _ _ _ hk8,← HX.out]; exact hs7
             have HFIN:=zY hfin;have HR6:=zY hr6;clear hfin hr6 hs7;go_wp2_with fail;exact ⟨⟨k+1,r,A6,c6,hk8,by rw [HR6.out,HQ.out]; omega,by go_num,rfl,HFIN.out⟩,by simp [intOf]; omega⟩
          ·have hge:¬ (k:Int)<8:=by omega
           obtain rfl:k=8:=by omega
           have HSO:=zY hso;obtain rfl:q=8*4:=hq;clear hso;go_wp2_with fail;go_ret;refine ⟨A5,c5,rfl,?_,by rw [HGF.out]; exact HSO.out.bel⟩;have h:=HSO.out.own;rw [qbz _ _ _ _ (by omega)] at h
           have hd:outW 32 4 sv 8=digS F32 data:=by
            rw [HSV.out,digS,← HA64.out,HAL.out,HNB.out];show _=(s8L (runS F32 A64 (j*64/64))).flatMap _;rw [Nat.mul_div_cancel _ (by decide)];rfl
           rw [← hd];exact own_mono h (by rw [HGF.out]; omega)
theorem p256_any (data:List UInt8) (A:Option Addr) (c B:Nat) (w:World) (hr:Rd w B A (bytesV data)) (hB:B≤w.heap.size) (hl:data.length≤1000) (hc:data.length≤c) (hcm:c≤9223372036854775807) (hG:TabG w) :
  Calls Tryz.prog 56 #[.slice A data.length c] w (SumPost32 data w):=by
 have hs:=sum32_any data A c B w hr hB hl hc hcm hG;rw [f32C] at hs;go_enter Tryz.func56,Tryz.ntmps56;go_wp2_with fail;refine qaa hs ?_;rintro e w' ⟨A2,c2,rfl,ho,hb⟩;have HO:=zY ho;have HB:=zY hb;clear ho hb hs;go_wp2_with fail;go_ret;exact ⟨A2,c2,rfl,HO.out,HB.out⟩
end Go.Proofs.YtlkikjeccamheaaGreatDoor.Sh
namespace Go.Proofs.YtlkikjeccamheaaGreatDoor
set_option linter.unusedSimpArgs false
set_option linter.unusedVariables false
set_option maxRecDepth 100000
set_option maxHeartbeats 4000000
open Go.RowKit
structure E5 where
 a:Nat
 b:Nat
 c:Nat
 d:Nat
 e:Nat
def E5.val (x:E5):Nat:=x.a+x.b*2251799813685248+x.c*5070602400912917605986812821504+x.d*11417981541647679048466287755595961091061972992+x.e*25711008708143844408671393477458601640355247900524685364822016
structure E5.Lt (x:E5) (m:Nat):Prop where
 a:x.a<m
 b:x.b<m
 c:x.c<m
 d:x.d<m
 e:x.e<m
theorem E5.Lt.mono {x:E5} {m n:Nat} (h:x.Lt m) (hm:m≤n):x.Lt n:=⟨Nat.lt_of_lt_of_le h.a hm,Nat.lt_of_lt_of_le h.b hm,Nat.lt_of_lt_of_le h.c hm,Nat.lt_of_lt_of_le h.d hm,Nat.lt_of_lt_of_le h.e hm⟩
abbrev E5.Ok (x:E5):Prop:=x.Lt 4503599627370496
theorem E5.Ok.big {x:E5} (h:x.Ok):x.Lt 18446744073709551616:=E5.Lt.mono h (by decide)
theorem below_new (w:World) (o:Obj):Below w.heap.size w (w.alloc o):=(Below.refl _ _).alloc (Nat.le_refl _) _
theorem Blk.newAt {w:World} {n:Nat} {t:TypeId} {cs:Array Value} (h:w.heap.size=n):Blk (w.alloc (.cells cs t)) n t cs:=h▸Blk.new w t cs
def byN (N:Nat):List Nat:=(List.range 32).map fun j=>N/256^j%256
def bnV (l:List Nat):List Value:=l.map fun n:Nat=>Value.int .u8 (n:Int)
def BytesPost (N:Nat) (w:World) (e:Ending) (w':World):Prop :=
 ∃ o,e=.returned (.slice (some ⟨o,0,none⟩) 32 32)∧w.heap.size≤o∧Blk w' o 5 (bnV (byN N)).toArray∧Below w.heap.size w w'
def digs (l:List UInt8):List Nat:=l.map UInt8.toNat
theorem digs_lt (l:List UInt8):∀ d ∈ digs l,d<256:=fun d h=>by
 obtain ⟨b,_,rfl⟩:=List.mem_map.1 h;exact b.toNat_lt
theorem sl_bytes:SlT Tryz.prog 40 5 1 1:=SlT.mk1 (z:=.int .u8 0) Tryz.underlying40 (by kernel_rfl) rfl (by decide)
def numV (n:Nat):Value:=.int .i64 (n:Int)
def dV (l:List Nat):List Value:=l.map numV
def DigPost (l:List Nat) (w:World) (e:Ending) (w':World):Prop :=
 ∃ A c,e=.returned (.slice A l.length c)∧l.length≤c∧Rd w' w'.heap.size A (dV l)∧Below w.heap.size w w'
structure D1 (w0:World) (o:Nat) (l:List Nat) (u:World):Prop where
 bel:Below w0.heap.size w0 u
 out:Blk u o 3 (dV l).toArray
 lo:w0.heap.size≤o
theorem D1.put {w0 u u':World} {o:Nat} {l l':List Nat} (k:D1 w0 o l u) (hw:Wrote o u u') (hb:Blk u' o 3 (dV l').toArray):D1 w0 o l' u' :=
 ⟨hw.below k.bel k.lo k.bel.size,hb,k.lo⟩
theorem D1.next {w0 u u':World} {o:Nat} {l:List Nat} (k:D1 w0 o l u) (hb:Below u.heap.size u u'):D1 w0 o l u' :=
 ⟨k.bel.trans (hb.mono k.bel.size),k.out.below hb k.out.lt,k.lo⟩
theorem D1.drew {w0 u:World} {o:Nat} {l:List Nat} (k:D1 w0 o l u):D1 w0 o l u.drew:=⟨k.bel.drew,k.out,k.lo⟩
theorem D1.post {w0 u:World} {o n c:Nat} {l:List Nat} (k:D1 w0 o l u) (hn:n=l.length) (hc:n≤c):DigPost l w0 (.returned (.slice (some ⟨o,0,none⟩) n c)) u :=
 ⟨_,c,by rw [hn],by omega,Rd.of_blk k.out k.out.lt,k.bel⟩
def hexD (n:Nat):Nat:=if n<10 then 48+n else 87+n
theorem hexD_lt {n:Nat} (h:n<16):hexD n<256:=by unfold hexD; split <;> omega
def hexB (x:Nat):List UInt8:=[UInt8.ofNat (hexD (x/16)),UInt8.ofNat (hexD (x%16))]
def nameK (h:List UInt8) (k:Nat):List UInt8:=(h.take k).flatMap fun b=>hexB b.toNat
theorem qcS {h:List UInt8} {k:Nat} (hk:k<h.length):nameK h (k+1)=nameK h k++hexB h[k].toNat:=by
 rw [nameK,List.take_succ_eq_append_getElem hk,List.flatMap_append];simp [nameK]
theorem hexB_length (x:Nat):(hexB x).length=2:=rfl
theorem qbG {h:List UInt8}:∀ {k:Nat},k≤h.length→(nameK h k).length=2*k
 | 0,_=>by simp [nameK]
 | k+1,hk=>by rw [qcS (by omega),List.length_append,qbG (k:=k) (by omega),hexB_length]; omega
def nameS (data:List UInt8):ByteArray:=⟨(nameK (Sh.digS Sh.F32 data) 4).toArray⟩
theorem hexB_val (x:Nat) (hx:x<256):bytesV (hexB x)=[.int .u8 (hexD (x/16):Nat),.int .u8 (hexD (x%16):Nat)]:=by
 have h1:=hexD_lt (n:=x/16) (by omega);have h2:=hexD_lt (n:=x%16) (by omega);simp [hexB,bytesV,byteV];omega
theorem hexA_get (n:Nat) (h:n<16) (h2:n<(⟨#[48,49,50,51,52,53,54,55,56,57,97,98,99,100,101,102]⟩:ByteArray).size):((⟨#[48,49,50,51,52,53,54,55,56,57,97,98,99,100,101,102]⟩:ByteArray)[n]'h2).toNat=hexD n:=by
 have:n=0∨n=1∨n=2∨n=3∨n=4∨n=5∨n=6∨n=7∨n=8∨n=9∨n=10∨n=11∨n=12∨n=13∨n=14∨n=15:=by omega
 rcases this with h | h | h | h | h | h | h | h | h | h | h | h | h | h | h | h <;> subst h <;> rfl
theorem oneV (b:List UInt8):∀ u ∈ bytesV b,u.oneCell'=true:=fun u h=>by
 rw [bytesV] at h;obtain ⟨x,_,rfl⟩:=List.mem_map.1 h;rfl
theorem jname_any (data:List UInt8) (hl:data.length≤1000) (A:Option Addr) (c:Nat) (w:World) (hr:Rd w w.heap.size A (bytesV data)) (hc:data.length≤c) (hcm:c≤9223372036854775807) (hG:Sh.TabG w) :
  Calls Tryz.prog 32 #[.slice A data.length c] w (fun e w'=>e=.returned (.string (nameS data))∧Below w.heap.size w w'):=by
 have hus:=Tryz.underlying9;have hub:=Tryz.underlying40;have hu8:=Tryz.underlying5;have HS:=zY (Sh.p256_any data A c w.heap.size w hr (Nat.le_refl _) hl hc hcm hG);obtain ⟨n,hn⟩:=eX (data.length);rw [← hn] at HS ⊢;clear hr hl hc hcm hG hn;go_enter Tryz.func32,Tryz.ntmps32;go_wp2_with fail;refine qaa HS.out ?_;rintro e u1 ⟨A1,c1,rfl,ho,hb1⟩;obtain ⟨H,hH⟩:=eX (Sh.digS Sh.F32 data);rw [← hH] at ho;have ho':OwnX u1 w.heap.size 5 1 (.slice A1 32 c1) 32 (bytesV H):=OwnX.of ho;have hlH:H.length=32:=by have:=ho'.1; rw [qan] at this; omega
 have hcap:32≤c1:=ho'.le_cap;have HRD:=zY (Rd.of_own ho' (Nat.le_refl _));obtain ⟨ad0,hA1,-,-⟩:=HRD.out.at_ (k:=0) (by rw [qan,hlH]; decide);have HH:=zY hH;have HB1:=zY hb1;have HLH:=zY hlH;subst hA1;clear hb1 ho ho' hlH hH HS;go_wp2_with fail
 go_loopw [3,10] (fun v i wr=>∃ (k:Nat) (A2:Option Addr) (c2:Nat),k≤4∧i=.int .i64 (k:Int)∧v=.slice A2 (2*k) c2∧OwnX wr u1.heap.size 5 1 (.slice A2 (2*k) c2) (2*k) (bytesV (nameK H k))∧Below u1.heap.size u1 wr) (fun _ i _=>4 - (intOf i).toNat)
 case atStart=>exact ⟨0,none,0,by omega,rfl,rfl,OwnX.nil _ _ _ _,Below.refl _ _⟩
 case round =>
  obtain ⟨k,A2,c2,hk,rfl,rfl,hown,hbel⟩:=hrel
  by_cases hlt:k<4
  ·have hlt':(k:Int)<4:=by omega
   have hkH:k<H.length:=by rw [HLH.out]; omega
   obtain ⟨ad',hA',-,hcell⟩:=(HRD.out.below hbel).at_ (k:=k) (by rw [qan]; exact hkH)
   injection hA' with hA'
   subst hA';obtain ⟨x,hx⟩:=eX (H[k].toNat);have hxl:x<256:=by have:=H[k].toNat_lt; omega
   have hbv:(bytesV H)[k]'(by rw [qan]; exact hkH)=.int .u8 (x:Int):=by
    rw [hx]; simp [bytesV,byteV]
   rw [hbv] at hcell;obtain ⟨L,hL⟩:=eX (nameK H k);have HN:=zY (show bytesV (nameK H (k+1))=bytesV L++bytesV (hexB x) by rw [qcS hkH,← hx,qaD,hL]);rw [← hL] at hown;clear hx hbv hL hkH;go_wp2_with fail;have HC0:Below u1.heap.size u1 wr.drew:=hbel.drew;have HI0:OwnX wr.drew u1.heap.size 5 1 (.slice A2 (2*k) c2) (2*k) (bytesV L):=hown;clear hbel hown
   refine qas (fun u=>Below u1.heap.size u1 u) (fun | false=>(fun u=>OwnX u u1.heap.size 5 1 (.slice A2 (2*k) c2) (2*k) (bytesV L)) | true=>(fun _=>True)) (fun | false,i=>i == 8 | true,_=>false)
    [fun z _=>z 0=.slice A2 (2*k) c2,
     fun z _=>z 1=.int .u8 (x:Int),
     fun z _=>z 2=.int .u8 ((x/16:Nat):Int),
     fun z _=>z 3=.int .u8 ((hexD (x/16):Nat):Int),
     fun z _=>z 4=.int .u8 (x:Int),
     fun z _=>z 5=.int .u8 ((x%16:Nat):Int),
     fun z _=>z 6=.int .u8 ((hexD (x%16):Nat):Int),
     fun z u=>(fun v u=>∃ g,v=.slice (some ⟨g,0,none⟩) 2 2∧Blk u g 5 (bytesV (hexB x)).toArray) (z 7) u,
     fun z u=>∃ A3 c3,z 8=.slice A3 (2*(k+1)) c3∧OwnX u u1.heap.size 5 1 (.slice A3 (2*(k+1)) c3) (2*(k+1)) (bytesV (nameK H (k+1))),
     fun z u=>∃ A3 c3,z 9=.slice A3 (2*(k+1)) c3∧OwnX u u1.heap.size 5 1 (.slice A3 (2*(k+1)) c3) (2*(k+1)) (bytesV (nameK H (k+1)))]
    [Eq,Eq,Eq,Eq,Eq,Eq,Eq,fun u u'=>Below u.heap.size u u',fun _ _=>True,Eq]
    (fun i k=>(i == 8 && k == 7)) [(0,some 14),(1,some 15),(2,some 16),(3,some 17),(4,some 18),(5,some 19),(6,some 20),(7,some 21),(8,some 22),(9,some 3)] (by kernel_rfl) (by kernel_rfl) rfl (fun _=>rfl) ?_ ?_ ?_ ?_ ?_ ?_
   ·exact HC0
   ·intro m; cases m; exact HI0; exact trivial
   ·intro m; cases m
    ·refine ⟨?_,?_,?_,?_,?_,?_,?_,.inr (fun _ _ h h0=>h0.below h (Nat.le_refl _)),.inl rfl,?_,trivial⟩ <;> exact .inr fun _ _ h h0=>h▸h0
    ·refine ⟨?_,?_,?_,?_,?_,?_,?_,?_,?_,?_,trivial⟩ <;> first | exact .inr fun _ _ h h0=>h▸h0 | exact .inr fun _ _ _ h=>h
   ·refine ⟨⟨.inl rfl,?_,?_,?_,?_,?_,?_,?_,?_,?_,trivial⟩,⟨?_,.inl rfl,?_,?_,?_,?_,?_,?_,?_,?_,trivial⟩,⟨?_,?_,.inl rfl,?_,?_,?_,?_,?_,?_,?_,trivial⟩,⟨?_,?_,?_,.inl rfl,?_,?_,?_,?_,?_,?_,trivial⟩,⟨?_,?_,?_,?_,.inl rfl,?_,?_,?_,?_,?_,trivial⟩,⟨?_,?_,?_,?_,?_,.inl rfl,?_,?_,?_,?_,trivial⟩,⟨?_,?_,?_,?_,?_,?_,.inl rfl,?_,?_,?_,trivial⟩,⟨?_,?_,?_,?_,?_,?_,?_,.inl rfl,?_,?_,trivial⟩,⟨?_,?_,?_,?_,?_,?_,?_,.inr (.inl rfl),.inl rfl,?_,trivial⟩,⟨?_,?_,?_,?_,?_,?_,?_,?_,?_,.inl rfl,trivial⟩,trivial⟩ <;> first | exact .inr (.inr (.inl rfl)) | exact .inr (.inr (.inr fun _ _ _ _ _ h=>h)) | exact .inr (.inr (.inr fun _ _ _ _ h h0=>by cases h; exact h0))
   ·refine ⟨?_,?_,?_,?_,?_,?_,?_,?_,?_,?_,trivial⟩
    ·refine qab [] (fun _=>rfl) rfl ?_;intro w1 vals hC1 hi0 hf E hE;have hI1:(fun u=>OwnX u u1.heap.size 5 1 (.slice A2 (2*k) c2) (2*k) (bytesV L)) w1:=hi0 false rfl
     try dsimp only at hI1
     clear hi0;clear hf;simp only [sP] at hE ⊢;go_wp2;exact .mk (hE _ _ rfl hC1 rfl)
    ·refine qab [] (fun _=>rfl) rfl ?_;intro w1 vals hC1 hi0 hf E hE;clear hi0;clear hf;simp only [sP] at hE ⊢;go_wp2;exact .mk (hE _ _ rfl hC1 rfl)
    ·refine qab [(1,some 15)] (fun _=>rfl) rfl ?_;intro w1 vals hC1 hi0 hf E hE;have hI1:(fun u=>OwnX u u1.heap.size 5 1 (.slice A2 (2*k) c2) (2*k) (bytesV L)) w1:=hi0 false rfl
     try dsimp only at hI1
     clear hi0;have f1:vals 1=_:=hf 1 rfl
     try dsimp only at f1
     clear hf;simp only [sP,f1] at hE ⊢;clear f1;go_wp2;exact .mk (hE _ _ rfl hC1 rfl)
    ·refine qab [(2,some 16)] (fun _=>rfl) rfl ?_;intro w1 vals hC1 hi0 hf E hE;have hI1:(fun u=>OwnX u u1.heap.size 5 1 (.slice A2 (2*k) c2) (2*k) (bytesV L)) w1:=hi0 false rfl
     try dsimp only at hI1
     clear hi0;have f2:vals 2=_:=hf 2 rfl
     try dsimp only at f2
     clear hf;simp only [sP,f2] at hE ⊢;clear f2;go_wp2;rw [hexA_get (x/16) (by omega)];exact .mk (hE _ _ rfl hC1 rfl)
    ·refine qab [] (fun _=>rfl) rfl ?_;intro w1 vals hC1 hi0 hf E hE;clear hi0;clear hf;simp only [sP] at hE ⊢;go_wp2;exact .mk (hE _ _ rfl hC1 rfl)
    ·refine qab [(4,some 18)] (fun _=>rfl) rfl ?_;intro w1 vals hC1 hi0 hf E hE;have hI1:(fun u=>OwnX u u1.heap.size 5 1 (.slice A2 (2*k) c2) (2*k) (bytesV L)) w1:=hi0 false rfl
     try dsimp only at hI1
     clear hi0;have f4:vals 4=_:=hf 4 rfl
     try dsimp only at f4
     clear hf;simp only [sP,f4] at hE ⊢;clear f4;go_wp2;exact .mk (hE _ _ rfl hC1 rfl)
    ·refine qab [(5,some 19)] (fun _=>rfl) rfl ?_;intro w1 vals hC1 hi0 hf E hE;have hI1:(fun u=>OwnX u u1.heap.size 5 1 (.slice A2 (2*k) c2) (2*k) (bytesV L)) w1:=hi0 false rfl
     try dsimp only at hI1
     clear hi0;have f5:vals 5=_:=hf 5 rfl
     try dsimp only at f5
     clear hf;simp only [sP,f5] at hE ⊢;clear f5;go_wp2;rw [hexA_get (x%16) (by omega)];exact .mk (hE _ _ rfl hC1 rfl)
    ·refine qab [(3,some 17),(6,some 20)] (fun _=>rfl) rfl ?_;intro w1 vals hC1 hi0 hf E hE;have hI1:(fun u=>OwnX u u1.heap.size 5 1 (.slice A2 (2*k) c2) (2*k) (bytesV L)) w1:=hi0 false rfl
     try dsimp only at hI1
     clear hi0;have f3:vals 3=_:=hf 3 rfl;have f6:vals 6=_:=hf 6 rfl
     try dsimp only at f3 f6
     clear hf;simp only [sP,f3,f6] at hE ⊢;clear f3 f6;go_wp2;exact .mk (hE _ _ ⟨_,rfl,by rw [hexB_val x hxl]; exact Blk.new _ _ _⟩ (hC1.alloc hC1.size _) ((Below.refl _ _).alloc (Nat.le_refl _) _))
    ·refine qab [(0,some 14),(7,some 21)] (fun _=>rfl) rfl ?_;intro w1 vals hC1 hi0 hf E hE;have hI1:(fun u=>OwnX u u1.heap.size 5 1 (.slice A2 (2*k) c2) (2*k) (bytesV L)) w1:=hi0 false rfl
     try dsimp only at hI1
     clear hi0;have f0:vals 0=_:=hf 0 rfl;have f7:(fun v u=>∃ g,v=.slice (some ⟨g,0,none⟩) 2 2∧Blk u g 5 (bytesV (hexB x)).toArray) (vals 7) w1:=hf 7 rfl
     try dsimp only at f0 f7
     clear hf;obtain ⟨g8,hx8,hg8⟩:=f7;simp only [sP,f0,hx8] at hE ⊢;clear f0;clear hx8;obtain ⟨A3,c3,w2,hr2,hown2,hgr2,hn2⟩:=qb0 (ty:=40) (c:=2) (Ad:=some ⟨g8,0,none⟩) Sh.sl_bytes hI1 (news:=bytesV (hexB x)) (m:=2) rfl (fun j u hu=>⟨_,rfl,blk_src hg8 2 j u (by simpa [hexB_val x hxl] using hu)⟩) (oneV _) (by unfold maxLen; omega) (by omega) hC1.size;refine qaH (R:=fun v' u'=>v'=.slice A3 (2*k+2) c3∧u'=w2) rfl rfl rfl rfl ⟨_,_,hr2,rfl,rfl⟩ ?_;rintro v' u' ⟨rfl,rfl⟩;go_wp2_with fail;exact .mk (hE _ _ ⟨A3,c3,rfl,by rw [HN.out]; exact hown2⟩ (hC1.grown hgr2 hC1.size (fun j hj=>(hI1.lt j hj).1)) trivial)
    ·refine qab [(8,some 22),(8,some 22),(0,some 14),(1,some 15),(2,some 16),(3,some 17),(4,some 18),(5,some 19),(6,some 20),(7,some 21),(8,some 22)] (fun _=>rfl) rfl ?_;intro w1 vals hC1 hi0 hf E hE;clear hi0;have f0:vals 0=_:=hf 0 rfl;have f1:vals 1=_:=hf 1 rfl;have f2:vals 2=_:=hf 2 rfl;have f3:vals 3=_:=hf 3 rfl;have f4:vals 4=_:=hf 4 rfl;have f5:vals 5=_:=hf 5 rfl;have f6:vals 6=_:=hf 6 rfl;have f8:(fun z u=>∃ A3 c3,z 8=.slice A3 (2*(k+1)) c3∧OwnX u u1.heap.size 5 1 (.slice A3 (2*(k+1)) c3) (2*(k+1)) (bytesV (nameK H (k+1)))) vals w1:=hf 8 rfl
     try dsimp only at f0 f1 f2 f3 f4 f5 f6 f8
     clear hf;obtain ⟨A3,c3,hx8,ho8⟩:=f8;simp only [sP,f0,f1,f2,f3,f4,f5,f6,hx8] at hE ⊢;clear f0 f1 f2 f3 f4 f5 f6;clear hx8;go_wp2_with fail;exact .mk (hE _ _ ⟨A3,c3,rfl,ho8⟩ hC1 rfl)
   intro w1 vals hC1 hf;have f0:vals 0=_:=hf 0 (by decide) rfl;have f1:vals 1=_:=hf 1 (by decide) rfl;have f2:vals 2=_:=hf 2 (by decide) rfl;have f3:vals 3=_:=hf 3 (by decide) rfl;have f4:vals 4=_:=hf 4 (by decide) rfl;have f5:vals 5=_:=hf 5 (by decide) rfl;have f6:vals 6=_:=hf 6 (by decide) rfl;have f8:(fun z u=>∃ A3 c3,z 8=.slice A3 (2*(k+1)) c3∧OwnX u u1.heap.size 5 1 (.slice A3 (2*(k+1)) c3) (2*(k+1)) (bytesV (nameK H (k+1)))) vals w1:=hf 8 (by decide) rfl;have f9:(fun z u=>∃ A3 c3,z 9=.slice A3 (2*(k+1)) c3∧OwnX u u1.heap.size 5 1 (.slice A3 (2*(k+1)) c3) (2*(k+1)) (bytesV (nameK H (k+1)))) vals w1:=hf 9 (by decide) rfl
   try dsimp only at f0 f1 f2 f3 f4 f5 f6 f8 f9
   clear hf;simp only [sP,f0,f1,f2,f3,f4,f5,f6];clear f0 f1 f2 f3 f4 f5 f6;generalize vals 7=x7 at *;generalize vals 8=x8 at *;generalize vals 9=x9 at *;obtain ⟨A3,c3,hx9,ho9⟩:=f9;rw [hx9];have HO9:=zY ho9;have HC9:=zY hC1;clear hx9 ho9 hC1 HC0 HI0;go_wp2_with fail
   go_roundw
   case rel=>exact ⟨k+1,A3,c3,by omega,by go_num,rfl,HO9.out,HC9.out⟩
   case measure=>simp [intOf]; omega
  ·obtain rfl:k=4:=by omega
   have HR4:=zY (Rd.of_own hown (Nat.le_refl _));have hn8:(nameK H 4).length=2*4:=qbG (by rw [HLH.out]; decide);have HF:=zY (HB1.out.trans (hbel.mono HB1.out.size));clear hown hbel;go_wp2_with (refine qbt HR4.out hub hu8 hus rfl rfl (by rw [hn8]; rfl) ?_);go_ret;exact ⟨by rw [nameS,← HH.out]; rfl,HF.out⟩
end Go.Proofs.YtlkikjeccamheaaGreatDoor
namespace Go.Proofs.YtlkikjeccamheaaGreatDoor.Sh
set_option linter.unusedSimpArgs false
set_option linter.unusedVariables false
set_option maxRecDepth 100000
set_option maxHeartbeats 4000000
open Go.RowKit
def turnR (b x:Nat):Nat→Nat
 | 0=>x
 | n+1=>turnR b x n/2+turnR b x n%2*2^(b - 1)
theorem rotN_add {b x n:Nat} (hx:x<2^b) (hn:n≤b):rotN b x n=x/2^n+x%2^n*2^(b - n):=by
 obtain ⟨m,rfl⟩:∃ m,b=n+m:=⟨b - n,by omega⟩;have hm:n+m - n=m:=by omega
 rw [rotN,hm]
 have h1:x*2^m%2^(n+m)=x%2^n*2^m:=by
  rw [Nat.pow_add,Nat.mul_mod_mul_right]
 have h2:x/2^n<2^m:=by
  rw [Nat.div_lt_iff_lt_mul (Nat.two_pow_pos _),← Nat.pow_add,Nat.add_comm m n]; exact hx
 rw [h1,Nat.mul_comm (x%2^n),Nat.or_comm,← Nat.two_pow_add_eq_or_of_lt h2];omega
theorem turnR_eq {b x:Nat} (hx:x<2^b):∀ n,n≤b→turnR b x n=x/2^n+x%2^n*2^(b - n)
 | 0,_=>by simp [turnR,Nat.mod_one]
 | n+1,hn=>by
  rw [turnR,turnR_eq hx n (by omega)];obtain ⟨m,rfl⟩:∃ m,b=n+1+m:=⟨b - (n+1),by omega⟩;rw [show n+1+m - n=m+1 by omega,show n+1+m - (n+1)=m by omega,show n+1+m - 1=n+m by omega];obtain ⟨q,hq⟩:=eX (x/2^n);obtain ⟨r,hr⟩:=eX (x%2^n);have hq2:x/2^(n+1)=q/2:=by rw [hq,Nat.pow_succ,Nat.div_div_eq_div_mul]
  have hr2:x%2^(n+1)=r+q%2*2^n:=by
   rw [hr,hq,Nat.pow_succ,Nat.mod_mul];rw [Nat.mul_comm (2^n)]
  rw [hq2,hr2,← hq,← hr];rw [Nat.pow_succ,← Nat.mul_assoc];generalize hz:r*2^m=z;rw [Nat.add_mul,hz,Nat.mul_assoc,← Nat.pow_add,Nat.add_mul_mod_self_right,Nat.add_mul_div_right _ _ (by decide)];omega
theorem turnR_rot {b x n:Nat} (hx:x<2^b) (hn:n≤b):turnR b x n=rotN b x n:=by rw [turnR_eq hx n hn,rotN_add hx hn]
theorem turnR_lt {b x:Nat} (hb:0<b) (hx:x<2^b):∀ n,turnR b x n<2^b
 | 0=>hx
 | n+1=>by
  have ih:=turnR_lt hb hx n;obtain ⟨c,rfl⟩:∃ c,b=c+1:=⟨b - 1,by omega⟩;rw [turnR,show c+1 - 1=c by omega];rw [Nat.pow_succ] at *;generalize 2^c=p at *;generalize turnR (c+1) x n=y at *;have:y%2=0∨y%2=1:=by omega
  rcases this with h | h <;> rw [h] <;> omega
theorem turnR_turned {b x n:Nat} (hb:b=32∨b=64) (hx:x<2^b) (hn:n≤b):turnR b x n=turnedN b x n:=by
 rw [turnR_rot hx hn]
 rcases hb with rfl | rfl
 ·rw [turnedN,if_pos rfl,Nat.mod_eq_of_lt hx]
 ·rw [turnedN,if_neg (by decide)]
def hC (bits steps:Nat) (a b c d k f:Value):Array Value:=#[.int .i64 bits,.int .i64 steps,a,b,c,d,k,f]
section
variable (bits steps:Nat) (a b c d k f:Value) (w:World)
theorem qct (hb:bits=32∨bits=64) (x:Nat) (hx:x<18446744073709551616) :
  Calls Tryz.prog 110 #[.agg (hC bits steps a b c d k f),.int .u64 x] w fun e w'=>e=.returned (.int .u64 (x%2^bits:Nat))∧Below w.heap.size w w':=by
 have c0:=(Blk.new w 93 (hC bits steps a b c d k f)).cell 0;simp only [hC,List.getElem?_toArray,List.getElem?_cons_zero] at c0;have hx1:(x:Int)<18446744073709551616:=by omega
 rw [hC]
 rcases hb with rfl | rfl
 ·clear hx;go_enter Tryz.func110,Tryz.ntmps110;go_wp2;go_ret;exact ⟨qa3 (by omega),below_new _ _⟩
 ·have HX:=zY hx;clear hx;go_enter Tryz.func110,Tryz.ntmps110;go_wp2;go_ret;exact ⟨qa3 (by have:=HX.out; omega),below_new _ _⟩
theorem top_any (hb:bits=32∨bits=64) (x:Nat) (hx:x<18446744073709551616) :
  Calls Tryz.prog 79 #[.agg (hC bits steps a b c d k f),.int .u64 x] w fun e w'=>e=.returned (.int .u64 (x/2^(64 - bits)%2^bits:Nat))∧Below w.heap.size w w':=by
 have c0:=(Blk.new w 93 (hC bits steps a b c d k f)).cell 0;simp only [hC,List.getElem?_toArray,List.getElem?_cons_zero] at c0;have hx1:(x:Int)<18446744073709551616:=by omega
 rw [hC]
 rcases hb with rfl | rfl
 ·have HX:=zY hx;clear hx;go_enter Tryz.func79,Tryz.ntmps79;go_wp2;go_ret;exact ⟨qa3 (by have:=HX.out; omega),below_new _ _⟩
 ·have HX:=zY hx;clear hx;go_enter Tryz.func79,Tryz.ntmps79;go_wp2;go_ret;exact ⟨qa3 (by have:=HX.out; omega),below_new _ _⟩
theorem qcy (hb:bits=32∨bits=64) (x n:Nat) (hx:x<2^bits) (hn:n≤bits) :
  Calls Tryz.prog 126 #[.agg (hC bits steps a b c d k f),.int .u64 x,.int .i64 n] w fun e w'=>e=.returned (.int .u64 (turnedN bits x n:Nat))∧Below w.heap.size w w':=by
 have c0:=(Blk.new w 93 (hC bits steps a b c d k f)).cell 0;simp only [hC,List.getElem?_toArray,List.getElem?_cons_zero] at c0;have hbel:=below_new w (.cells (hC bits steps a b c d k f) 93);rw [hC] at hbel ⊢;have HTU:=zY (turnR_turned hb hx hn);have HTL:=zY (turnR_lt (by omega) hx);have HBEL:=zY hbel;have hn64:n≤64:=by omega
 clear hbel hn hx
 rcases hb with rfl | rfl
 all_goals
  go_enter Tryz.func126,Tryz.ntmps126;go_wp2
  go_loop [1,7] (fun v i=>∃ j y:Nat,j≤n∧i=.int .i64 j∧y=turnR _ x j∧v=.int .u64 y) (fun _ i=>n - (intOf i).toNat)
  case atStart=>exact ⟨0,x,by omega,rfl,rfl,rfl⟩
  case round =>
   obtain ⟨j,y,hj,rfl,hy,rfl⟩:=hrel;have hyl:=HTL.out j;rw [← hy] at hyl;have HY:=zY hy;have hyl2:(y:Int)<18446744073709551616:=by omega
   have hyl3:(y:Int)/2+2147483648<18446744073709551616:=by omega
   have hyl4:(y:Int)/2+9223372036854775808<18446744073709551616:=by omega
   clear hy hyl
   by_cases hlt:j<n
   ·rcases Nat.mod_two_eq_zero_or_one y with h | h
    ·have ho:(((y:Int)%2) == 1)=false:=by rw [beq_eq_false_iff_ne]; omega
     have HH:=zY h;clear h;go_wp2;exact ⟨⟨j+1,y/2,by omega,by go_num,by rw [turnR,← HY.out,HH.out]; omega,by go_num⟩,by simp [intOf]; omega⟩
    ·have ho:(((y:Int)%2) == 1)=true:=by rw [beq_iff_eq]; omega
     have HH:=zY h;clear h;go_wp2
     first
      | exact ⟨⟨j+1,y/2+2147483648,by omega,by go_num,by rw [turnR,← HY.out,HH.out],by go_num⟩,by simp [intOf]; omega⟩
      | exact ⟨⟨j+1,y/2+9223372036854775808,by omega,by go_num,by rw [turnR,← HY.out,HH.out],by go_num⟩,by simp [intOf]; omega⟩
   ·obtain rfl:j=n:=by omega
    go_wp2;go_ret;exact ⟨qa3 (by rw [HY.out,HTU.out]),HBEL.out⟩
end
end Go.Proofs.YtlkikjeccamheaaGreatDoor.Sh
namespace Go.Proofs.YtlkikjeccamheaaGreatDoor
set_option linter.unusedSimpArgs false
set_option linter.unusedVariables false
set_option maxRecDepth 100000
set_option maxHeartbeats 4000000
open Go.RowKit
theorem Rd.val {w:World} {B:Nat} {ad:Addr} {xs:List Value} (h:Rd w B (some ad) xs) {k:Nat} {v:Value} (hv:xs[k]?=some v):w.cell? (ad.add k)=some v:=by
 obtain ⟨ad',e,_,hc⟩:=h k v hv
 injection e with e
 subst e;exact hc
theorem Rd.val0 {w:World} {B:Nat} {ad:Addr} {xs:List Value} (h:Rd w B (some ad) xs) {v:Value} (hv:xs[0]?=some v):w.cell? ad=some v:=by
 have:=h.val hv
 rwa [show ad.add 0=ad by unfold Addr.add; simp] at this
theorem Rd.lit {w:World} {B:Nat} {ad:Addr} {xs:List Value} (h:Rd w B (some ad) xs) {k:Nat} {v:Value} (hv:xs[k]?=some v) (hk:k≠0):w.cell? ⟨ad.block,ad.off+k,none⟩=some v:=by
 have:=h.val hv
 rwa [show ad.add k=⟨ad.block,ad.off+k,none⟩ by unfold Addr.add; simp [hk]] at this
theorem OwnX.ptr {w:World} {base e n c:Nat} {A:Option Addr} {xs:List Value} (h:OwnX w base e 1 (.slice A n c) n xs) (hn:0<n):∃ g,A=some ⟨g,0,none⟩∧base≤g∧g<w.heap.size:=by
 have hl:=h.lt
 rcases h.2 with ⟨_,h0⟩ | ⟨g,cap,cur,fz,hv,hb,hg,_⟩
 ·omega
 ·injection hv with h1
  subst h1;exact ⟨g,rfl,hb,(Array.getElem?_eq_some_iff.1 hg).1⟩
theorem OwnX.atN {w:World} {base e n c g i:Nat} {xs:List Value} {v:Value} (h:OwnX w base e 1 (.slice (some ⟨g,0,none⟩) n c) n xs) (hv:xs[i]?=some v):w.cell? ⟨g,i,none⟩=some v:=by
 have:=h.cells (g:=g) rfl i v hv
 rwa [Addr.add_lit,Nat.zero_add] at this
end Go.Proofs.YtlkikjeccamheaaGreatDoor
namespace Go.Proofs.YtlkikjeccamheaaGreatDoor.Sh
set_option linter.unusedSimpArgs false
set_option linter.unusedVariables false
set_option maxRecDepth 100000
set_option maxHeartbeats 4000000
open Go.RowKit
theorem qaX:(Tryz.prog.info? 93).map (·.size)=some 8:=by kernel_rfl
def triV (p q c:Nat):List Value:=[.int .i64 p,.int .i64 q,.int .i64 c]
structure MxSt (w0:World) (g:Nat) (cs:Array Value) (A:Option Addr) (xs:List Value) (u:World):Prop where
 bel:Below g w0 u
 h:Blk u g 93 cs
 rd:Rd u g A xs
theorem MxSt.next {w0 u u':World} {g:Nat} {cs:Array Value} {A:Option Addr} {xs:List Value} (h:MxSt w0 g cs A xs u) (hb:Below u.heap.size u u'):MxSt w0 g cs A xs u' :=
 ⟨h.bel.trans (hb.mono (by have:=h.h.lt; omega)),h.h.below hb h.h.lt,h.rd.below (hb.mono (by have:=h.h.lt; omega))⟩
theorem MxSt.drew {w0 u:World} {g:Nat} {cs:Array Value} {A:Option Addr} {xs:List Value} (h:MxSt w0 g cs A xs u):MxSt w0 g cs A xs u.drew :=
 ⟨h.bel.drew,h.h,h.rd.below (Below.refl _ _).drew⟩
def halves (x:Nat):Nat→Nat
 | 0=>x
 | n+1=>halves x n/2
theorem qdV (x:Nat):∀ n,halves x n=x/2^n
 | 0=>by simp [halves]
 | n+1=>by rw [halves,qdV x n,Nat.div_div_eq_div_mul,Nat.pow_succ]
theorem halves_le (x:Nat) (n:Nat):halves x n≤x:=by rw [qdV]; exact Nat.div_le_self _ _
theorem qcD (bits steps:Nat) (a b c d k f:Value) (w:World) (hb:bits=32∨bits=64) (x p q r:Nat) (shift:Bool) (hx:x<2^bits) (hp:p≤bits) (hq:q≤bits) (hr:r≤bits)
  (A:Option Addr) (cp B:Nat) (hrd:Rd w B A (triV p q r)) (hB:B≤w.heap.size) (hcp:3≤cp) :
  Calls Tryz.prog 109 #[.agg (hC bits steps a b c d k f),.int .u64 x,.slice A 3 cp,.bool shift] w fun e w'=>e=.returned (.int .u64 (allN bits x p q r shift:Nat))∧Below w.heap.size w w':=by
 obtain ⟨ad,rfl,_,_⟩:=hrd.at_ (k:=0) (by simp [triV]);obtain ⟨W0,hW0⟩:=eX (w.alloc (.cells (hC bits steps a b c d k f) 93));obtain ⟨cs,hcs⟩:=eX (hC bits steps a b c d k f)
 have hst:MxSt w w.heap.size cs (some ad) (triV p q r) W0:=by
  rw [hW0,hcs]; exact ⟨below_new _ _,Blk.new _ _ _,(hrd.mono hB).below (below_new _ _)⟩
 have hb64:bits≤64:=by omega
 have hx64:x<2^64:=Nat.lt_of_lt_of_le hx (Nat.pow_le_pow_right (by omega) hb64);have hst0:=hst;rw [hW0,← hcs] at hst0;have hr64:r≤64:=by omega
 have HST:=zY hst0;have HX:=zY hx;have HXL:=zY hx64;have HB:=zY hb;have HP:=zY hp;have HQ:=zY hq;have HR:=zY hr;have HCS:=zY hcs;have hu:=Tryz.underlying93;have hcs8:cs.size=8:=by rw [hcs]; rfl
 have HCS8:=zY hcs8;rw [← hcs];have hx1:(x:Int)<18446744073709551616:=by omega
 have hAN:allN bits x p q r shift=(turnedN bits x p ^^^ turnedN bits x q) ^^^ lastN bits x r shift:=rfl;have HAN:=zY hAN;obtain ⟨tp,htp⟩:=eX (turnedN bits x p);obtain ⟨tq,htq⟩:=eX (turnedN bits x q);obtain ⟨tr,htr⟩:=eX (turnedN bits x r);obtain ⟨la,hla⟩:=eX (lastN bits x r shift);obtain ⟨pq,hpq⟩:=eX (tp ^^^ tq);obtain ⟨re,hre⟩:=eX (pq ^^^ la);have HTP:=zY htp;have HTQ:=zY htq;have HTR:=zY htr;have HLA:=zY hla;have HPQ:=zY hpq;have HRE:=zY hre;have LTP:Hid (tp<2^64):=zY (by rw [htp]; exact qaL hx64);have LTQ:Hid (tq<2^64):=zY (by rw [htq]; exact qaL hx64);have LLA:Hid (la<2^64):=zY (by rw [hla]; exact qdf hx64);have LPQ:Hid (pq<2^64):=zY (by rw [hpq]; exact Nat.xor_lt_two_pow LTP.out LTQ.out);clear hrd hst hx hx64 hb hp hq hr hcs hcs8 hW0 hst0 hAN htp htq htr hla hpq hre W0
 cases shift
 all_goals
  go_enter Tryz.func109,Tryz.ntmps109;go_wp2_with fail;have HC0:=HST.out.drew;refine qaj (fun u=>MxSt w w.heap.size cs (some ad) (triV p q r) u) (fun u=>MxSt w w.heap.size cs (some ad) (triV p q r) u) [(0,some 11),(1,some 12),(2,some 13),(3,some 14),(4,some 15),(5,some 16),(6,some 9)] (by kernel_rfl) (by kernel_rfl) (by decide) (by kernel_rfl) (fun _=>rfl) HC0 ?_;apply yN_
  ·apply dP [];exact fun _=>rfl;rfl;rintro vals - w1 hC1 E hE;simp only [sP] at hE ⊢;refine qad hC1.h rfl rfl rfl hu rfl (by rw [HCS8.out]; exact qaX) ?_;go_wp2_with fail;exact .mk (hE _ hC1)
  apply yN_
  ·apply dP [];exact fun _=>rfl;rfl;rintro vals ⟨-,-⟩ w1 hC1 E hE;simp only [sP] at hE ⊢;go_wp2;exact .mk (hE _ hC1)
  apply yN_
  ·apply dP [];exact fun _=>rfl;rfl;intro vals vq w1 hC1 E hE;clear vq;simp only [sP] at hE ⊢;go_wp2;exact .mk (hE _ hC1)
  apply yN_
  ·apply dP [(2,some 13)];exact fun _=>rfl;rfl;intro vals vq w1 hC1 E hE;simp only [sP,vq] at hE ⊢;clear vq;go_wp2;exact .mk (hE _ hC1)
  apply yN_
  ·apply dP [(3,some 14)];exact fun _=>rfl;rfl;intro vals vq w1 hC1 E hE;have d0:=hC1.rd.lit (k:=2) rfl (by decide);simp only [sP,vq] at hE ⊢;clear vq;go_wp2;exact .mk (hE _ hC1)
  apply yN_
  ·apply dP [(0,some 11),(1,some 12),(4,some 15)];exact fun _=>rfl;rfl;intro vals vq w1 hC1 E hE;simp only [sP,vq] at hE ⊢;clear vq;go_wp2_with fail;have hct:=qcy bits steps a b c d k f w1 HB.out x r HX.out HR.out;rw [← HCS.out] at hct;refine qaa hct ?_;rintro e w2 ⟨rfl,hb2⟩;rw [← HTR.out];go_wp2_with fail;exact .mk (hE _ (hC1.next hb2))
  apply yL_
  ·apply dP [(5,some 16),(5,some 16),(0,some 11),(1,some 12),(2,some 13),(3,some 14),(4,some 15),(5,some 16)];exact fun _=>rfl;rfl;intro vals vq w1 hC1 E hE;simp only [sP,vq] at hE ⊢;clear vq;go_wp2;exact .mk (hE _ hC1)
  intro vals vq w1 hC1;simp only [sP,vq];clear vq;clear HC0;have HC1:=zY hC1;have d2:=hC1.rd.lit (k:=2) rfl (by decide);clear hC1;go_wp2_with fail
 ·obtain rfl:tr=la:=by rw [HLA.out,HTR.out]; rfl
  have HC0:=HC1.out.drew;refine qaj (fun u=>MxSt w w.heap.size cs (some ad) (triV p q r) u) (fun u=>MxSt w w.heap.size cs (some ad) (triV p q r) u) [(0,some 28),(1,some 29),(2,some 30),(3,some 31),(4,some 32),(5,some 33),(6,some 34),(7,some 35),(8,some 36),(9,some 37),(10,some 38),(11,some 39),(12,some 40),(13,some 41),(14,some 42),(15,some 8)] (by kernel_rfl) (by kernel_rfl) (by decide) (by kernel_rfl) (fun _=>rfl) HC0 ?_;apply yN_
  ·apply dP [];exact fun _=>rfl;rfl;rintro vals - w1 hC1 E hE;simp only [sP] at hE ⊢;refine qad hC1.h rfl rfl rfl hu rfl (by rw [HCS8.out]; exact qaX) ?_;go_wp2_with fail;exact .mk (hE _ hC1)
  apply yN_
  ·apply dP [];exact fun _=>rfl;rfl;rintro vals ⟨-,-⟩ w1 hC1 E hE;simp only [sP] at hE ⊢;go_wp2;exact .mk (hE _ hC1)
  apply yN_
  ·apply dP [];exact fun _=>rfl;rfl;intro vals vq w1 hC1 E hE;clear vq;simp only [sP] at hE ⊢;go_wp2;exact .mk (hE _ hC1)
  apply yN_
  ·apply dP [(2,some 30)];exact fun _=>rfl;rfl;intro vals vq w1 hC1 E hE;simp only [sP,vq] at hE ⊢;clear vq;go_wp2;exact .mk (hE _ hC1)
  apply yN_
  ·apply dP [(3,some 31)];exact fun _=>rfl;rfl;intro vals vq w1 hC1 E hE;have d0:=hC1.rd.val0 rfl;simp only [sP,vq] at hE ⊢;clear vq;go_wp2;exact .mk (hE _ hC1)
  apply yN_
  ·apply dP [(0,some 28),(1,some 29),(4,some 32)];exact fun _=>rfl;rfl;intro vals vq w1 hC1 E hE;simp only [sP,vq] at hE ⊢;clear vq;go_wp2_with fail;have hct:=qcy bits steps a b c d k f w1 HB.out x p HX.out HP.out;rw [← HCS.out] at hct;refine qaa hct ?_;rintro e w2 ⟨rfl,hb2⟩;rw [← HTP.out];go_wp2_with fail;exact .mk (hE _ (hC1.next hb2))
  apply yN_
  ·apply dP [];exact fun _=>rfl;rfl;intro vals vq w1 hC1 E hE;clear vq;simp only [sP] at hE ⊢;refine qad hC1.h rfl rfl rfl hu rfl (by rw [HCS8.out]; exact qaX) ?_;go_wp2_with fail;exact .mk (hE _ hC1)
  apply yN_
  ·apply dP [];exact fun _=>rfl;rfl;intro vals vq w1 hC1 E hE;clear vq;simp only [sP] at hE ⊢;go_wp2;exact .mk (hE _ hC1)
  apply yN_
  ·apply dP [];exact fun _=>rfl;rfl;intro vals vq w1 hC1 E hE;clear vq;simp only [sP] at hE ⊢;go_wp2;exact .mk (hE _ hC1)
  apply yN_
  ·apply dP [(8,some 36)];exact fun _=>rfl;rfl;intro vals vq w1 hC1 E hE;simp only [sP,vq] at hE ⊢;clear vq;go_wp2;exact .mk (hE _ hC1)
  apply yN_
  ·apply dP [(9,some 37)];exact fun _=>rfl;rfl;intro vals vq w1 hC1 E hE;have d0:=hC1.rd.lit (k:=1) rfl (by decide);simp only [sP,vq] at hE ⊢;clear vq;go_wp2;exact .mk (hE _ hC1)
  apply yN_
  ·apply dP [(6,some 34),(7,some 35),(10,some 38),(5,some 33)];exact fun _=>rfl;rfl;intro vals vq w1 hC1 E hE;simp only [sP,vq] at hE ⊢;clear vq;go_wp2_with fail;have hct:=qcy bits steps a b c d k f w1 HB.out x q HX.out HQ.out;rw [← HCS.out] at hct;refine qaa hct ?_;rintro e w2 ⟨rfl,hb2⟩;rw [← HTQ.out];go_wp2_with fail;exact .mk (hE _ (hC1.next hb2))
  apply yN_
  ·apply dP [(5,some 33),(11,some 39)];exact fun _=>rfl;rfl;intro vals vq w1 hC1 E hE;simp only [sP,vq] at hE ⊢;clear vq;go_wp2;rw [xor64 tp tq LTP.out LTQ.out,← HPQ.out];exact .mk (hE _ hC1)
  apply yN_
  ·apply dP [];exact fun _=>rfl;rfl;intro vals vq w1 hC1 E hE;clear vq;simp only [sP] at hE ⊢;go_wp2;exact .mk (hE _ hC1)
  apply yN_
  ·apply dP [(12,some 40),(13,some 41)];exact fun _=>rfl;rfl;intro vals vq w1 hC1 E hE;simp only [sP,vq] at hE ⊢;clear vq;go_wp2;rw [xor64 pq tr LPQ.out LLA.out,← HRE.out];exact .mk (hE _ hC1)
  apply yL_
  ·apply dP [(14,some 42),(11,some 39),(0,some 28),(1,some 29),(2,some 30),(3,some 31),(4,some 32),(5,some 33),(6,some 34),(7,some 35),(8,some 36),(9,some 37),(10,some 38),(11,some 39),(12,some 40),(13,some 41),(14,some 42)];exact fun _=>rfl;rfl;intro vals vq w1 hC1 E hE;simp only [sP,vq] at hE ⊢;clear vq;go_wp2;exact .mk (hE _ hC1)
  intro vals vq w1 hC1;simp only [sP,vq];clear vq;clear HC0;go_wp2_with fail;go_ret;exact ⟨qa3 (by rw [HAN.out,HRE.out,HPQ.out,HTP.out,HTQ.out,HLA.out]),hC1.bel⟩
 ·go_loop [9,10] (fun v i=>∃ j:Nat,j≤r∧i=.int .i64 j∧v=.int .u64 (halves x j)) (fun _ i=>r - (intOf i).toNat)
  case atStart=>exact ⟨0,by omega,rfl,rfl⟩
  case round =>
   obtain ⟨j,hj,rfl,rfl⟩:=hrel;have hh:=halves_le x j;have hhs:halves x (j+1)=halves x j/2:=rfl;obtain ⟨y,hy⟩:=eX (halves x j);rw [← hy] at hh hhs ⊢;have HY:=zY hy;have HHS:=zY hhs;have hy1:(y:Int)<18446744073709551616:=by omega
   clear hy hhs
   by_cases hlt:j<r
   ·have hlt':(j:Int)<(r:Int):=by omega
    go_wp2;exact ⟨⟨j+1,by omega,by go_num,by rw [HHS.out]; go_num⟩,by simp [intOf]; omega⟩
   ·obtain rfl:j=r:=by omega
    obtain rfl:y=la:=by rw [HLA.out,HY.out,qdV]; rfl
    go_wp2_with fail;have HC0:=HC1.out.drew;refine qaj (fun u=>MxSt w w.heap.size cs (some ad) (triV p q j) u) (fun u=>MxSt w w.heap.size cs (some ad) (triV p q j) u) [(0,some 28),(1,some 29),(2,some 30),(3,some 31),(4,some 32),(5,some 33),(6,some 34),(7,some 35),(8,some 36),(9,some 37),(10,some 38),(11,some 39),(12,some 40),(13,some 41),(14,some 42),(15,some 8)] (by kernel_rfl) (by kernel_rfl) (by decide) (by kernel_rfl) (fun _=>rfl) HC0 ?_;apply yN_
    ·apply dP [];exact fun _=>rfl;rfl;rintro vals - w1 hC1 E hE;simp only [sP] at hE ⊢;refine qad hC1.h rfl rfl rfl hu rfl (by rw [HCS8.out]; exact qaX) ?_;go_wp2_with fail;exact .mk (hE _ hC1)
    apply yN_
    ·apply dP [];exact fun _=>rfl;rfl;rintro vals ⟨-,-⟩ w1 hC1 E hE;simp only [sP] at hE ⊢;go_wp2;exact .mk (hE _ hC1)
    apply yN_
    ·apply dP [];exact fun _=>rfl;rfl;intro vals vq w1 hC1 E hE;clear vq;simp only [sP] at hE ⊢;go_wp2;exact .mk (hE _ hC1)
    apply yN_
    ·apply dP [(2,some 30)];exact fun _=>rfl;rfl;intro vals vq w1 hC1 E hE;simp only [sP,vq] at hE ⊢;clear vq;go_wp2;exact .mk (hE _ hC1)
    apply yN_
    ·apply dP [(3,some 31)];exact fun _=>rfl;rfl;intro vals vq w1 hC1 E hE;have d0:=hC1.rd.val0 rfl;simp only [sP,vq] at hE ⊢;clear vq;go_wp2;exact .mk (hE _ hC1)
    apply yN_
    ·apply dP [(0,some 28),(1,some 29),(4,some 32)];exact fun _=>rfl;rfl;intro vals vq w1 hC1 E hE;simp only [sP,vq] at hE ⊢;clear vq;go_wp2_with fail;have hct:=qcy bits steps a b c d k f w1 HB.out x p HX.out HP.out;rw [← HCS.out] at hct;refine qaa hct ?_;rintro e w2 ⟨rfl,hb2⟩;rw [← HTP.out];go_wp2_with fail;exact .mk (hE _ (hC1.next hb2))
    apply yN_
    ·apply dP [];exact fun _=>rfl;rfl;intro vals vq w1 hC1 E hE;clear vq;simp only [sP] at hE ⊢;refine qad hC1.h rfl rfl rfl hu rfl (by rw [HCS8.out]; exact qaX) ?_;go_wp2_with fail;exact .mk (hE _ hC1)
    apply yN_
    ·apply dP [];exact fun _=>rfl;rfl;intro vals vq w1 hC1 E hE;clear vq;simp only [sP] at hE ⊢;go_wp2;exact .mk (hE _ hC1)
    apply yN_
    ·apply dP [];exact fun _=>rfl;rfl;intro vals vq w1 hC1 E hE;clear vq;simp only [sP] at hE ⊢;go_wp2;exact .mk (hE _ hC1)
    apply yN_
    ·apply dP [(8,some 36)];exact fun _=>rfl;rfl;intro vals vq w1 hC1 E hE;simp only [sP,vq] at hE ⊢;clear vq;go_wp2;exact .mk (hE _ hC1)
    apply yN_
    ·apply dP [(9,some 37)];exact fun _=>rfl;rfl;intro vals vq w1 hC1 E hE;have d0:=hC1.rd.lit (k:=1) rfl (by decide);simp only [sP,vq] at hE ⊢;clear vq;go_wp2;exact .mk (hE _ hC1)
    apply yN_
    ·apply dP [(6,some 34),(7,some 35),(10,some 38),(5,some 33)];exact fun _=>rfl;rfl;intro vals vq w1 hC1 E hE;simp only [sP,vq] at hE ⊢;clear vq;go_wp2_with fail;have hct:=qcy bits steps a b c d k f w1 HB.out x q HX.out HQ.out;rw [← HCS.out] at hct;refine qaa hct ?_;rintro e w2 ⟨rfl,hb2⟩;rw [← HTQ.out];go_wp2_with fail;exact .mk (hE _ (hC1.next hb2))
    apply yN_
    ·apply dP [(5,some 33),(11,some 39)];exact fun _=>rfl;rfl;intro vals vq w1 hC1 E hE;simp only [sP,vq] at hE ⊢;clear vq;go_wp2;rw [xor64 tp tq LTP.out LTQ.out,← HPQ.out];exact .mk (hE _ hC1)
    apply yN_
    ·apply dP [];exact fun _=>rfl;rfl;intro vals vq w1 hC1 E hE;clear vq;simp only [sP] at hE ⊢;go_wp2;exact .mk (hE _ hC1)
    apply yN_
    ·apply dP [(12,some 40),(13,some 41)];exact fun _=>rfl;rfl;intro vals vq w1 hC1 E hE;simp only [sP,vq] at hE ⊢;clear vq;go_wp2;rw [xor64 pq y LPQ.out LLA.out,← HRE.out];exact .mk (hE _ hC1)
    apply yL_
    ·apply dP [(14,some 42),(11,some 39),(0,some 28),(1,some 29),(2,some 30),(3,some 31),(4,some 32),(5,some 33),(6,some 34),(7,some 35),(8,some 36),(9,some 37),(10,some 38),(11,some 39),(12,some 40),(13,some 41),(14,some 42)];exact fun _=>rfl;rfl;intro vals vq w1 hC1 E hE;simp only [sP,vq] at hE ⊢;clear vq;go_wp2;exact .mk (hE _ hC1)
    intro vals vq w1 hC1;simp only [sP,vq];clear vq;clear HC0;go_wp2_with fail;go_ret;exact ⟨qa3 (by rw [HAN.out,HRE.out,HPQ.out,HTP.out,HTQ.out,HLA.out]),hC1.bel⟩
theorem qbi (K:IntKind) (l:List Nat) (x:Nat):wordsV K (l++[x])=wordsV K l++[.int K (x:Int)]:=by simp [wordsV]
theorem qcd (K:IntKind) (l:List Nat) (i:Nat) (h:i<l.length):(wordsV K l)[i]?=some (.int K ((l.getD i 0:Nat):Int)):=by
 simp [wordsV,h]
structure HP where
 a:Addr
 b:Addr
 c:Addr
 d:Addr
 k:Addr
 f:Addr
 ca:Nat
 cb:Nat
 cc:Nat
 cd:Nat
 ck:Nat
 cf:Nat
def tri (t:Nat × Nat × Nat):List Value:=triV t.1 t.2.1 t.2.2
def kL (F:ShaF):List Nat:=(List.range F.many).map (kN F)
theorem kL_get (F:ShaF) (t:Nat) (h:t<F.many):(kL F)[t]?=some (kN F t):=by simp [kL,h]
theorem qbM (F:ShaF):(kL F).length=F.many:=by simp [kL]
def hv (F:ShaF) (p:HP):Array Value:=hC F.bits F.many (.slice (some p.a) 3 p.ca) (.slice (some p.b) 3 p.cb) (.slice (some p.c) 3 p.cc) (.slice (some p.d) 3 p.cd) (.slice (some p.k) F.many p.ck) (.slice (some p.f) 8 p.cf)
structure HOk (F:ShaF) (p:HP) (w:World) (B:Nat):Prop where
 a:Rd w B (some p.a) (tri F.s0)
 b:Rd w B (some p.b) (tri F.s1)
 c:Rd w B (some p.c) (tri F.t0)
 d:Rd w B (some p.d) (tri F.t1)
 k:Rd w B (some p.k) (wordsV .u64 (kL F))
 f:Rd w B (some p.f) (wordsV .u64 (s8L (startS F)))
 ca:3≤p.ca
 cb:3≤p.cb
 cc:3≤p.cc
 cd:3≤p.cd
 ck:F.many≤p.ck
 cf:8≤p.cf
theorem HOk.below {F:ShaF} {p:HP} {w w':World} {B:Nat} (h:HOk F p w B) (hb:Below B w w'):HOk F p w' B :=
 ⟨h.a.below hb,h.b.below hb,h.c.below hb,h.d.below hb,h.k.below hb,h.f.below hb,h.ca,h.cb,h.cc,h.cd,h.ck,h.cf⟩
theorem HOk.mono {F:ShaF} {p:HP} {w:World} {B B':Nat} (h:HOk F p w B) (hb:B≤B'):HOk F p w B' :=
 ⟨h.a.mono hb,h.b.mono hb,h.c.mono hb,h.d.mono hb,h.k.mono hb,h.f.mono hb,h.ca,h.cb,h.cc,h.cd,h.ck,h.cf⟩
structure BkSt (w0:World) (gf:Nat) (F:ShaF) (p:HP) (bA:Option Addr) (blk:List UInt8) (sA:Option Addr) (S:S8) (u:World):Prop where
 bel:Below gf w0 u
 h:Blk u gf 93 (hv F p)
 ok:HOk F p u gf
 rb:Rd u gf bA (bytesV blk)
 rs:Rd u gf sA (wordsV .u64 (s8L S))
section
variable {w0 u u':World} {gf:Nat} {F:ShaF} {p:HP} {bA sA:Option Addr} {blk:List UInt8} {S:S8}
theorem BkSt.keep (h:BkSt w0 gf F p bA blk sA S u) (hb:Below (gf+1) u u'):BkSt w0 gf F p bA blk sA S u' :=
 ⟨h.bel.trans (hb.mono (by omega)),h.h.below hb (by omega),h.ok.below (hb.mono (by omega)),h.rb.below (hb.mono (by omega)),h.rs.below (hb.mono (by omega))⟩
theorem BkSt.next (h:BkSt w0 gf F p bA blk sA S u) (hb:Below u.heap.size u u'):BkSt w0 gf F p bA blk sA S u' :=
 h.keep (hb.mono (by have:=h.h.lt; omega))
theorem BkSt.drew (h:BkSt w0 gf F p bA blk sA S u):BkSt w0 gf F p bA blk sA S u.drew:=h.keep (Below.refl _ _).drew
theorem BkSt.grow {e:TypeId} {s n:Nat} {v:Value} {xs:List Value} (h:BkSt w0 gf F p bA blk sA S u) (ho:OwnX u (gf+1) e s v n xs) (hg:u.grownBy u' v.ownBlock):BkSt w0 gf F p bA blk sA S u' :=
 h.keep (qbo hg (by have:=h.h.lt; omega) (fun k hk=>(ho.lt k hk).1))
end
structure BkW (w0:World) (gf:Nat) (F:ShaF) (p:HP) (bA:Option Addr) (blk:List UInt8) (sA:Option Addr) (S:S8) (v:Value) (l:List Nat) (u:World):Prop where
 st:BkSt w0 gf F p bA blk sA S u
 own:OwnX u (gf+1) 118 1 v l.length (wordsV .u64 l)
section
variable {w0 u u':World} {gf:Nat} {F:ShaF} {p:HP} {bA sA:Option Addr} {blk:List UInt8} {S:S8} {v:Value} {l:List Nat}
theorem BkW.next (h:BkW w0 gf F p bA blk sA S v l u) (hb:Below u.heap.size u u'):BkW w0 gf F p bA blk sA S v l u' :=
 ⟨h.st.next hb,h.own.below hb (Nat.le_refl _)⟩
theorem BkW.drew (h:BkW w0 gf F p bA blk sA S v l u):BkW w0 gf F p bA blk sA S v l u.drew:=h.next (Below.refl _ _).drew
theorem BkW.app {v':Value} {x:Nat} (h:BkW w0 gf F p bA blk sA S v l u) (ho:OwnX u' (gf+1) 118 1 v' (l.length+1) (wordsV .u64 l++[.int .u64 (x:Int)])) (hg:u.grownBy u' v.ownBlock):BkW w0 gf F p bA blk sA S v' (l++[x]) u' :=
 ⟨h.st.grow h.own hg,by rw [List.length_append,qbi]; exact ho⟩
theorem BkW.at_ {g n c i:Nat} (h:BkW w0 gf F p bA blk sA S (.slice (some ⟨g,0,none⟩) n c) l u) (hn:l.length=n) (hi:i<n):u.cell? ⟨g,i,none⟩=some (.int .u64 ((l.getD i 0:Nat):Int)):=by
 subst hn;exact h.own.atN (qcd .u64 l i hi)
end
structure BkR (w0:World) (gf:Nat) (F:ShaF) (p:HP) (bA:Option Addr) (blk:List UInt8) (sA:Option Addr) (S:S8) (v:Value) (l:List Nat) (g2 c2:Nat) (V:S8) (u:World):Prop where
 w:BkW w0 gf F p bA blk sA S v l u
 r:OwnX u (gf+1) 118 1 (.slice (some ⟨g2,0,none⟩) 8 c2) 8 (wordsV .u64 (s8L V))
section
variable {w0 u u':World} {gf:Nat} {F:ShaF} {p:HP} {bA sA:Option Addr} {blk:List UInt8} {S V:S8} {v:Value} {l:List Nat} {g2 c2:Nat}
theorem BkR.next (h:BkR w0 gf F p bA blk sA S v l g2 c2 V u) (hb:Below u.heap.size u u'):BkR w0 gf F p bA blk sA S v l g2 c2 V u' :=
 ⟨h.w.next hb,h.r.below hb (Nat.le_refl _)⟩
theorem BkR.drew (h:BkR w0 gf F p bA blk sA S v l g2 c2 V u):BkR w0 gf F p bA blk sA S v l g2 c2 V u.drew:=h.next (Below.refl _ _).drew
theorem BkR.turn {V':S8} {fz:Nat × Nat} (h:BkR w0 gf F p bA blk sA S v l g2 c2 V u):BkR w0 gf F p bA blk sA S v l u.heap.size 8 V' (u.alloc (.cells (wordsV .u64 (s8L V')).toArray 118 fz)) :=
 ⟨h.w.next ((Below.refl _ _).alloc (Nat.le_refl _) _),own_const (C:=(wordsV .u64 (s8L V')).toArray) rfl rfl (by unfold maxLen; omega) (by have:=h.w.st.h.lt; omega)⟩
theorem BkR.le (h:BkR w0 gf F p bA blk sA S v l g2 c2 V u):8≤c2:=h.r.le_cap
end
structure BkO (w0:World) (gf:Nat) (F:ShaF) (p:HP) (bA:Option Addr) (blk:List UInt8) (sA:Option Addr) (S:S8) (v:Value) (l:List Nat) (g2 c2:Nat) (V:S8) (ov:Value) (x:List Nat) (u:World):Prop where
 r:BkR w0 gf F p bA blk sA S v l g2 c2 V u
 o:OwnX u (gf+1) 118 1 ov x.length (wordsV .u64 x)
 ne:ov.ownBlock=none∨(ov.ownBlock≠v.ownBlock∧ov.ownBlock≠some g2)
section
variable {w0 u u':World} {gf:Nat} {F:ShaF} {p:HP} {bA sA:Option Addr} {blk:List UInt8} {S V:S8} {v o o':Value} {l x:List Nat} {g2 c2:Nat}
theorem BkO.next (h:BkO w0 gf F p bA blk sA S v l g2 c2 V o x u) (hb:Below u.heap.size u u'):BkO w0 gf F p bA blk sA S v l g2 c2 V o x u' :=
 ⟨h.r.next hb,h.o.below hb (Nat.le_refl _),h.ne⟩
theorem BkO.drew (h:BkO w0 gf F p bA blk sA S v l g2 c2 V o x u):BkO w0 gf F p bA blk sA S v l g2 c2 V o x u.drew:=h.next (Below.refl _ _).drew
theorem BkO.app {y:Nat} (h:BkO w0 gf F p bA blk sA S v l g2 c2 V o x u) (ho:OwnX u' (gf+1) 118 1 o' (x.length+1) (wordsV .u64 x++[.int .u64 (y:Int)])) (hg:u.grownBy u' o.ownBlock) (hn:Next u o o'):BkO w0 gf F p bA blk sA S v l g2 c2 V o' (x++[y]) u':=by
 have hk:∀ (v2:Value),(o.ownBlock=none∨o.ownBlock≠v2.ownBlock)→v2.ownBlock=none∨v2.ownBlock≠o.ownBlock:=fun v2 h2=>by
  rcases h2 with h2 | h2
  ·rw [h2]
   cases v2.ownBlock with
   | none=>exact .inl rfl
   | some k=>exact .inr (by simp)
  ·exact .inr (Ne.symm h2)
 refine ⟨⟨⟨h.r.w.st.grow h.o hg,h.r.w.own.kept hg (hk v (h.ne.imp id And.left))⟩,h.r.r.kept hg (hk (.slice (some ⟨g2,0,none⟩) 8 c2) (h.ne.imp id And.right))⟩,by rw [List.length_append,qbi]; exact ho,?_⟩
 rcases hn with hn | hn
 ·rw [hn]; exact h.ne
 ·cases ho2:o'.ownBlock with
  | none=>exact .inl rfl
  | some k =>
   have hk2:=hn k ho2;refine .inr ⟨fun e=>?_,fun e=>?_⟩
   ·have:=(h.r.w.own.lt k e.symm).2; omega
   ·have:=(h.r.r.lt k (by rw [e]; rfl)).2; omega
end
theorem ones_xor (n e:Nat) (he:e<2^n):(2^n - 1) ^^^ e=2^n - 1 - e:=by
 have h:((2^n - 1) ^^^ e)=(~~~ (BitVec.ofNat n e)).toNat:=by
  rw [← BitVec.allOnes_xor,BitVec.toNat_xor,BitVec.toNat_allOnes,BitVec.toNat_ofNat,Nat.mod_eq_of_lt he]
 rw [h,BitVec.toNat_not,BitVec.toNat_ofNat,Nat.mod_eq_of_lt he]
theorem mixX_r32 (h al ch k w:Nat):(h+al+ch+k+w)%2^32=((((h+al)%2^64+ch)%2^64+k)%2^64+w)%2^64%2^32:=by omega
theorem mod_r32 (a b:Nat):(a+b)%2^32=(a+b)%2^64%2^32:=by omega
theorem addS_get (F:ShaF) (s v:S8) (i:Nat) (h:i<8):(s8L (addS F s v)).getD i 0=((s8L v).getD i 0+(s8L s).getD i 0)%2^F.bits:=by
 match i,h with
 | 0,_=>rfl
 | 1,_=>rfl
 | 2,_=>rfl
 | 3,_=>rfl
 | 4,_=>rfl
 | 5,_=>rfl
 | 6,_=>rfl
 | 7,_=>rfl
theorem s8_take (s:S8) (i:Nat) (h:i<8):(s8L s).take (i+1)=(s8L s).take i++[(s8L s).getD i 0]:=by
 match i,h with
 | 0,_=>rfl
 | 1,_=>rfl
 | 2,_=>rfl
 | 3,_=>rfl
 | 4,_=>rfl
 | 5,_=>rfl
 | 6,_=>rfl
 | 7,_=>rfl
theorem qds (s:S8) (i:Nat) (h:i≤8):((s8L s).take i).length=i:=by
 rw [List.length_take]; show min i 8=i; omega
theorem next_32 (a b c d:Nat):(a+c+(b+d))%2^32=(((a+b)%2^64+c)%2^64+d)%2^64%2^32:=by omega
def BlockPost (F:ShaF) (S:S8) (blk:List UInt8) (w:World) (e:Ending) (w':World):Prop :=
 ∃ A c,e=.returned (.slice A 8 c)∧OwnX w' w.heap.size 118 1 (.slice A 8 c) 8 (wordsV .u64 (s8L (mixS F S blk)))∧Below w.heap.size w w'
theorem qdq:SlT Tryz.prog 91 118 1 8:=SlT.mk1 (z:=.int .u64 0) Tryz.underlying91 (by kernel_rfl) rfl (by decide)
def backC (e:Nat) (ws:List UInt8) (j:Nat):Array Value:=(List.replicate (e - j) (Value.int .u8 0)++(bytesV ws).drop (e - j)).toArray
theorem qck (e:Nat) (ws:List UInt8) (j:Nat) (hw:ws.length=e) (hj:j≤e):(backC e ws j).size=e:=by
 have h:((bytesV ws).drop (e - j)).length=j:=by rw [List.length_drop,qan,hw]; omega
 rw [backC,List.size_toArray,List.length_append,List.length_replicate,h]; omega
theorem qd4 (e:Nat) (ws:List UInt8):backC e ws e=(bytesV ws).toArray:=by simp [backC]
theorem qd3 (e:Nat) (ws:List UInt8) (j i:Nat) (v:Value) (hw:ws.length=e) (hi:i+j+1=e) (hv:(bytesV ws)[i]?=some v):(backC e ws j).setIfInBounds i v=backC e ws (j+1):=by
 apply Array.ext';have h1:e - j=i+1:=by omega
 have h2:e - (j+1)=i:=by omega
 have hlt:i<(bytesV ws).length:=by simp [bytesV]; omega
 have hv2:(bytesV ws)[i]=v:=by rw [List.getElem?_eq_getElem hlt] at hv; exact Option.some.inj hv
 rw [Array.toList_setIfInBounds,backC,backC,h1,h2,List.drop_eq_getElem_cons hlt,hv2];simp only [List.replicate_succ',List.append_assoc];rw [List.set_append_right (s:=List.replicate i (Value.int .u8 0)) _ _ (by simp)];simp
theorem qc0 (e:Nat) (ws:List UInt8) (hw:ws.length=e):backC e ws 0=(List.replicate e (Value.int .u8 0)).toArray:=by
 rw [backC,Nat.sub_zero,List.drop_of_length_le (by rw [qan,hw]; exact Nat.le_refl _),List.append_nil]
theorem qdl (b x:Nat):∀ (k i:Nat),i<k→(wordB b x k)[i]?=some (UInt8.ofNat (x/2^(b - 8 - 8*i)))
 | k+1,i,h=>by
  rw [wordB,List.getElem?_append,wordB_length]
  split
  ·rename_i h2; exact qdl b x k i h2
  ·obtain rfl:i=k:=by omega
   simp
structure ByStR (w0:World) (gf:Nat) (cs:Array Value) (gw:Nat) (r:Array Value) (u:World):Prop where
 bel:Below gf w0 u
 h:Blk u gf 93 cs
 row:Blk u gw 5 r
 lw:gf<gw
theorem ByStR.put {w u u':World} {gf gw:Nat} {cs r r':Array Value} (h:ByStR w gf cs gw r u) (hw:Wrote gw u u') (hb:Blk u' gw 5 r'):ByStR w gf cs gw r' u' :=
 ⟨hw.below h.bel (by have:=h.lw; omega) (by have:=h.h.lt; omega),hw.blk h.h (by have:=h.lw; omega),hb,h.lw⟩
def BytesPost (bits x:Nat) (w:World) (e:Ending) (w':World):Prop :=
 ∃ g,e=.returned (.slice (some ⟨g,0,none⟩) (bits/8) (bits/8))∧w.heap.size≤g∧Blk w' g 5 (bytesV (wordB bits x (bits/8))).toArray∧Below w.heap.size w w'
theorem bytes_any (bits steps:Nat) (a b c d k f:Value) (w:World) (hb:bits=32∨bits=64) (x:Nat) (hx:x<2^bits) :
  Calls Tryz.prog 82 #[.agg (hC bits steps a b c d k f),.int .u64 x] w (BytesPost bits x w):=by
 have hbel:=below_new w (.cells (hC bits steps a b c d k f) 93);have hblk:=Blk.new w 93 (hC bits steps a b c d k f);have c0:=hblk.cell 0;simp only [hC,List.getElem?_toArray,List.getElem?_cons_zero] at c0
 have hx64:(x:Int)<18446744073709551616:=by
  have:x<2^64:=Nat.lt_of_lt_of_le hx (Nat.pow_le_pow_right (by omega) (by omega));omega
 have HBEL:=zY hbel;have HBLK:=zY hblk;obtain ⟨ie,hie,hez,hes,heb⟩:=info_parts (show (Tryz.prog.info? 5).map (fun i=>(i.zero,i.size,i.bytes))=some (some (.int .u8 0),1,1) by kernel_rfl);have hmk4:∀ u:World,(Instr.makeSlice 40 (.int .i64 4) (.int .i64 4)).run Tryz.prog u=.ok (.slice (some ⟨u.heap.size,0,none⟩) 4 4) (u.alloc (.cells (List.replicate 4 (Value.int .u8 0)).toArray 5)):=fun _=>by kernel_rfl
 have hmk8:∀ u:World,(Instr.makeSlice 40 (.int .i64 8) (.int .i64 8)).run Tryz.prog u=.ok (.slice (some ⟨u.heap.size,0,none⟩) 8 8) (u.alloc (.cells (List.replicate 8 (Value.int .u8 0)).toArray 5)):=fun _=>by kernel_rfl
 rw [hC] at *;clear hbel hblk hx
 rcases hb with rfl | rfl
 ·obtain ⟨ws,hws⟩:=eX (wordB 32 x 4);have hwl:ws.length=4:=by rw [hws]; exact wordB_length _ _ _
  have HWS:=zY hws;have HWL:=zY hwl;clear hws hwl;go_enter Tryz.func82,Tryz.ntmps82;go_wp2_with fail;obtain ⟨hs,hhs⟩:∃ hs:Array Value,hs=#[.int .i64 32,.int .i64 steps,a,b,c,d,k,f]:=⟨_,rfl⟩
  have hst0:ByStR w w.heap.size hs (w.heap.size+1) (backC 4 ws 0) ((w.alloc (.cells hs 93)).alloc (.cells (List.replicate 4 (Value.int .u8 0)).toArray 5)):=by
   rw [qc0 _ _ HWL.out];exact ⟨(below_new _ _).alloc (by simp) _,(Blk.new _ _ _).alloc _,by have:=Blk.new (w.alloc (.cells hs 93)) 5 (List.replicate 4 (Value.int .u8 0)).toArray; simpa using this,by omega⟩
  rw [hhs] at hst0;generalize hgw:w.heap.size+1=gw at *;generalize hgf:w.heap.size=gf at *;have HGF:=zY hgf;have HGW:=zY hgw;clear hgf hgw c0 hmk4 hmk8 HBEL HBLK hhs hs
  go_loopw [1,6] (fun v i wr=>∃ (j:Nat) (y:Nat),j≤4∧y=x/2^(8*j)∧v=.int .u64 y∧i=.int .i64 ((4:Int) - 1 - (j:Int))∧ByStR w gf #[.int .i64 32,.int .i64 steps,a,b,c,d,k,f] gw (backC 4 ws j) wr) (fun _ i _=>(intOf i+1).toNat)
  case atStart=>exact ⟨0,x,by omega,by simp,rfl,rfl,hst0⟩
  case round =>
   obtain ⟨j,y,hj,hy,rfl,rfl,hst⟩:=hrel;clear hst0;have hyx:y≤x:=by rw [hy]; exact Nat.div_le_self _ _
   have hy64:(y:Int)<18446744073709551616:=by omega
   by_cases hlt:j<4
   ·obtain ⟨ix,hix⟩:∃ ix:Nat,(4:Int) - 1 - (j:Int)=(ix:Int):=⟨4 - 1 - j,by omega⟩;have hix2:ix+j+1=4:=by omega
    have hval:(bytesV ws)[ix]?=some (.int .u8 ((y%256:Nat):Int)):=by
     rw [bytesV,List.getElem?_map,HWS.out,qdl _ _ _ _ (by omega)];simp only [Option.map_some,byteV];rw [show 32 - 8 - 8*ix=8*j by omega,← hy];simp
    have hset:=qd3 4 ws j ix _ HWL.out hix2 hval;have hsz:=qck 4 ws j HWL.out hj;have hnx:x/2^(8*(j+1))=y/256:=by rw [hy,show 8*(j+1)=8*j+8 by omega,Nat.pow_add,← Nat.div_div_eq_div_mul]
    rw [hix];have dcell:=hst.row.cell ix;obtain ⟨ov,hov⟩:∃ ov,(backC 4 ws j)[ix]?=some ov:=⟨_,Array.getElem?_eq_getElem (by omega)⟩;rw [hov] at dcell;have dfree:=hst.row.free ix;have hixl:(ix:Int)<4:=by omega
    have HSET:=zY hset;have HNX:=zY hnx;have HST:=zY hst;have HIX:=zY hix;have HIX2:=zY hix2;clear hset hnx hst hix hix2 hval hy hsz hov;go_wp2_with fail;refine ⟨⟨j+1,y/256,by omega,by rw [HNX.out],by go_num,by have:=HIX.out; exact congrArg (Value.int .i64) (by omega),?_⟩,by simp [intOf]⟩;refine HST.out.put (qap _ _ _ _) ?_;have h:=qau (i:=ix) HST.out.row (.int .u8 ((y%256:Nat):Int));rw [HSET.out] at h;exact h
   ·obtain rfl:j=4:=by omega
    rw [qd4] at hst;have HST:=zY hst;clear hst hy;go_wp2_with fail;go_ret;refine ⟨gw,rfl,by rw [HGF.out,← HGW.out]; omega,?_,by rw [HGF.out]; exact HST.out.bel⟩;have h:=HST.out.row;rw [HWS.out] at h;exact h
 ·obtain ⟨ws,hws⟩:=eX (wordB 64 x 8);have hwl:ws.length=8:=by rw [hws]; exact wordB_length _ _ _
  have HWS:=zY hws;have HWL:=zY hwl;clear hws hwl;go_enter Tryz.func82,Tryz.ntmps82;go_wp2_with fail;obtain ⟨hs,hhs⟩:∃ hs:Array Value,hs=#[.int .i64 64,.int .i64 steps,a,b,c,d,k,f]:=⟨_,rfl⟩
  have hst0:ByStR w w.heap.size hs (w.heap.size+1) (backC 8 ws 0) ((w.alloc (.cells hs 93)).alloc (.cells (List.replicate 8 (Value.int .u8 0)).toArray 5)):=by
   rw [qc0 _ _ HWL.out];exact ⟨(below_new _ _).alloc (by simp) _,(Blk.new _ _ _).alloc _,by have:=Blk.new (w.alloc (.cells hs 93)) 5 (List.replicate 8 (Value.int .u8 0)).toArray; simpa using this,by omega⟩
  rw [hhs] at hst0;generalize hgw:w.heap.size+1=gw at *;generalize hgf:w.heap.size=gf at *;have HGF:=zY hgf;have HGW:=zY hgw;clear hgf hgw c0 hmk4 hmk8 HBEL HBLK hhs hs
  go_loopw [1,6] (fun v i wr=>∃ (j:Nat) (y:Nat),j≤8∧y=x/2^(8*j)∧v=.int .u64 y∧i=.int .i64 ((8:Int) - 1 - (j:Int))∧ByStR w gf #[.int .i64 64,.int .i64 steps,a,b,c,d,k,f] gw (backC 8 ws j) wr) (fun _ i _=>(intOf i+1).toNat)
  case atStart=>exact ⟨0,x,by omega,by simp,rfl,rfl,hst0⟩
  case round =>
   obtain ⟨j,y,hj,hy,rfl,rfl,hst⟩:=hrel;clear hst0;have hyx:y≤x:=by rw [hy]; exact Nat.div_le_self _ _
   have hy64:(y:Int)<18446744073709551616:=by omega
   by_cases hlt:j<8
   ·obtain ⟨ix,hix⟩:∃ ix:Nat,(8:Int) - 1 - (j:Int)=(ix:Int):=⟨8 - 1 - j,by omega⟩;have hix2:ix+j+1=8:=by omega
    have hval:(bytesV ws)[ix]?=some (.int .u8 ((y%256:Nat):Int)):=by
     rw [bytesV,List.getElem?_map,HWS.out,qdl _ _ _ _ (by omega)];simp only [Option.map_some,byteV];rw [show 64 - 8 - 8*ix=8*j by omega,← hy];simp
    have hset:=qd3 8 ws j ix _ HWL.out hix2 hval;have hsz:=qck 8 ws j HWL.out hj;have hnx:x/2^(8*(j+1))=y/256:=by rw [hy,show 8*(j+1)=8*j+8 by omega,Nat.pow_add,← Nat.div_div_eq_div_mul]
    rw [hix];have dcell:=hst.row.cell ix;obtain ⟨ov,hov⟩:∃ ov,(backC 8 ws j)[ix]?=some ov:=⟨_,Array.getElem?_eq_getElem (by omega)⟩;rw [hov] at dcell;have dfree:=hst.row.free ix;have hixl:(ix:Int)<8:=by omega
    have HSET:=zY hset;have HNX:=zY hnx;have HST:=zY hst;have HIX:=zY hix;have HIX2:=zY hix2;clear hset hnx hst hix hix2 hval hy hsz hov;go_wp2_with fail;refine ⟨⟨j+1,y/256,by omega,by rw [HNX.out],by go_num,by have:=HIX.out; exact congrArg (Value.int .i64) (by omega),?_⟩,by simp [intOf]⟩;refine HST.out.put (qap _ _ _ _) ?_;have h:=qau (i:=ix) HST.out.row (.int .u8 ((y%256:Nat):Int));rw [HSET.out] at h;exact h
   ·obtain rfl:j=8:=by omega
    rw [qd4] at hst;have HST:=zY hst;clear hst hy;go_wp2_with fail;go_ret;refine ⟨gw,rfl,by rw [HGF.out,← HGW.out]; omega,?_,by rw [HGF.out]; exact HST.out.bel⟩;have h:=HST.out.row;rw [HWS.out] at h;exact h
def dval:List Nat→Nat
 | []=>0
 | d :: r=>d+65536*dval r
def digs:Nat→Nat→List Nat
 | 0,_=>[]
 | n+1,N=>N%65536 :: digs n (N/65536)
theorem qaq:∀ n N,(digs n N).length=n
 | 0,_=>rfl
 | n+1,N=>by simp [digs,qaq n]
theorem digs_lt:∀ n N,∀ d ∈ digs n N,d<65536
 | 0,_,d,h=>by simp [digs] at h
 | n+1,N,d,h=>by
  simp only [digs,List.mem_cons] at h
  rcases h with rfl | h
  ·exact Nat.mod_lt _ (by decide)
  ·exact digs_lt n _ d h
theorem qaJ:∀ n N,N<65536^n→dval (digs n N)=N
 | 0,N,h=>by simp at h; simp [digs,dval,h]
 | n+1,N,h=>by
  rw [digs,dval,qaJ n (N/65536) (by rw [Nat.div_lt_iff_lt_mul (by decide)]; rwa [Nat.pow_succ] at h)];omega
theorem qcJ:∀ l:List Nat,(∀ d ∈ l,d<65536)→digs l.length (dval l)=l
 | [],_=>rfl
 | d :: r,h=>by
  have hd:=h d (List.mem_cons_self ..);rw [List.length_cons,dval,digs,show (d+65536*dval r)%65536=d by omega,show (d+65536*dval r)/65536=dval r by omega,qcJ r fun x hx=>h x (List.mem_cons_of_mem _ hx)]
theorem qcw:∀ l:List Nat,(∀ d ∈ l,d<65536)→dval l<65536^l.length
 | [],_=>by simp [dval]
 | d :: r,h=>by
  have hd:=h d (List.mem_cons_self ..);have ih:=qcw r fun x hx=>h x (List.mem_cons_of_mem _ hx);rw [List.length_cons,dval,Nat.pow_succ];omega
theorem qa7:∀ (l:List Nat) (j:Nat),j<l.length→dval (l.take (j+1))=dval (l.take j)+l.getD j 0*65536^j
 | d :: r,0,_=>by simp [dval]
 | d :: r,j+1,h=>by
  have ih:=qa7 r j (by simpa using h);rw [List.take_succ_cons,dval,ih,List.take_succ_cons,dval,List.getD_cons_succ,Nat.pow_succ];rw [Nat.mul_add,← Nat.mul_assoc,Nat.mul_comm 65536 (r.getD j 0),Nat.mul_assoc (r.getD j 0),Nat.mul_comm 65536 (65536^j)];omega
theorem qbH:∀ (l:List Nat) (i d:Nat),i<l.length→dval (l.set i d)+l.getD i 0*65536^i=dval l+d*65536^i
 | x :: r,0,d,_=>by simp [dval]; omega
 | x :: r,i+1,d,h=>by
  have ih:=qbH r i d (by simpa using h);rw [List.set_cons_succ,dval,dval,List.getD_cons_succ,Nat.pow_succ,← Nat.mul_assoc,← Nat.mul_assoc];omega
theorem qa9:∀ (l:List Nat) (i:Nat),(∀ d ∈ l,d<65536)→l.getD i 0=dval l/65536^i%65536
 | [],i,_=>by simp [dval]
 | d :: r,0,h=>by
  have hd:=h d (List.mem_cons_self ..);simp [dval]; omega
 | d :: r,i+1,h=>by
  have hd:=h d (List.mem_cons_self ..);rw [List.getD_cons_succ,qa9 r i fun x hx=>h x (List.mem_cons_of_mem _ hx),dval,Nat.pow_succ,Nat.mul_comm (65536^i),← Nat.div_div_eq_div_mul,show (d+65536*dval r)/65536=dval r by omega]
theorem dig_lt {l:List Nat} (h:∀ d ∈ l,d<65536) (i:Nat):l.getD i 0<65536:=qb6 h (by decide) i
theorem qdr {l:List Nat} {i d:Nat} (h:∀ x ∈ l,x<65536) (hd:d<65536):∀ x ∈ l.set i d,x<65536:=fun x hx=>by
 rcases List.mem_or_eq_of_mem_set hx with h1 | h1
 ·exact h x h1
 ·rw [h1]; exact hd
theorem qdW (l:List Nat) (i j d:Nat) (h:i≠j):(l.set i d).getD j 0=l.getD j 0:=by simp [List.getElem?_set,h]
theorem qbc (K:IntKind) (l:List Nat) (i d:Nat):(wordsV K l).toArray.setIfInBounds i (.int K (d:Int))=(wordsV K (l.set i d)).toArray:=by
 apply Array.ext';simp [wordsV,Array.toList_setIfInBounds,List.map_set]
theorem mul_step {n k c P a b d i j t:Nat} (hv:t+c*65536^(i+j)=P+a*d*65536^i) (h:n+(k*65536^(i+j))=t+((k+a*b+c)%65536)*65536^(i+j)) :
  n+(k+a*b+c)/65536*65536^(i+(j+1))=P+a*(d+b*65536^j)*65536^i:=by
 have e1:65536^(i+(j+1))=65536*65536^(i+j):=by rw [← Nat.add_assoc,Nat.pow_succ,Nat.mul_comm]
 have e2:a*(d+b*65536^j)*65536^i=a*d*65536^i+a*b*65536^(i+j):=by
  rw [Nat.mul_add,Nat.add_mul,Nat.pow_add,← Nat.mul_assoc a b]
  congr 1
  rw [Nat.mul_assoc,Nat.mul_comm (65536^j)]
 rw [e1,e2];generalize 65536^(i+j)=q at *;obtain ⟨v,hv2⟩:=eX (k+a*b+c)
 have e3:v/65536*(65536*q)+v%65536*q=v*q:=by
  rw [← Nat.mul_assoc,← Nat.add_mul,Nat.div_add_mod']
 have e4:v*q=k*q+a*b*q+c*q:=by rw [hv2,Nat.add_mul,Nat.add_mul]
 rw [← hv2] at h ⊢;omega
def rootX (p k:Nat):Nat→Nat
 | 0=>0
 | n+1=>if p*65536^(4*k)<(rootX p k n+2^(68 - n))^k then rootX p k n else rootX p k n+2^(68 - n)
def rootN (p k:Nat):Nat:=rootX p k 69%2^64
theorem qdx (p k:Nat):∀ n,n≤69→2^(69 - n) ∣ rootX p k n
 | 0,_=>Nat.dvd_zero _
 | n+1,h=>by
  have ih:=qdx p k n (by omega);have h1:2^(69 - (n+1)) ∣ rootX p k n:=Nat.dvd_trans (Nat.pow_dvd_pow 2 (by omega)) ih;rw [rootX]
  split
  ·exact h1
  ·rw [show 68 - n=69 - (n+1) by omega];exact Nat.dvd_add h1 (Nat.dvd_refl _)
theorem qcz (p k:Nat):∀ n,n≤69→rootX p k n+2^(69 - n)≤2^69
 | 0,_=>by simp [rootX]
 | n+1,h=>by
  have ih:=qcz p k n (by omega);have e:2^(69 - n)=2*2^(69 - (n+1)):=by rw [show 69 - n=69 - (n+1)+1 by omega,Nat.pow_succ,Nat.mul_comm]
  rw [rootX]
  split
  ·omega
  ·rw [show 68 - n=69 - (n+1) by omega];omega
theorem dig_room {X r at_:Nat} (hr:r<16) (h:2^(16*at_+r+1) ∣ X):X/65536^at_%65536+2^r<65536:=by
 obtain ⟨q,rfl⟩:=h;have e1:(65536:Nat)^at_=2^(16*at_):=by rw [Nat.pow_mul]
 have e2:2^(16*at_+r+1)*q/2^(16*at_)=2^(r+1)*q:=by
  rw [Nat.add_assoc,Nat.pow_add,Nat.mul_assoc,Nat.mul_div_cancel_left _ (Nat.two_pow_pos _)]
 rw [e1,e2];obtain ⟨s,hs⟩:∃ s,r+1+s=16:=⟨15 - r,by omega⟩;have e3:(65536:Nat)=2^(r+1)*2^s:=by rw [← Nat.pow_add,hs]
 have h4:2^(r+1)*q%65536=2^(r+1)*(q%2^s):=by rw [e3,Nat.mul_mod_mul_left]
 have h5:q%2^s<2^s:=Nat.mod_lt _ (Nat.two_pow_pos _)
 have h6:2^(r+1)*(q%2^s)+2^(r+1)≤2^(r+1)*2^s:=by
  rw [← Nat.mul_succ]; exact Nat.mul_le_mul_left _ h5
 have h7:2^(r+1)=2*2^r:=by rw [Nat.pow_succ,Nat.mul_comm]
 have h8:=Nat.two_pow_pos r;omega
theorem dig_add {X n bit:Nat} (hX:X<65536^n) (hb:bit/16<n) (h:2^(bit+1) ∣ X) :
  (digs n X).set (bit/16) ((digs n X).getD (bit/16) 0+2^(bit%16))=digs n (X+2^bit)∧(digs n X).getD (bit/16) 0+2^(bit%16)<65536:=by
 have hlt:=digs_lt n X;have hv:=qaJ n X hX;have hg:=qa9 (digs n X) (bit/16) hlt;rw [hv] at hg
 have hroom:(digs n X).getD (bit/16) 0+2^(bit%16)<65536:=by
  rw [hg];exact dig_room (Nat.mod_lt _ (by decide)) (by rw [show 16*(bit/16)+bit%16+1=bit+1 by omega]; exact h)
 refine ⟨?_,hroom⟩;have h1:=qcJ _ (qdr (i:=bit/16) hlt hroom);rw [← h1,List.length_set,qaq]
 congr 1
 have h2:=qbH (digs n X) (bit/16) ((digs n X).getD (bit/16) 0+2^(bit%16)) (by rw [qaq]; exact hb);rw [hv,Nat.add_mul] at h2
 have h3:2^(bit%16)*65536^(bit/16)=2^bit:=by
  rw [show (65536:Nat)=2^16 from rfl,← Nat.pow_mul,← Nat.pow_add]
  congr 1
  omega
 rw [h3] at h2;omega
theorem mul_w64 (a b:Nat) (h:a*b≤9223372036854775807):wrap64 ((a:Int)*(b:Int))=((a*b:Nat):Int):=by
 rw [← Int.natCast_mul]; unfold wrap64; omega
theorem add_w64 (a b:Nat) (h:a+b≤9223372036854775807):wrap64 ((a:Int)+(b:Int))=((a+b:Nat):Int):=by
 unfold wrap64; omega
def LessPost (a b:List Nat) (w:World) (e:Ending) (w':World):Prop:=e=.returned (.bool (decide (dval a<dval b)))∧w=w'
theorem qaB {K:IntKind} {l:List Nat} {i:Nat} (h:i<l.length):(wordsV K l)[i]?=some (.int K ((l.getD i 0:Nat):Int)):=by simp [wordsV,h]
theorem hi_step {A B D:Nat} (i:Nat) (h:A/D^(i+1)=B/D^(i+1)) (hd:A/D^i%D=B/D^i%D):A/D^i=B/D^i:=by
 rw [Nat.pow_succ,← Nat.div_div_eq_div_mul,← Nat.div_div_eq_div_mul] at h;rw [← Nat.div_add_mod (A/D^i) D,← Nat.div_add_mod (B/D^i) D,h,hd]
theorem hi_lt {A B D:Nat} (hD:0<D) (i:Nat) (h:A/D^(i+1)=B/D^(i+1)) (hd:A/D^i%D<B/D^i%D):A<B:=by
 rw [Nat.pow_succ,← Nat.div_div_eq_div_mul,← Nat.div_div_eq_div_mul] at h
 have h1:A/D^i<B/D^i:=by
  rw [← Nat.div_add_mod (A/D^i) D,← Nat.div_add_mod (B/D^i) D,h]; omega
 rcases Nat.lt_or_ge A B with h2 | h2
 ·exact h2
 ·have:=Nat.div_le_div_right (c:=D^i) h2; omega
theorem qde {A B x y:Nat} (q:Nat) (h:A/65536^(q+1)=B/65536^(q+1)) (hx:x=A/65536^q%65536) (hy:y=B/65536^q%65536) (hne:x≠y):decide (x<y)=decide (A<B):=by
 rcases Nat.lt_or_gt_of_ne hne with h1 | h1
 ·have:=hi_lt (by decide) q h (by rw [← hx,← hy]; exact h1);rw [decide_eq_true this,decide_eq_true (by omega)]
 ·have:=hi_lt (by decide) q h.symm (by rw [← hx,← hy]; exact h1);rw [decide_eq_false (by omega),decide_eq_false (by omega)]
theorem less_any (a b:List Nat) (ha:∀ d ∈ a,d<65536) (hb:∀ d ∈ b,d<65536) (A1 A2:Option Addr) (c1 c2 B1 B2 la lb:Nat) (w:World) (h1:Rd w B1 A1 (wordsV .i64 a)) (h2:Rd w B2 A2 (wordsV .i64 b)) (hla:a.length=la) (hlb:b.length=lb) (la1:la≤1000) (lb1:lb≤1000) (hc1:la≤c1) (hc2:lb≤c2) :
  Calls Tryz.prog 108 #[.slice A1 la c1,.slice A2 lb c2] w (LessPost a b w):=by
 obtain ⟨m,hm⟩:=eX (max la lb);have hml:la≤m:=by omega
 have hmr:lb≤m:=by omega
 have hm1:m≤1000:=by omega
 have HM:Hid (if la<lb then m=lb else m=la):=zY (by split <;> omega)
 have hda:∀ i,(if i<la then a.getD i 0 else 0)=dval a/65536^i%65536:=fun i=>by
  split
  ·exact qa9 a i ha
  ·rw [← qa9 a i ha,List.getD_eq_getElem?_getD,List.getElem?_eq_none (by omega)]; rfl
 have hdb:∀ i,(if i<lb then b.getD i 0 else 0)=dval b/65536^i%65536:=fun i=>by
  split
  ·exact qa9 b i hb
  ·rw [← qa9 b i hb,List.getD_eq_getElem?_getD,List.getElem?_eq_none (by omega)]; rfl
 have hA:dval a/65536^m=0:=Nat.div_eq_of_lt (Nat.lt_of_lt_of_le (qcw a ha) (Nat.pow_le_pow_right (by decide) (by omega)));have hB:dval b/65536^m=0:=Nat.div_eq_of_lt (Nat.lt_of_lt_of_le (qcw b hb) (Nat.pow_le_pow_right (by decide) (by omega)));obtain ⟨NA,hNA⟩:=eX (dval a);obtain ⟨NB,hNB⟩:=eX (dval b);rw [← hNA] at hda hA;rw [← hNB] at hdb hB;have HNA:=zY hNA;have HNB:=zY hNB;have HDA:=zY hda;have HDB:=zY hdb;have HAB:Hid (NA/65536^m=NB/65536^m):=zY (hA.trans hB.symm);have H1:=zY h1;have H2:=zY h2;have HLA:=zY hla;have HLB:=zY hlb;clear hNA hNB hda hdb hA hB h1 h2 hla hlb ha hb hm
 by_cases hlt:la<lb
 all_goals
  first
   | (have hge:(la:Int)<(lb:Int):=by omega)
   | (have hge:¬ (la:Int)<(lb:Int):=by omega)
  have hmm:=HM.out
  first
   | (rw [if_pos hlt] at hmm)
   | (rw [if_neg hlt] at hmm)
  have HMM:=zY hmm;clear HM hmm;go_enter Tryz.func108,Tryz.ntmps108;go_wp2;have hab:=HAB.out
  go_loop [6] (fun v=>∃ i:Nat,i≤m∧v=.int .i64 ((i:Int) - 1)∧NA/65536^i=NB/65536^i) (fun v=>(intOf v+1).toNat)
  case atStart=>exact ⟨m,Nat.le_refl _,by rw [HMM.out],hab⟩
  case round =>
   clear hab;obtain ⟨i,hi,rfl,hh⟩:=hrel
   cases i with
   | zero =>
    have HH:=zY hh;clear hh;go_wp2;go_ret;refine ⟨?_,rfl⟩;have:=HH.out;simp at this;rw [decide_eq_false (by rw [← HNA.out,← HNB.out]; omega)];rfl
   | succ q =>
    rw [show (((q+1:Nat):Int) - 1)=(q:Int) by omega];have hq0:(0:Int)≤(q:Int):=by omega
    obtain ⟨x,hx⟩:=eX (NA/65536^q%65536);obtain ⟨y,hy⟩:=eX (NB/65536^q%65536);have hxa:=HDA.out q;have hyb:=HDB.out q;rw [← hx] at hxa;rw [← hy] at hyb;have HX:=zY hx;have HY:=zY hy;have HH:=zY hh;clear hx hy hh
    by_cases hxy:x=y
    all_goals
     by_cases hqa:q<la <;> by_cases hqb:q<lb
    all_goals
     first | (rw [if_pos hqa] at hxa) | (rw [if_neg hqa] at hxa)
     first | (rw [if_pos hqb] at hyb) | (rw [if_neg hqb] at hyb)
    ·obtain ⟨ad1,rfl,hz1,hz2⟩:=H1.out.at_ (k:=q) (by rw [qaC,HLA.out]; exact hqa);have d1:=H1.out.val (qaB (K:=.i64) (by rw [HLA.out]; exact hqa:q<a.length));rw [hxa] at d1;clear hz1 hz2;obtain ⟨ad2,rfl,hz3,hz4⟩:=H2.out.at_ (k:=q) (by rw [qaC,HLB.out]; exact hqb);have d2:=H2.out.val (qaB (K:=.i64) (by rw [HLB.out]; exact hqb:q<b.length));rw [hyb] at d2;clear hz3 hz4;have hfin:=hi_step q HH.out (by rw [← HX.out,← HY.out]; exact hxy);have HFIN:=zY hfin;clear hfin;subst hxy;clear hxa hyb;go_wp2;exact ⟨⟨q,by omega,rfl,HFIN.out⟩,by simp [intOf] <;> omega⟩
    ·obtain ⟨ad1,rfl,hz1,hz2⟩:=H1.out.at_ (k:=q) (by rw [qaC,HLA.out]; exact hqa);have d1:=H1.out.val (qaB (K:=.i64) (by rw [HLA.out]; exact hqa:q<a.length));rw [hxa] at d1;clear hz1 hz2;have hfin:=hi_step q HH.out (by rw [← HX.out,← HY.out]; exact hxy);have HFIN:=zY hfin;clear hfin;obtain rfl:x=0:=by omega
     clear hxa hyb;clear hxy;go_wp2;exact ⟨⟨q,by omega,rfl,HFIN.out⟩,by simp [intOf] <;> omega⟩
    ·obtain ⟨ad2,rfl,hz3,hz4⟩:=H2.out.at_ (k:=q) (by rw [qaC,HLB.out]; exact hqb);have d2:=H2.out.val (qaB (K:=.i64) (by rw [HLB.out]; exact hqb:q<b.length));rw [hyb] at d2;clear hz3 hz4;have hfin:=hi_step q HH.out (by rw [← HX.out,← HY.out]; exact hxy);have HFIN:=zY hfin;clear hfin;obtain rfl:y=0:=by omega
     clear hxa hyb;clear hxy;go_wp2;exact ⟨⟨q,by omega,rfl,HFIN.out⟩,by simp [intOf] <;> omega⟩
    ·have hfin:=hi_step q HH.out (by rw [← HX.out,← HY.out]; exact hxy);have HFIN:=zY hfin;clear hfin;clear hxa hyb;clear hxy;go_wp2;exact ⟨⟨q,by omega,rfl,HFIN.out⟩,by simp [intOf] <;> omega⟩
    ·obtain ⟨ad1,rfl,hz1,hz2⟩:=H1.out.at_ (k:=q) (by rw [qaC,HLA.out]; exact hqa);have d1:=H1.out.val (qaB (K:=.i64) (by rw [HLA.out]; exact hqa:q<a.length));rw [hxa] at d1;clear hz1 hz2;obtain ⟨ad2,rfl,hz3,hz4⟩:=H2.out.at_ (k:=q) (by rw [qaC,HLB.out]; exact hqb);have d2:=H2.out.val (qaB (K:=.i64) (by rw [HLB.out]; exact hqb:q<b.length));rw [hyb] at d2;clear hz3 hz4;have hd:=qde q HH.out HX.out HY.out hxy;rw [HNA.out,HNB.out] at hd;have HD:=zY hd;have hb1:((x:Int) != (y:Int))=true:=by rw [bne_iff_ne]; omega
     have hb2:¬ x=y:=hxy;clear hxa hyb hd hxy;go_wp2;go_ret;exact ⟨ret_bool (by rw [← HD.out]; first | done | rfl | exact decide_eq_decide.2 (by omega)),rfl⟩
    ·obtain ⟨ad1,rfl,hz1,hz2⟩:=H1.out.at_ (k:=q) (by rw [qaC,HLA.out]; exact hqa);have d1:=H1.out.val (qaB (K:=.i64) (by rw [HLA.out]; exact hqa:q<a.length));rw [hxa] at d1;clear hz1 hz2;have hd:=qde q HH.out HX.out HY.out hxy;rw [HNA.out,HNB.out] at hd;rw [show y=0 by omega] at hd;have HD:=zY hd;have hb1:((x:Int) != 0)=true:=by rw [bne_iff_ne]; omega
     have hb2:¬ x=y:=hxy;clear hxa hyb hd hxy;go_wp2;go_ret;exact ⟨ret_bool (by rw [← HD.out]; first | done | rfl | exact decide_eq_decide.2 (by omega)),rfl⟩
    ·obtain ⟨ad2,rfl,hz3,hz4⟩:=H2.out.at_ (k:=q) (by rw [qaC,HLB.out]; exact hqb);have d2:=H2.out.val (qaB (K:=.i64) (by rw [HLB.out]; exact hqb:q<b.length));rw [hyb] at d2;clear hz3 hz4;have hd:=qde q HH.out HX.out HY.out hxy;rw [HNA.out,HNB.out] at hd;rw [show x=0 by omega] at hd;have HD:=zY hd;have hb1:((0:Int) != (y:Int))=true:=by rw [bne_iff_ne]; omega
     have hb2:¬ x=y:=hxy;clear hxa hyb hd hxy;go_wp2;go_ret;exact ⟨ret_bool (by rw [← HD.out]; first | done | rfl | exact decide_eq_decide.2 (by omega)),rfl⟩
    ·have hd:=qde q HH.out HX.out HY.out hxy;rw [HNA.out,HNB.out] at hd;rw [show x=0 by omega] at hd;rw [show y=0 by omega] at hd;have HD:=zY hd;omega
def rootA (p k:Nat):Nat→Nat→Nat
 | 0,X=>X
 | n+1,X=>if p*65536^(4*k)<(X+2^n)^k then rootA p k n X else rootA p k n (X+2^n)
theorem rootA_eq (p k:Nat):∀ n,n≤69→rootA p k (69 - n) (rootX p k n)=rootA p k 69 0
 | 0,_=>rfl
 | n+1,h=>by
  rw [← rootA_eq p k n (by omega)];obtain ⟨m,hm⟩:=eX (68 - n);rw [show 69 - n=m+1 by omega,show 69 - (n+1)=m by omega,rootA,rootX,← hm]
  split <;> rfl
theorem rootN_eq (p k:Nat):rootN p k=rootA p k 69 0%2^64:=by
 have:=rootA_eq p k 69 (Nat.le_refl _);rw [rootN,← this];rfl
def primes80:List Nat:=[2,3,5,7,11,13,17,19,23,29,31,37,41,43,47,53,59,61,67,71,73,79,83,89,97,101,103,107,109,113,127,131,137,139,149,151,157,163,167,173,179,181,191,193,197,199,211,223,227,229,233,239,241,251,257,263,269,271,277,281,283,293,307,311,313,317,331,337,347,349,353,359,367,373,379,383,389,397,401,409]
theorem roots3:(primes80.map fun p=>rootA p 3 69 0%2^64)=stepsN:=by decide +kernel
theorem roots2:((primes80.take 8).map fun p=>rootA p 2 69 0%2^64)=firstN:=by decide +kernel
def primesTo (k:Nat):List Nat:=primes80.filter fun q=>decide (q<k)
theorem primes_step:((List.range 410).all fun k=>decide (primesTo (k+1)=if 2≤k∧(primesTo k).all (fun q=>k%q != 0)=true then primesTo k++[k] else primesTo k))=true:=by decide +kernel
theorem primes_len:((List.range 410).all fun k=>decide ((primesTo k).length<80))=true:=by decide +kernel
theorem primes_end:primesTo 410=primes80:=by decide +kernel
theorem primes_lt:(primes80.all fun p=>decide (2≤p∧p<65536))=true:=by decide +kernel
theorem map_getD (l:List Nat) (f:Nat→Nat) (i:Nat) (h:i<l.length):(l.map f).getD i 0=f (l.getD i 0):=by
 simp [List.getD_eq_getElem?_getD,h]
theorem rootN3 (i:Nat) (h:i<80):rootN (primes80.getD i 0) 3=stepsN.getD i 0:=by
 rw [← roots3,map_getD primes80 _ i h,rootN_eq]
theorem rootN2 (i:Nat) (h:i<8):rootN (primes80.getD i 0) 2=firstN.getD i 0:=by
 have e:primes80.getD i 0=(primes80.take 8).getD i 0:=by
  rw [List.getD_eq_getElem?_getD,List.getD_eq_getElem?_getD,List.getElem?_take,if_pos h]
 rw [← roots2,map_getD (primes80.take 8) _ i h,rootN_eq,e]
theorem sl_int:SlT Tryz.prog 82 3 1 8:=SlT.mk1 (z:=.int .i64 0) Tryz.underlying82 (by kernel_rfl) rfl (by decide)
def prB (k:Nat) (l:List Nat):Bool:=l.all fun q=>k%q != 0
theorem primesTo_step (k:Nat) (h:k<410) (h2:2≤k):primesTo (k+1)=if prB k (primesTo k)=true then primesTo k++[k] else primesTo k:=by
 have:=(List.all_eq_true.1 primes_step) k (List.mem_range.2 h);rw [decide_eq_true_eq] at this;rw [this];simp only [h2,true_and];rfl
theorem primesTo_len (k:Nat) (h:k<410):(primesTo k).length<80:=by
 have:=(List.all_eq_true.1 primes_len) k (List.mem_range.2 h)
 rwa [decide_eq_true_eq] at this
theorem primesTo_mem (k:Nat):∀ q ∈ primesTo k,2≤q∧q<65536:=fun q hq=>by
 have h1:=(List.mem_filter.1 hq).1;have:=(List.all_eq_true.1 primes_lt) q h1
 rwa [decide_eq_true_eq] at this
theorem prB_snoc (k:Nat) (l:List Nat) (q:Nat):prB k (l++[q])=(prB k l && (k%q != 0)):=by simp [prB]
def PrimesPost (w:World) (e:Ending) (w':World):Prop :=
 ∃ A c,e=.returned (.slice A 80 c)∧OwnX w' w.heap.size 3 1 (.slice A 80 c) 80 (wordsV .i64 primes80)∧Below w.heap.size w w'
structure PrSt (w0:World) (gf:Nat) (v:Value) (n:Nat) (l:List Nat) (u:World):Prop where
 bel:Below gf w0 u
 own:OwnX u gf 3 1 v n (wordsV .i64 l)
 le:gf≤u.heap.size
theorem primes_any (w:World):Calls Tryz.prog 78 #[.int .i64 80] w (PrimesPost w):=by
 obtain ⟨gf,hgf⟩:=eX (w.heap.size);have hst0:PrSt w gf (.slice none 0 0) 0 (primesTo 2) w:=⟨Below.refl _ _,OwnX.nil _ _ _ _,by omega⟩;have HST0:=zY hst0;have HGF:=zY hgf;clear hst0 hgf;go_enter Tryz.func78,Tryz.ntmps78;go_wp2;have hst0:=HST0.out;clear HST0
 go_loopw [3,4] (fun v i wr=>∃ (k n:Nat) (A:Option Addr) (c:Nat),2≤k∧k≤410∧i=.int .i64 k∧n=(primesTo k).length∧v=.slice A n c∧PrSt w gf (.slice A n c) n (primesTo k) wr) (fun _ i _=>410 - (intOf i).toNat)
 case atStart=>exact ⟨2,0,none,0,by omega,by omega,rfl,by decide +kernel,rfl,hst0⟩
 case round =>
  obtain ⟨k,n,A,c,hk2,hk,rfl,hn,rfl,hst⟩:=hrel;clear hst0
  by_cases hlt:k<410
  ·have hn80:n<80:=by rw [hn]; exact primesTo_len k hlt
   have hn80':(n:Int)<80:=by omega
   obtain ⟨L,hL⟩:=eX (primesTo k);have hstep:=primesTo_step k hlt hk2;have hmem:∀ q ∈ L,2≤q∧q<65536:=by rw [hL]; exact primesTo_mem k
   rw [← hL] at hn hst hstep;have HL:=zY hL;have HN:=zY hn;have HST:=zY hst;have HSTEP:=zY hstep;have HMEM:=zY hmem;have hk0:(0:Int)≤(k:Int):=by omega
   clear hL hn hst hstep hmem;go_wp2_with fail;obtain ⟨wo,rfl⟩:∃ wo:World,wo=wr:=⟨_,rfl⟩
   go_loop [5,6] (fun b i=>∃ (j:Nat) (bb:Bool),j≤n∧i=.int .i64 j∧bb=prB k (L.take j)∧b=.bool bb) (fun _ i=>n - (intOf i).toNat)
   case atStart=>exact ⟨0,true,by omega,rfl,rfl,rfl⟩
   case round =>
    obtain ⟨j,bb,hj,rfl,hbb,rfl⟩:=hrel
    by_cases hjn:j<n
    ·have hjL:j<L.length:=by rw [← HN.out]; exact hjn
     obtain ⟨q,hq⟩:=eX (L[j]);obtain ⟨hq2,hq3⟩:=HMEM.out q (by rw [hq]; exact List.getElem_mem hjL);obtain ⟨g,rfl,hgb,hgl⟩:=HST.out.own.ptr (by omega);have dq:=HST.out.own.atN (i:=j) (v:=.int .i64 (q:Int)) (by rw [wordsV,List.getElem?_map,List.getElem?_eq_getElem hjL,hq]; rfl);have hnc:=HST.out.own.le_cap;have hsn:prB k (L.take (j+1))=(bb && (k%q != 0)):=by rw [List.take_succ_eq_append_getElem hjL,prB_snoc,← hbb,hq]
     have HSN:=zY hsn;have hq0:(0:Int)<(q:Int):=by omega
     clear hbb hsn hq
     by_cases hd:k%q=0
     ·have hb1:(((k:Int)%(q:Int)) == 0)=true:=by rw [beq_iff_eq]; omega
      have hfin:false=prB k (L.take (j+1)):=by rw [HSN.out,hd]; simp
      have HFIN:=zY hfin;clear hfin hd;go_wp2_with fail;exact ⟨⟨j+1,false,by omega,by go_num,HFIN.out,rfl⟩,by simp [intOf]; omega⟩
     ·have hb1:(((k:Int)%(q:Int)) == 0)=false:=by rw [beq_eq_false_iff_ne]; omega
      have hfin:bb=prB k (L.take (j+1)):=by rw [HSN.out]; simp [hd]
      have HFIN:=zY hfin;clear hfin hd;go_wp2_with fail;exact ⟨⟨j+1,bb,by omega,by go_num,HFIN.out,rfl⟩,by simp [intOf]; omega⟩
    ·obtain rfl:j=n:=by omega
     have hst2:=HSTEP.out;rw [List.take_of_length_le (by rw [HN.out]; exact Nat.le_refl _)] at hbb;rw [← hbb] at hst2
     cases bb
     ·rw [if_neg (by decide)] at hst2;have HS2:=zY hst2;clear hst2 hbb;go_wp2_with fail;exact ⟨⟨k+1,j,A,c,by omega,by omega,by go_num,by rw [HS2.out]; exact HN.out,rfl,by rw [HS2.out]; exact HST.out⟩,by simp [intOf]; omega⟩
     ·rw [if_pos rfl] at hst2;have HS2:=zY hst2;clear hst2 hbb;go_wp2_with (refine qak sl_int rfl rfl HST.out.own rfl rfl rfl rfl (by unfold maxLen; omega) (by omega) HST.out.le ?_; intro A3 c3 w3 hown3 hg3 hn3; have HOWN3:=zY hown3; have HG3:=zY hg3; clear hown3 hg3 hn3);refine ⟨⟨k+1,j+1,A3,c3,by omega,by omega,by go_num,by rw [HS2.out,List.length_append,← HN.out]; rfl,rfl,?_⟩,by simp [intOf]; omega⟩;rw [HS2.out];refine ⟨HST.out.bel.grown HG3.out HST.out.le (fun k hk=>(HST.out.own.lt k hk).1),?_,by have:=HG3.out.size; have:=HST.out.le; omega⟩;rw [qbi]; exact HOWN3.out
  ·obtain rfl:k=410:=by omega
   rw [primes_end] at hn hst;obtain rfl:n=80:=hn;have HST:=zY hst;clear hst;go_wp2_with fail;go_ret;exact ⟨A,c,rfl,by rw [← HGF.out]; exact HST.out.own,by rw [← HGF.out]; exact HST.out.bel⟩
structure MulStA (w0:World) (gf gw:Nat) (A1 A2:Option Addr) (a b:List Nat) (m:List Nat) (u:World):Prop where
 bel:Below gf w0 u
 r1:Rd u gf A1 (wordsV .i64 a)
 r2:Rd u gf A2 (wordsV .i64 b)
 row:Blk u gw 3 (wordsV .i64 m).toArray
 le:gf≤gw
theorem MulStA.put {w0 u u':World} {gf gw:Nat} {A1 A2:Option Addr} {a b m m':List Nat} (h:MulStA w0 gf gw A1 A2 a b m u) (hw:Wrote gw u u') (hb:Blk u' gw 3 (wordsV .i64 m').toArray):MulStA w0 gf gw A1 A2 a b m' u' :=
 have hx:=hw.below (Below.refl gf u) h.le (by have:=h.row.lt; have:=h.le; omega)
 ⟨h.bel.trans hx,h.r1.below hx,h.r2.below hx,hb,h.le⟩
theorem MulStA.drew {w0 u:World} {gf gw:Nat} {A1 A2:Option Addr} {a b m:List Nat} (h:MulStA w0 gf gw A1 A2 a b m u):MulStA w0 gf gw A1 A2 a b m u.drew :=
 have hx:=(Below.refl gf u).drew
 ⟨h.bel.drew,h.r1.below hx,h.r2.below hx,h.row,h.le⟩
def MulPostA (a b:List Nat) (w:World) (e:Ending) (w':World):Prop :=
 ∃ g,e=.returned (.slice (some ⟨g,0,none⟩) 10 10)∧w.heap.size≤g∧Blk w' g 3 (wordsV .i64 (digs 10 (dval a*dval b))).toArray∧Below w.heap.size w w'
theorem mulA_any (a b:List Nat) (ha:∀ d ∈ a,d<65536) (hb:∀ d ∈ b,d<65536) (A1 A2:Option Addr) (c1 c2 B1 B2:Nat) (w:World) (h1:Rd w B1 A1 (wordsV .i64 a)) (h2:Rd w B2 A2 (wordsV .i64 b)) (hla:a.length=5) (hlb:b.length=5) (hc1:5≤c1) (hc2:5≤c2) (hB1:B1≤w.heap.size) (hB2:B2≤w.heap.size) :
  Calls Tryz.prog 107 #[.slice A1 5 c1,.slice A2 5 c2] w (MulPostA a b w):=by
 obtain ⟨ad1,rfl,hz1,hz2⟩:=h1.at_ (k:=0) (by rw [qaC,hla]; decide);obtain ⟨ad2,rfl,hz3,hz4⟩:=h2.at_ (k:=0) (by rw [qaC,hlb]; decide);clear hz1 hz2 hz3 hz4;have hmk:∀ u:World,(Instr.makeSlice 82 (.int .i64 10) (.int .i64 10)).run Tryz.prog u=.ok (.slice (some ⟨u.heap.size,0,none⟩) 10 10) (u.alloc (.cells (wordsV .i64 (digs 10 0)).toArray 3)):=fun _=>by kernel_rfl
 have H1:=zY (h1.mono hB1);have H2:=zY (h2.mono hB2);have HALN:=zY hla;have HBLN:=zY hlb;have HA:=zY ha;have HB:=zY hb;clear h1 h2 hla hlb ha hb hB1 hB2;go_enter Tryz.func107,Tryz.ntmps107;go_wp2_with fail;obtain ⟨gw,hgw⟩:=eX (w.heap.size)
 have hst0:MulStA w gw gw (some ad1) (some ad2) a b (digs 10 (dval (a.take 0)*dval b)) (w.alloc (.cells (wordsV .i64 (digs 10 0)).toArray 3)):=by
  have hb0:=below_new w (.cells (wordsV .i64 (digs 10 0)).toArray 3);rw [← hgw] at hb0;refine ⟨hb0,?_,?_,?_,Nat.le_refl _⟩
  ·have:=H1.out; rw [← hgw] at this; exact this.below hb0
  ·have:=H2.out; rw [← hgw] at this; exact this.below hb0
  ·rw [hgw]; simp only [List.take_zero,dval,Nat.zero_mul]; exact Blk.new _ _ _
 rw [← hgw];have HGW:=zY hgw;clear hgw hmk H1 H2
 go_loopw [6] (fun i wr=>∃ k:Nat,k≤5∧i=.int .i64 k∧MulStA w gw gw (some ad1) (some ad2) a b (digs 10 (dval (a.take k)*dval b)) wr) (fun i _=>5 - (intOf i).toNat)
 case atStart=>exact ⟨0,by omega,rfl,hst0⟩
 case round =>
  obtain ⟨i,hi,rfl,hst⟩:=hrel;clear hst0
  by_cases hlt:i<5
  ·have hlt':(i:Int)<5:=by omega
   obtain ⟨ai,hai⟩:=eX (a.getD i 0);have hail:ai<65536:=by rw [hai]; exact dig_lt HA.out i
   obtain ⟨P,hP⟩:=eX (dval (a.take i)*dval b)
   have hPl:P<65536^(i+5):=by
    rw [hP,Nat.pow_add];have e1:=qcw (a.take i) fun x hx=>HA.out x (List.mem_of_mem_take hx);have e2:=qcw b HB.out;rw [List.length_take,Nat.min_eq_left (by rw [HALN.out]; exact hi)] at e1;rw [HBLN.out] at e2;exact Nat.mul_lt_mul'' e1 e2
   rw [← hP] at hst;have HAI:=zY hai;have HAIL:=zY hail;have HP:=zY hP;have HPL:=zY hPl;have HST:=zY hst;clear hai hail hP hPl hst;go_wp2_with fail;obtain ⟨wo,rfl⟩:∃ wo:World,wo=wr:=⟨_,rfl⟩;have hPN:P<65536^10:=Nat.lt_of_lt_of_le HPL.out (Nat.pow_le_pow_right (by decide) (by omega))
   have hr0:∃ m:List Nat,m.length=10∧(∀ d ∈ m,d<65536)∧m.getD (i+5) 0=0∧dval m+0*65536^(i+0)=P+ai*dval (b.take 0)*65536^i∧MulStA w gw gw (some ad1) (some ad2) a b m wo:=by
    refine ⟨digs 10 P,qaq _ _,digs_lt _ _,?_,?_,HST.out⟩
    ·rw [qa9 _ _ (digs_lt _ _),qaJ _ _ hPN,Nat.div_eq_of_lt HPL.out]
    ·rw [qaJ _ _ hPN]; simp [dval]
   have HR0:=zY hr0;clear hr0 hPN HST
   go_loopw [7,8] (fun c j wr=>∃ (k cn:Nat) (m:List Nat),k≤5∧j=.int .i64 k∧c=.int .i64 cn∧cn<65536∧m.length=10∧(∀ d ∈ m,d<65536)∧m.getD (i+5) 0=0∧dval m+cn*65536^(i+k)=P+ai*dval (b.take k)*65536^i∧MulStA w gw gw (some ad1) (some ad2) a b m wr) (fun _ j _=>5 - (intOf j).toNat)
   case atStart =>
    obtain ⟨m,q1,q2,q3,q4,q5⟩:=HR0.out;exact ⟨0,0,m,by omega,rfl,rfl,by omega,q1,q2,q3,q4,q5⟩
   case round =>
    clear HR0;obtain ⟨j,c,m,hj,rfl,rfl,hcl,hml,hmd,hm0,hmv,hsm⟩:=hrel
    by_cases hjl:j<5
    ·have hjl':(j:Int)<5:=by omega
     obtain ⟨bj,hbj⟩:=eX (b.getD j 0);have hbjl:bj<65536:=by rw [hbj]; exact dig_lt HB.out j
     obtain ⟨mk,hmk⟩:=eX (m.getD (i+j) 0);have hmkl:mk<65536:=by rw [hmk]; exact dig_lt hmd _
     obtain ⟨pr,hpr⟩:=eX (ai*bj);have hprl:pr≤4294836225:=by rw [hpr]; exact Nat.mul_le_mul (show ai≤65535 by have:=HAIL.out; omega) (show bj≤65535 by omega)
     obtain ⟨v,hv⟩:=eX (mk+pr+c);obtain ⟨mp,hmp⟩:=eX (mk+pr);have hv2:v=mp+c:=by rw [hv,hmp]
     have hnv:=mul_step (n:=dval (m.set (i+j) (v%65536))) (k:=mk) (a:=ai) (b:=bj) hmv (by rw [← hpr,← hv,hmk]; exact qbH m (i+j) (v%65536) (by omega));rw [← hpr,← hv] at hnv;have hbt:dval (b.take (j+1))=dval (b.take j)+bj*65536^j:=by rw [qa7 b j (by rw [HBLN.out]; exact hjl),hbj]
     rw [← hbt] at hnv;have hset:=qbc .i64 m (i+j) (v%65536);have hvd:v/65536<65536:=by omega
     have hml2:(m.set (i+j) (v%65536)).length=10:=by rw [List.length_set]; exact hml
     have hmd2:∀ d ∈ m.set (i+j) (v%65536),d<65536:=qdr hmd (Nat.mod_lt _ (by decide));have hm02:(m.set (i+j) (v%65536)).getD (i+5) 0=0:=by rw [qdW _ _ _ _ (by omega)]; exact hm0
     have e1:(wordsV .i64 a)[i]?=some (.int .i64 (ai:Int)):=by rw [HAI.out]; exact qaB (by rw [HALN.out]; exact hlt)
     have e2:(wordsV .i64 b)[j]?=some (.int .i64 (bj:Int)):=by rw [hbj]; exact qaB (by rw [HBLN.out]; exact hjl)
     have e3:(wordsV .i64 m)[i+j]?=some (.int .i64 (mk:Int)):=by rw [hmk]; exact qaB (by rw [hml]; omega)
     have E1:=zY e1;have E2:=zY e2;have E3:=zY e3;have HMK:=zY hmk;have HBJ:=zY hbj;have HPR:=zY hpr;have HV:=zY hv;have HV2:=zY hv2;have HMP:=zY hmp;have HNV:=zY hnv;have HSET:=zY hset;have HVD:=zY hvd;have HML2:=zY hml2;have HMD2:=zY hmd2;have HM02:=zY hm02;have HML:=zY hml;have HC0:=hsm.drew;have hil:i+j<10:=by omega
     have PRL:=zY hprl;have MKL:=zY hmkl;have CL:=zY hcl;clear hmk hbj hpr hv hv2 hmp hnv hset hvd hml2 hmd2 hm02 hml hmd hm0 hmv hsm hbt e1 e2 e3 hprl hmkl hcl hbjl;go_wp2_with fail;refine qaj (fun u=>MulStA w gw gw (some ad1) (some ad2) a b m u) (fun u=>MulStA w gw gw (some ad1) (some ad2) a b m u) [(0,some 28),(1,some 29),(2,some 30),(3,some 31),(4,some 32),(5,some 33),(6,some 34),(7,some 35),(8,some 36),(9,some 37),(10,some 38),(11,some 39),(12,some 40),(13,some 41),(14,some 42),(15,some 43),(16,some 44),(17,some 45),(18,some 9)] (by kernel_rfl) (by kernel_rfl) (by decide) (by kernel_rfl) (fun _=>rfl) HC0 ?_;apply yN_
     ·apply dP [];exact fun _=>rfl;rfl;rintro vals - w1 hC1 E hE;simp only [sP] at hE ⊢;go_wp2;exact .mk (hE _ hC1)
     apply yN_
     ·apply dP [];exact fun _=>rfl;rfl;rintro vals ⟨-,-⟩ w1 hC1 E hE;simp only [sP] at hE ⊢;go_wp2;exact .mk (hE _ hC1)
     apply yN_
     ·apply dP [];exact fun _=>rfl;rfl;intro vals vq w1 hC1 E hE;clear vq;simp only [sP] at hE ⊢;go_wp2;exact .mk (hE _ hC1)
     apply yN_
     ·apply dP [(1,some 29),(2,some 30)];exact fun _=>rfl;rfl;intro vals vq w1 hC1 E hE;simp only [sP,vq] at hE ⊢;clear vq;go_wp2;exact .mk (hE _ hC1)
     apply yN_
     ·apply dP [(0,some 28),(3,some 31)];exact fun _=>rfl;rfl;intro vals vq w1 hC1 E hE;simp only [sP,vq] at hE ⊢;clear vq;go_wp2;exact .mk (hE _ hC1)
     apply yN_
     ·apply dP [(4,some 32)];exact fun _=>rfl;rfl;intro vals vq w1 hC1 E hE;have d0:=hC1.row.cell (i+j);rw [List.getElem?_toArray,E3.out] at d0;simp only [sP,vq] at hE ⊢;clear vq;go_wp2;exact .mk (hE _ hC1)
     apply yN_
     ·apply dP [];exact fun _=>rfl;rfl;intro vals vq w1 hC1 E hE;clear vq;simp only [sP] at hE ⊢;go_wp2;exact .mk (hE _ hC1)
     apply yN_
     ·apply dP [];exact fun _=>rfl;rfl;intro vals vq w1 hC1 E hE;clear vq;simp only [sP] at hE ⊢;go_wp2;exact .mk (hE _ hC1)
     apply yN_
     ·apply dP [(6,some 34),(7,some 35)];exact fun _=>rfl;rfl;intro vals vq w1 hC1 E hE;simp only [sP,vq] at hE ⊢;clear vq;go_wp2;exact .mk (hE _ hC1)
     apply yN_
     ·apply dP [(8,some 36)];exact fun _=>rfl;rfl;intro vals vq w1 hC1 E hE;have d0:=hC1.r1.val E1.out;simp only [sP,vq] at hE ⊢;clear vq;go_wp2;exact .mk (hE _ hC1)
     apply yN_
     ·apply dP [];exact fun _=>rfl;rfl;intro vals vq w1 hC1 E hE;clear vq;simp only [sP] at hE ⊢;go_wp2;exact .mk (hE _ hC1)
     apply yN_
     ·apply dP [];exact fun _=>rfl;rfl;intro vals vq w1 hC1 E hE;clear vq;simp only [sP] at hE ⊢;go_wp2;exact .mk (hE _ hC1)
     apply yN_
     ·apply dP [(10,some 38),(11,some 39)];exact fun _=>rfl;rfl;intro vals vq w1 hC1 E hE;simp only [sP,vq] at hE ⊢;clear vq;go_wp2;exact .mk (hE _ hC1)
     apply yN_
     ·apply dP [(12,some 40)];exact fun _=>rfl;rfl;intro vals vq w1 hC1 E hE;have d0:=hC1.r2.val E2.out;simp only [sP,vq] at hE ⊢;clear vq;go_wp2;exact .mk (hE _ hC1)
     apply yN_
     ·apply dP [(9,some 37),(13,some 41)];exact fun _=>rfl;rfl;intro vals vq w1 hC1 E hE;simp only [sP,vq] at hE ⊢;clear vq;go_wp2;rw [mul_w64 ai bj (by rw [← HPR.out]; have:=PRL.out; omega),← HPR.out];exact .mk (hE _ hC1)
     apply yN_
     ·apply dP [(5,some 33),(14,some 42)];exact fun _=>rfl;rfl;intro vals vq w1 hC1 E hE;simp only [sP,vq] at hE ⊢;clear vq;go_wp2;rw [add_w64 mk pr (by have:=PRL.out; have:=MKL.out; omega),← HMP.out];exact .mk (hE _ hC1)
     apply yN_
     ·apply dP [];exact fun _=>rfl;rfl;intro vals vq w1 hC1 E hE;clear vq;simp only [sP] at hE ⊢;go_wp2;exact .mk (hE _ hC1)
     apply yN_
     ·apply dP [(15,some 43),(16,some 44)];exact fun _=>rfl;rfl;intro vals vq w1 hC1 E hE;simp only [sP,vq] at hE ⊢;clear vq;go_wp2;rw [add_w64 mp c (by have:=HMP.out; have:=PRL.out; have:=MKL.out; have:=CL.out; omega),← HV2.out];exact .mk (hE _ hC1)
     apply yL_
     ·apply dP [(17,some 45),(0,some 28),(1,some 29),(2,some 30),(3,some 31),(4,some 32),(5,some 33),(6,some 34),(7,some 35),(8,some 36),(9,some 37),(10,some 38),(11,some 39),(12,some 40),(13,some 41),(14,some 42),(15,some 43),(16,some 44),(17,some 45)];exact fun _=>rfl;rfl;intro vals vq w1 hC1 E hE;simp only [sP,vq] at hE ⊢;clear vq;go_wp2;exact .mk (hE _ hC1)
     intro vals vq w1 hC1;simp only [sP,vq];clear vq;clear HC0;have dr:=hC1.row.cell (i+j);rw [List.getElem?_toArray,E3.out] at dr;have fr:=hC1.row.free (i+j);have HC1:=zY hC1;clear hC1;have hv63:(v:Int)≤4295032831:=by have:=HV.out; have:=PRL.out; have:=MKL.out; have:=CL.out; omega
     go_wp2_with fail;refine ⟨⟨j+1,v/65536,m.set (i+j) (v%65536),by omega,by go_num,by go_num,HVD.out,HML2.out,HMD2.out,HM02.out,HNV.out,?_⟩,by simp [intOf]; omega⟩;refine HC1.out.put (qap _ _ _ _) ?_;have h:=qau (i:=i+j) HC1.out.row (.int .i64 ((v%65536:Nat):Int));rw [HSET.out] at h;exact h
    ·obtain rfl:j=5:=by omega
     have hge:¬ ((5:Nat):Int)<5:=by omega
     have hbt:b.take 5=b:=List.take_of_length_le (by rw [HBLN.out]; exact Nat.le_refl _);rw [hbt] at hmv;have hset:=qbc .i64 m (i+5) c;have hnv:=qbH m (i+5) c (by omega);rw [hm0,Nat.zero_mul,Nat.add_zero] at hnv
     have hfin:digs 10 (dval (a.take (i+1))*dval b)=m.set (i+5) c:=by
      have h1:=qcJ (m.set (i+5) c) (qdr hmd hcl);rw [List.length_set,hml] at h1;rw [← h1]
      congr 1
      rw [qa7 a i (by rw [HALN.out]; exact hlt),← HAI.out,Nat.add_mul,← HP.out,hnv,hmv,Nat.mul_assoc ai (65536^i),Nat.mul_comm (65536^i),Nat.mul_assoc ai]
     have e3:(wordsV .i64 m)[i+5]?=some (.int .i64 0):=by
      rw [qaB (by rw [hml]; omega),hm0]; rfl
     have dr:=hsm.row.cell (i+5);rw [List.getElem?_toArray,e3] at dr;have fr:=hsm.row.free (i+5);have HSET:=zY hset;have HFIN:=zY hfin;have HSM:=zY hsm;have hil:i+5<10:=by omega
     have hc63:(c:Int)<65536:=by omega
     clear hset hfin hsm hnv hmv hbt e3 hm0 hmd hml hcl;go_wp2_with fail;refine ⟨⟨i+1,by omega,by go_num,?_⟩,by simp [intOf]; omega⟩;rw [HFIN.out];refine HSM.out.put (qap _ _ _ _) ?_;have h:=qau (i:=i+5) HSM.out.row (.int .i64 (c:Int));rw [HSET.out] at h;exact h
  ·obtain rfl:i=5:=by omega
   have hat:a.take 5=a:=List.take_of_length_le (by rw [HALN.out]; exact Nat.le_refl _);rw [hat] at hst;have HST:=zY hst;clear hst hat;go_wp2_with fail;go_ret;exact ⟨gw,rfl,by rw [HGW.out]; exact Nat.le_refl _,HST.out.row,by rw [← HGW.out]; exact HST.out.bel⟩
structure MulStB (w0:World) (gf gw:Nat) (A1 A2:Option Addr) (a b:List Nat) (m:List Nat) (u:World):Prop where
 bel:Below gf w0 u
 r1:Rd u gf A1 (wordsV .i64 a)
 r2:Rd u gf A2 (wordsV .i64 b)
 row:Blk u gw 3 (wordsV .i64 m).toArray
 le:gf≤gw
theorem MulStB.put {w0 u u':World} {gf gw:Nat} {A1 A2:Option Addr} {a b m m':List Nat} (h:MulStB w0 gf gw A1 A2 a b m u) (hw:Wrote gw u u') (hb:Blk u' gw 3 (wordsV .i64 m').toArray):MulStB w0 gf gw A1 A2 a b m' u' :=
 have hx:=hw.below (Below.refl gf u) h.le (by have:=h.row.lt; have:=h.le; omega)
 ⟨h.bel.trans hx,h.r1.below hx,h.r2.below hx,hb,h.le⟩
theorem MulStB.drew {w0 u:World} {gf gw:Nat} {A1 A2:Option Addr} {a b m:List Nat} (h:MulStB w0 gf gw A1 A2 a b m u):MulStB w0 gf gw A1 A2 a b m u.drew :=
 have hx:=(Below.refl gf u).drew
 ⟨h.bel.drew,h.r1.below hx,h.r2.below hx,h.row,h.le⟩
def MulPostB (a b:List Nat) (w:World) (e:Ending) (w':World):Prop :=
 ∃ g,e=.returned (.slice (some ⟨g,0,none⟩) 15 15)∧w.heap.size≤g∧Blk w' g 3 (wordsV .i64 (digs 15 (dval a*dval b))).toArray∧Below w.heap.size w w'
theorem mulB_any (a b:List Nat) (ha:∀ d ∈ a,d<65536) (hb:∀ d ∈ b,d<65536) (A1 A2:Option Addr) (c1 c2 B1 B2:Nat) (w:World) (h1:Rd w B1 A1 (wordsV .i64 a)) (h2:Rd w B2 A2 (wordsV .i64 b)) (hla:a.length=10) (hlb:b.length=5) (hc1:10≤c1) (hc2:5≤c2) (hB1:B1≤w.heap.size) (hB2:B2≤w.heap.size) :
  Calls Tryz.prog 107 #[.slice A1 10 c1,.slice A2 5 c2] w (MulPostB a b w):=by
 obtain ⟨ad1,rfl,hz1,hz2⟩:=h1.at_ (k:=0) (by rw [qaC,hla]; decide);obtain ⟨ad2,rfl,hz3,hz4⟩:=h2.at_ (k:=0) (by rw [qaC,hlb]; decide);clear hz1 hz2 hz3 hz4;have hmk:∀ u:World,(Instr.makeSlice 82 (.int .i64 15) (.int .i64 15)).run Tryz.prog u=.ok (.slice (some ⟨u.heap.size,0,none⟩) 15 15) (u.alloc (.cells (wordsV .i64 (digs 15 0)).toArray 3)):=fun _=>by kernel_rfl
 have H1:=zY (h1.mono hB1);have H2:=zY (h2.mono hB2);have HALN:=zY hla;have HBLN:=zY hlb;have HA:=zY ha;have HB:=zY hb;clear h1 h2 hla hlb ha hb hB1 hB2;go_enter Tryz.func107,Tryz.ntmps107;go_wp2_with fail;obtain ⟨gw,hgw⟩:=eX (w.heap.size)
 have hst0:MulStB w gw gw (some ad1) (some ad2) a b (digs 15 (dval (a.take 0)*dval b)) (w.alloc (.cells (wordsV .i64 (digs 15 0)).toArray 3)):=by
  have hb0:=below_new w (.cells (wordsV .i64 (digs 15 0)).toArray 3);rw [← hgw] at hb0;refine ⟨hb0,?_,?_,?_,Nat.le_refl _⟩
  ·have:=H1.out; rw [← hgw] at this; exact this.below hb0
  ·have:=H2.out; rw [← hgw] at this; exact this.below hb0
  ·rw [hgw]; simp only [List.take_zero,dval,Nat.zero_mul]; exact Blk.new _ _ _
 rw [← hgw];have HGW:=zY hgw;clear hgw hmk H1 H2
 go_loopw [6] (fun i wr=>∃ k:Nat,k≤10∧i=.int .i64 k∧MulStB w gw gw (some ad1) (some ad2) a b (digs 15 (dval (a.take k)*dval b)) wr) (fun i _=>10 - (intOf i).toNat)
 case atStart=>exact ⟨0,by omega,rfl,hst0⟩
 case round =>
  obtain ⟨i,hi,rfl,hst⟩:=hrel;clear hst0
  by_cases hlt:i<10
  ·have hlt':(i:Int)<10:=by omega
   obtain ⟨ai,hai⟩:=eX (a.getD i 0);have hail:ai<65536:=by rw [hai]; exact dig_lt HA.out i
   obtain ⟨P,hP⟩:=eX (dval (a.take i)*dval b)
   have hPl:P<65536^(i+5):=by
    rw [hP,Nat.pow_add];have e1:=qcw (a.take i) fun x hx=>HA.out x (List.mem_of_mem_take hx);have e2:=qcw b HB.out;rw [List.length_take,Nat.min_eq_left (by rw [HALN.out]; exact hi)] at e1;rw [HBLN.out] at e2;exact Nat.mul_lt_mul'' e1 e2
   rw [← hP] at hst;have HAI:=zY hai;have HAIL:=zY hail;have HP:=zY hP;have HPL:=zY hPl;have HST:=zY hst;clear hai hail hP hPl hst;go_wp2_with fail;obtain ⟨wo,rfl⟩:∃ wo:World,wo=wr:=⟨_,rfl⟩;have hPN:P<65536^15:=Nat.lt_of_lt_of_le HPL.out (Nat.pow_le_pow_right (by decide) (by omega))
   have hr0:∃ m:List Nat,m.length=15∧(∀ d ∈ m,d<65536)∧m.getD (i+5) 0=0∧dval m+0*65536^(i+0)=P+ai*dval (b.take 0)*65536^i∧MulStB w gw gw (some ad1) (some ad2) a b m wo:=by
    refine ⟨digs 15 P,qaq _ _,digs_lt _ _,?_,?_,HST.out⟩
    ·rw [qa9 _ _ (digs_lt _ _),qaJ _ _ hPN,Nat.div_eq_of_lt HPL.out]
    ·rw [qaJ _ _ hPN]; simp [dval]
   have HR0:=zY hr0;clear hr0 hPN HST
   go_loopw [7,8] (fun c j wr=>∃ (k cn:Nat) (m:List Nat),k≤5∧j=.int .i64 k∧c=.int .i64 cn∧cn<65536∧m.length=15∧(∀ d ∈ m,d<65536)∧m.getD (i+5) 0=0∧dval m+cn*65536^(i+k)=P+ai*dval (b.take k)*65536^i∧MulStB w gw gw (some ad1) (some ad2) a b m wr) (fun _ j _=>5 - (intOf j).toNat)
   case atStart =>
    obtain ⟨m,q1,q2,q3,q4,q5⟩:=HR0.out;exact ⟨0,0,m,by omega,rfl,rfl,by omega,q1,q2,q3,q4,q5⟩
   case round =>
    clear HR0;obtain ⟨j,c,m,hj,rfl,rfl,hcl,hml,hmd,hm0,hmv,hsm⟩:=hrel
    by_cases hjl:j<5
    ·have hjl':(j:Int)<5:=by omega
     obtain ⟨bj,hbj⟩:=eX (b.getD j 0);have hbjl:bj<65536:=by rw [hbj]; exact dig_lt HB.out j
     obtain ⟨mk,hmk⟩:=eX (m.getD (i+j) 0);have hmkl:mk<65536:=by rw [hmk]; exact dig_lt hmd _
     obtain ⟨pr,hpr⟩:=eX (ai*bj);have hprl:pr≤4294836225:=by rw [hpr]; exact Nat.mul_le_mul (show ai≤65535 by have:=HAIL.out; omega) (show bj≤65535 by omega)
     obtain ⟨v,hv⟩:=eX (mk+pr+c);obtain ⟨mp,hmp⟩:=eX (mk+pr);have hv2:v=mp+c:=by rw [hv,hmp]
     have hnv:=mul_step (n:=dval (m.set (i+j) (v%65536))) (k:=mk) (a:=ai) (b:=bj) hmv (by rw [← hpr,← hv,hmk]; exact qbH m (i+j) (v%65536) (by omega));rw [← hpr,← hv] at hnv;have hbt:dval (b.take (j+1))=dval (b.take j)+bj*65536^j:=by rw [qa7 b j (by rw [HBLN.out]; exact hjl),hbj]
     rw [← hbt] at hnv;have hset:=qbc .i64 m (i+j) (v%65536);have hvd:v/65536<65536:=by omega
     have hml2:(m.set (i+j) (v%65536)).length=15:=by rw [List.length_set]; exact hml
     have hmd2:∀ d ∈ m.set (i+j) (v%65536),d<65536:=qdr hmd (Nat.mod_lt _ (by decide));have hm02:(m.set (i+j) (v%65536)).getD (i+5) 0=0:=by rw [qdW _ _ _ _ (by omega)]; exact hm0
     have e1:(wordsV .i64 a)[i]?=some (.int .i64 (ai:Int)):=by rw [HAI.out]; exact qaB (by rw [HALN.out]; exact hlt)
     have e2:(wordsV .i64 b)[j]?=some (.int .i64 (bj:Int)):=by rw [hbj]; exact qaB (by rw [HBLN.out]; exact hjl)
     have e3:(wordsV .i64 m)[i+j]?=some (.int .i64 (mk:Int)):=by rw [hmk]; exact qaB (by rw [hml]; omega)
     have E1:=zY e1;have E2:=zY e2;have E3:=zY e3;have HMK:=zY hmk;have HBJ:=zY hbj;have HPR:=zY hpr;have HV:=zY hv;have HV2:=zY hv2;have HMP:=zY hmp;have HNV:=zY hnv;have HSET:=zY hset;have HVD:=zY hvd;have HML2:=zY hml2;have HMD2:=zY hmd2;have HM02:=zY hm02;have HML:=zY hml;have HC0:=hsm.drew;have hil:i+j<15:=by omega
     have PRL:=zY hprl;have MKL:=zY hmkl;have CL:=zY hcl;clear hmk hbj hpr hv hv2 hmp hnv hset hvd hml2 hmd2 hm02 hml hmd hm0 hmv hsm hbt e1 e2 e3 hprl hmkl hcl hbjl;go_wp2_with fail;refine qaj (fun u=>MulStB w gw gw (some ad1) (some ad2) a b m u) (fun u=>MulStB w gw gw (some ad1) (some ad2) a b m u) [(0,some 28),(1,some 29),(2,some 30),(3,some 31),(4,some 32),(5,some 33),(6,some 34),(7,some 35),(8,some 36),(9,some 37),(10,some 38),(11,some 39),(12,some 40),(13,some 41),(14,some 42),(15,some 43),(16,some 44),(17,some 45),(18,some 9)] (by kernel_rfl) (by kernel_rfl) (by decide) (by kernel_rfl) (fun _=>rfl) HC0 ?_;apply yN_
     ·apply dP [];exact fun _=>rfl;rfl;rintro vals - w1 hC1 E hE;simp only [sP] at hE ⊢;go_wp2;exact .mk (hE _ hC1)
     apply yN_
     ·apply dP [];exact fun _=>rfl;rfl;rintro vals ⟨-,-⟩ w1 hC1 E hE;simp only [sP] at hE ⊢;go_wp2;exact .mk (hE _ hC1)
     apply yN_
     ·apply dP [];exact fun _=>rfl;rfl;intro vals vq w1 hC1 E hE;clear vq;simp only [sP] at hE ⊢;go_wp2;exact .mk (hE _ hC1)
     apply yN_
     ·apply dP [(1,some 29),(2,some 30)];exact fun _=>rfl;rfl;intro vals vq w1 hC1 E hE;simp only [sP,vq] at hE ⊢;clear vq;go_wp2;exact .mk (hE _ hC1)
     apply yN_
     ·apply dP [(0,some 28),(3,some 31)];exact fun _=>rfl;rfl;intro vals vq w1 hC1 E hE;simp only [sP,vq] at hE ⊢;clear vq;go_wp2;exact .mk (hE _ hC1)
     apply yN_
     ·apply dP [(4,some 32)];exact fun _=>rfl;rfl;intro vals vq w1 hC1 E hE;have d0:=hC1.row.cell (i+j);rw [List.getElem?_toArray,E3.out] at d0;simp only [sP,vq] at hE ⊢;clear vq;go_wp2;exact .mk (hE _ hC1)
     apply yN_
     ·apply dP [];exact fun _=>rfl;rfl;intro vals vq w1 hC1 E hE;clear vq;simp only [sP] at hE ⊢;go_wp2;exact .mk (hE _ hC1)
     apply yN_
     ·apply dP [];exact fun _=>rfl;rfl;intro vals vq w1 hC1 E hE;clear vq;simp only [sP] at hE ⊢;go_wp2;exact .mk (hE _ hC1)
     apply yN_
     ·apply dP [(6,some 34),(7,some 35)];exact fun _=>rfl;rfl;intro vals vq w1 hC1 E hE;simp only [sP,vq] at hE ⊢;clear vq;go_wp2;exact .mk (hE _ hC1)
     apply yN_
     ·apply dP [(8,some 36)];exact fun _=>rfl;rfl;intro vals vq w1 hC1 E hE;have d0:=hC1.r1.val E1.out;simp only [sP,vq] at hE ⊢;clear vq;go_wp2;exact .mk (hE _ hC1)
     apply yN_
     ·apply dP [];exact fun _=>rfl;rfl;intro vals vq w1 hC1 E hE;clear vq;simp only [sP] at hE ⊢;go_wp2;exact .mk (hE _ hC1)
     apply yN_
     ·apply dP [];exact fun _=>rfl;rfl;intro vals vq w1 hC1 E hE;clear vq;simp only [sP] at hE ⊢;go_wp2;exact .mk (hE _ hC1)
     apply yN_
     ·apply dP [(10,some 38),(11,some 39)];exact fun _=>rfl;rfl;intro vals vq w1 hC1 E hE;simp only [sP,vq] at hE ⊢;clear vq;go_wp2;exact .mk (hE _ hC1)
     apply yN_
     ·apply dP [(12,some 40)];exact fun _=>rfl;rfl;intro vals vq w1 hC1 E hE;have d0:=hC1.r2.val E2.out;simp only [sP,vq] at hE ⊢;clear vq;go_wp2;exact .mk (hE _ hC1)
     apply yN_
     ·apply dP [(9,some 37),(13,some 41)];exact fun _=>rfl;rfl;intro vals vq w1 hC1 E hE;simp only [sP,vq] at hE ⊢;clear vq;go_wp2;rw [mul_w64 ai bj (by rw [← HPR.out]; have:=PRL.out; omega),← HPR.out];exact .mk (hE _ hC1)
     apply yN_
     ·apply dP [(5,some 33),(14,some 42)];exact fun _=>rfl;rfl;intro vals vq w1 hC1 E hE;simp only [sP,vq] at hE ⊢;clear vq;go_wp2;rw [add_w64 mk pr (by have:=PRL.out; have:=MKL.out; omega),← HMP.out];exact .mk (hE _ hC1)
     apply yN_
     ·apply dP [];exact fun _=>rfl;rfl;intro vals vq w1 hC1 E hE;clear vq;simp only [sP] at hE ⊢;go_wp2;exact .mk (hE _ hC1)
     apply yN_
     ·apply dP [(15,some 43),(16,some 44)];exact fun _=>rfl;rfl;intro vals vq w1 hC1 E hE;simp only [sP,vq] at hE ⊢;clear vq;go_wp2;rw [add_w64 mp c (by have:=HMP.out; have:=PRL.out; have:=MKL.out; have:=CL.out; omega),← HV2.out];exact .mk (hE _ hC1)
     apply yL_
     ·apply dP [(17,some 45),(0,some 28),(1,some 29),(2,some 30),(3,some 31),(4,some 32),(5,some 33),(6,some 34),(7,some 35),(8,some 36),(9,some 37),(10,some 38),(11,some 39),(12,some 40),(13,some 41),(14,some 42),(15,some 43),(16,some 44),(17,some 45)];exact fun _=>rfl;rfl;intro vals vq w1 hC1 E hE;simp only [sP,vq] at hE ⊢;clear vq;go_wp2;exact .mk (hE _ hC1)
     intro vals vq w1 hC1;simp only [sP,vq];clear vq;clear HC0;have dr:=hC1.row.cell (i+j);rw [List.getElem?_toArray,E3.out] at dr;have fr:=hC1.row.free (i+j);have HC1:=zY hC1;clear hC1;have hv63:(v:Int)≤4295032831:=by have:=HV.out; have:=PRL.out; have:=MKL.out; have:=CL.out; omega
     go_wp2_with fail;refine ⟨⟨j+1,v/65536,m.set (i+j) (v%65536),by omega,by go_num,by go_num,HVD.out,HML2.out,HMD2.out,HM02.out,HNV.out,?_⟩,by simp [intOf]; omega⟩;refine HC1.out.put (qap _ _ _ _) ?_;have h:=qau (i:=i+j) HC1.out.row (.int .i64 ((v%65536:Nat):Int));rw [HSET.out] at h;exact h
    ·obtain rfl:j=5:=by omega
     have hge:¬ ((5:Nat):Int)<5:=by omega
     have hbt:b.take 5=b:=List.take_of_length_le (by rw [HBLN.out]; exact Nat.le_refl _);rw [hbt] at hmv;have hset:=qbc .i64 m (i+5) c;have hnv:=qbH m (i+5) c (by omega);rw [hm0,Nat.zero_mul,Nat.add_zero] at hnv
     have hfin:digs 15 (dval (a.take (i+1))*dval b)=m.set (i+5) c:=by
      have h1:=qcJ (m.set (i+5) c) (qdr hmd hcl);rw [List.length_set,hml] at h1;rw [← h1]
      congr 1
      rw [qa7 a i (by rw [HALN.out]; exact hlt),← HAI.out,Nat.add_mul,← HP.out,hnv,hmv,Nat.mul_assoc ai (65536^i),Nat.mul_comm (65536^i),Nat.mul_assoc ai]
     have e3:(wordsV .i64 m)[i+5]?=some (.int .i64 0):=by
      rw [qaB (by rw [hml]; omega),hm0]; rfl
     have dr:=hsm.row.cell (i+5);rw [List.getElem?_toArray,e3] at dr;have fr:=hsm.row.free (i+5);have HSET:=zY hset;have HFIN:=zY hfin;have HSM:=zY hsm;have hil:i+5<15:=by omega
     have hc63:(c:Int)<65536:=by omega
     clear hset hfin hsm hnv hmv hbt e3 hm0 hmd hml hcl;go_wp2_with fail;refine ⟨⟨i+1,by omega,by go_num,?_⟩,by simp [intOf]; omega⟩;rw [HFIN.out];refine HSM.out.put (qap _ _ _ _) ?_;have h:=qau (i:=i+5) HSM.out.row (.int .i64 (c:Int));rw [HSET.out] at h;exact h
  ·obtain rfl:i=10:=by omega
   have hat:a.take 10=a:=List.take_of_length_le (by rw [HALN.out]; exact Nat.le_refl _);rw [hat] at hst;have HST:=zY hst;clear hst hat;go_wp2_with fail;go_ret;exact ⟨gw,rfl,by rw [HGW.out]; exact Nat.le_refl _,HST.out.row,by rw [← HGW.out]; exact HST.out.bel⟩
structure RtSt (w0:World) (gt gx:Nat) (T:List Nat) (X:Nat) (u:World):Prop where
 bel:Below gt w0 u
 t:Blk u gt 3 (wordsV .i64 T).toArray
 x:Blk u gx 3 (wordsV .i64 (digs 5 X)).toArray
 lt:gt<gx
theorem RtSt.next {w0 u u':World} {gt gx X:Nat} {T:List Nat} (h:RtSt w0 gt gx T X u) (hb:Below u.heap.size u u'):RtSt w0 gt gx T X u' :=
 ⟨h.bel.trans (hb.mono (by have:=h.t.lt; omega)),h.t.below hb h.t.lt,h.x.below hb h.x.lt,h.lt⟩
theorem RtSt.drew {w0 u:World} {gt gx X:Nat} {T:List Nat} (h:RtSt w0 gt gx T X u):RtSt w0 gt gx T X u.drew:=h.next (Below.refl _ _).drew
theorem RtSt.put {w0 u u':World} {gt gx X X':Nat} {T:List Nat} (h:RtSt w0 gt gx T X u) (hw:Wrote gx u u') (hb:Blk u' gx 3 (wordsV .i64 (digs 5 X')).toArray):RtSt w0 gt gx T X' u' :=
 ⟨hw.below h.bel (by have:=h.lt; omega) (by have:=h.t.lt; omega),hw.blk h.t (by have:=h.lt; omega),hb,h.lt⟩
theorem root2_any (p:Nat) (w:World) (hp:p<65536):Calls Tryz.prog 80 #[.int .i64 p,.int .i64 2] w fun e w'=>e=.returned (.int .u64 (rootN p 2:Nat))∧Below w.heap.size w w':=by
 have hmkT:∀ u:World,(Instr.makeSlice 82 (.int .i64 9) (.int .i64 9)).run Tryz.prog u=.ok (.slice (some ⟨u.heap.size,0,none⟩) 9 9) (u.alloc (.cells (wordsV .i64 (digs 9 0)).toArray 3)):=fun _=>by kernel_rfl
 have hmk5:∀ u:World,(Instr.makeSlice 82 (.int .i64 5) (.int .i64 5)).run Tryz.prog u=.ok (.slice (some ⟨u.heap.size,0,none⟩) 5 5) (u.alloc (.cells (wordsV .i64 (digs 5 0)).toArray 3)):=fun _=>by kernel_rfl
 have hb0:=Blk.new w 3 (wordsV .i64 (digs 9 0)).toArray;have dT:(w.alloc (.cells (wordsV .i64 (digs 9 0)).toArray 3)).cell? ⟨w.heap.size,8,none⟩=some (.int .i64 0):=hb0.cell 8;have fT:=hb0.free 8;have hset:(wordsV .i64 (digs 9 0)).set 8 (.int .i64 (p:Int))=wordsV .i64 ((digs 9 0).set 8 p):=by simp [wordsV,List.map_set]
 obtain ⟨TL,hTL⟩:=eX ((digs 9 0).set 8 p);have hTd:∀ d ∈ TL,d<65536:=by rw [hTL]; exact qdr (digs_lt _ _) hp
 have hTv:dval TL=p*65536^8:=by
  have h:=qbH (digs 9 0) 8 p (by rw [qaq]; decide);rw [qa9 _ _ (digs_lt _ _),qaJ _ _ (by decide)] at h;rw [hTL]
  simpa using h
 have hTl:TL.length=9:=by rw [hTL,List.length_set,qaq]
 rw [← hTL] at hset;have HSET:=zY hset;have HTD:=zY hTd;have HTV:=zY hTv;have HTL:=zY hTl;clear hb0 hset hTL hTd hTv hTl;have hpl:(p:Int)<65536:=by omega
 clear hp;go_enter Tryz.func80,Tryz.ntmps80;go_wp2_with fail;rw [HSET.out];obtain ⟨gt,hgt⟩:=eX (w.heap.size);obtain ⟨gx,hgx⟩:=eX (w.heap.size+1)
 have hst0:RtSt w gt gx TL (rootX p 2 0) ((w.alloc (.cells (wordsV .i64 TL).toArray 3)).alloc (.cells (wordsV .i64 (digs 5 0)).toArray 3)):=by
  rw [hgt,hgx];exact ⟨(below_new _ _).alloc (by simp) _,(Blk.new _ _ _).alloc _,by have:=Blk.new (w.alloc (.cells (wordsV .i64 TL).toArray 3)) 3 (wordsV .i64 (digs 5 0)).toArray; exact (by simpa using this:Blk _ (w.heap.size+1) 3 (wordsV .i64 (digs 5 0)).toArray),by omega⟩
 rw [← hgx,← hgt];have HGT:=zY hgt;clear hgt hgx hmkT hmk5 dT fT
 go_loopw [7] (fun i wr=>∃ n:Nat,n≤69∧i=.int .i64 (68 - (n:Int))∧RtSt w gt gx TL (rootX p 2 n) wr) (fun i _=>(intOf i+1).toNat)
 case atStart=>exact ⟨0,by omega,rfl,hst0⟩
 case round =>
  obtain ⟨n,hn,rfl,hst⟩:=hrel;clear hst0
  by_cases hlt:n<69
  ·obtain ⟨b,hb⟩:∃ b:Nat,(68 - (n:Int))=(b:Int):=⟨68 - n,by omega⟩;rw [hb];have hbn:b+n=68:=by omega
   obtain ⟨X,hX⟩:=eX (rootX p 2 n);have hXl:=qcz p 2 n hn;have hXd:=qdx p 2 n hn
   have hnext:rootX p 2 (n+1)=if p*65536^8<(X+2^b)^2 then X else X+2^b:=by
    rw [rootX,← hX,show 68 - n=b by omega]
   rw [← hX] at hst hXl hXd;rw [show 69 - n=b+1 by omega] at hXl hXd;obtain ⟨q,hq⟩:=eX (b/16);obtain ⟨r,hr⟩:=eX (b%16);have hq5:q<5:=by omega
   have hr16:r<16:=by omega
   have hX80:X+2^b<65536^5:=by
    have h2:2^(b+1)=2*2^b:=by rw [Nat.pow_succ,Nat.mul_comm]
    have h3:(2:Nat)^69<65536^5:=by decide
    omega
   obtain ⟨hda,hdl⟩:=dig_add (n:=5) (bit:=b) (X:=X) (by omega) (by omega) hXd;rw [← hq,← hr] at hda hdl;obtain ⟨X1,hX1⟩:=eX (X+2^b);obtain ⟨d0,hd0⟩:=eX ((digs 5 X).getD q 0);obtain ⟨D,hD⟩:=eX (2^r);rw [← hX1,← hd0,← hD] at hda;rw [← hd0,← hD] at hdl;rw [← hX1] at hnext hX80;have hset1:(wordsV .i64 (digs 5 X)).toArray.setIfInBounds q (.int .i64 ((d0+D:Nat):Int))=(wordsV .i64 (digs 5 X1)).toArray:=by rw [qbc,hda]
   have hset2:(wordsV .i64 (digs 5 X1)).toArray.setIfInBounds q (.int .i64 (d0:Int))=(wordsV .i64 (digs 5 X)).toArray:=by
    rw [qbc,← hda,List.set_set,hd0]
    congr 2
    rw [List.getD_eq_getElem?_getD,List.getElem?_eq_getElem (by rw [qaq]; exact hq5),Option.getD_some,List.set_getElem_self]
   have hc1:(wordsV .i64 (digs 5 X))[q]?=some (.int .i64 (d0:Int)):=by rw [hd0]; exact qaB (by rw [qaq]; exact hq5)
   have hc2:(wordsV .i64 (digs 5 X1))[q]?=some (.int .i64 ((d0+D:Nat):Int)):=by
    rw [← hda,wordsV,List.getElem?_map,List.getElem?_set_self (by rw [qaq]; exact hq5)]; rfl
   have hqb:(b:Int)/16=(q:Int):=by omega
   have hrb:(b:Int)%16=(r:Int):=by omega
   have hDl:D≤32768:=by rw [hD]; exact Nat.pow_le_pow_right (n:=2) (by decide) (show r≤15 by omega)
   have dx:=hst.x.cell q;rw [List.getElem?_toArray,hc1] at dx;have fx:=hst.x.free q;have hd0l:d0+D≤65535:=by omega
   have HX:=zY hX;have HNEXT:=zY hnext;have HX80:=zY hX80;have HX1:=zY hX1;have HSET1:=zY hset1;have HSET2:=zY hset2;have HC2:=zY hc2;have HD:=zY hD;have HST:=zY hst;have HB:=zY hb;have HBN:=zY hbn;have hb0:(0:Int)≤(b:Int):=by omega
   clear hb hbn hX hXl hXd hnext hq hr hX80 hda hdl hX1 hd0 hD hset1 hset2 hc1 hc2 hst hlt hn;go_wp2_with fail
   go_loop [8,9] (fun v i=>∃ j e:Nat,j≤r∧i=.int .i64 j∧e=2^j∧v=.int .i64 e) (fun _ i=>r - (intOf i).toNat)
   case atStart=>exact ⟨0,1,by omega,rfl,rfl,rfl⟩
   case round =>
    obtain ⟨j,e,hj,rfl,he,rfl⟩:=hrel
    by_cases hjr:j<r
    ·have hjr':(j:Int)<(r:Int):=by omega
     have hel:e≤16384:=by rw [he]; exact Nat.pow_le_pow_right (n:=2) (by decide) (show j≤14 by omega)
     have HE:=zY he;clear he;go_wp2_with fail;exact ⟨⟨j+1,2*e,by omega,by go_num,by rw [HE.out,Nat.pow_succ,Nat.mul_comm],by go_num⟩,by simp [intOf]; omega⟩
    ·obtain rfl:j=r:=by omega
     obtain rfl:e=D:=by rw [he,HD.out]
     clear he;go_wp2_with fail;obtain ⟨w2,hw2⟩:∃ x,x=wr.setCell ⟨gx,q,none⟩ (.int .i64 ((d0:Int)+(e:Int))):=⟨_,rfl⟩
     have hst2:RtSt w gt gx TL X1 w2:=by
      rw [hw2];refine HST.out.put (qap _ _ _ _) ?_;have h:=qau (i:=q) HST.out.x (.int .i64 ((d0+e:Nat):Int));rw [HSET1.out] at h;exact h
     rw [← hw2];have hx2:=Rd.of_blk (B:=w2.heap.size) hst2.x hst2.x.lt;have hm:=mulA_any (digs 5 X1) (digs 5 X1) (digs_lt _ _) (digs_lt _ _) _ _ 5 5 _ _ w2 hx2 hx2 (qaq _ _) (qaq _ _) (Nat.le_refl _) (Nat.le_refl _) (Nat.le_refl _) (Nat.le_refl _);refine qaa hm ?_;rintro e1 w3 ⟨g1,rfl,hg1,hb1,hbel1⟩;rw [qaJ 5 X1 HX80.out] at hb1;have hst3:=hst2.next hbel1;clear hw2 hst2 hx2 hm hbel1 hg1 dx fx HSET1 HST;have HST3:=zY hst3;have HB1:=zY hb1;clear hst3 hb1;go_wp2_with fail;have hls:=less_any TL (digs 10 (X1*X1)) HTD.out (digs_lt _ _) (some ⟨gt,0,none⟩) (some ⟨g1,0,none⟩) 9 10 w3.heap.size w3.heap.size 9 10 w3 (Rd.of_blk HST3.out.t HST3.out.t.lt) (Rd.of_blk HB1.out HB1.out.lt) HTL.out (qaq _ _) (by decide) (by decide) (Nat.le_refl _) (Nat.le_refl _);refine qaa hls ?_;rintro e1 w4 ⟨rfl,rfl⟩;clear hls;have hpw:X1*X1<65536^10:=by have:=HX80.out; exact Nat.lt_of_lt_of_le (Nat.mul_lt_mul'' this this) (by decide)
     rw [HTV.out,qaJ _ _ hpw,show X1*X1=X1^2 by simp [Nat.pow_succ]];clear hpw;have dx2:=HST3.out.x.cell q;rw [List.getElem?_toArray,HC2.out] at dx2;have fx2:=HST3.out.x.free q
     by_cases hmo:p*65536^8<X1^2
     ·rw [decide_eq_true hmo]
      have hfin:RtSt w gt gx TL (rootX p 2 (n+1)) (w3.setCell ⟨gx,q,none⟩ (.int .i64 (d0:Int))):=by
       rw [HNEXT.out,if_pos hmo];refine HST3.out.put (qap _ _ _ _) ?_;have h:=qau (i:=q) HST3.out.x (.int .i64 (d0:Int));rw [HSET2.out] at h;exact h
      have HFIN:=zY hfin;clear hfin hmo;go_wp2_with fail;have:=HBN.out;exact ⟨⟨n+1,by omega,congrArg (Value.int .i64) (by omega),HFIN.out⟩,by simp [intOf]⟩
     ·rw [decide_eq_false hmo]
      have hfin:RtSt w gt gx TL (rootX p 2 (n+1)) w3:=by
       rw [HNEXT.out,if_neg hmo];exact HST3.out
      have HFIN:=zY hfin;clear hfin hmo;go_wp2_with fail;have:=HBN.out;exact ⟨⟨n+1,by omega,congrArg (Value.int .i64) (by omega),HFIN.out⟩,by simp [intOf]⟩
  ·obtain rfl:n=69:=by omega
   rw [show (68 - ((69:Nat):Int))=-1 from rfl];obtain ⟨X,hX⟩:=eX (rootX p 2 69);rw [← hX] at hst
   have hXl:X<65536^5:=by
    have:=qcz p 2 69 (Nat.le_refl _);rw [← hX] at this;have h3:(2:Nat)^69<65536^5:=by decide
    omega
   have hgd:∀ i,(digs 5 X).getD i 0=X/65536^i%65536:=fun i=>by rw [qa9 _ _ (digs_lt _ _),qaJ 5 X hXl]
   have hws:∀ i,i<5→(wordsV .i64 (digs 5 X))[i]?=some (.int .i64 ((X/65536^i%65536:Nat):Int)):=fun i hi=>by rw [qaB (by rw [qaq]; exact hi),hgd]
   obtain ⟨x0,h0⟩:=eX (X%65536);obtain ⟨x1,h1⟩:=eX (X/65536%65536);obtain ⟨x2,h2⟩:=eX (X/4294967296%65536);obtain ⟨x3,h3⟩:=eX (X/281474976710656%65536);have E0:Hid ((wordsV .i64 (digs 5 X))[0]?=some (.int .i64 (x0:Int))):=zY (by rw [hws 0 (by decide),h0] <;> simp);have E1:Hid ((wordsV .i64 (digs 5 X))[1]?=some (.int .i64 (x1:Int))):=zY (by rw [hws 1 (by decide),h1] <;> simp);have E2:Hid ((wordsV .i64 (digs 5 X))[2]?=some (.int .i64 (x2:Int))):=zY (by rw [hws 2 (by decide),h2]);have E3:Hid ((wordsV .i64 (digs 5 X))[3]?=some (.int .i64 (x3:Int))):=zY (by rw [hws 3 (by decide),h3])
   have hv:x0+x1*65536+x2*4294967296+x3*281474976710656=rootN p 2:=by
    rw [rootN,← hX,h0,h1,h2,h3];omega
   have l0:(x0:Int)<65536:=by omega
   have l1:(x1:Int)<65536:=by omega
   have l2:(x2:Int)<65536:=by omega
   have l3:(x3:Int)<65536:=by omega
   have HV:=zY hv;have HC0:=hst.drew;clear hX hXl hgd hws h0 h1 h2 h3 hv hst hlt hn;go_wp2_with fail;refine qaj (fun u=>RtSt w gt gx TL X u) (fun u=>RtSt w gt gx TL X u) [(0,some 67),(1,some 68),(2,some 69),(3,some 70),(4,some 71),(5,some 72),(6,some 73),(7,some 74),(8,some 75),(9,some 76),(10,some 77),(11,some 78),(12,some 79),(13,some 80),(14,some 81),(15,some 82),(16,some 83),(17,some 84),(18,some 85),(19,some 86),(20,some 87),(21,some 88),(22,some 4)] (by kernel_rfl) (by kernel_rfl) (by decide) (by kernel_rfl) (fun _=>rfl) HC0 ?_;apply yN_
   ·apply dP [];exact fun _=>rfl;rfl;rintro vals - w1 hC1 E hE;simp only [sP] at hE ⊢;go_wp2;exact .mk (hE _ hC1)
   apply yN_
   ·apply dP [(0,some 67)];exact fun _=>rfl;rfl;intro vals vq w1 hC1 E hE;simp only [sP,vq] at hE ⊢;clear vq;go_wp2;exact .mk (hE _ hC1)
   apply yN_
   ·apply dP [(1,some 68)];exact fun _=>rfl;rfl;intro vals vq w1 hC1 E hE;have d0:=hC1.x.cell 0;rw [List.getElem?_toArray,E0.out] at d0;simp only [sP,vq] at hE ⊢;clear vq;go_wp2;exact .mk (hE _ hC1)
   apply yN_
   ·apply dP [(2,some 69)];exact fun _=>rfl;rfl;intro vals vq w1 hC1 E hE;simp only [sP,vq] at hE ⊢;clear vq;go_wp2;exact .mk (hE _ hC1)
   apply yN_
   ·apply dP [];exact fun _=>rfl;rfl;intro vals vq w1 hC1 E hE;clear vq;simp only [sP] at hE ⊢;go_wp2;exact .mk (hE _ hC1)
   apply yN_
   ·apply dP [(4,some 71)];exact fun _=>rfl;rfl;intro vals vq w1 hC1 E hE;simp only [sP,vq] at hE ⊢;clear vq;go_wp2;exact .mk (hE _ hC1)
   apply yN_
   ·apply dP [(5,some 72)];exact fun _=>rfl;rfl;intro vals vq w1 hC1 E hE;have d0:=hC1.x.cell 1;rw [List.getElem?_toArray,E1.out] at d0;simp only [sP,vq] at hE ⊢;clear vq;go_wp2;exact .mk (hE _ hC1)
   apply yN_
   ·apply dP [(6,some 73)];exact fun _=>rfl;rfl;intro vals vq w1 hC1 E hE;simp only [sP,vq] at hE ⊢;clear vq;go_wp2;exact .mk (hE _ hC1)
   apply yN_
   ·apply dP [(7,some 74)];exact fun _=>rfl;rfl;intro vals vq w1 hC1 E hE;simp only [sP,vq] at hE ⊢;clear vq;go_wp2;exact .mk (hE _ hC1)
   apply yN_
   ·apply dP [(3,some 70),(8,some 75)];exact fun _=>rfl;rfl;intro vals vq w1 hC1 E hE;simp only [sP,vq] at hE ⊢;clear vq;go_wp2;exact .mk (hE _ hC1)
   apply yN_
   ·apply dP [];exact fun _=>rfl;rfl;intro vals vq w1 hC1 E hE;clear vq;simp only [sP] at hE ⊢;go_wp2;exact .mk (hE _ hC1)
   apply yN_
   ·apply dP [(10,some 77)];exact fun _=>rfl;rfl;intro vals vq w1 hC1 E hE;simp only [sP,vq] at hE ⊢;clear vq;go_wp2;exact .mk (hE _ hC1)
   apply yN_
   ·apply dP [(11,some 78)];exact fun _=>rfl;rfl;intro vals vq w1 hC1 E hE;have d0:=hC1.x.cell 2;rw [List.getElem?_toArray,E2.out] at d0;simp only [sP,vq] at hE ⊢;clear vq;go_wp2;exact .mk (hE _ hC1)
   apply yN_
   ·apply dP [(12,some 79)];exact fun _=>rfl;rfl;intro vals vq w1 hC1 E hE;simp only [sP,vq] at hE ⊢;clear vq;go_wp2;exact .mk (hE _ hC1)
   apply yN_
   ·apply dP [(13,some 80)];exact fun _=>rfl;rfl;intro vals vq w1 hC1 E hE;simp only [sP,vq] at hE ⊢;clear vq;go_wp2;exact .mk (hE _ hC1)
   apply yN_
   ·apply dP [(9,some 76),(14,some 81)];exact fun _=>rfl;rfl;intro vals vq w1 hC1 E hE;simp only [sP,vq] at hE ⊢;clear vq;go_wp2;exact .mk (hE _ hC1)
   apply yN_
   ·apply dP [];exact fun _=>rfl;rfl;intro vals vq w1 hC1 E hE;clear vq;simp only [sP] at hE ⊢;go_wp2;exact .mk (hE _ hC1)
   apply yN_
   ·apply dP [(16,some 83)];exact fun _=>rfl;rfl;intro vals vq w1 hC1 E hE;simp only [sP,vq] at hE ⊢;clear vq;go_wp2;exact .mk (hE _ hC1)
   apply yN_
   ·apply dP [(17,some 84)];exact fun _=>rfl;rfl;intro vals vq w1 hC1 E hE;have d0:=hC1.x.cell 3;rw [List.getElem?_toArray,E3.out] at d0;simp only [sP,vq] at hE ⊢;clear vq;go_wp2;exact .mk (hE _ hC1)
   apply yN_
   ·apply dP [(18,some 85)];exact fun _=>rfl;rfl;intro vals vq w1 hC1 E hE;simp only [sP,vq] at hE ⊢;clear vq;go_wp2;exact .mk (hE _ hC1)
   apply yN_
   ·apply dP [(19,some 86)];exact fun _=>rfl;rfl;intro vals vq w1 hC1 E hE;simp only [sP,vq] at hE ⊢;clear vq;go_wp2;exact .mk (hE _ hC1)
   apply yN_
   ·apply dP [(15,some 82),(20,some 87)];exact fun _=>rfl;rfl;intro vals vq w1 hC1 E hE;simp only [sP,vq] at hE ⊢;clear vq;go_wp2;exact .mk (hE _ hC1)
   apply yL_
   ·apply dP [(21,some 88),(0,some 67),(1,some 68),(2,some 69),(3,some 70),(4,some 71),(5,some 72),(6,some 73),(7,some 74),(8,some 75),(9,some 76),(10,some 77),(11,some 78),(12,some 79),(13,some 80),(14,some 81),(15,some 82),(16,some 83),(17,some 84),(18,some 85),(19,some 86),(20,some 87),(21,some 88)];exact fun _=>rfl;rfl;intro vals vq w1 hC1 E hE;simp only [sP,vq] at hE ⊢;clear vq;go_wp2;exact .mk (hE _ hC1)
   intro vals vq w1 hC1;simp only [sP,vq];clear vq;clear HC0;go_wp2_with fail;go_ret;exact ⟨qa3 (by rw [← HV.out]; omega),by rw [← HGT.out]; exact hC1.bel⟩
theorem root3_any (p:Nat) (w:World) (hp:p<65536):Calls Tryz.prog 80 #[.int .i64 p,.int .i64 3] w fun e w'=>e=.returned (.int .u64 (rootN p 3:Nat))∧Below w.heap.size w w':=by
 have hmkT:∀ u:World,(Instr.makeSlice 82 (.int .i64 13) (.int .i64 13)).run Tryz.prog u=.ok (.slice (some ⟨u.heap.size,0,none⟩) 13 13) (u.alloc (.cells (wordsV .i64 (digs 13 0)).toArray 3)):=fun _=>by kernel_rfl
 have hmk5:∀ u:World,(Instr.makeSlice 82 (.int .i64 5) (.int .i64 5)).run Tryz.prog u=.ok (.slice (some ⟨u.heap.size,0,none⟩) 5 5) (u.alloc (.cells (wordsV .i64 (digs 5 0)).toArray 3)):=fun _=>by kernel_rfl
 have hb0:=Blk.new w 3 (wordsV .i64 (digs 13 0)).toArray;have dT:(w.alloc (.cells (wordsV .i64 (digs 13 0)).toArray 3)).cell? ⟨w.heap.size,12,none⟩=some (.int .i64 0):=hb0.cell 12;have fT:=hb0.free 12;have hset:(wordsV .i64 (digs 13 0)).set 12 (.int .i64 (p:Int))=wordsV .i64 ((digs 13 0).set 12 p):=by simp [wordsV,List.map_set]
 obtain ⟨TL,hTL⟩:=eX ((digs 13 0).set 12 p);have hTd:∀ d ∈ TL,d<65536:=by rw [hTL]; exact qdr (digs_lt _ _) hp
 have hTv:dval TL=p*65536^12:=by
  have h:=qbH (digs 13 0) 12 p (by rw [qaq]; decide);rw [qa9 _ _ (digs_lt _ _),qaJ _ _ (by decide)] at h;rw [hTL]
  simpa using h
 have hTl:TL.length=13:=by rw [hTL,List.length_set,qaq]
 rw [← hTL] at hset;have HSET:=zY hset;have HTD:=zY hTd;have HTV:=zY hTv;have HTL:=zY hTl;clear hb0 hset hTL hTd hTv hTl;have hpl:(p:Int)<65536:=by omega
 clear hp;go_enter Tryz.func80,Tryz.ntmps80;go_wp2_with fail;rw [HSET.out];obtain ⟨gt,hgt⟩:=eX (w.heap.size);obtain ⟨gx,hgx⟩:=eX (w.heap.size+1)
 have hst0:RtSt w gt gx TL (rootX p 3 0) ((w.alloc (.cells (wordsV .i64 TL).toArray 3)).alloc (.cells (wordsV .i64 (digs 5 0)).toArray 3)):=by
  rw [hgt,hgx];exact ⟨(below_new _ _).alloc (by simp) _,(Blk.new _ _ _).alloc _,by have:=Blk.new (w.alloc (.cells (wordsV .i64 TL).toArray 3)) 3 (wordsV .i64 (digs 5 0)).toArray; exact (by simpa using this:Blk _ (w.heap.size+1) 3 (wordsV .i64 (digs 5 0)).toArray),by omega⟩
 rw [← hgx,← hgt];have HGT:=zY hgt;clear hgt hgx hmkT hmk5 dT fT
 go_loopw [7] (fun i wr=>∃ n:Nat,n≤69∧i=.int .i64 (68 - (n:Int))∧RtSt w gt gx TL (rootX p 3 n) wr) (fun i _=>(intOf i+1).toNat)
 case atStart=>exact ⟨0,by omega,rfl,hst0⟩
 case round =>
  obtain ⟨n,hn,rfl,hst⟩:=hrel;clear hst0
  by_cases hlt:n<69
  ·obtain ⟨b,hb⟩:∃ b:Nat,(68 - (n:Int))=(b:Int):=⟨68 - n,by omega⟩;rw [hb];have hbn:b+n=68:=by omega
   obtain ⟨X,hX⟩:=eX (rootX p 3 n);have hXl:=qcz p 3 n hn;have hXd:=qdx p 3 n hn
   have hnext:rootX p 3 (n+1)=if p*65536^12<(X+2^b)^3 then X else X+2^b:=by
    rw [rootX,← hX,show 68 - n=b by omega]
   rw [← hX] at hst hXl hXd;rw [show 69 - n=b+1 by omega] at hXl hXd;obtain ⟨q,hq⟩:=eX (b/16);obtain ⟨r,hr⟩:=eX (b%16);have hq5:q<5:=by omega
   have hr16:r<16:=by omega
   have hX80:X+2^b<65536^5:=by
    have h2:2^(b+1)=2*2^b:=by rw [Nat.pow_succ,Nat.mul_comm]
    have h3:(2:Nat)^69<65536^5:=by decide
    omega
   obtain ⟨hda,hdl⟩:=dig_add (n:=5) (bit:=b) (X:=X) (by omega) (by omega) hXd;rw [← hq,← hr] at hda hdl;obtain ⟨X1,hX1⟩:=eX (X+2^b);obtain ⟨d0,hd0⟩:=eX ((digs 5 X).getD q 0);obtain ⟨D,hD⟩:=eX (2^r);rw [← hX1,← hd0,← hD] at hda;rw [← hd0,← hD] at hdl;rw [← hX1] at hnext hX80;have hset1:(wordsV .i64 (digs 5 X)).toArray.setIfInBounds q (.int .i64 ((d0+D:Nat):Int))=(wordsV .i64 (digs 5 X1)).toArray:=by rw [qbc,hda]
   have hset2:(wordsV .i64 (digs 5 X1)).toArray.setIfInBounds q (.int .i64 (d0:Int))=(wordsV .i64 (digs 5 X)).toArray:=by
    rw [qbc,← hda,List.set_set,hd0]
    congr 2
    rw [List.getD_eq_getElem?_getD,List.getElem?_eq_getElem (by rw [qaq]; exact hq5),Option.getD_some,List.set_getElem_self]
   have hc1:(wordsV .i64 (digs 5 X))[q]?=some (.int .i64 (d0:Int)):=by rw [hd0]; exact qaB (by rw [qaq]; exact hq5)
   have hc2:(wordsV .i64 (digs 5 X1))[q]?=some (.int .i64 ((d0+D:Nat):Int)):=by
    rw [← hda,wordsV,List.getElem?_map,List.getElem?_set_self (by rw [qaq]; exact hq5)]; rfl
   have hqb:(b:Int)/16=(q:Int):=by omega
   have hrb:(b:Int)%16=(r:Int):=by omega
   have hDl:D≤32768:=by rw [hD]; exact Nat.pow_le_pow_right (n:=2) (by decide) (show r≤15 by omega)
   have dx:=hst.x.cell q;rw [List.getElem?_toArray,hc1] at dx;have fx:=hst.x.free q;have hd0l:d0+D≤65535:=by omega
   have HX:=zY hX;have HNEXT:=zY hnext;have HX80:=zY hX80;have HX1:=zY hX1;have HSET1:=zY hset1;have HSET2:=zY hset2;have HC2:=zY hc2;have HD:=zY hD;have HST:=zY hst;have HB:=zY hb;have HBN:=zY hbn;have hb0:(0:Int)≤(b:Int):=by omega
   clear hb hbn hX hXl hXd hnext hq hr hX80 hda hdl hX1 hd0 hD hset1 hset2 hc1 hc2 hst hlt hn;go_wp2_with fail
   go_loop [8,9] (fun v i=>∃ j e:Nat,j≤r∧i=.int .i64 j∧e=2^j∧v=.int .i64 e) (fun _ i=>r - (intOf i).toNat)
   case atStart=>exact ⟨0,1,by omega,rfl,rfl,rfl⟩
   case round =>
    obtain ⟨j,e,hj,rfl,he,rfl⟩:=hrel
    by_cases hjr:j<r
    ·have hjr':(j:Int)<(r:Int):=by omega
     have hel:e≤16384:=by rw [he]; exact Nat.pow_le_pow_right (n:=2) (by decide) (show j≤14 by omega)
     have HE:=zY he;clear he;go_wp2_with fail;exact ⟨⟨j+1,2*e,by omega,by go_num,by rw [HE.out,Nat.pow_succ,Nat.mul_comm],by go_num⟩,by simp [intOf]; omega⟩
    ·obtain rfl:j=r:=by omega
     obtain rfl:e=D:=by rw [he,HD.out]
     clear he;go_wp2_with fail;obtain ⟨w2,hw2⟩:∃ x,x=wr.setCell ⟨gx,q,none⟩ (.int .i64 ((d0:Int)+(e:Int))):=⟨_,rfl⟩
     have hst2:RtSt w gt gx TL X1 w2:=by
      rw [hw2];refine HST.out.put (qap _ _ _ _) ?_;have h:=qau (i:=q) HST.out.x (.int .i64 ((d0+e:Nat):Int));rw [HSET1.out] at h;exact h
     rw [← hw2];have hx2:=Rd.of_blk (B:=w2.heap.size) hst2.x hst2.x.lt;have hm:=mulA_any (digs 5 X1) (digs 5 X1) (digs_lt _ _) (digs_lt _ _) _ _ 5 5 _ _ w2 hx2 hx2 (qaq _ _) (qaq _ _) (Nat.le_refl _) (Nat.le_refl _) (Nat.le_refl _) (Nat.le_refl _);refine qaa hm ?_;rintro e1 w3 ⟨g1,rfl,hg1,hb1,hbel1⟩;rw [qaJ 5 X1 HX80.out] at hb1;have hst3:=hst2.next hbel1;clear hw2 hst2 hx2 hm hbel1 hg1 dx fx HSET1 HST;have HST3:=zY hst3;have HB1:=zY hb1;clear hst3 hb1;go_wp2_with fail;have hx3:=Rd.of_blk (B:=w3.heap.size) HST3.out.x HST3.out.x.lt;have hm:=mulB_any (digs 10 (X1*X1)) (digs 5 X1) (digs_lt _ _) (digs_lt _ _) _ _ 10 5 _ _ w3 (Rd.of_blk (B:=w3.heap.size) HB1.out HB1.out.lt) hx3 (qaq _ _) (qaq _ _) (Nat.le_refl _) (Nat.le_refl _) (Nat.le_refl _) (Nat.le_refl _);refine qaa hm ?_;rintro e1 w5 ⟨g3,rfl,hg3,hb3,hbel3⟩;rw [qaJ 5 X1 HX80.out,qaJ 10 (X1*X1) (by have:=HX80.out; exact Nat.lt_of_lt_of_le (Nat.mul_lt_mul'' this this) (by decide))] at hb3;have hst3:=HST3.out.next hbel3;clear HST3 HB1 hx3 hm hbel3 hg3;obtain ⟨w3,rfl⟩:=eX w5;obtain ⟨g1,rfl⟩:=eX g3;have hb1:=hb3;clear hb3;have HST3:=zY hst3;have HB1:=zY hb1;clear hst3 hb1;go_wp2_with fail;have hls:=less_any TL (digs 15 (X1*X1*X1)) HTD.out (digs_lt _ _) (some ⟨gt,0,none⟩) (some ⟨g1,0,none⟩) 13 15 w3.heap.size w3.heap.size 13 15 w3 (Rd.of_blk HST3.out.t HST3.out.t.lt) (Rd.of_blk HB1.out HB1.out.lt) HTL.out (qaq _ _) (by decide) (by decide) (Nat.le_refl _) (Nat.le_refl _);refine qaa hls ?_;rintro e1 w4 ⟨rfl,rfl⟩;clear hls;have hpw:X1*X1*X1<65536^15:=by have:=HX80.out; exact Nat.lt_of_lt_of_le (Nat.mul_lt_mul'' (Nat.mul_lt_mul'' this this) this) (by decide)
     rw [HTV.out,qaJ _ _ hpw,show X1*X1*X1=X1^3 by simp [Nat.pow_succ]];clear hpw;have dx2:=HST3.out.x.cell q;rw [List.getElem?_toArray,HC2.out] at dx2;have fx2:=HST3.out.x.free q
     by_cases hmo:p*65536^12<X1^3
     ·rw [decide_eq_true hmo]
      have hfin:RtSt w gt gx TL (rootX p 3 (n+1)) (w3.setCell ⟨gx,q,none⟩ (.int .i64 (d0:Int))):=by
       rw [HNEXT.out,if_pos hmo];refine HST3.out.put (qap _ _ _ _) ?_;have h:=qau (i:=q) HST3.out.x (.int .i64 (d0:Int));rw [HSET2.out] at h;exact h
      have HFIN:=zY hfin;clear hfin hmo;go_wp2_with fail;have:=HBN.out;exact ⟨⟨n+1,by omega,congrArg (Value.int .i64) (by omega),HFIN.out⟩,by simp [intOf]⟩
     ·rw [decide_eq_false hmo]
      have hfin:RtSt w gt gx TL (rootX p 3 (n+1)) w3:=by
       rw [HNEXT.out,if_neg hmo];exact HST3.out
      have HFIN:=zY hfin;clear hfin hmo;go_wp2_with fail;have:=HBN.out;exact ⟨⟨n+1,by omega,congrArg (Value.int .i64) (by omega),HFIN.out⟩,by simp [intOf]⟩
  ·obtain rfl:n=69:=by omega
   rw [show (68 - ((69:Nat):Int))=-1 from rfl];obtain ⟨X,hX⟩:=eX (rootX p 3 69);rw [← hX] at hst
   have hXl:X<65536^5:=by
    have:=qcz p 3 69 (Nat.le_refl _);rw [← hX] at this;have h3:(2:Nat)^69<65536^5:=by decide
    omega
   have hgd:∀ i,(digs 5 X).getD i 0=X/65536^i%65536:=fun i=>by rw [qa9 _ _ (digs_lt _ _),qaJ 5 X hXl]
   have hws:∀ i,i<5→(wordsV .i64 (digs 5 X))[i]?=some (.int .i64 ((X/65536^i%65536:Nat):Int)):=fun i hi=>by rw [qaB (by rw [qaq]; exact hi),hgd]
   obtain ⟨x0,h0⟩:=eX (X%65536);obtain ⟨x1,h1⟩:=eX (X/65536%65536);obtain ⟨x2,h2⟩:=eX (X/4294967296%65536);obtain ⟨x3,h3⟩:=eX (X/281474976710656%65536);have E0:Hid ((wordsV .i64 (digs 5 X))[0]?=some (.int .i64 (x0:Int))):=zY (by rw [hws 0 (by decide),h0] <;> simp);have E1:Hid ((wordsV .i64 (digs 5 X))[1]?=some (.int .i64 (x1:Int))):=zY (by rw [hws 1 (by decide),h1] <;> simp);have E2:Hid ((wordsV .i64 (digs 5 X))[2]?=some (.int .i64 (x2:Int))):=zY (by rw [hws 2 (by decide),h2]);have E3:Hid ((wordsV .i64 (digs 5 X))[3]?=some (.int .i64 (x3:Int))):=zY (by rw [hws 3 (by decide),h3])
   have hv:x0+x1*65536+x2*4294967296+x3*281474976710656=rootN p 3:=by
    rw [rootN,← hX,h0,h1,h2,h3];omega
   have l0:(x0:Int)<65536:=by omega
   have l1:(x1:Int)<65536:=by omega
   have l2:(x2:Int)<65536:=by omega
   have l3:(x3:Int)<65536:=by omega
   have HV:=zY hv;have HC0:=hst.drew;clear hX hXl hgd hws h0 h1 h2 h3 hv hst hlt hn;go_wp2_with fail;refine qaj (fun u=>RtSt w gt gx TL X u) (fun u=>RtSt w gt gx TL X u) [(0,some 67),(1,some 68),(2,some 69),(3,some 70),(4,some 71),(5,some 72),(6,some 73),(7,some 74),(8,some 75),(9,some 76),(10,some 77),(11,some 78),(12,some 79),(13,some 80),(14,some 81),(15,some 82),(16,some 83),(17,some 84),(18,some 85),(19,some 86),(20,some 87),(21,some 88),(22,some 4)] (by kernel_rfl) (by kernel_rfl) (by decide) (by kernel_rfl) (fun _=>rfl) HC0 ?_;apply yN_
   ·apply dP [];exact fun _=>rfl;rfl;rintro vals - w1 hC1 E hE;simp only [sP] at hE ⊢;go_wp2;exact .mk (hE _ hC1)
   apply yN_
   ·apply dP [(0,some 67)];exact fun _=>rfl;rfl;intro vals vq w1 hC1 E hE;simp only [sP,vq] at hE ⊢;clear vq;go_wp2;exact .mk (hE _ hC1)
   apply yN_
   ·apply dP [(1,some 68)];exact fun _=>rfl;rfl;intro vals vq w1 hC1 E hE;have d0:=hC1.x.cell 0;rw [List.getElem?_toArray,E0.out] at d0;simp only [sP,vq] at hE ⊢;clear vq;go_wp2;exact .mk (hE _ hC1)
   apply yN_
   ·apply dP [(2,some 69)];exact fun _=>rfl;rfl;intro vals vq w1 hC1 E hE;simp only [sP,vq] at hE ⊢;clear vq;go_wp2;exact .mk (hE _ hC1)
   apply yN_
   ·apply dP [];exact fun _=>rfl;rfl;intro vals vq w1 hC1 E hE;clear vq;simp only [sP] at hE ⊢;go_wp2;exact .mk (hE _ hC1)
   apply yN_
   ·apply dP [(4,some 71)];exact fun _=>rfl;rfl;intro vals vq w1 hC1 E hE;simp only [sP,vq] at hE ⊢;clear vq;go_wp2;exact .mk (hE _ hC1)
   apply yN_
   ·apply dP [(5,some 72)];exact fun _=>rfl;rfl;intro vals vq w1 hC1 E hE;have d0:=hC1.x.cell 1;rw [List.getElem?_toArray,E1.out] at d0;simp only [sP,vq] at hE ⊢;clear vq;go_wp2;exact .mk (hE _ hC1)
   apply yN_
   ·apply dP [(6,some 73)];exact fun _=>rfl;rfl;intro vals vq w1 hC1 E hE;simp only [sP,vq] at hE ⊢;clear vq;go_wp2;exact .mk (hE _ hC1)
   apply yN_
   ·apply dP [(7,some 74)];exact fun _=>rfl;rfl;intro vals vq w1 hC1 E hE;simp only [sP,vq] at hE ⊢;clear vq;go_wp2;exact .mk (hE _ hC1)
   apply yN_
   ·apply dP [(3,some 70),(8,some 75)];exact fun _=>rfl;rfl;intro vals vq w1 hC1 E hE;simp only [sP,vq] at hE ⊢;clear vq;go_wp2;exact .mk (hE _ hC1)
   apply yN_
   ·apply dP [];exact fun _=>rfl;rfl;intro vals vq w1 hC1 E hE;clear vq;simp only [sP] at hE ⊢;go_wp2;exact .mk (hE _ hC1)
   apply yN_
   ·apply dP [(10,some 77)];exact fun _=>rfl;rfl;intro vals vq w1 hC1 E hE;simp only [sP,vq] at hE ⊢;clear vq;go_wp2;exact .mk (hE _ hC1)
   apply yN_
   ·apply dP [(11,some 78)];exact fun _=>rfl;rfl;intro vals vq w1 hC1 E hE;have d0:=hC1.x.cell 2;rw [List.getElem?_toArray,E2.out] at d0;simp only [sP,vq] at hE ⊢;clear vq;go_wp2;exact .mk (hE _ hC1)
   apply yN_
   ·apply dP [(12,some 79)];exact fun _=>rfl;rfl;intro vals vq w1 hC1 E hE;simp only [sP,vq] at hE ⊢;clear vq;go_wp2;exact .mk (hE _ hC1)
   apply yN_
   ·apply dP [(13,some 80)];exact fun _=>rfl;rfl;intro vals vq w1 hC1 E hE;simp only [sP,vq] at hE ⊢;clear vq;go_wp2;exact .mk (hE _ hC1)
   apply yN_
   ·apply dP [(9,some 76),(14,some 81)];exact fun _=>rfl;rfl;intro vals vq w1 hC1 E hE;simp only [sP,vq] at hE ⊢;clear vq;go_wp2;exact .mk (hE _ hC1)
   apply yN_
   ·apply dP [];exact fun _=>rfl;rfl;intro vals vq w1 hC1 E hE;clear vq;simp only [sP] at hE ⊢;go_wp2;exact .mk (hE _ hC1)
   apply yN_
   ·apply dP [(16,some 83)];exact fun _=>rfl;rfl;intro vals vq w1 hC1 E hE;simp only [sP,vq] at hE ⊢;clear vq;go_wp2;exact .mk (hE _ hC1)
   apply yN_
   ·apply dP [(17,some 84)];exact fun _=>rfl;rfl;intro vals vq w1 hC1 E hE;have d0:=hC1.x.cell 3;rw [List.getElem?_toArray,E3.out] at d0;simp only [sP,vq] at hE ⊢;clear vq;go_wp2;exact .mk (hE _ hC1)
   apply yN_
   ·apply dP [(18,some 85)];exact fun _=>rfl;rfl;intro vals vq w1 hC1 E hE;simp only [sP,vq] at hE ⊢;clear vq;go_wp2;exact .mk (hE _ hC1)
   apply yN_
   ·apply dP [(19,some 86)];exact fun _=>rfl;rfl;intro vals vq w1 hC1 E hE;simp only [sP,vq] at hE ⊢;clear vq;go_wp2;exact .mk (hE _ hC1)
   apply yN_
   ·apply dP [(15,some 82),(20,some 87)];exact fun _=>rfl;rfl;intro vals vq w1 hC1 E hE;simp only [sP,vq] at hE ⊢;clear vq;go_wp2;exact .mk (hE _ hC1)
   apply yL_
   ·apply dP [(21,some 88),(0,some 67),(1,some 68),(2,some 69),(3,some 70),(4,some 71),(5,some 72),(6,some 73),(7,some 74),(8,some 75),(9,some 76),(10,some 77),(11,some 78),(12,some 79),(13,some 80),(14,some 81),(15,some 82),(16,some 83),(17,some 84),(18,some 85),(19,some 86),(20,some 87),(21,some 88)];exact fun _=>rfl;rfl;intro vals vq w1 hC1 E hE;simp only [sP,vq] at hE ⊢;clear vq;go_wp2;exact .mk (hE _ hC1)
   intro vals vq w1 hC1;simp only [sP,vq];clear vq;clear HC0;go_wp2_with fail;go_ret;exact ⟨qa3 (by rw [← HV.out]; omega),by rw [← HGT.out]; exact hC1.bel⟩
theorem qcR {w:World} {B1 B2 n1 n2 s1 s2:Nat} {e1 e2:TypeId} {v1 v2:Value} {x1 x2:List Value} (h1:OwnX w B1 e1 s1 v1 n1 x1) (h2:OwnX w B2 e2 s2 v2 n2 x2) (hne:e1≠e2):v1.ownBlock=none∨v1.ownBlock≠v2.ownBlock:=by
 rcases h1.2 with ⟨rfl,_⟩ | ⟨g,cap,cur,fz,rfl,_,hg,_⟩
 ·exact .inl rfl
 ·refine .inr fun e=>?_;have e2':v2.ownBlock=some g:=e.symm
  rcases h2.2 with ⟨rfl,_⟩ | ⟨g',cap',cur',fz',rfl,_,hg',_⟩
  ·simp [Value.ownBlock] at e2'
  ·simp [Value.ownBlock] at e2';subst e2';rw [hg] at hg';simp at hg';exact hne hg'.2.1
theorem slu_size:(Tryz.prog.info? 91).map (·.size)=some 1:=by kernel_rfl
structure OfG where
 g0:Nat
 gh:Nat
 ga:Nat
 gb:Nat
 gc:Nat
 gd:Nat
structure OfSt (w0:World) (G:OfG) (F:ShaF) (z:Array Value) (vP:Value) (cs:Array Value) (vK:Value) (kl:List Nat) (vF:Value) (fl:List Nat) (u:World):Prop where
 bel:Below G.g0 w0 u
 res:Blk u G.g0 93 z
 h:Blk u G.gh 93 cs
 a:Blk u G.ga 3 (tri F.s0).toArray
 b:Blk u G.gb 3 (tri F.s1).toArray
 c:Blk u G.gc 3 (tri F.t0).toArray
 d:Blk u G.gd 3 (tri F.t1).toArray
 p:OwnX u G.g0 3 1 vP 80 (wordsV .i64 primes80)
 k:OwnX u G.g0 118 1 vK kl.length (wordsV .u64 kl)
 f:OwnX u G.g0 118 1 vF fl.length (wordsV .u64 fl)
 ne:vF.ownBlock=none∨vF.ownBlock≠vK.ownBlock
 lt:G.g0<G.gh
section
variable {w0 u u':World} {G:OfG} {F:ShaF} {z cs cs':Array Value} {vP vK vF v':Value} {kl fl:List Nat}
theorem OfSt.next (h:OfSt w0 G F z vP cs vK kl vF fl u) (hb:Below u.heap.size u u'):OfSt w0 G F z vP cs vK kl vF fl u' :=
 ⟨h.bel.trans (hb.mono (by have:=h.res.lt; omega)),h.res.below hb h.res.lt,h.h.below hb h.h.lt,h.a.below hb h.a.lt,h.b.below hb h.b.lt,h.c.below hb h.c.lt,h.d.below hb h.d.lt,
  h.p.below hb (Nat.le_refl _),h.k.below hb (Nat.le_refl _),h.f.below hb (Nat.le_refl _),h.ne,h.lt⟩
theorem OfSt.drew (h:OfSt w0 G F z vP cs vK kl vF fl u):OfSt w0 G F z vP cs vK kl vF fl u.drew:=h.next (Below.refl _ _).drew
theorem OfSt.put (h:OfSt w0 G F z vP cs vK kl vF fl u) (hw:Wrote G.gh u u') (hb:Blk u' G.gh 93 cs') (hd:G.ga≠G.gh∧G.gb≠G.gh∧G.gc≠G.gh∧G.gd≠G.gh):OfSt w0 G F z vP cs' vK kl vF fl u' :=
 ⟨hw.below h.bel (Nat.le_of_lt h.lt) (by have:=h.res.lt; omega),hw.blk h.res (Nat.ne_of_lt h.lt),hb,hw.blk h.a hd.1,hw.blk h.b hd.2.1,hw.blk h.c hd.2.2.1,hw.blk h.d hd.2.2.2,
  hw.own h.p (qax h.p h.h (by decide)),hw.own h.k (qax h.k h.h (by decide)),hw.own h.f (qax h.f h.h (by decide)),h.ne,h.lt⟩
theorem qbq {g:Nat} {o:Option Nat} (h:o≠some g):some g≠o:=fun e=>h e.symm
theorem OfSt.appK {x:Nat} (h:OfSt w0 G F z vP cs vK kl vF fl u) (ho:OwnX u' G.g0 118 1 v' (kl.length+1) (wordsV .u64 kl++[.int .u64 (x:Int)])) (hg:u.grownBy u' vK.ownBlock) (hn:vF.ownBlock=none):OfSt w0 G F z vP cs v' (kl++[x]) vF fl u' :=
 ⟨h.bel.grown hg (by have:=h.res.lt; omega) (fun k hk=>(h.k.lt k hk).1),h.res.grown hg (qbq (qax h.k h.res (by decide))),h.h.grown hg (qbq (qax h.k h.h (by decide))),h.a.grown hg (qbq (qax h.k h.a (by decide))),h.b.grown hg (qbq (qax h.k h.b (by decide))),
  h.c.grown hg (qbq (qax h.k h.c (by decide))),h.d.grown hg (qbq (qax h.k h.d (by decide))),h.p.kept hg (qcR h.p h.k (by decide)),by rw [List.length_append,qbi]; exact ho,h.f.kept hg (.inl hn),.inl hn,h.lt⟩
theorem OfSt.appF {x:Nat} (h:OfSt w0 G F z vP cs vK kl vF fl u) (ho:OwnX u' G.g0 118 1 v' (fl.length+1) (wordsV .u64 fl++[.int .u64 (x:Int)])) (hg:u.grownBy u' vF.ownBlock) (hn:Next u vF v'):OfSt w0 G F z vP cs vK kl v' (fl++[x]) u':=by
 refine ⟨h.bel.grown hg (by have:=h.res.lt; omega) (fun k hk=>(h.f.lt k hk).1),h.res.grown hg (qbq (qax h.f h.res (by decide))),h.h.grown hg (qbq (qax h.f h.h (by decide))),h.a.grown hg (qbq (qax h.f h.a (by decide))),h.b.grown hg (qbq (qax h.f h.b (by decide))),
  h.c.grown hg (qbq (qax h.f h.c (by decide))),h.d.grown hg (qbq (qax h.f h.d (by decide))),h.p.kept hg (qcR h.p h.f (by decide)),h.k.kept hg ?_,by rw [List.length_append,qbi]; exact ho,?_,h.lt⟩
 ·rcases h.ne with h1 | h1
  ·rw [h1]
   cases vK.ownBlock with
   | none=>exact .inl rfl
   | some k=>exact .inr (by simp)
  ·exact .inr (Ne.symm h1)
 ·rcases hn with h1 | h1
  ·rw [h1]; exact h.ne
  ·cases ho2:v'.ownBlock with
   | none=>exact .inl rfl
   | some k =>
    have h2:=h1 k ho2;refine .inr fun e=>?_;have:=(h.k.lt k e.symm).2;omega
end
def OfPost (F:ShaF) (w:World) (e:Ending) (w':World):Prop :=
 ∃ p:HP,e=.returned (.agg (hv F p))∧HOk F p w' w'.heap.size∧Below w.heap.size w w'
theorem prime_lt (i:Nat) (h:i<80):primes80.getD i 0<65536:=by
 have hm:primes80.getD i 0 ∈ primes80:=by
  rw [List.getD_eq_getElem?_getD,List.getElem?_eq_getElem (show i<primes80.length from h)]; exact List.getElem_mem _
 have:=(List.all_eq_true.1 primes_lt) _ hm;rw [decide_eq_true_eq] at this;exact this.2
structure HsSt (w0:World) (gf:Nat) (F:ShaF) (p:HP) (dA:Option Addr) (data:List UInt8) (u:World):Prop where
 bel:Below gf w0 u
 h:Blk u gf 93 (hv F p)
 ok:HOk F p u gf
 rd:Rd u gf dA (bytesV data)
structure HsA (w0:World) (gf:Nat) (F:ShaF) (p:HP) (dA:Option Addr) (data:List UInt8) (v:Value) (xs:List UInt8) (u:World):Prop where
 st:HsSt w0 gf F p dA data u
 own:OwnX u (gf+1) 5 1 v xs.length (bytesV xs)
structure HsB (w0:World) (gf:Nat) (F:ShaF) (p:HP) (dA:Option Addr) (data:List UInt8) (v:Value) (xs:List UInt8) (A:Option Addr) (c:Nat) (V:S8) (u:World):Prop where
 a:HsA w0 gf F p dA data v xs u
 s:OwnX u (gf+1) 118 1 (.slice A 8 c) 8 (wordsV .u64 (s8L V))
section
variable {w0 u u':World} {gf:Nat} {F:ShaF} {p:HP} {dA A A':Option Addr} {data xs ys:List UInt8} {v v':Value} {c c':Nat} {V V':S8}
theorem HsSt.keep (h:HsSt w0 gf F p dA data u) (hb:Below (gf+1) u u'):HsSt w0 gf F p dA data u' :=
 ⟨h.bel.trans (hb.mono (by omega)),h.h.below hb (by omega),h.ok.below (hb.mono (by omega)),h.rd.below (hb.mono (by omega))⟩
theorem HsSt.next (h:HsSt w0 gf F p dA data u) (hb:Below u.heap.size u u'):HsSt w0 gf F p dA data u':=h.keep (hb.mono (by have:=h.h.lt; omega))
theorem HsSt.grow {e:TypeId} {s n:Nat} {v:Value} {zs:List Value} (h:HsSt w0 gf F p dA data u) (ho:OwnX u (gf+1) e s v n zs) (hg:u.grownBy u' v.ownBlock):HsSt w0 gf F p dA data u' :=
 h.keep (qbo hg (by have:=h.h.lt; omega) (fun k hk=>(ho.lt k hk).1))
theorem HsA.next (h:HsA w0 gf F p dA data v xs u) (hb:Below u.heap.size u u'):HsA w0 gf F p dA data v xs u':=⟨h.st.next hb,h.own.below hb (Nat.le_refl _)⟩
theorem HsA.drew (h:HsA w0 gf F p dA data v xs u):HsA w0 gf F p dA data v xs u.drew:=h.next (Below.refl _ _).drew
theorem HsA.app (h:HsA w0 gf F p dA data v xs u) (hg:u.grownBy u' v.ownBlock) (ho:OwnX u' (gf+1) 5 1 v' ys.length (bytesV ys)):HsA w0 gf F p dA data v' ys u':=⟨h.st.grow h.own hg,ho⟩
theorem HsB.next (h:HsB w0 gf F p dA data v xs A c V u) (hb:Below u.heap.size u u'):HsB w0 gf F p dA data v xs A c V u':=⟨h.a.next hb,h.s.below hb (Nat.le_refl _)⟩
theorem HsB.drew (h:HsB w0 gf F p dA data v xs A c V u):HsB w0 gf F p dA data v xs A c V u.drew:=h.next (Below.refl _ _).drew
theorem HsB.app (h:HsB w0 gf F p dA data v xs A c V u) (hg:u.grownBy u' v.ownBlock) (ho:OwnX u' (gf+1) 5 1 v' ys.length (bytesV ys)):HsB w0 gf F p dA data v' ys A c V u' :=
 ⟨h.a.app hg ho,h.s.kept hg (qcR h.s h.a.own (by decide))⟩
end
def zeroR (F:ShaF) (n:Nat):Nat:=(2*F.bits - (n+1+F.bits/4)%(2*F.bits))%(2*F.bits)
def lenB (F:ShaF) (n:Nat):List UInt8:=List.replicate (F.bits/4 - 8) 0++be8 (n*8) 8
theorem padR32 (data:List UInt8) (_:data.length≤1000):oneZ data (zeroR F32 data.length)++lenB F32 data.length=padS F32 data:=by
 have h:zeroR F32 data.length=zeroN F32 data.length:=by simp only [zeroR,zeroN,F32]; omega
 simp [padS,lenB,oneZ,moreN,F32] at *;rw [h]
theorem be8_get (n:Nat):∀ (k i:Nat),i<k→(be8 n k)[i]?=some (UInt8.ofNat (n/2^(56 - 8*i)))
 | k+1,i,h=>by
  rw [be8,List.getElem?_append,qbm]
  split
  ·rename_i h2; exact be8_get n k i h2
  ·obtain rfl:i=k:=by omega
   simp
theorem lenB32_get (n i j:Nat) (h:i+j+1=8):(bytesV (lenB F32 n))[i]?=some (.int .u8 ((n*8/256^j%256:Nat):Int)):=by
 have e:lenB F32 n=be8 (n*8) 8:=rfl;rw [e,bytesV,List.getElem?_map,be8_get _ _ _ (by omega),show 56 - 8*i=8*j by omega,Nat.pow_mul];simp [byteV]
theorem backC_set_app (e:Nat) (ws:List UInt8) (j i:Nat) (v:Value) (R:Array Value) (hw:ws.length=e) (hi:i+j+1=e) (hv:(bytesV ws)[i]?=some v):(backC e ws j++R).setIfInBounds i v=backC e ws (j+1)++R:=by
 rw [← qd3 e ws j i v hw hi hv];apply Array.ext';rw [Array.toList_setIfInBounds,Array.toList_append,Array.toList_append,Array.toList_setIfInBounds,List.set_append_left];rw [Array.length_toList,qck e ws j hw (by omega)]; omega
theorem backC_app_get (e:Nat) (ws:List UInt8) (j i:Nat) (R:Array Value) (hw:ws.length=e) (hi:i+j+1=e):∃ v,(backC e ws j++R)[i]?=some v:=by
 have h:=qck e ws j hw (by omega);refine ⟨_,Array.getElem?_eq_getElem (by rw [Array.size_append,h]; omega)⟩
theorem own_blk {w:World} {base e n c:Nat} {A:Option Addr} {xs:List Value} (h:w.ownsRow base e 1 (.slice A n c) n xs) (hn:0<n):∃ g R,A=some ⟨g,0,none⟩∧base≤g∧n≤c∧Blk w g e (xs.toArray++R):=by
 rcases h.2 with ⟨_,h0⟩ | ⟨g,cap,cur,hv,hb,hg,hnc,_,_,ht⟩
 ·omega
 ·injection hv with h1 _ h3
  subst h1; subst h3;refine ⟨g,(cur.toList.drop n).toArray,rfl,hb,hnc,?_⟩
  have:xs.toArray++(cur.toList.drop n).toArray=cur:=by
   apply Array.ext';rw [Array.toList_append,← ht,Nat.mul_one];simp
  rw [this]; exact hg
theorem _root_.Go.Proofs.YtlkikjeccamheaaGreatDoor.Rd.of_blk_app {w:World} {g B:Nat} {t:TypeId} {l:List Value} {R:Array Value} (h:Blk w g t (l.toArray++R)) (hB:g<B):Rd w B (some ⟨g,0,none⟩) l:=fun i u hu=>by
 refine ⟨_,rfl,hB,?_⟩;have hadd:(⟨g,0,none⟩:Addr).add i=⟨g,i,none⟩:=by unfold Addr.add; split <;> simp_all
 have hlt:=(List.getElem?_eq_some_iff.1 hu).1;rw [hadd,h.cell i,Array.getElem?_append_left (by simpa using hlt)]
 simpa using hu
def HSumPost (F:ShaF) (m:Nat) (data:List UInt8) (w:World) (e:Ending) (w':World):Prop :=
 ∃ A c,e=.returned (.slice A m c)∧OwnX w' w.heap.size 5 1 (.slice A m c) m (bytesV (digS F data))∧Below w.heap.size w w'
end Go.Proofs.YtlkikjeccamheaaGreatDoor.Sh
