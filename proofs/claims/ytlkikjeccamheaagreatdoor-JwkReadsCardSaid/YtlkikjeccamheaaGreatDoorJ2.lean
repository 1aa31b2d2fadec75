/-
  Joined texts: Rj4 Rj2n Jst Jnq Js4 Rj5 Js8 Js9 Js10 Jod Js11 Js12 Owr Js13 Js14 Rj6 Js15 Js16 Rj7 Rj1n.
-/
import Derived.Test.YtlkikjeccamheaaGreatDoorProg
import Derived.Lib.OthersKept
import Derived.Lib.DecodeN
import Derived.Lib.Strings
import Derived.Shelf.Abstract
import Derived.Lib.RuneCount
import Derived.Deep.LoopGhost
import Derived.Deep.QuietTactic
import Derived.BigQuiet
import Derived.Maps.AppendAt
import Derived.Defers
import Derived.Test.YtlkikjeccamheaaGreatDoorJ1
namespace Go.Proofs.YtlkikjeccamheaaGreatDoor.Js
set_option linter.unusedSimpArgs false
set_option linter.unusedVariables false
set_option maxRecDepth 100000
set_option maxHeartbeats 4000000
open Go.RowKit
def TxR (X:Option (Bs × Bs)) (s:ByteArray) (b:Nat) (acc:Bs):Prop:=∃ n,(s.data.toList.drop b).length<n∧strA n acc (s.data.toList.drop b)=X
theorem dropc {s:ByteArray} {b:Nat} (h:b<s.size):s.data.toList.drop b=s[b] :: s.data.toList.drop (b+1):=List.drop_eq_getElem_cons (show b<s.data.toList.length from h)
section
variable {X:Option (Bs × Bs)} {s:ByteArray} {b:Nat} {acc:Bs}
theorem TxR.off (h:TxR X s b acc) (hb:¬ b<s.size):X=none:=by
 obtain ⟨n,h1,h2⟩:=h;rw [← h2];exact strA_bad (by rw [qcF hb]; decide)
theorem TxR.bad (h:TxR X s b acc) (hb:b<s.size) (hc:s[b]<32∨126<s[b]):X=none:=by
 obtain ⟨n,h1,h2⟩:=h;rw [← h2];exact strA_bad (by rw [qdJ hb]; exact hc)
theorem TxR.fin (h:TxR X s b acc) (hb:b<s.size) (hc:s[b]=34):X=some (acc,s.data.toList.drop (b+1)):=by
 obtain ⟨n,h1,h2⟩:=h;obtain ⟨m,rfl⟩:∃ m,n=m+1:=⟨n - 1,by omega⟩;rw [← h2,dropc hb,hc];exact strA_end
theorem TxR.one (h:TxR X s b acc) (hb:b<s.size) (h1:¬ (s[b]<32∨126<s[b])) (h2:s[b]≠34) (h3:s[b]≠92):TxR X s (b+1) (acc++[s[b]]):=by
 obtain ⟨n,hn,hX⟩:=h;obtain ⟨m,rfl⟩:∃ m,n=m+1:=⟨n - 1,by omega⟩;rw [dropc hb] at hn hX;rw [strA_one h1 h2 h3] at hX;exact ⟨m,by simpa using hn,hX⟩
theorem TxR.esc (h:TxR X s b acc) (hb:b<s.size) (hc:s[b]=92) {x:UInt8} {d:Nat} (hd:d≤s.size) (he:escP (s.data.toList.drop (b+1))=some (x,s.data.toList.drop d)):TxR X s d (acc++[x]):=by
 obtain ⟨n,hn,hX⟩:=h;obtain ⟨m,rfl⟩:∃ m,n=m+1:=⟨n - 1,by omega⟩;rw [dropc hb] at hn hX;rw [hc,strA_esc,he] at hX;have h5:=qdh he;refine ⟨m,?_,hX⟩;simp at hn h5 ⊢;omega
theorem TxR.noesc (h:TxR X s b acc) (hb:b<s.size) (hc:s[b]=92) (he:escP (s.data.toList.drop (b+1))=none):X=none:=by
 obtain ⟨n,hn,hX⟩:=h;obtain ⟨m,rfl⟩:∃ m,n=m+1:=⟨n - 1,by omega⟩;rw [dropc hb] at hX;rw [hc,strA_esc,he] at hX;exact hX.symm
end
def frL:Bs:=[34,92,47,98,102,110,114,116]
def toL:Bs:=[34,92,47,8,12,10,13,9]
theorem esc_frL:∀ i:Fin 8,esc (frL[i.1]'i.2)=some (toL[i.1]'i.2):=by decide
theorem frL_apart:∀ i j:Fin 8,frL[i.1]'i.2=frL[j.1]'j.2→i=j:=by decide
theorem esc_no (k:UInt8) (h:∀ j (hj:j<8),frL[j]'hj≠k):esc k=none:=by
 have key:∀ x:Fin 256,esc (UInt8.ofNat x.1)=none∨∃ j:Fin 8,frL[j.1]'j.2=UInt8.ofNat x.1:=by decide +kernel
 have hk:=key ⟨k.toNat,k.toNat_lt⟩;simp only [UInt8.ofNat_toNat] at hk
 rcases hk with h1 | ⟨j,hj⟩
 ·exact h1
 ·exact absurd hj (h j.1 j.2)
def EscK (k:UInt8) (acc:Bs) (i:Nat) (acc':Bs) (f:Bool):Prop :=
 (f=false∧acc'=acc∧∀ j (hj:j<8),j<i→frL[j]'hj≠k)∨(f=true∧∃ v,acc'=acc++[v]∧esc k=some v∧∀ j (hj:j<8),i≤j→frL[j]'hj≠k)
theorem EscK.zero (k:UInt8) (acc:Bs):EscK k acc 0 acc false:=.inl ⟨rfl,rfl,fun j _ h=>absurd h (Nat.not_lt_zero _)⟩
theorem EscK.no {k:UInt8} {acc acc':Bs} {i:Nat} {f:Bool} (h:EscK k acc i acc' f) (hi:i<8) (hn:frL[i]'hi≠k):EscK k acc (i+1) acc' f:=by
 rcases h with ⟨h1,h2,h3⟩ | ⟨h1,v,h2,h3,h4⟩
 ·refine .inl ⟨h1,h2,fun j hj hji=>?_⟩
  by_cases e:j=i
  ·subst e; exact hn
  ·exact h3 j hj (by omega)
 ·exact .inr ⟨h1,v,h2,h3,fun j hj hji=>h4 j hj (by omega)⟩
theorem EscK.yes {k:UInt8} {acc acc':Bs} {i:Nat} {f:Bool} (h:EscK k acc i acc' f) (hi:i<8) (hn:frL[i]'hi=k):acc'=acc∧EscK k acc (i+1) (acc'++[toL[i]'hi]) true:=by
 rcases h with ⟨h1,h2,h3⟩ | ⟨h1,v,h2,h3,h4⟩
 ·subst h2;refine ⟨rfl,.inr ⟨rfl,_,rfl,by rw [← hn]; exact esc_frL ⟨i,hi⟩,fun j hj hji e=>?_⟩⟩;have:=frL_apart ⟨j,hj⟩ ⟨i,hi⟩ (e.trans hn.symm)
  injection this with this
  omega
 ·exact absurd hn (h4 i hi (Nat.le_refl _))
theorem EscK.none {k:UInt8} {acc acc':Bs} (h:EscK k acc 8 acc' false):acc'=acc∧esc k=none:=by
 rcases h with ⟨h1,h2,h3⟩ | ⟨h1,_⟩
 ·exact ⟨h2,esc_no k fun j hj=>h3 j hj hj⟩
 ·cases h1
theorem EscK.some {k:UInt8} {acc acc':Bs} (h:EscK k acc 8 acc' true):∃ v,acc'=acc++[v]∧esc k=some v:=by
 rcases h with ⟨h1,_⟩ | ⟨h1,v,h2,h3,h4⟩
 ·cases h1
 ·exact ⟨v,h2,h3⟩
theorem EscK.len {k:UInt8} {acc acc':Bs} {i:Nat} {f:Bool} (h:EscK k acc i acc' f):acc'.length≤acc.length+1:=by
 rcases h with ⟨h1,h2,h3⟩ | ⟨h1,v,h2,h3,h4⟩
 ·rw [h2]; omega
 ·rw [h2,List.length_append]; simp
def TxtPost (X:Option (Bs × Bs)) (s:ByteArray) (r a:Nat) (w:World) (x:Ending) (w':World):Prop :=
 x=.returned (.string (bs (textS X)))∧∃ (a':Nat) (e':Int),a'≤s.size∧(∀ t r',X=some (t,r')→a<a'∧s.data.toList.drop a'=r'∧e'=0)∧(X=none→e'≠0)∧RQ w' r s a' e'∧RG r w w'
theorem TxtPost.none {X:Option (Bs × Bs)} {s:ByteArray} {r a b:Nat} {w w':World} (h:X=none) (hb:b≤s.size) (hq:RQ w' r s b 13) (hg:RG r w w'):TxtPost X s r a w (.returned (.string ⟨#[]⟩)) w':=by
 subst h;unfold TxtPost;exact ⟨rfl,b,13,hb,(fun _ _ h=>nomatch h),fun _=>by decide,hq,hg⟩
theorem TxtPost.some {X:Option (Bs × Bs)} {s:ByteArray} {r a b:Nat} {w w':World} {acc R:Bs} (h:X=some (acc,R)) (hR:s.data.toList.drop b=R) (hab:a<b) (hb:b≤s.size) (hq:RQ w' r s b 0) (hg:RG r w w'):TxtPost X s r a w (.returned (.string (bs acc))) w':=by
 subst h;unfold TxtPost;refine ⟨rfl,b,0,hb,(fun t r' h=>?_),(fun h=>nomatch h),hq,hg⟩
 injection h with h
 injection h with h1 h2
 exact ⟨hab,hR.trans h2,rfl⟩
structure TQ (w:World) (r:Nat) (s:ByteArray) (b:Nat) (acc:Bs) (A:Option Addr) (c:Nat) (u:World):Prop where
 q:RQ u r s b 0
 g:RG r w u
 o:OwnX u w.heap.size 5 1 (.slice A acc.length c) acc.length (bytesV acc)
section
variable {w:World} {r:Nat} {s:ByteArray} {b:Nat} {acc:Bs} {A:Option Addr} {c:Nat} {u u':World}
theorem TQ.drew (h:TQ w r s b acc A c u):TQ w r s b acc A c u.drew:=⟨h.q,qbv h.g,h.o⟩
theorem TQ.put (h:TQ w r s b acc A c u) (hr:r<w.heap.size) {b':Nat} (hq:RQ u' r s b' 0) (hw:RG r u u'):TQ w r s b' acc A c u' :=
 ⟨hq,h.g.trans hw,h.o.kept hw (.inr (by intro e; have:=(h.o.lt r e).1; omega))⟩
theorem TQ.app (h:TQ w r s b acc A c u) (hr:r<w.heap.size) {x:UInt8} {z:Int} (hz:z=((x.toNat:Nat):Int)) {A':Option Addr} {c':Nat} (ho:OwnX u' w.heap.size 5 1 (.slice A' (acc.length+1) c') (acc.length+1) (bytesV acc++[Value.int .u8 z])) (hg:u.grownBy u' (Value.slice A acc.length c).ownBlock):TQ w r s b (acc++[x]) A' c' u':=by
 refine ⟨(hg.block r (Blk.lt h.q) (by intro e; have:=(h.o.lt r e.symm).1; omega)).trans h.q,h.g.andThen hg (fun j hj=>.inl (h.o.lt j hj).1),?_⟩;rw [qaD,List.length_append,show bytesV [x]=[Value.int .u8 z] by rw [hz]; rfl];exact ho
end
set_option maxHeartbeats 8000000 in
theorem rtext_any (s:ByteArray) (hs:(s.size:Int)≤1000000) (r a:Nat) (ha:a≤s.size) (w:World) (h:RQ w r s a 0) (X:Option (Bs × Bs)) (hX:TxR X s a []) :
  Calls Tryz.prog 76 #[.pointer (some ⟨r,0,none⟩)] w (TxtPost X s r a w):=by
 have H:=zY h;have HRL:=zY (show r<w.heap.size from Blk.lt h);have HX:=zY hX;have HT0:=zY (show TQ w r s a [] none 0 w from ⟨h,RG.refl r w,OwnX.nil _ _ _ _⟩);have HBD:=zY (fun (b:Nat) (u:World) (h:RQ u r s b 0)=>show Calls Tryz.prog 49 #[.pointer (some ⟨r,0,none⟩),.int .i64 13] u fun x w'=>x=.returned (.tuple #[])∧RQ w' r s b 13∧RG r u w' from qdb 13 s r b 0 u h)
 have HHX:=zY (fun (c:UInt8) (u:World)=>show Calls Tryz.prog 106 #[.int .u8 ((c.toNat:Nat):Int)] u fun e w'=>e=.returned (.int .i64 (hexI c))∧w'=u by
  have h:=rhexz_any ((c.toNat:Nat):Int) (by omega) (by have:=c.toNat_lt; omega) u;rw [hexZ_eq] at h;exact h)
 clear h hX;go_enter Tryz.func76,Tryz.ntmps76;obtain ⟨e0,e1,e2⟩:=H.out.cells;go_wp2_with fail;clear e0 e1 e2
 go_loopw [3] (fun x wr=>∃ (b:Nat) (acc:Bs) (A1:Option Addr) (c1:Nat),x=.slice A1 acc.length c1∧a≤b∧b≤s.size∧acc.length≤b∧TxR X s b acc∧TQ w r s b acc A1 c1 wr) (fun _ wr=>s.size - atI wr r)
 case atStart=>exact ⟨a,[],none,0,rfl,Nat.le_refl _,ha,Nat.zero_le _,HX.out,HT0.out⟩
 case round =>
  obtain ⟨b,acc,A1,c1,rfl,hab,hbs,hacc,htx,htq⟩:=hrel;have HTX:=zY htx;have HTQ:=zY htq;have HAT:=zY htq.q.atI;obtain ⟨e0,e1,e2⟩:=htq.q.cells;clear htx htq
  by_cases hl:b<s.size
  ·have hl':¬ (s.size:Int)≤(b:Int):=by omega
   have hl2:(b:Int)<(s.size:Int):=by omega
   have hl3:¬ s.size≤b:=by omega
   obtain ⟨c,hc⟩:=eX (s[b]);obtain ⟨zc,hz⟩:∃ zc:Int,zc=((c.toNat:Nat):Int):=⟨_,rfl⟩;have hx:((s[b].toNat:Nat):Int)=zc:=by rw [hz,hc]
   have HC:=zY hc;have HZ:=zY hz;have HHL:=zY hl
   by_cases hbad:c<32∨126<c
   ·have HXN:=zY (show X=none from HTX.out.bad hl (by rw [← hc]; exact hbad))
    have hzz:zc<32∨(¬ zc<32∧126<zc):=by
     rw [UInt8.lt_iff_toNat_lt,UInt8.lt_iff_toNat_lt] at hbad;rw [show (32:UInt8).toNat=32 from rfl,show (126:UInt8).toNat=126 from rfl] at hbad;omega
    clear hc hz hbad
    rcases hzz with hzz | ⟨hz0,hzz⟩
    ·go_wp2_with fail;have HC0:TQ w r s (b) acc A1 c1 wr.drew:=HTQ.out.drew;refine qam (fun u=>TQ w r s (b) acc A1 c1 u) (by kernel_rfl) (by kernel_rfl) HC0 ?_
     iterate 34
      first
      | (apply SeqL.no; rfl; rfl; rfl; (simp only [sP]; rfl))
      | ((first | (apply SeqL.next; rfl; rfl) | (apply SeqL.yes; rfl; rfl; rfl; rfl)); (simp only [sP]; rfl); (intro w1 hC1 E hE; obtain ⟨d0,d1,d2⟩:=hC1.q.cells; go_wp2; exact .mk (hE _ hC1)))
     refine SeqL.nil ?_;intro w1 hC1;clear HC0;have HC:=zY hC1;clear hC1;go_wp2_with fail;refine qaa (HBD.out (b) _ HC.out.q) ?_;rintro y w6 ⟨rfl,hb6,hg6⟩;have HQ6:=zY hb6;have HG6:=zY (HC.out.g.trans hg6);clear hb6 hg6;go_wp2_with fail;go_ret;exact TxtPost.none HXN.out (hbs) HQ6.out HG6.out
    ·have hzd:decide (zc<32)=false:=by simpa using hz0
     go_wp2_with fail;have HC0:TQ w r s (b) acc A1 c1 wr.drew:=HTQ.out.drew;refine qam (fun u=>TQ w r s (b) acc A1 c1 u) (by kernel_rfl) (by kernel_rfl) HC0 ?_
     iterate 34
      first
      | (apply SeqL.no; rfl; rfl; rfl; (simp only [sP]; rfl))
      | ((first | (apply SeqL.next; rfl; rfl) | (apply SeqL.yes; rfl; rfl; rfl; rfl)); (simp only [sP]; rfl); (intro w1 hC1 E hE; obtain ⟨d0,d1,d2⟩:=hC1.q.cells; go_wp2; exact .mk (hE _ hC1)))
     refine SeqL.nil ?_;intro w1 hC1;clear HC0;have HC:=zY hC1;clear hC1;go_wp2_with fail;refine qaa (HBD.out (b) _ HC.out.q) ?_;rintro y w6 ⟨rfl,hb6,hg6⟩;have HQ6:=zY hb6;have HG6:=zY (HC.out.g.trans hg6);clear hb6 hg6;go_wp2_with fail;go_ret;exact TxtPost.none HXN.out (hbs) HQ6.out HG6.out
   ·obtain ⟨hz1,hz2⟩:¬ zc<32∧¬ 126<zc:=by
     rw [UInt8.lt_iff_toNat_lt,UInt8.lt_iff_toNat_lt] at hbad;rw [show (32:UInt8).toNat=32 from rfl,show (126:UInt8).toNat=126 from rfl] at hbad;omega
    have HBAD:=zY hbad;have hzd:decide (zc<32)=false:=by simpa using hz1
    have hze:decide (126<zc)=false:=by simpa using hz2
    clear hc hz hbad;go_wp2_with fail;have HC0:TQ w r s (b) acc A1 c1 wr.drew:=HTQ.out.drew;refine qam (fun u=>TQ w r s (b) acc A1 c1 u) (by kernel_rfl) (by kernel_rfl) HC0 ?_
    iterate 34
     first
     | (apply SeqL.no; rfl; rfl; rfl; (simp only [sP]; rfl))
     | ((first | (apply SeqL.next; rfl; rfl) | (apply SeqL.yes; rfl; rfl; rfl; rfl)); (simp only [sP]; rfl); (intro w1 hC1 E hE; obtain ⟨d0,d1,d2⟩:=hC1.q.cells; go_wp2; exact .mk (hE _ hC1)))
    refine SeqL.nil ?_;intro w1 hC1;clear HC0;have HTQ3:=zY hC1;clear hC1;go_wp2_with fail;have HC0:TQ w r s (b) acc A1 c1 w1.drew:=HTQ3.out.drew;refine qam (fun u=>TQ w r s (b) acc A1 c1 u) (by kernel_rfl) (by kernel_rfl) HC0 ?_
    iterate 10
     ((first | (apply SeqL.next; rfl; rfl)); (simp only [sP]; rfl); (intro w1 hC1 E hE; obtain ⟨d0,d1,d2⟩:=hC1.q.cells; go_wp2; exact .mk (hE _ hC1)))
    refine SeqL.nil ?_;intro w1 hC1;clear HC0;have HTQ5:=zY hC1;clear hC1 e0 e1 e2;obtain ⟨e0,e1,e2⟩:=HTQ5.out.q.cells
    go_upto_region 7 with (refine qaf (x:=.tmp 68) (i:=1) HTQ5.out.q rfl rfl rfl rfl (by kernel_rfl) (by simp [rqCells]) rfl ?_; intro w5 hb5 hw5)
    have HTQ6:=zY (HTQ5.out.put HRL.out (show RQ w5 r s (b+1) 0 from hb5) (.wrote hw5));clear hb5 hw5 e0 e1 e2
    by_cases h34:c=34
    ·have HXS:=zY (show X=some (acc,s.data.toList.drop (b+1)) from HTX.out.fin hl (by rw [← HC.out]; exact h34));have hzv:zc=34:=by rw [HZ.out,h34]; rfl
     have hrw:=Rd.of_own HTQ6.out.o (Nat.le_refl _);have hrun:=qbJ (P:=Tryz.prog) Tryz.underlying40 Tryz.underlying5 Tryz.underlying9 hrw c1;subst hzv;clear h34 hrw;go_wp2_with fail;go_ret;exact TxtPost.some HXS.out rfl (by omega) (by omega) HTQ6.out.q HTQ6.out.g
    ·have hz34:(zc == 34)=false:=qb9 (k:=34) HZ.out h34
     by_cases h92:c=92
     ·have hzv:zc=92:=by rw [HZ.out,h92]; rfl
      have HC92:=zY (fun (h:b<s.size)=>show s[b]'h=92 from HC.out.symm.trans h92);clear HC;obtain ⟨b1,hb1⟩:=eX (b+1);have HTQ7:=zY (show TQ w r s b1 acc A1 c1 w5 by rw [hb1]; exact HTQ6.out);have HB1:=zY hb1;subst hzv;clear h34 h92 hz34 hx hl hl' hl2 hl3 hz1 hz2 hzd hze
      by_cases hl1:b1<s.size
      case neg =>
       have HXN:=zY (show X=none from HTX.out.noesc HHL.out (HC92.out _) (by rw [← HB1.out,List.drop_eq_nil_of_le (show s.data.toList.length≤b1 from Nat.le_of_not_lt hl1)]; rfl));have hl':(s.size:Int)≤(b1:Int):=by omega
       have hl3:s.size≤b1:=by omega
       have hbl:b1≤s.size:=by have:=HHL.out; omega
       clear hb1;go_wp2_with fail;have HC0:TQ w r s (b1) acc A1 c1 w5.drew:=HTQ7.out.drew;refine qam (fun u=>TQ w r s (b1) acc A1 c1 u) (by kernel_rfl) (by kernel_rfl) HC0 ?_
       iterate 10
        ((first | (apply SeqL.next; rfl; rfl)); (simp only [sP]; rfl); (intro w1 hC1 E hE; obtain ⟨d0,d1,d2⟩:=hC1.q.cells; go_wp2; exact .mk (hE _ hC1)))
       refine SeqL.nil ?_;intro w1 hC1;clear HC0;have HC:=zY hC1;clear hC1;go_wp2_with fail;refine qaa (HBD.out (b1) _ HC.out.q) ?_;rintro y w6 ⟨rfl,hb6,hg6⟩;have HQ6:=zY hb6;have HG6:=zY (HC.out.g.trans hg6);clear hb6 hg6;go_wp2_with fail;go_ret;exact TxtPost.none HXN.out (hbl) HQ6.out HG6.out
      have hl':¬ (s.size:Int)≤(b1:Int):=by omega
      have hl2:(b1:Int)<(s.size:Int):=by omega
      have hl3:¬ s.size≤b1:=by omega
      obtain ⟨k,hk⟩:=eX (s[b1]);obtain ⟨zk,hzk⟩:∃ zk:Int,zk=((k.toNat:Nat):Int):=⟨_,rfl⟩;have hx:((s[b1].toNat:Nat):Int)=zk:=by rw [hzk,hk]
      have HK:=zY hk;have HZK:=zY hzk;have HL1:=zY hl1;clear hb1 hk hzk;go_wp2_with fail;have HC0:TQ w r s (b1) acc A1 c1 w5.drew:=HTQ7.out.drew;refine qam (fun u=>TQ w r s (b1) acc A1 c1 u) (by kernel_rfl) (by kernel_rfl) HC0 ?_
      iterate 10
       ((first | (apply SeqL.next; rfl; rfl)); (simp only [sP]; rfl); (intro w1 hC1 E hE; obtain ⟨d0,d1,d2⟩:=hC1.q.cells; go_wp2; exact .mk (hE _ hC1)))
      refine SeqL.nil ?_;intro w1 hC1;clear HC0;have HTQ8:=zY hC1;clear hC1;go_wp2_with fail;have HC0:TQ w r s (b1) acc A1 c1 w1.drew:=HTQ8.out.drew;refine qam (fun u=>TQ w r s (b1) acc A1 c1 u) (by kernel_rfl) (by kernel_rfl) HC0 ?_
      iterate 10
       ((first | (apply SeqL.next; rfl; rfl)); (simp only [sP]; rfl); (intro w1 hC1 E hE; obtain ⟨d0,d1,d2⟩:=hC1.q.cells; go_wp2; exact .mk (hE _ hC1)))
      refine SeqL.nil ?_;intro w1 hC1;clear HC0;have HTQ9:=zY hC1;clear hC1;obtain ⟨e0,e1,e2⟩:=HTQ9.out.q.cells
      go_upto_region 19 with (refine qaf (x:=.tmp 106) (i:=1) HTQ9.out.q rfl rfl rfl rfl (by kernel_rfl) (by simp [rqCells]) rfl ?_; intro w9 hb9 hw9)
      have HTQA:=zY (HTQ9.out.put HRL.out (show RQ w9 r s (b1+1) 0 from hb9) (.wrote hw9));clear hb9 hw9 e0 e1 e2;obtain ⟨b2,hb2⟩:=eX (b1+1);have HTQB:=zY (show TQ w r s b2 acc A1 c1 w9 by rw [hb2]; exact HTQA.out);have HB2:=zY hb2;have HDR:=zY (show s.data.toList.drop (b+1)=k :: s.data.toList.drop b2 by rw [← HB1.out,hb2,HK.out]; exact dropc hl1);obtain ⟨F,hF⟩:∃ F:ByteArray,F=⟨#[34,92,47,98,102,110,114,116]⟩:=⟨_,rfl⟩;obtain ⟨T,hT⟩:∃ T:ByteArray,T=⟨#[34,92,47,8,12,10,13,9]⟩:=⟨_,rfl⟩;rw [← hF,← hT];have HF8:=zY (show F.size=8 by rw [hF]; rfl);have HT8:=zY (show T.size=8 by rw [hT]; rfl);have HFx:=zY (fun (j:Nat) (h:j<8)=>show F[j]'(by rw [HF8.out]; exact h)=frL[j]'h by subst hF; rfl);have HTx:=zY (fun (j:Nat) (h:j<8)=>show T[j]'(by rw [HT8.out]; exact h)=toL[j]'h by subst hT; rfl);clear hb2 hF hT hx hl' hl2 hl3 HTQ HTQ3 HTQ5 HTQ6 HTQ7 HTQ8 HTQ9 HTQA
      go_loopw [3,8,9] (fun x f i wr=>∃ (j:Nat) (acc':Bs) (A2:Option Addr) (c2:Nat) (fb:Bool),x=.slice A2 acc'.length c2∧f=.bool fb∧i=.int .i64 (j:Int)∧j≤8∧EscK k acc j acc' fb∧TQ w r s b2 acc' A2 c2 wr) (fun _ _ i _=>8 - (intOf i).toNat)
      case atStart=>exact ⟨0,acc,A1,c1,false,rfl,rfl,rfl,by omega,EscK.zero _ _,HTQB.out⟩
      case round =>
       obtain ⟨j,acc',A2,c2,fb,rfl,rfl,rfl,hj8,hek,htq⟩:=hrel;have HEK:=zY hek;have HTQC:=zY htq;clear hek htq
       by_cases hj:j<8
       ·have hjl:j<F.size:=by rw [HF8.out]; exact hj
        have hjl2:(j:Int)<(F.size:Int):=by omega
        have hjt:j<T.size:=by rw [HT8.out]; exact hj
        have hjt2:(j:Int)<(T.size:Int):=by omega
        have HJ:=zY hj
        by_cases hm:frL[j]'hj=k
        ·have hx1:((F[j].toNat:Nat):Int)=zk:=by rw [HZK.out,HFx.out j hj,hm]
         obtain ⟨z2,hz2⟩:∃ z2:Int,z2=(((toL[j]'hj).toNat:Nat):Int):=⟨_,rfl⟩;have hx2:((T[j].toNat:Nat):Int)=z2:=by rw [hz2,HTx.out j hj]
         have HZ2:=zY hz2;obtain ⟨hae,hek2⟩:=HEK.out.yes hj hm;have HEK2:=zY hek2;have hla:acc'.length=acc.length:=by rw [hae]
         have hbb:=HHL.out;have hsz:=HTQC.out.g.size;clear hm hz2 hek2 hae;go_wp2_with (refine qak sl_u8 rfl rfl HTQC.out.o rfl rfl rfl rfl (by unfold maxLen; omega) (by omega) hsz ?_; intro A3 cp3 w7 ho7 hg7 hn7);have HTQD:=zY (HTQC.out.app HRL.out HZ2.out ho7 hg7);clear ho7 hg7 hn7;go_wp2_with fail
         go_roundw
         case measure=>simp [intOf]; omega
         case rel=>exact ⟨j+1,acc'++[toL[j]'hj],A3,cp3,true,by rw [List.length_append,hla]; rfl,rfl,rfl,by omega,HEK2.out,HTQD.out⟩
        ·obtain ⟨z1,hz1⟩:∃ z1:Int,z1=(((frL[j]'hj).toNat:Nat):Int):=⟨_,rfl⟩;have hx1:((F[j].toNat:Nat):Int)=z1:=by rw [hz1,HFx.out j hj]
         have hzn:(z1 == zk)=false:=by rw [HZK.out]; exact qb9 hz1 hm
         have HEK2:=zY (HEK.out.no hj hm);clear hm hz1;go_wp2_with fail
         go_roundw
         case measure=>simp [intOf]; omega
         case rel=>exact ⟨j+1,acc',A2,c2,fb,rfl,rfl,rfl,by omega,HEK2.out,HTQC.out⟩
       ·have hjl:¬ j<F.size:=by rw [HF8.out]; exact hj
        have hjl2:¬ (j:Int)<(F.size:Int):=by omega
        have HEK8:=zY (show EscK k acc 8 acc' fb by have h:=HEK.out; rw [show j=8 by omega] at h; exact h);clear hj hj8 HEK HFx HTx
        cases fb with
        | true =>
         obtain ⟨v,rfl,hes⟩:=HEK8.out.some;have HT1:=zY (show TxR X s b2 (acc++[v]) from HTX.out.esc HHL.out (HC92.out _) (by have:=HB2.out; have:=HL1.out; omega) (by rw [HDR.out]; exact escP_esc (L:=k :: s.data.toList.drop b2) hes));clear hes;go_wp2_with fail
         go_roundw
         case measure=>rw [HTQC.out.q.atI,HAT.out]; have:=HB2.out; have:=HB1.out; have:=HHL.out; omega
         case rel=>exact ⟨b2,acc++[v],A2,c2,rfl,by have:=HB2.out; have:=HB1.out; omega,by have:=HB2.out; have:=HL1.out; omega,by rw [List.length_append]; simp; have:=HB2.out; have:=HB1.out; omega,HT1.out,HTQC.out⟩
        | false =>
         obtain ⟨rfl,hes⟩:=HEK8.out.none;have hbl:b2≤s.size:=by have:=HB2.out; have:=HL1.out; omega
         have HES:=zY hes;clear hes
         by_cases h117:k=117
         case neg =>
          have HXN:=zY (show X=none from HTX.out.noesc HHL.out (HC92.out _) (by rw [HDR.out]; exact qcW (L:=k :: s.data.toList.drop b2) rfl HES.out (fun h=>h117 h.1)));have hzn:(zk == 117)=false:=qb9 (k:=117) HZK.out h117;have hzn2:(zk != 117)=true:=by rw [bne,hzn]; rfl
          clear h117;go_wp2_with fail;have HC0:TQ w r s (b2) acc' A2 c2 wr.drew:=HTQC.out.drew;refine qam (fun u=>TQ w r s (b2) acc' A2 c2 u) (by kernel_rfl) (by kernel_rfl) HC0 ?_
          iterate 32
           first
           | (apply SeqL.no; rfl; rfl; rfl; (simp only [sP]; rfl))
           | ((first | (apply SeqL.next; rfl; rfl) | (apply SeqL.yes; rfl; rfl; rfl; rfl)); (simp only [sP]; rfl); (intro w1 hC1 E hE; obtain ⟨d0,d1,d2⟩:=hC1.q.cells; go_wp2; exact .mk (hE _ hC1)))
          refine SeqL.nil ?_;intro w1 hC1;clear HC0;have HC:=zY hC1;clear hC1;go_wp2_with fail;refine qaa (HBD.out (b2) _ HC.out.q) ?_;rintro y w6 ⟨rfl,hb6,hg6⟩;have HQ6:=zY hb6;have HG6:=zY (HC.out.g.trans hg6);clear hb6 hg6;go_wp2_with fail;go_ret;exact TxtPost.none HXN.out (hbl) HQ6.out HG6.out
         have hzv:zk=117:=by rw [HZK.out,h117]; rfl
         have H117:=zY h117
         by_cases h4:b2+4≤s.size
         case neg =>
          have HXN:=zY (show X=none from HTX.out.noesc HHL.out (HC92.out _) (by
           rw [HDR.out];refine qcW (L:=k :: s.data.toList.drop b2) rfl HES.out (fun h=>?_);have h1:=h.2.1;have h5:s.data.toList.length=s.size:=rfl;simp at h1
           omega))
          have h4a:(s.size:Int)<(b2:Int)+4:=by omega
          have h4b:s.size<b2+4:=by omega
          subst hzv;clear h117;go_wp2_with fail;have HC0:TQ w r s (b2) acc' A2 c2 wr.drew:=HTQC.out.drew;refine qam (fun u=>TQ w r s (b2) acc' A2 c2 u) (by kernel_rfl) (by kernel_rfl) HC0 ?_
          iterate 32
           first
           | (apply SeqL.no; rfl; rfl; rfl; (simp only [sP]; rfl))
           | ((first | (apply SeqL.next; rfl; rfl) | (apply SeqL.yes; rfl; rfl; rfl; rfl)); (simp only [sP]; rfl); (intro w1 hC1 E hE; obtain ⟨d0,d1,d2⟩:=hC1.q.cells; go_wp2; exact .mk (hE _ hC1)))
          refine SeqL.nil ?_;intro w1 hC1;clear HC0;have HC:=zY hC1;clear hC1;go_wp2_with fail;refine qaa (HBD.out (b2) _ HC.out.q) ?_;rintro y w6 ⟨rfl,hb6,hg6⟩;have HQ6:=zY hb6;have HG6:=zY (HC.out.g.trans hg6);clear hb6 hg6;go_wp2_with fail;go_ret;exact TxtPost.none HXN.out (hbl) HQ6.out HG6.out
         have h4a:¬ (s.size:Int)<(b2:Int)+4:=by omega
         have h4b:¬ s.size<b2+4:=by omega
         have h4c:(b2:Int)+2≤(s.size:Int):=by omega
         have h4d:decide ((s.size:Int)<(b2:Int)+4)=false:=by simpa using h4a
         have h4e:decide (s.size<b2+4)=false:=by simpa using h4b
         subst hzv;clear h117
         have hsl:∀ u:World,(Instr.slice 9 (.string s) (some (.int .i64 (b2:Int))) (some (.int .i64 ((b2:Int)+2))) none).run Tryz.prog u=.ok (.string (s.extract b2 (b2+2))) u:=fun u=>by
          have h:=run_slice_string (P:=Tryz.prog) u 9 s .i64 .i64 (b2:Int) ((b2:Int)+2) Tryz.underlying9 (by omega) (by omega) (by omega);rw [show ((b2:Int)+2).toNat=b2+2 by omega,Int.toNat_natCast] at h;exact h
         obtain ⟨E,hE⟩:=eX (s.extract b2 (b2+2));rw [← hE] at hsl;have HEX:=zY hE;clear hE;have HZ0:E.toList=[48,48]∨¬ E.toList=[48,48]:=Classical.em _
         rcases HZ0 with hz0 | hz0
         case inr =>
          have hqq:(E.toList == [48,48])=false:=by simpa using hz0
          have HXN:=zY (show X=none from HTX.out.noesc HHL.out (HC92.out _) (by
           rw [HDR.out];refine qcW (L:=k :: s.data.toList.drop b2) rfl HES.out (fun h=>hz0 ?_);have h1:=h.2.2;rw [List.tail_cons,List.take_take] at h1;rw [HEX.out,qb7 (by omega)];exact h1))
          go_wp2_with fail;have HC0:TQ w r s (b2) acc' A2 c2 wr.drew:=HTQC.out.drew;refine qam (fun u=>TQ w r s (b2) acc' A2 c2 u) (by kernel_rfl) (by kernel_rfl) HC0 ?_
          iterate 32
           first
           | (apply SeqL.no; rfl; rfl; rfl; (simp only [sP]; rfl))
           | ((first | (apply SeqL.next; rfl; rfl) | (apply SeqL.yes; rfl; rfl; rfl; rfl)); (simp only [sP]; rfl); (intro w1 hC1 E hE; obtain ⟨d0,d1,d2⟩:=hC1.q.cells; go_wp2; exact .mk (hE _ hC1)))
          refine SeqL.nil ?_;intro w1 hC1;clear HC0;have HC:=zY hC1;clear hC1;go_wp2_with fail;refine qaa (HBD.out (b2) _ HC.out.q) ?_;rintro y w6 ⟨rfl,hb6,hg6⟩;have HQ6:=zY hb6;have HG6:=zY (HC.out.g.trans hg6);clear hb6 hg6;go_wp2_with fail;go_ret;exact TxtPost.none HXN.out (hbl) HQ6.out HG6.out
         have hqq:(E.toList == [48,48])=true:=by simpa using hz0
         go_wp2_with fail;have HC0:TQ w r s (b2) acc' A2 c2 wr.drew:=HTQC.out.drew;refine qam (fun u=>TQ w r s (b2) acc' A2 c2 u) (by kernel_rfl) (by kernel_rfl) HC0 ?_
         iterate 32
          first
          | (apply SeqL.no; rfl; rfl; rfl; (simp only [sP]; rfl))
          | ((first | (apply SeqL.next; rfl; rfl) | (apply SeqL.yes; rfl; rfl; rfl; rfl)); (simp only [sP]; rfl); (intro w1 hC1 E hE; obtain ⟨d0,d1,d2⟩:=hC1.q.cells; go_wp2; exact .mk (hE _ hC1)))
         refine SeqL.nil ?_;intro w1 hC1;clear HC0;have HTQE:=zY hC1;clear hC1 hsl h4a h4b h4d h4e;obtain ⟨b3,hb3⟩:=eX (b2+2);obtain ⟨b4,hb4⟩:=eX (b2+3);have hl3:b3<s.size:=by omega
         have hl4:b4<s.size:=by omega
         have hl3i:(b3:Int)<(s.size:Int):=by omega
         have hl4i:(b4:Int)<(s.size:Int):=by omega
         have D4:s.data.toList.drop b2=s[b2] :: s[b2+1] :: s[b3] :: s[b4] :: s.data.toList.drop (b2+4):=by
          subst hb3 hb4;rw [dropc (b:=b2) (by omega),dropc (b:=b2+1) (by omega),dropc (b:=b2+1+1) (by omega),dropc (b:=b2+1+1+1) (by omega)]
         have h01:s[b2]=48∧s[b2+1]=48:=by
          have h1:=hz0;rw [HEX.out,qb7 (by omega),D4] at h1;simp at h1;exact h1
         obtain ⟨p,hp⟩:=eX (s[b3]);obtain ⟨q,hq⟩:=eX (s[b4]);rw [h01.1,h01.2,← hp,← hq] at D4
         have HEU:=zY (show escP (s.data.toList.drop (b+1))=match hexP 48 48 p q with | some x=>some (x,s.data.toList.drop (b2+4)) | none=>none by
          rw [HDR.out,escP_u (L:=k :: s.data.toList.drop b2) rfl HES.out H117.out (by rw [List.tail_cons,D4]; rfl),List.drop_succ_cons,List.drop_drop]
          cases hexP 48 48 p q <;> rfl)
         obtain ⟨zp,hzp⟩:∃ zp:Int,zp=((p.toNat:Nat):Int):=⟨_,rfl⟩;obtain ⟨zq,hzq⟩:∃ zq:Int,zq=((q.toNat:Nat):Int):=⟨_,rfl⟩;have hx3:((s[b3].toNat:Nat):Int)=zp:=by rw [hzp,hp]
         have hx4:((s[b4].toNat:Nat):Int)=zq:=by rw [hzq,hq]
         obtain ⟨X1,hX1⟩:=eX (hexI p);obtain ⟨X2,hX2⟩:=eX (hexI q);have HP:=zY (fun (u:World)=>show Calls Tryz.prog 106 #[.int .u8 zp] u fun e w'=>e=.returned (.int .i64 X1)∧w'=u by rw [hzp,hX1]; exact HHX.out p u);have HQ:=zY (fun (u:World)=>show Calls Tryz.prog 106 #[.int .u8 zq] u fun e w'=>e=.returned (.int .i64 X2)∧w'=u by rw [hzq,hX2]; exact HHX.out q u);have hr1:-1≤X1∧X1≤15:=by rw [hX1]; exact qci p
         have hr2:-1≤X2∧X2≤15:=by rw [hX2]; exact qci q
         have HX1:=zY hX1;have HX2:=zY hX2;have hc3:(b2:Int)+2=(b3:Int):=by omega
         have hc4:(b2:Int)+3=(b4:Int):=by omega
         have HB34:=zY (show b2+4≤s.size from h4);obtain ⟨hr1a,hr1b⟩:=hr1;obtain ⟨hr2a,hr2b⟩:=hr2;clear hb3 hb4 D4 h01 hp hq hzp hzq hX1 hX2 h4 h4c;go_wp2_with fail;simp only [hc3];have HC0:TQ w r s (b2) acc' A2 c2 w1.drew:=HTQE.out.drew;refine qam (fun u=>TQ w r s (b2) acc' A2 c2 u) (by kernel_rfl) (by kernel_rfl) HC0 ?_
         iterate 12
          ((first | (apply SeqL.next; rfl; rfl)); (simp only [sP]; rfl); (intro w1 hC1 E hE; obtain ⟨d0,d1,d2⟩:=hC1.q.cells; first | (go_wp2_with fail; refine qaa (HP.out _) ?_; rintro e w2 ⟨rfl,rfl⟩; go_wp2_with fail; exact .mk (hE _ hC1)) | (go_wp2; exact .mk (hE _ hC1))))
         refine SeqL.nil ?_;intro w1 hC1;clear HC0;have HTQF:=zY hC1;clear hC1;go_wp2_with fail;have HC0:TQ w r s (b2) acc' A2 c2 w1.drew:=HTQF.out.drew;refine qam (fun u=>TQ w r s (b2) acc' A2 c2 u) (by kernel_rfl) (by kernel_rfl) HC0 ?_
         iterate 12
          ((first | (apply SeqL.next; rfl; rfl)); (simp only [sP]; rfl); (intro w1 hC1 E hE; obtain ⟨d0,d1,d2⟩:=hC1.q.cells; first | (go_wp2_with fail; refine qaa (HQ.out _) ?_; rintro e w2 ⟨rfl,rfl⟩; go_wp2_with fail; exact .mk (hE _ hC1)) | (go_wp2; exact .mk (hE _ hC1))))
         refine SeqL.nil ?_;intro w1 hC1;clear HC0;have HTQG:=zY hC1;clear hC1 hc3 hc4 hx3 hx4;have hbl:b2≤s.size:=by omega
         have hw1:wrap64 (16*X1)=16*X1:=by unfold wrap64; omega
         have hw2:wrap64 (16*X1+X2)=16*X1+X2:=by unfold wrap64; omega
         cases hb:hexBad X1 X2 with
         | true =>
          have HXN:=zY (show X=none from HTX.out.noesc HHL.out (HC92.out _) (by rw [HEU.out,hexP_no p q (by rw [← HX1.out,← HX2.out]; exact hb)]))
          have hcs:X1<0∨(decide (X1<0)=false∧X2<0)∨(decide (X1<0)=false∧decide (X2<0)=false∧126<16*X1+X2):=by
           unfold hexBad at hb;simp only [Bool.or_eq_true,decide_eq_true_eq] at hb;simp only [decide_eq_false_iff_not];omega
          clear hb
          rcases hcs with hv1 | ⟨hv1,hv2⟩ | ⟨hv1,hv2,hv3⟩
          all_goals
           go_wp2_with fail;refine qaa (HBD.out (b2) _ HTQG.out.q) ?_;rintro y w6 ⟨rfl,hb6,hg6⟩;have HQ6:=zY hb6;have HG6:=zY (HTQG.out.g.trans hg6);clear hb6 hg6;go_wp2_with fail;go_ret;exact TxtPost.none HXN.out (hbl) HQ6.out HG6.out
         | false =>
          obtain ⟨g0,g1,g2,g3⟩:=hexP_yes p q (by rw [← HX1.out,← HX2.out]; exact hb);rw [← HX1.out,← HX2.out] at g2 g3;rw [← HX1.out] at g0;rw [← HX2.out] at g1;have hv1:decide (X1<0)=false:=by simpa using g0
          have hv2:decide (X2<0)=false:=by simpa using g1
          obtain ⟨z3,hz3⟩:=eX (16*X1+X2);rw [← hz3] at hw2 g2 g3;have hv3:decide (126<z3)=false:=by simpa using g2
          obtain ⟨x3,hx3⟩:=eX (UInt8.ofNat z3.toNat)
          have HX3:=zY (show z3=((x3.toNat:Nat):Int) by
           rw [hx3,UInt8.toNat_ofNat']
           omega)
          rw [← hx3] at g3;have HT1:=zY (show TxR X s (b2+4) (acc'++[x3]) from HTX.out.esc HHL.out (HC92.out _) HB34.out (by rw [HEU.out,g3]));have hz30:0≤z3:=by omega
          have hz31:z3≤126:=g2;have hz32:16*X1+X2=z3:=hz3.symm;have hsz:=HTQG.out.g.size;have hbb:=HHL.out;clear hb g0 g1 g2 g3 hz3 hx3;have hmz:z3%256=z3:=by omega
          go_upto_region 32 with (refine qak sl_u8 rfl rfl HTQG.out.o rfl rfl rfl rfl (by unfold maxLen; omega) (by omega) hsz ?_; intro A3 cp3 w7 ho7 hg7 hn7)
          have HTQH:=zY (HTQG.out.app HRL.out HX3.out ho7 hg7);clear ho7 hg7 hn7;obtain ⟨e0,e1,e2⟩:=HTQH.out.q.cells;have hb4i:(b2:Int)+4≤(s.size:Int):=by have:=HB34.out; omega
          go_wp2_with (refine qaf (x:=.tmp 211) (i:=1) HTQH.out.q rfl rfl rfl rfl (by kernel_rfl) (by simp [rqCells]) rfl ?_; intro w8 hb8 hw8);have HTQI:=zY (HTQH.out.put HRL.out (show RQ w8 r s (b2+4) 0 from hb8) (.wrote hw8));clear hb8 hw8 e0 e1 e2;refine ⟨?_,by rw [HTQI.out.q.atI,HAT.out]; have:=HB2.out; have:=HB1.out; omega⟩
          repeat (apply Exists.intro)
          refine ⟨?_,rfl⟩;exact ⟨b2+4,acc'++[x3],A3,cp3,by rw [List.length_append]; rfl,by have:=HB2.out; have:=HB1.out; omega,HB34.out,by rw [List.length_append]; simp; have:=HB2.out; have:=HB1.out; omega,HT1.out,HTQI.out⟩
     ·have hz92:(zc == 92)=false:=qb9 (k:=92) HZ.out h92
      have HT1:=zY (show TxR X s (b+1) (acc++[c]) by
       have h:=HTX.out.one hl (by rw [← HC.out]; exact HBAD.out) (by rw [← HC.out]; exact h34) (by rw [← HC.out]; exact h92);rw [← HC.out] at h;exact h)
      clear h34 h92;have hsz:=HTQ6.out.g.size;go_wp2_with (refine qak sl_u8 rfl rfl HTQ6.out.o rfl rfl rfl rfl (by unfold maxLen; omega) (by omega) hsz ?_; intro A2 cp2 w7 ho7 hg7 hn7);have HTQ7:=zY (HTQ6.out.app HRL.out HZ.out ho7 hg7);clear ho7 hg7 hn7;go_wp2_with fail
      go_roundw
      case measure=>rw [HTQ7.out.q.atI,HAT.out]; omega
      case rel=>exact ⟨b+1,acc++[c],A2,cp2,by rw [List.length_append]; rfl,by omega,by omega,by rw [List.length_append]; simp; omega,HT1.out,HTQ7.out⟩
  ·have hl':(s.size:Int)≤(b:Int):=by omega
   have hl3:s.size≤b:=by omega
   have HXN:=zY (show X=none from HTX.out.off hl);go_wp2_with fail;have HC0:TQ w r s (b) acc A1 c1 wr.drew:=HTQ.out.drew;refine qam (fun u=>TQ w r s (b) acc A1 c1 u) (by kernel_rfl) (by kernel_rfl) HC0 ?_
   iterate 34
    first
    | (apply SeqL.no; rfl; rfl; rfl; (simp only [sP]; rfl))
    | ((first | (apply SeqL.next; rfl; rfl) | (apply SeqL.yes; rfl; rfl; rfl; rfl)); (simp only [sP]; rfl); (intro w1 hC1 E hE; obtain ⟨d0,d1,d2⟩:=hC1.q.cells; go_wp2; exact .mk (hE _ hC1)))
   refine SeqL.nil ?_;intro w1 hC1;clear HC0;have HC:=zY hC1;clear hC1;go_wp2_with fail;refine qaa (HBD.out (b) _ HC.out.q) ?_;rintro y w6 ⟨rfl,hb6,hg6⟩;have HQ6:=zY hb6;have HG6:=zY (HC.out.g.trans hg6);clear hb6 hg6;go_wp2_with fail;go_ret;exact TxtPost.none HXN.out (hbs) HQ6.out HG6.out
theorem qbl (a:Bs):(bs a).toList=a:=by
 rw [Lib.toList_data];rfl
def nextB (t:Bs) (e:Int) (rest:Bs):Bool:=decide (e=0) && t.isPrefixOf rest
theorem qdC {t l:Bs}:t.isPrefixOf l=decide (l.take t.length=t):=by
 rw [Bool.eq_iff_iff,List.isPrefixOf_iff_prefix,decide_eq_true_iff]
 constructor
 ·rintro ⟨r,rfl⟩;simp
 ·intro h;exact ⟨l.drop t.length,by have h2:=List.take_append_drop t.length l; rw [h] at h2; exact h2⟩
set_option maxHeartbeats 8000000 in
theorem rnext_any (s:ByteArray) (t:Bs) (ht:t.length≤10) (r a:Nat) (e:Int) (ha:a≤s.size) (hs:(s.size:Int)≤1000000) (w:World) (h:RQ w r s a e) :
  Calls Tryz.prog 75 #[.pointer (some ⟨r,0,none⟩),.string (bs t)] w fun x w'=>x=.returned (.bool (nextB t e (s.data.toList.drop a)))∧RQ w' r s (if nextB t e (s.data.toList.drop a)=true then a+t.length else a) e∧RG r w w':=by
 have H:=zY h;obtain ⟨c0,c1,c2⟩:=h.cells;have hsz:((bs t).size:Int)=(t.length:Int):=by rw [qay]
 have hsn:(bs t).size=t.length:=qay t;obtain ⟨n,hn⟩:=eX (t.length);rw [← hn] at hsz ht hsn ⊢;have HN:=zY hn;have hn10:(n:Int)≤10:=by omega
 have hwr:IntKind.i64.wrap ((a:Int)+(n:Int))=(a:Int)+(n:Int):=IntWalk.i64_in _ (by omega);obtain ⟨q,hq⟩:=eX (nextB t e (s.data.toList.drop a));rw [← hq];have HQ:=zY (show q=(decide (e=0) && t.isPrefixOf (s.data.toList.drop a)) from hq);clear h hn hq
 by_cases he:e=0
 ·subst he
  by_cases hl:s.size<a+n
  ·have hl':(s.size:Int)<(a:Int)+(n:Int):=by omega
   have HQF:=zY (show q=false by
    rw [HQ.out,qdC];simp only [decide_true,Bool.true_and,decide_eq_false_iff_not];intro hx;have h1:=congrArg List.length hx;rw [List.length_take,List.length_drop] at h1;have h2:s.data.toList.length=s.size:=rfl;have h3:=HN.out
    omega)
   rw [HQF.out];clear hl;go_enter Tryz.func75,Tryz.ntmps75;go_wp2_with fail
   go_quiet (fail)
   go_wp2_with fail;go_ret;exact ⟨rfl,H.out,(RG.refl r w).drewN _⟩
  ·have hl':¬ (s.size:Int)<(a:Int)+(n:Int):=by omega
   have hl2:a+n≤s.size:=by omega
   have ha1:(a:Int)+(n:Int)≤1000000:=by omega
   have ha2:(a:Int)+(n:Int)≤(s.size:Int):=by omega
   have HQE:=zY (show q=((s.extract a (a+n)).toList == (bs t).toList) by
    rw [HQ.out,qdC,qb7 hl2,qbl,← HN.out];simp only [decide_true,Bool.true_and];rw [Bool.eq_iff_iff]
    simp)
   have hsl:∀ u:World,(Instr.slice 9 (.string s) (some (.int .i64 (a:Int))) (some (.int .i64 ((a:Int)+(n:Int)))) none).run Tryz.prog u=.ok (.string (s.extract a (a+n))) u:=fun u=>by
    have h:=run_slice_string (P:=Tryz.prog) u 9 s .i64 .i64 (a:Int) ((a:Int)+(n:Int)) Tryz.underlying9 (by omega) (by omega) (by omega);rw [show ((a:Int)+(n:Int)).toNat=a+n by omega,Int.toNat_natCast] at h;exact h
   cases q with
   | false =>
    have hqq:((s.extract a (a+n)).toList == (bs t).toList)=false:=HQE.out.symm;go_enter Tryz.func75,Tryz.ntmps75;go_wp2_with fail
    go_quiet (fail)
    go_wp2_with fail;go_ret;exact ⟨rfl,H.out,(RG.refl r w).drewN _⟩
   | true =>
    have hqq:((s.extract a (a+n)).toList == (bs t).toList)=true:=HQE.out.symm;go_enter Tryz.func75,Tryz.ntmps75;go_wp2_with fail
    go_quiet (fail)
    go_wp2_with (refine qaf (x:=.tmp 54) (i:=1) H.out rfl rfl rfl rfl (by kernel_rfl) (by simp [rqCells]) rfl ?_; intro w5 hb5 hw5);go_ret;exact ⟨rfl,hb5,((RG.refl r w).drewN _).trans (.wrote hw5)⟩
 ·have he':(e != 0)=true:=by simpa using he
  have HQF:=zY (show q=false by rw [HQ.out,decide_eq_false he]; rfl);rw [HQF.out];clear he;go_enter Tryz.func75,Tryz.ntmps75;go_wp2_with fail
  go_quiet (fail)
  go_wp2_with fail;go_ret;exact ⟨rfl,H.out,(RG.refl r w).drewN _⟩
end Go.Proofs.YtlkikjeccamheaaGreatDoor.Js
namespace Go.Proofs.YtlkikjeccamheaaGreatDoor.Js
set_option linter.unusedSimpArgs false
set_option linter.unusedVariables false
set_option maxRecDepth 100000
set_option maxHeartbeats 4000000
theorem esc_le {c b:UInt8} (h:esc c=some b):b≤126:=by
 unfold esc at h
 repeat' split at h
 all_goals first
  | (injection h with h; subst h; decide)
  | (simp at h)
theorem hexP_le {a0 a1 a2 a3 b:UInt8} (h:hexP a0 a1 a2 a3=some b):b≤126:=by
 unfold hexP at h
 split at h
 ·split at h
  ·split at h
   ·rename_i x y _ _ hq
    injection h with h
    rw [← h,UInt8.le_iff_toNat_le];have:(UInt8.ofNat (16*x+y)).toNat≤16*x+y:=by simp; exact Nat.mod_le _ _
    exact Nat.le_trans this (by simpa using hq)
   ·simp at h
  ·simp at h
 ·simp at h
theorem escP_le {r r':Bs} {b:UInt8} (h:escP r=some (b,r')):b≤126:=by
 unfold escP at h
 split at h
 ·simp at h
 ·split at h
  ·rename_i he
   injection h with h; injection h with h1 h2; subst h1
   exact esc_le he
  ·split at h
   ·split at h
    ·split at h
     ·rename_i hx
      injection h with h; injection h with h1 h2; subst h1
      exact hexP_le hx
     ·simp at h
    ·simp at h
   ·simp at h
theorem okT_snoc {s:Bs} {c:UInt8} (h:okT s=true) (hc:c≤126):okT (s++[c])=true:=by
 unfold okT at *;rw [List.all_append,h]
 simpa using hc
theorem strA_ok:∀ (n:Nat) (acc r:Bs) {s r':Bs},okT acc=true→strA n acc r=some (s,r')→okT s=true
 | 0,acc,r,s,r',_,h=>by simp [strA] at h
 | n+1,acc,[],s,r',_,h=>by simp [strA] at h
 | n+1,acc,c :: r,s,r',ha,h=>by
  unfold strA at h
  split at h
  ·simp at h
  ·rename_i hc
   split at h
   ·injection h with h; injection h with h1 h2; subst h1; exact ha
   ·split at h
    ·split at h
     ·rename_i b r1 he
      exact strA_ok n _ _ (okT_snoc ha (escP_le he)) h
     ·simp at h
    ·refine strA_ok n _ _ (okT_snoc ha ?_) h;rw [UInt8.le_iff_toNat_le];have:¬ 126<c:=fun h=>hc (.inr h);rw [UInt8.lt_iff_toNat_lt] at this
     simpa using this
theorem textP_ok {r s r':Bs} (h:textP r=some (s,r')):okT s=true:=by
 unfold textP at h
 split at h
 ·exact strA_ok _ _ _ rfl h
 ·simp at h
theorem qbS:∀ {l:List Bs} {x:Bs},distinct l=true→x ∉ l→distinct (l++[x])=true
 | [],x,_,_=>by simp [distinct]
 | y :: l,x,h,hx=>by
  unfold distinct at h;rw [List.cons_append,distinct];simp only [Bool.and_eq_true,Bool.not_eq_true',List.contains_eq_mem,decide_eq_false_iff_not] at h ⊢;refine ⟨?_,qbS h.2 (fun h=>hx (List.mem_cons_of_mem _ h))⟩;rw [List.mem_append];rintro (h1 | h1)
  ·exact h.1 h1
  ·simp at h1;exact hx (by rw [h1]; exact List.mem_cons_self ..)
structure ListOk (d:Nat) (m:Bool) (ns:List Bs) (ks:List JT):Prop where
 names:ns.all okT=true
 dis:distinct ns=true
 kids:∀ k ∈ ks,rightV d k=true
 len:if m then ns.length=ks.length else ns=[]
theorem qdM (val:Bs→Except Int (JT × Bs)) (m:Bool) (d:Nat) (hv:∀ {r v r'},val r=.ok (v,r')→rightV d v=true):∀ (n:Nat) (ns:List Bs) (ks:List JT) (r:Bs) {ns':List Bs} {ks':List JT} {r':Bs},ListOk d m ns ks→listL val m n ns ks r=.ok (ns',ks',r')→ListOk d m ns' ks'
 | 0,ns,ks,r,ns',ks',r',_,h=>by simp [listL] at h
 | n+1,ns,ks,r,ns',ks',r',ha,h=>by
  rcases listL_ok h with ⟨r1,h1,h2⟩ | ⟨r1,r2,ns1,r3,k,r4,h1,h2,h3,h4,h5⟩
  ·injection h2 with h2 h3; injection h3 with h3 h4; subst h2 h3
   exact ha
  ·have hkids:∀ x ∈ ks++[k],rightV d x=true:=fun x hx=>by
    rcases List.mem_append.1 hx with h | h
    ·exact ha.kids x h
    ·simp at h; subst h; exact hv h4
   refine qdM val m d hv n _ _ _ ?_ h5;unfold keyP at h3
   split at h3
   ·rename_i hm
    unfold nameP at h3
    split at h3
    ·simp at h3
    ·rename_i s r5 ht
     split at h3
     ·simp at h3
     ·rename_i hne
      split at h3
      ·simp at h3
      ·injection h3 with h3; injection h3 with h3 h6; subst h3
       refine ⟨?_,qbS ha.dis hne,hkids,?_⟩
       ·rw [List.all_append,ha.names];simp [textP_ok ht]
       ·have:=ha.len;rw [if_pos hm] at this ⊢;simp [this]
   ·rename_i hm
    injection h3 with h3; injection h3 with h3 h6; subst h3
    refine ⟨ha.names,ha.dis,hkids,?_⟩;have:=ha.len;rw [if_neg hm] at this ⊢;exact this
theorem listP_right {val:Bs→Except Int (JT × Bs)} {d:Nat} (hv:∀ {r v r'},val r=.ok (v,r')→rightV d v=true) {r:Bs} {v:JT} {r':Bs} (h:listP val r=.ok (v,r')):rightV (d+1) v=true:=by
 unfold listP at h
 split at h
 ·simp at h
 ·rename_i ns ks r1 ht
  injection h with h; injection h with h1 h2; subst h1
  have hl:=qdM val _ d hv _ _ _ _ ⟨rfl,rfl,fun k hk=>by simp at hk,by split <;> rfl⟩ ht;have hk:=(qa0 d ks).2 hl.kids;have h3:=hl.len
  cases hb:(look r == 123) with
  | true =>
   rw [hb] at h3;rw [if_pos rfl] at h3;have hn:=hl.names;unfold okT at hn;simp [rightV,plainJ,okT,hl.dis,hk,h3]
   simpa using hn
  | false =>
   rw [hb] at h3;rw [if_neg (by decide)] at h3;subst h3;simp [rightV,plainJ,okT,hk,distinct]
theorem numP_right {r r':Bs} {n:Int} (d:Nat) (h:numP r=some (n,r')):rightV d (jint n)=true:=by
 obtain ⟨h1,h2,_⟩:=numP_ok h
 have h3:decV 0 (digP r).1≤1000000000000000:=by
  unfold badN at h1;simp only [Bool.or_eq_false_iff] at h1
  simpa using h1.2
 have h4:-1000000000000000≤n∧n≤1000000000000000:=by
  rw [h2]
  split <;> omega
 simp [rightV,jint,plainJ,okT,distinct,rightsV,h4]
theorem rawP_right {lp:Bs→Except Int (JT × Bs)} {d:Nat} (hl:∀ {r v r'},lp r=.ok (v,r')→rightV d v=true) {r:Bs} {v:JT} {r':Bs} (h:rawP lp r=.ok (v,r')):rightV d v=true:=by
 have hw:∀ {w:Bs} {u:JT},wordR w r u=.ok (v,r')→rightV d u=true→rightV d v=true:=fun {w u} h hu=>by
  unfold wordR at h
  split at h
  ·simp at h
  ·injection h with h; injection h with h1 h2; subst h1; exact hu
 unfold rawP at h
 split at h
 ·exact hw h (by simp [rightV,jzero,plainJ,okT,distinct,rightsV])
 split at h
 ·exact hw h (by simp [rightV,jtrue,plainJ,okT,distinct,rightsV])
 split at h
 ·exact hw h (by simp [rightV,jfalse,plainJ,okT,distinct,rightsV])
 split at h
 ·unfold optR at h
  split at h
  ·simp at h
  ·rename_i ht
   injection h with h; injection h with h1 h2; subst h1
   have:=textP_ok ht;unfold okT at this;simp [rightV,jtext,plainJ,okT,distinct,rightsV]
   simpa using this
 split at h
 ·exact hl h
 ·unfold optR at h
  split at h
  ·simp at h
  ·rename_i ht
   injection h with h; injection h with h1 h2; subst h1
   exact numP_right d ht
theorem qc2:∀ (d:Nat) {r:Bs} {v:JT} {r':Bs},valueP d r=.ok (v,r')→rightV d v=true
 | 0,r,v,r',h=>by
  obtain ⟨r0,h1,rfl⟩:=qbD h;exact rawP_right (by intro _ _ _ h; simp at h) h1
 | d+1,r,v,r',h=>by
  obtain ⟨r0,h1,rfl⟩:=qbD h;exact rawP_right (fun h=>listP_right (fun h=>qc2 d h) h) h1
theorem qcp {s:Bs} {v:JT} (h:readP s=.ok v):rightV 6 v=true:=by
 unfold readP at h
 split at h
 ·simp at h
 ·split at h
  ·simp at h
  ·rename_i v' hv
   injection h with h; subst h
   exact qc2 6 hv
  ·simp at h
theorem takeD_app:∀ (d:Bs) (n:Nat) (r:Bs),d.length<n→d.all isDig=true→isDig (look r)=false→takeD n (d++r)=(d,r)
 | [],n,r,hn,_,hr=>by
  obtain ⟨n,rfl⟩:∃ m,n=m+1:=⟨n - 1,by simp at hn; omega⟩
  cases r with
  | nil=>simp [takeD]
  | cons c r=>simp [look] at hr; simp [takeD,hr]
 | c :: d,n,r,hn,hd,hr=>by
  obtain ⟨n,rfl⟩:∃ m,n=m+1:=⟨n - 1,by simp at hn; omega⟩;simp only [List.all_cons,Bool.and_eq_true] at hd;simp only [List.cons_append,takeD,hd.1,if_true,takeD_app d n r (by simpa using hn) hd.2 hr]
theorem dig_of {k:Nat} (h:k<10):isDig (dg k)=true∧(dg k).toNat - 48=k:=by
 have key:∀ k:Fin 10,isDig (dg k.1)=true∧(dg k.1).toNat - 48=k.1:=by decide
 exact key ⟨k,h⟩
theorem qcK (n:Nat) (d:Bs) (c:UInt8):decV n (d++[c])=10*decV n d+(c.toNat - 48):=by simp [decV]
theorem digB_ok:∀ (f m:Nat),m<10^f→(digB f m).all isDig=true∧decV 0 (digB f m)=m∧(digB f m).length≤f∧(0<f→digB f m≠[])∧(look (digB f m)=48→0<f→digB f m=[48])
 | 0,m,h=>by
  simp at h;subst h;simp [digB,decV]
 | f+1,m,h=>by
  rw [digB]
  split
  ·rename_i hm
   have:=dig_of hm;refine ⟨by simp [this.1],by simp [decV,this.2],by simp,by simp,?_⟩;intro h1 _;simp only [look] at h1;rw [h1]
  ·rename_i hm
   have hf:0<f:=by
    rcases Nat.eq_zero_or_pos f with rfl | h1
    ·simp at h; omega
    ·exact h1
   have hq:m/10<10^f:=by
    rw [Nat.pow_succ] at h;exact Nat.div_lt_of_lt_mul (by omega)
   obtain ⟨h1,h2,h3,h4,h5⟩:=digB_ok f (m/10) hq;have hd:=dig_of (Nat.mod_lt m (by decide:0<10));refine ⟨by rw [List.all_append,h1]; simp [hd.1],by rw [qcK,h2,hd.2]; omega,by simp; omega,by simp,?_⟩;intro h6 _
   obtain ⟨c,l,hc⟩:∃ c l,digB f (m/10)=c :: l:=by
    cases hx:digB f (m/10) with
    | nil=>exact absurd hx (h4 hf)
    | cons c l=>exact ⟨c,l,rfl⟩
   rw [hc] at h6;simp only [List.cons_append,look] at h6;have h7:=h5 (by rw [hc]; exact h6) hf;rw [h7] at h2;simp [decV] at h2;omega
theorem isDig_ne {c:UInt8} (h:isDig c=true):c≠45∧c≠110∧c≠116∧c≠102∧c≠34∧c≠91∧c≠123∧isBl c=false∧c≠93∧c≠125:=by
 have key:∀ k:Fin 256,isDig (UInt8.ofNat k.1)=true→UInt8.ofNat k.1≠45∧UInt8.ofNat k.1≠110∧UInt8.ofNat k.1≠116∧UInt8.ofNat k.1≠102∧UInt8.ofNat k.1≠34∧UInt8.ofNat k.1≠91∧UInt8.ofNat k.1≠123∧isBl (UInt8.ofNat k.1)=false∧UInt8.ofNat k.1≠93∧UInt8.ofNat k.1≠125:=by decide +kernel
 have:=key ⟨c.toNat,c.toNat_lt⟩;simp only [UInt8.ofNat_toNat] at this;exact this h
theorem look_dig {f m:Nat} (h:m<10^f) (hf:0<f):isDig (look (digB f m))=true∧∃ l,digB f m=look (digB f m) :: l:=by
 obtain ⟨h1,h2,h3,h4,h5⟩:=digB_ok f m h
 cases hx:digB f m with
 | nil=>exact absurd hx (h4 hf)
 | cons c l =>
  rw [hx] at h1;simp only [List.all_cons,Bool.and_eq_true] at h1;exact ⟨h1.1,l,rfl⟩
theorem writeV_first:∀ (v:JT) (d:Nat),rightV d v=true→∃ c l,writeV v=c :: l∧isBl c=false∧c≠93∧c≠125
 | .mk k n t ns ks,d,h=>by
  rw [writeV]
  by_cases h0:k=0
  ·rw [if_pos h0]; exact ⟨_,_,rfl,by decide,by decide,by decide⟩
  rw [if_neg h0]
  by_cases h1:k=1
  ·rw [if_pos h1]; split <;> exact ⟨_,_,rfl,by decide,by decide,by decide⟩
  rw [if_neg h1]
  by_cases h2:k=2
  ·rw [if_pos h2]
   have hn:n.natAbs<10^16:=by
    rw [rightV] at h;simp [h2] at h;omega
   obtain ⟨b1,l,b2⟩:=look_dig hn (by decide);have:=isDig_ne b1;unfold intB
   split
   ·exact ⟨_,_,rfl,by decide,by decide,by decide⟩
   ·exact ⟨_,_,b2,this.2.2.2.2.2.2.2.1,this.2.2.2.2.2.2.2.2.1,this.2.2.2.2.2.2.2.2.2⟩
  rw [if_neg h2]
  by_cases h3:k=3
  ·rw [if_pos h3]; exact ⟨_,_,rfl,by decide,by decide,by decide⟩
  rw [if_neg h3]
  split <;> exact ⟨_,_,rfl,by decide,by decide,by decide⟩
theorem distinct_not {l r:List Bs} {x:Bs} (h:distinct (l++x :: r)=true):x ∉ l:=by
 induction l with
 | nil=>simp
 | cons y l ih =>
  rw [List.cons_append,distinct] at h;simp only [Bool.and_eq_true,Bool.not_eq_true',List.contains_eq_mem,decide_eq_false_iff_not] at h;rintro (_ | ⟨_,h1⟩)
  ·exact h.1 (by simp)
  ·exact ih h.2 h1
theorem qbg:∀ r:Bs,skip (skip r)=skip r
 | []=>rfl
 | c :: r=>by
  by_cases h:isBl c=true
  ·simp only [skip,h,if_true,qbg r]
  ·simp [skip,h]
theorem takeD_full (r:Bs) (n:Nat):∀ (d:Bs),n≤d.length→d.all isDig=true→takeD n (d++r)=(d.take n,d.drop n++r):=by
 induction n with
 | zero =>
  intro d _ _
  cases d <;> cases r <;> rfl
 | succ n ih =>
  intro d h hd
  cases d with
  | nil=>simp at h
  | cons c d =>
   simp only [List.all_cons,Bool.and_eq_true] at hd;have h9:=ih d (by simpa using h) hd.2;show takeD (n+1) (c :: (d++r))=_;rw [takeD,if_pos hd.1,h9];rfl
theorem qdZ (n:Nat) (c:UInt8) (l:Bs):decV n (c :: l)=decV (10*n+(c.toNat - 48)) l:=by
 unfold decV;rw [List.foldl_cons]
theorem decV_ge (l:Bs):∀ (n:Nat),n*10^l.length≤decV n l:=by
 induction l with
 | nil=>intro n; simp [decV]
 | cons c l ih =>
  intro n;rw [qdZ];refine Nat.le_trans ?_ (ih _);rw [List.length_cons,Nat.pow_succ];have:n*(10^l.length*10)=10*n*10^l.length:=by rw [Nat.mul_comm (10^l.length) 10,← Nat.mul_assoc,Nat.mul_comm n 10]
  rw [this];exact Nat.mul_le_mul_right _ (by omega)
theorem qcv {c:UInt8} (h:isDig c=true):48≤c.toNat∧c.toNat≤57:=by
 unfold isDig at h;simp only [Bool.and_eq_true,decide_eq_true_eq,UInt8.le_iff_toNat_le] at h;exact h
theorem decV_lt (l:Bs):∀ (n:Nat),l.all isDig=true→decV n l<(n+1)*10^l.length:=by
 induction l with
 | nil=>intro n _; simp [decV]
 | cons c l ih =>
  intro n h;simp only [List.all_cons,Bool.and_eq_true] at h;have h1:=qcv h.1;rw [qdZ];refine Nat.lt_of_lt_of_le (ih _ h.2) ?_;rw [List.length_cons,Nat.pow_succ]
  have:(n+1)*(10^l.length*10)=(10*n+10)*10^l.length:=by
   rw [Nat.mul_comm (10^l.length) 10,← Nat.mul_assoc]
   congr 1
   omega
  rw [this];exact Nat.mul_le_mul_right _ (by omega)
def numbad (neg:Bool) (d:Bs):Bool:=d.isEmpty || decide (16<d.length) || (look d == 48 && (decide (1<d.length) || neg))
theorem numP_digits {X X1 tk rest:Bs} {neg:Bool} (hneg:neg=negP X) (hX1:X1=if neg=true then X.tail else X) (h:X1=tk++rest) (hd:tk.all isDig=true) (hr:isDig (look rest)=false) :
  numP X=if numbad neg tk=true then none else if 1000000000000000<decV 0 tk then none else some (if neg=true then -(decV 0 tk:Int) else (decV 0 tk:Int),rest):=by
 unfold numP digP;rw [← hneg,← hX1,h]
 by_cases hl:tk.length≤16
 ·rw [takeD_app tk 17 rest (by omega) hd hr];have h16:¬ 16<tk.length:=by omega
  unfold numbad badN
  by_cases hg:1000000000000000<decV 0 tk
  ·simp [hg]
  ·simp [hg,h16]
 ·rw [takeD_full rest 17 tk (by omega) hd]
  have hb:badN neg (tk.take 17)=true:=by
   cases tk with
   | nil=>simp at hl
   | cons c l =>
    simp only [List.length_cons] at hl;simp only [List.all_cons,Bool.and_eq_true] at hd;have hc:=qcv hd.1;have hln:(l.take 16).length=16:=by rw [List.length_take]; omega
    show badN neg (c :: l.take 16)=true;unfold badN
    by_cases h48:c=48
    ·subst h48;simp [look,hln]
    ·have h49:49≤c.toNat:=by
      rcases Nat.lt_or_ge c.toNat 49 with h | h
      ·exact absurd (UInt8.toNat.inj (by show c.toNat=48; omega)) h48
      ·exact h
     have h1:=decV_ge (l.take 16) (10*0+(c.toNat - 48));rw [← qdZ,hln] at h1;have:1000000000000000<decV 0 (c :: l.take 16):=by omega
     simp [this]
  have hn:numbad neg tk=true:=by
   unfold numbad;have:16<tk.length:=by omega
   simp [this]
  rw [if_pos hb,if_pos hn]
end Go.Proofs.YtlkikjeccamheaaGreatDoor.Js
namespace Go.Proofs.YtlkikjeccamheaaGreatDoor.Js
set_option linter.unusedSimpArgs false
set_option linter.unusedVariables false
set_option maxRecDepth 100000
set_option maxHeartbeats 4000000
open Go.RowKit
structure DigK (X tk rest:Bs) (k:Nat):Prop where
 len:tk.length=k
 k17:k≤17
 eq:takeD 17 X=(tk++(takeD (17 - k) rest).1,(takeD (17 - k) rest).2)
 app:X=tk++rest
 lt:decV 0 tk<10^k
theorem DigK.start (X:Bs):DigK X [] X 0:=⟨rfl,by decide,by simp,rfl,by simp [decV]⟩
theorem isDig_val {c:UInt8} (h:isDig c=true):48≤c.toNat∧c.toNat≤57:=by
 unfold isDig at h;simp only [Bool.and_eq_true,decide_eq_true_eq,UInt8.le_iff_toNat_le] at h;exact h
theorem DigK.next {X tk rest:Bs} {k:Nat} {c:UInt8} (h:DigK X tk (c :: rest) k) (hc:isDig c=true) (hk:k<17):DigK X (tk++[c]) rest (k+1):=by
 have h1:=h.eq;obtain ⟨m,hm⟩:∃ m,17 - k=m+1:=⟨16 - k,by omega⟩;rw [hm,takeD,if_pos hc] at h1;have h2:=isDig_val hc;have h3:=h.lt;refine ⟨by simp [h.len],by omega,?_,by rw [h.app]; simp,?_⟩
 ·rw [h1,show 17 - (k+1)=m by omega];simp
 ·rw [qcK,Nat.pow_succ];omega
theorem DigK.stop {X tk rest:Bs} {k:Nat} (h:DigK X tk rest k) (hs:isDig (look rest)=false∨k=17):takeD 17 X=(tk,rest):=by
 rw [h.eq]
 have:takeD (17 - k) rest=([],rest):=by
  rcases hs with hs | hs
  ·cases rest with
   | nil=>cases 17 - k <;> rfl
   | cons c r =>
    have hc:isDig c=false:=hs
    cases hq:17 - k with
    | zero=>rfl
    | succ m=>simp [takeD,hc]
  ·rw [hs];rfl
 rw [this];simp
def numV:Option (Int × Bs)→JV
 | none=>zJV
 | some (n,_)=>⟨2,n,[],none,0,0,none,0,0⟩
def numE:Option (Int × Bs)→Int
 | none=>13
 | some _=>0
theorem number_any (s:ByteArray) (hs:(s.size:Int)≤1000000) (r a:Nat) (d:Int) (w:World) (h:RD w r s a d 0) (ha:a≤s.size) :
  Calls Tryz.prog 73 #[.pointer (some ⟨r,0,none⟩)] w fun x w'=>x=.returned (.agg (jvCells (numV (numP (s.data.toList.drop a)))))∧∃ a',At s a a' (digP (s.data.toList.drop a)).2 ∧
   RD w' r s a' d (numE (numP (s.data.toList.drop a)))∧RG r w w':=by
 have hu:=Tryz.underlying44;obtain ⟨W0,hW0⟩:=eX (w.alloc (.cells (jvCells zJV) 44));have hb0:Below w.heap.size w W0:=by rw [hW0]; exact (Below.refl _ w).alloc (Nat.le_refl _) _
 obtain ⟨G,hG⟩:=eX (w.heap.size);have HKZ:=zY (show Blk W0 G 44 (jvCells zJV) by rw [hW0,hG]; exact Blk.new _ _ _);have HRD:=zY (h.grow hb0);have HRG:=zY (show RG r w W0 from .below hb0);have HRL:=zY (show r<G by rw [hG]; exact Blk.lt h);have HW0:=zY hW0;obtain ⟨X,hX⟩:=eX (s.data.toList.drop a);have HX:=zY hX;have HA:=zY ha;have ha':(a:Int)≤(s.size:Int):=by omega
 rw [← hX];have CL:=zY (fun (b:Nat) (u:World) (h:RD u r s b d 0)=>qbQ s r b d 0 u h);clear hW0 hb0 h hX ha;rw [hG] at *;clear hG;go_enter Tryz.func73,Tryz.ntmps73
 go_upto_region 1 with (fail)
 rw [show (w.alloc (.cells #[.int .i64 0,.int .i64 0,.string ⟨#[]⟩,.slice none 0 0,.slice none 0 0] 44))=W0 from HW0.out.symm];clear HW0;obtain ⟨c0,c1,-,-⟩:=HRD.out.cells;go_wp2_with fail;refine qaa (CL.out a _ HRD.out) ?_;rintro y w1 ⟨rfl,hrd,hrg⟩;have HRD1:=zY hrd;have HZ1:=zY (show Blk w1 w.heap.size 44 (jvCells zJV) from (World.grownBy.block hrg _ HKZ.out.lt (by have:=HRL.out; intro h; injection h with h; omega)).trans HKZ.out);have HRG1:=zY (HRG.out.trans hrg);clear hrd hrg c0 c1;obtain ⟨neg,hneg⟩:=eX (negP X);have hlk:lookE s a 0=look X:=by rw [lookE,if_pos rfl,HX.out]
 have hnz:((((lookE s a 0).toNat:Nat):Int) == 45)=neg:=by
  rw [hneg,hlk,negP,Bool.eq_iff_iff,beq_iff_eq,beq_iff_eq]
  constructor
  ·intro h; exact UInt8.toNat.inj (by show (look X).toNat=45; omega)
  ·intro h; rw [h]; rfl
 unfold byteV;generalize (((lookE s a 0).toNat:Nat):Int)=z at *;have HNG:=zY hneg;obtain ⟨f,hf⟩:=eX ((if neg then a+1 else a));have HF:=zY hf
 have HLT:=zY (show neg=true→a<s.size from fun h=>qba (by
  rw [h] at hneg;have:look X=45:=by simpa [negP] using hneg.symm
  rw [← HX.out,this]
  decide))
 clear hneg hlk hf
 go_upto_if 14 with (fail)
 go_cut [] (fun wx=>RD wx r s f d 0∧Blk wx w.heap.size 44 (jvCells zJV)∧RG r w wx)
 case first =>
  obtain ⟨c0,c1,-,-⟩:=HRD1.out.cells
  cases neg with
  | true =>
   go_wp2_with (refine qaf (x:=.tmp 21) (i:=1) HRD1.out rfl rfl rfl rfl (by kernel_rfl) (by simp [rdCells]) rfl ?_; intro w3 hb3 hw3)
   go_meet
   exact ⟨by rw [HF.out]; exact hb3,hw3.blk HZ1.out (by have:=HRL.out; omega),HRG1.out.trans (.wrote hw3)⟩
  | false =>
   go_wp2_with fail
   go_meet
   exact ⟨by rw [HF.out]; exact HRD1.out,HZ1.out,HRG1.out⟩
 case rest =>
 obtain ⟨hrd,hz,hrg⟩:=hcut;have HRD2:=zY hrd;have HZ2:=zY hz;have HRG2:=zY hrg;obtain ⟨X1,hX1⟩:=eX ((if neg then X.tail else X));have HX1:=zY hX1
 have HXF:=zY (show s.data.toList.drop f=X1 by
  rw [HF.out,hX1]
  cases neg with
  | true=>simp only [if_true]; rw [qaK,HX.out]
  | false=>simp only [Bool.false_eq_true,if_false]; rw [HX.out])
 have HFS:=zY (show a≤f∧f≤s.size by
  have h1:=HF.out;have h2:=HA.out
  cases neg with
  | true=>simp only [if_true] at h1; have:=HLT.out rfl; omega
  | false=>simp only [Bool.false_eq_true,if_false] at h1; omega)
 have hf9:(f:Int)≤1000000:=by have:=HFS.out; omega
 obtain ⟨c0,c1,-,-⟩:=hrd.cells;clear hrd hz hrg hX1 hnz;go_wp2_with fail;refine qaa (CL.out f _ HRD2.out) ?_;rintro y w3 ⟨rfl,hrd,hrg⟩;have HRD3:=zY hrd;have HZ3:=zY (show Blk w3 w.heap.size 44 (jvCells zJV) from (World.grownBy.block hrg _ HZ2.out.lt (by have:=HRL.out; intro h; injection h with h; omega)).trans HZ2.out);have HRG3:=zY (HRG2.out.trans hrg);have HV3:=zY (show lookE s f 0=look X1 by rw [lookE,if_pos rfl,HXF.out]);clear hrd hrg c0 c1;go_wp2_with fail
 go_loopg [5,6] 17 (fun gk x c wr=>∃ (k:Nat) (tk rest:Bs),DigK X1 tk rest k∧gk+k=17∧x=.int .i64 ((decV 0 tk:Nat):Int)∧c=byteV (look rest)∧s.data.toList.drop (f+k)=rest∧RD wr r s (f+k) d 0∧Blk wr w.heap.size 44 (jvCells zJV)∧RG r w wr)
 case atStart=>exact ⟨0,[],X1,DigK.start _,rfl,rfl,by rw [HV3.out],HXF.out,HRD3.out,HZ3.out,HRG3.out⟩
 case round =>
  obtain ⟨k,tk,rest,hdk,hgk,rfl,rfl,hrest,hrd,hz,hrg⟩:=hrel;obtain ⟨c0,c1,-,-⟩:=hrd.cells;have HDK:=zY hdk;have HRE:=zY hrest;have HRD4:=zY hrd;have HZ4:=zY hz;have HRG4:=zY hrg;have hk17:(k:Int)≤17:=by have:=hdk.k17; omega
  clear hdk hrest hrd hz hrg;obtain ⟨c,hc⟩:=eX (look rest);rw [← hc];have HC:=zY hc;obtain ⟨z2,hz2⟩:∃ z2:Int,z2=((c.toNat:Nat):Int):=⟨_,rfl⟩;have HZ:=zY hz2
  have HDG:=zY (show isDig c=(decide (48≤z2) && decide (z2≤57)) by
   rw [hz2,isDig,Bool.eq_iff_iff];simp only [Bool.and_eq_true,decide_eq_true_eq,UInt8.le_iff_toNat_le];show (48≤c.toNat∧c.toNat≤57)↔_
   omega)
  unfold byteV;rw [← hz2];have hfk:((f+k:Nat):Int)=(f:Int)+(k:Int):=by omega
  clear hc hz2
  go_upto_region 7 with (fail)
  go_cut [42] (fun x wx=>x=.bool (decide (48≤z2) && decide (z2≤57) && decide ((k:Int)≤16))∧wx=wr)
  case first =>
   go_wp2_with fail
   all_goals (go_meet; exact ⟨by first | rfl | (simp; done) | (simp_all; done) | grind,rfl⟩)
  case rest =>
  obtain ⟨rfl,rfl⟩:=hcut;rw [← HDG.out]
  have hdc:isDig c=true→48≤z2∧z2≤57:=fun h=>by
   rw [HDG.out] at h;simp only [Bool.and_eq_true,decide_eq_true_eq] at h;exact h
  have HDC:=zY hdc;clear hdc
  by_cases hgo:isDig c=true∧k≤16
  ·obtain ⟨hg1,hg2⟩:=hgo;obtain ⟨h48,h57⟩:=HDC.out hg1
   have hrt:rest=c :: rest.tail:=by
    cases rest with
    | nil =>
     have:c=0:=HC.out;rw [this] at hg1;exact absurd hg1 (by decide)
    | cons x l=>rw [HC.out]; rfl
   obtain ⟨tl,htl⟩:=eX (rest.tail);rw [← htl] at hrt;have HNX:=zY (show DigK X1 (tk++[c]) tl (k+1) from DigK.next (by rw [← hrt]; exact HDK.out) hg1 (by omega))
   have HRT:=zY (show s.data.toList.drop (f+(k+1))=tl by
    rw [← Nat.add_assoc,qaK,HRE.out,htl])
   have HFK:=zY (show f+k<s.size from qba (by
    rw [HRE.out,← HC.out];intro h0;rw [h0] at hg1;exact absurd hg1 (by decide)))
   obtain ⟨n,hn⟩:=eX (decV 0 tk)
   have HNV:=zY (show ((decV 0 (tk++[c]):Nat):Int)=10*(n:Int)+(z2 - 48) by
    rw [qcK,← hn,HZ.out];have:=(isDig_val hg1).1
    omega)
   have hn9:(n:Int)<10000000000000000:=by
    have h1:=HDK.out.lt;have h2:10^k≤10^16:=Nat.pow_le_pow_right (by decide) hg2;rw [← hn] at h1;omega
   have hw1:wrap64 (10*(n:Int))=10*(n:Int):=by unfold wrap64; omega
   have hw2:wrap64 (10*(n:Int)+(z2 - 48))=10*(n:Int)+(z2 - 48):=by unfold wrap64; omega
   clear hn9;rw [← hn,hg1,show decide ((k:Int)≤16)=true by simp; omega];have HGK:=zY hg2;clear hg1 hg2 hrt htl hn;go_wp2_with (refine qaf (x:=.tmp 57) (i:=1) HRD4.out rfl rfl rfl rfl (by kernel_rfl) (by simp [rdCells]) rfl ?_; intro w5 hb5 hw5)
   have HRD5:=zY (show RD w5 r s (f+(k+1)) d 0 from by
    show Blk w5 r _ #[.string s,.int .i64 ((f+(k+1):Nat):Int),.int .i64 d,.int .i64 0];have e:((f+(k+1):Nat):Int)=(f:Int)+(k:Int)+1:=by omega
    rw [e];have h:=hb5;simp only [hfk] at h;exact h)
   have HZ5:=zY (hw5.blk HZ4.out (by have:=HRL.out; omega));have HRG5:=zY (HRG4.out.trans (.wrote hw5));clear hb5 hw5;refine qaa (CL.out _ _ HRD5.out) ?_;rintro y w6 ⟨rfl,hrd,hrg⟩;have HRD6:=zY hrd;have HZ6:=zY (show Blk w6 w.heap.size 44 (jvCells zJV) from (World.grownBy.block hrg _ HZ5.out.lt (by have:=HRL.out; intro h; injection h with h; omega)).trans HZ5.out);have HRG6:=zY (HRG5.out.trans hrg);have HV6:=zY (show lookE s (f+(k+1)) 0=look tl by rw [lookE,if_pos rfl,HRT.out]);clear hrd hrg;go_wp2_with fail
   go_roundg (gk - 1)
   case measure=>have:=HGK.out; omega
   case rel=>exact ⟨k+1,tk++[c],tl,HNX.out,by have:=HGK.out; omega,by rw [HNV.out],by rw [HV6.out],HRT.out,HRD6.out,HZ6.out,HRG6.out⟩
  ·have HST:=zY (show takeD 17 X1=(tk,rest) from HDK.out.stop (by
    by_cases h:isDig c=true
    ·exact .inr (by have:=HDK.out.k17; have:¬ k≤16:=fun h'=>hgo ⟨h,h'⟩; omega)
    ·exact .inl (by rw [← HC.out]; simpa using h)))
   have hb:(isDig c && decide ((k:Int)≤16))=false:=by
    cases hq:isDig c with
    | false=>rfl
    | true =>
     have:¬ k≤16:=fun h'=>hgo ⟨hq,h'⟩;simp;omega
   rw [hb]
   have HLE:=zY (show f+k≤s.size from by
    have h1:=congrArg List.length HRE.out;have h2:=congrArg List.length HXF.out;have h3:=congrArg List.length HDK.out.app;have h4:=HDK.out.len;have h5:s.data.toList.length=s.size:=rfl;simp only [List.length_drop,List.length_append] at h1 h2 h3;have h6:=HFS.out
    omega)
   have hle:(f:Int)+(k:Int)≤(s.size:Int):=by have:=HLE.out; omega
   clear hb hgo;go_wp2_with fail
   go_quiet (fail)
   have HDX:=zY (show digP X=(tk,rest) by rw [digP,← HNG.out,← HX1.out,HST.out])
   have HEX:=zY (show (s.extract f (f+k)).data.toList=tk by
    rw [Lib.extract_data,HXF.out,HDK.out.app,show f+k - f=k by omega,← HDK.out.len,List.take_left])
   generalize hT:s.extract f (f+k)=T at *;have HTS:=zY (show T.data.toList=tk from HEX.out);have HRD7:=zY (show RD (wc.drewN nq) r s (f+k) d 0 from HRD4.out);have HZ7:=zY (show Blk (wc.drewN nq) w.heap.size 44 (jvCells zJV) from HZ4.out);have HRG7:=zY (HRG4.out.drewN nq);generalize wc.drewN nq=W7 at *
   go_upto_region 12 with (fail)
   obtain ⟨n,hn⟩:=eX (decV 0 tk);rw [← hn];have HNN:=zY hn;have HTL:=zY (show T.toList=tk by rw [Lib.toList_data,HTS.out]);have HTZ:=zY (show T.size=tk.length by rw [← HTS.out]; rfl)
   have haf:decide ((a:Int)<(f:Int))=neg:=by
    rw [HF.out]
    cases neg <;> simp
    omega
   have HAF:=zY haf;clear hn haf c0 c1
   go_cut [88] (fun x wx=>x=.bool (badN neg tk)∧wx=W7)
   case first =>
    cases tk with
    | nil =>
     have h0:(T.toList == [])=true:=by rw [HTL.out]; rfl
     go_wp2_with fail
     all_goals (go_meet; exact ⟨by simp [badN],rfl⟩)
    | cons y l =>
     have h0:(T.toList == [])=false:=by rw [HTL.out]; rfl
     have hz:0<T.size:=by rw [HTZ.out]; simp
     have hz':(0:Int)<(T.size:Int):=by omega
     have hy:T[0]=y:=by
      have:T.data.toList[0]?=some y:=by rw [HTS.out]; rfl
      have h2:T.data.toList[0]'hz=y:=by
       rw [List.getElem?_eq_getElem hz] at this
       injection this
      exact h2
     obtain ⟨q,hq⟩:∃ q:Int,((T[0].toNat:Nat):Int)=q:=⟨_,rfl⟩
     have HQ:=zY (show (look (y :: l) == 48)=(q == 48) by
      rw [← hq,hy,Bool.eq_iff_iff,beq_iff_eq,beq_iff_eq]
      constructor
      ·intro h; rw [show y=48 from h]; rfl
      ·intro h; exact UInt8.toNat.inj (by show y.toNat=48; omega))
     have HS1:=zY (show decide (1<(y :: l).length)=decide ((1:Int)<(T.size:Int)) by rw [HTZ.out,Bool.eq_iff_iff]; simp; omega)
     have HB:=zY (show badN neg (y :: l)=((q == 48 && (decide ((1:Int)<(T.size:Int)) || decide ((a:Int)<(f:Int)))) || decide ((1000000000000000:Int)<(n:Int))) by
      have hd:decide (1000000000000000<n)=decide ((1000000000000000:Int)<(n:Int)):=by rw [Bool.eq_iff_iff,decide_eq_true_iff,decide_eq_true_iff]; omega
      rw [badN,HQ.out,HS1.out,← HAF.out,← HNN.out,hd]
      rfl)
     clear hy;go_wp2_with fail
     all_goals (go_meet; exact ⟨by rw [HB.out]; first | rfl | (simp; done) | (simp_all; done) | grind,rfl⟩)
   case rest =>
   obtain ⟨rfl,rfl⟩:=hcut
   have HNP:=zY (show numP X=if badN neg tk=true then none else some ((if neg=true then -(n:Int) else (n:Int)),rest) by
    rw [numP,← HNG.out,HDX.out,← HNN.out])
   have HAT:=zY (show At s a (f+k) (digP X).2 from ⟨by have:=HFS.out; omega,.inr (by have:=HLE.out; omega),by rw [HDX.out]; exact HRE.out⟩)
   cases hbad:badN neg tk with
   | true =>
    have HN0:=zY (show numP X=none by rw [HNP.out,hbad]; rfl);clear HNP hbad;have CF:=zY (qbn 13 s r (f+k) d 0 _ HRD7.out);go_wp2_with fail;refine qaa CF.out ?_;rintro y w8 ⟨rfl,hrd,hrg⟩;have HRD8:=zY (show RD w8 r s (f+k) d 13 from hrd);have HZ8:=zY (show Blk w8 w.heap.size 44 (jvCells zJV) from (World.grownBy.block hrg _ HZ7.out.lt (by have:=HRL.out; intro h; injection h with h; omega)).trans HZ7.out);have HRG8:=zY (HRG7.out.trans hrg);clear hrd hrg;go_wp2_with (refine qac (x:=.tmp 2) (cells:=jvCells zJV) HZ8.out rfl rfl rfl rfl qag rfl (qae _) ?_; intro w9 hb9 hw9);have HB9:=zY hb9;refine bodyPost_ret (qah (P:=Tryz.prog) rfl rfl HB9.out hu rfl qag) rfl ?_;rw [HN0.out];exact ⟨rfl,f+k,HAT.out,hw9.blk HRD8.out (by have:=HRL.out; omega),HRG8.out.wrote_new hw9 (Nat.le_refl _)⟩
   | false =>
    have HN0:=zY (show numP X=some ((if neg=true then -(n:Int) else (n:Int)),rest) by rw [HNP.out,hbad]; rfl)
    have hn15:n≤1000000000000000:=by
     unfold badN at hbad;simp only [Bool.or_eq_false_iff,decide_eq_false_iff_not] at hbad;have:=hbad.2;rw [← HNN.out] at this;omega
    have hw:wrap64 (-(n:Int))=-(n:Int):=by unfold wrap64; omega
    clear HNP hbad hn15
    go_upto_region 15 with (fail)
    go_upto_if 94 with (fail)
    go_cut [5] (fun x wx=>x=.int .i64 (if decide ((a:Int)<(f:Int))=true then -(n:Int) else (n:Int))∧wx=wc)
    case first =>
     go_wp2_with fail
     all_goals (go_meet; exact ⟨by first | rfl | (simp; done) | (simp_all; done) | grind,rfl⟩)
    case rest =>
    obtain ⟨rfl,rfl⟩:=hcut;rw [HAF.out];generalize (if neg=true then -(n:Int) else (n:Int))=m at *;go_wp2_with (refine qac (x:=.tmp 2) (cells:=jvCells ⟨2,m,[],none,0,0,none,0,0⟩) HZ7.out rfl rfl rfl rfl qag rfl (qae _) ?_; intro w9 hb9 hw9);have HB9:=zY hb9;refine bodyPost_ret (qah (P:=Tryz.prog) rfl rfl HB9.out hu rfl qag) rfl ?_;rw [HN0.out];exact ⟨rfl,f+k,HAT.out,hw9.blk HRD7.out (by have:=HRL.out; omega),HRG7.out.wrote_new hw9 (Nat.le_refl _)⟩
def RqPost {α:Type} (X:Option (α × Bs)) (s:ByteArray) (r a:Nat) (w w':World):Prop :=
 ∃ (a':Nat) (e':Int),a'≤s.size∧(∀ t r',X=some (t,r')→skip (s.data.toList.drop a')=skip r'∧e'=0)∧(X=none→e'≠0)∧RQ w' r s a' e'∧RG r w w'
theorem qa6 {c:UInt8} {rest:Bs} (hc:c≠0):nextB [c] 0 rest=(look rest == c):=by
 unfold nextB
 cases rest with
 | nil =>
  simp [look,List.isPrefixOf];exact fun h=>hc h.symm
 | cons x l =>
  simp [look,List.isPrefixOf];rw [Bool.eq_iff_iff,beq_iff_eq,beq_iff_eq];exact ⟨fun h=>h.symm,fun h=>h.symm⟩
structure DgA (s:ByteArray) (f b:Nat) (tk:Bs):Prop where
 fb:b=f+tk.length
 bs:b≤s.size
 eq:s.data.toList.drop f=tk++s.data.toList.drop b
 dg:tk.all isDig=true
theorem DgA.zero {s:ByteArray} {f:Nat} (h:f≤s.size):DgA s f f []:=⟨rfl,h,rfl,rfl⟩
theorem DgA.next {s:ByteArray} {f b:Nat} {tk:Bs} (h:DgA s f b tk) (hb:b<s.size) (hd:isDig s[b]=true):DgA s f (b+1) (tk++[s[b]]):=by
 refine ⟨by have:=h.fb; rw [List.length_append]; simp; omega,hb,?_,by simp [h.dg,hd]⟩;rw [h.eq,dropc hb];simp
theorem DgA.look {s:ByteArray} {b:Nat} (h:¬ (∃ hb:b<s.size,isDig s[b]=true)):isDig (look (s.data.toList.drop b))=false:=by
 by_cases hb:b<s.size
 ·rw [qdJ hb]
  cases hq:isDig s[b] with
  | true=>exact absurd ⟨hb,hq⟩ h
  | false=>rfl
 ·rw [qcF hb];rfl
set_option maxHeartbeats 8000000 in
theorem rnumber_any (s:ByteArray) (hs:(s.size:Int)≤1000000) (r a:Nat) (ha:a≤s.size) (w:World) (h:RQ w r s a 0) (X:Bs) (hX:X=s.data.toList.drop a) :
  Calls Tryz.prog 77 #[.pointer (some ⟨r,0,none⟩)] w fun x w'=>x=.returned (.agg (jvCells (numV (numP X))))∧RqPost (numP X) s r a w w':=by
 have hu:=Tryz.underlying44;obtain ⟨W0,hW0⟩:=eX (w.alloc (.cells (jvCells zJV) 44));have hb0:Below w.heap.size w W0:=by rw [hW0]; exact (Below.refl _ w).alloc (Nat.le_refl _) _
 obtain ⟨G,hG⟩:=eX (w.heap.size);have HKZ:=zY (show Blk W0 G 44 (jvCells zJV) by rw [hW0,hG]; exact Blk.new _ _ _);have HRD:=zY (h.grow hb0);have HRG:=zY (show RG r w W0 from .below hb0);have HRL:=zY (show r<G by rw [hG]; exact Blk.lt h);have HW0:=zY hW0;have HX:=zY hX;have HA:=zY ha;obtain ⟨neg,hneg⟩:=eX (negP X);have HNG:=zY hneg;obtain ⟨f,hf⟩:=eX ((if neg then a+1 else a));have HF:=zY hf
 have CN:=zY (show Calls Tryz.prog 75 #[.pointer (some ⟨r,0,none⟩),.string (bs [45])] W0 fun x w'=>x=.returned (.bool neg)∧RQ w' r s f 0∧RG r W0 w' by
  have h1:=rnext_any s [45] (by decide) r a 0 ha hs W0 HRD.out;rw [qa6 (by decide),← hX] at h1;rw [hf,hneg];exact h1)
 have HLT:=zY (show neg=true→a<s.size from fun h=>qba (by
  rw [h] at hneg;have:look X=45:=by simpa [negP] using hneg.symm
  rw [← HX.out,this]
  decide))
 clear hW0 hb0 h hX ha hneg hf;rw [hG] at *;clear hG;go_enter Tryz.func77,Tryz.ntmps77
 go_upto_region 1 with (fail)
 rw [show (w.alloc (.cells #[.int .i64 0,.int .i64 0,.string ⟨#[]⟩,.slice none 0 0,.slice none 0 0] 44))=W0 from HW0.out.symm];clear HW0;go_wp2_with fail;refine qaa CN.out ?_;rintro y w1 ⟨rfl,hrd,hrg⟩;have HRD1:=zY hrd;have HZ1:=zY (show Blk w1 w.heap.size 44 (jvCells zJV) from (World.grownBy.block hrg _ HKZ.out.lt (by have:=HRL.out; intro h; injection h with h; omega)).trans HKZ.out);have HRG1:=zY (HRG.out.trans hrg);obtain ⟨X1,hX1⟩:=eX ((if neg then X.tail else X));have HX1:=zY hX1
 have HXF:=zY (show s.data.toList.drop f=X1 by
  rw [HF.out,hX1]
  cases neg with
  | true=>simp only [if_true]; rw [qaK,HX.out]
  | false=>simp only [Bool.false_eq_true,if_false]; rw [HX.out])
 have HFS:=zY (show a≤f∧f≤s.size by
  have h1:=HF.out;have h2:=HA.out
  cases neg with
  | true=>simp only [if_true] at h1; have:=HLT.out rfl; omega
  | false=>simp only [Bool.false_eq_true,if_false] at h1; omega)
 obtain ⟨c0,c1,c2⟩:=hrd.cells;clear hrd hrg hX1;go_wp2_with fail;clear c0 c1 c2
 go_loopw [] (fun wr=>∃ (b:Nat) (tk:Bs),DgA s f b tk∧RQ wr r s b 0∧Blk wr w.heap.size 44 (jvCells zJV)∧RG r w wr) (fun wr=>s.size - atI wr r)
 case atStart=>exact ⟨f,[],DgA.zero HFS.out.2,HRD1.out,HZ1.out,HRG1.out⟩
 case round =>
  obtain ⟨b,tk,hdg,hrq,hz,hrg⟩:=hrel;have HDG:=zY hdg;have HRQ:=zY hrq;have HZ:=zY hz;have HRG2:=zY hrg;have HAT:=zY hrq.atI;have hbs:=hdg.bs;clear hdg hrq hz hrg;obtain ⟨q,hq⟩:∃ q:Bool,q=isDig (look (s.data.toList.drop b)):=⟨_,rfl⟩;have HQQ:=zY hq;clear hq
  go_upto_region 3 with (fail)
  go_cut [47] (fun x wx=>x=.bool q∧RQ wx r s b 0∧Blk wx w.heap.size 44 (jvCells zJV)∧RG r w wx)
  case first =>
   by_cases hl:b<s.size
   ·have hl2:(b:Int)<(s.size:Int):=by omega
    obtain ⟨z,hz⟩:∃ z:Int,z=((s[b].toNat:Nat):Int):=⟨_,rfl⟩;have hx:((s[b].toNat:Nat):Int)=z:=hz.symm
    have hqz:q=(decide (48≤z) && decide (z≤57)):=by
     rw [HQQ.out,qdJ hl,isDig,hz,Bool.eq_iff_iff];simp only [Bool.and_eq_true,decide_eq_true_eq,UInt8.le_iff_toNat_le];show (48≤s[b].toNat∧s[b].toNat≤57)↔_;omega
    have HQZ:=zY hqz
    have hcs:decide (48≤z)=false∨(decide (48≤z)=true∧decide (z≤57)=false)∨(decide (48≤z)=true∧decide (z≤57)=true):=by
     simp only [decide_eq_false_iff_not,decide_eq_true_eq];omega
    clear hz hqz
    rcases hcs with hv1 | ⟨hv1,hv2⟩ | ⟨hv1,hv2⟩
    all_goals
     have HC0:RQ wr.drew r s b 0∧Blk wr.drew w.heap.size 44 (jvCells zJV)∧RG r w wr.drew:=⟨HRQ.out,HZ.out,qbv HRG2.out⟩;refine qam (fun u=>RQ u r s b 0∧Blk u w.heap.size 44 (jvCells zJV)∧RG r w u) (by kernel_rfl) (by kernel_rfl) HC0 ?_
     iterate 34
      first
      | (apply SeqL.no; rfl; rfl; rfl; (simp only [sP]; rfl))
      | ((first | (apply SeqL.next; rfl; rfl) | (apply SeqL.yes; rfl; rfl; rfl; rfl)); (simp only [sP]; rfl); (intro w1 hC1 E hE; obtain ⟨d0,d1,d2⟩:=hC1.1.cells; go_wp2; exact .mk (hE _ hC1)))
     refine SeqL.nil ?_;intro w1 hC1;go_wp2_with fail
     go_meet
     rw [HQZ.out];exact ⟨by first | (simp [hv1]; done) | (simp [hv1,hv2]; done),hC1⟩
   ·have hl3:s.size≤b:=by omega
    have hl2:decide ((b:Int)<(s.size:Int))=false:=by simp; omega
    have HQZ:=zY (show q=false by rw [HQQ.out,qcF hl]; rfl);have HC0:RQ wr.drew r s b 0∧Blk wr.drew w.heap.size 44 (jvCells zJV)∧RG r w wr.drew:=⟨HRQ.out,HZ.out,qbv HRG2.out⟩;refine qam (fun u=>RQ u r s b 0∧Blk u w.heap.size 44 (jvCells zJV)∧RG r w u) (by kernel_rfl) (by kernel_rfl) HC0 ?_
    iterate 34
     first
     | (apply SeqL.no; rfl; rfl; rfl; (simp only [sP]; rfl))
     | ((first | (apply SeqL.next; rfl; rfl) | (apply SeqL.yes; rfl; rfl; rfl; rfl)); (simp only [sP]; rfl); (intro w1 hC1 E hE; obtain ⟨d0,d1,d2⟩:=hC1.1.cells; go_wp2; exact .mk (hE _ hC1)))
    refine SeqL.nil ?_;intro w1 hC1;go_wp2_with fail
    go_meet
    rw [HQZ.out];exact ⟨rfl,hC1⟩
  case rest =>
  obtain ⟨rfl,hq1,hz1,hg1⟩:=hcut;have HQ1:=zY hq1;have HZ1:=zY hz1;have HG1:=zY hg1;obtain ⟨e0,e1,e2⟩:=hq1.cells;clear hq1 hz1 hg1
  cases q with
  | true =>
   have hl:b<s.size:=qba (by
    have h:=HQQ.out;intro h0;rw [h0] at h;exact absurd h (by decide))
   have HNX:=zY (HDG.out.next hl (by have h:=HQQ.out; rw [qdJ hl] at h; exact h.symm));go_wp2_with (refine qaf (x:=.tmp 54) (i:=1) HQ1.out rfl rfl rfl rfl (by kernel_rfl) (by simp [rqCells]) rfl ?_; intro w5 hb5 hw5);have hrq5:RQ w5 r s (b+1) 0:=hb5;refine ⟨?_,by rw [hrq5.atI,HAT.out]; omega⟩
   repeat (apply Exists.intro)
   refine ⟨?_,rfl⟩;exact ⟨b+1,tk++[s[b]],HNX.out,hrq5,hw5.blk HZ1.out (by have:=HRL.out; omega),HG1.out.trans (.wrote hw5)⟩
  | false =>
   have HFB:=zY (show f≤b by rw [HDG.out.fb]; omega);have hfb:(f:Int)≤(b:Int):=by have:=HFB.out; omega
   have hbs2:(b:Int)≤(s.size:Int):=by omega
   have hsl:∀ u:World,(Instr.slice 9 (.string s) (some (.int .i64 (f:Int))) (some (.int .i64 (b:Int))) none).run Tryz.prog u=.ok (.string (s.extract f b)) u:=fun u=>by
    have h:=run_slice_string (P:=Tryz.prog) u 9 s .i64 .i64 (f:Int) (b:Int) Tryz.underlying9 (by omega) (by omega) (by omega);rw [Int.toNat_natCast,Int.toNat_natCast] at h;exact h
   have HTK:=zY (show (s.extract f b).data.toList=tk by
    have h1:=HDG.out.fb;rw [Lib.extract_data,HDG.out.eq,show b - f=tk.length by omega,List.take_left])
   generalize s.extract f b=T at *;go_wp2_with fail;have HC0:RQ wc.drew r s b 0∧Blk wc.drew w.heap.size 44 (jvCells zJV)∧RG r w wc.drew:=⟨HQ1.out,HZ1.out,qbv HG1.out⟩;refine qam (fun u=>RQ u r s b 0∧Blk u w.heap.size 44 (jvCells zJV)∧RG r w u) (by kernel_rfl) (by kernel_rfl) HC0 ?_
   iterate 11
    ((first | (apply SeqL.next; rfl; rfl)); (simp only [sP]; rfl); (intro w1 hC1 E hE; obtain ⟨d0,d1,d2⟩:=hC1.1.cells; go_wp2; exact .mk (hE _ hC1)))
   refine SeqL.nil ?_;intro w1 hC1;obtain ⟨hq2,hz2,hg2⟩:=hC1;have HQ7:=zY hq2;have HZ7:=zY hz2;have HG7:=zY hg2;clear HC0 hq2 hz2 hg2 hsl e0 e1 e2;have HTZ:=zY (show T.size=tk.length by rw [← HTK.out]; rfl);have HALL:=zY HDG.out.dg;have HNP:=zY (numP_digits HNG.out HX1.out (HXF.out.symm.trans HDG.out.eq) HDG.out.dg HQQ.out.symm)
   go_upto_region 6 with (fail)
   go_cut [85] (fun x wx=>x=.bool (numbad neg tk)∧wx=w1)
   case first =>
    obtain ⟨m,hm⟩:∃ m:Int,m=(T.size:Int):=⟨_,rfl⟩;have hm':(T.size:Int)=m:=hm.symm
    cases tk with
    | nil =>
     have h0:(m == 0)=true:=by rw [hm,HTZ.out]; rfl
     clear hm;go_wp2_with fail
     all_goals (go_meet; exact ⟨by simp [numbad],rfl⟩)
    | cons y l =>
     have h0:(m == 0)=false:=by
      rw [hm,HTZ.out,List.length_cons];simp only [beq_eq_false_iff_ne,ne_eq];omega
     have hz:0<T.size:=by rw [HTZ.out]; simp
     have hz':(0:Int)<m:=by omega
     have hy:T[0]=y:=List.getElem_of_eq HTK.out (i:=0) hz;obtain ⟨q,hq⟩:∃ q:Int,((T[0].toNat:Nat):Int)=q:=⟨_,rfl⟩
     have HQ:=zY (show (look (y :: l) == 48)=(q == 48) by
      rw [← hq,hy,Bool.eq_iff_iff,beq_iff_eq,beq_iff_eq]
      constructor
      ·intro h; rw [show y=48 from h]; rfl
      ·intro h; exact UInt8.toNat.inj (by show y.toNat=48; omega))
     have HS1:=zY (show decide (1<(y :: l).length)=decide ((1:Int)<m) by rw [hm,HTZ.out,Bool.eq_iff_iff]; simp; omega);have HS2:=zY (show decide (16<(y :: l).length)=decide ((16:Int)<m) by rw [hm,HTZ.out,Bool.eq_iff_iff]; simp; omega)
     have HB:=zY (show numbad neg (y :: l)=(decide ((16:Int)<m) || (q == 48 && (decide ((1:Int)<m) || neg))) by
      rw [numbad,HQ.out,HS1.out,HS2.out]
      rfl)
     clear hy hm;go_wp2_with fail
     all_goals (go_meet; exact ⟨by rw [HB.out]; first | rfl | (simp; done) | (simp_all; done) | grind,rfl⟩)
   case rest =>
   obtain ⟨rfl,rfl⟩:=hcut;have HE13:=zY (fun (u:World) (h:RQ u r s b 0)=>qdb 13 s r b 0 u h)
   cases hnb:numbad neg tk with
   | true =>
    have HN0:=zY (show numP X=none by rw [HNP.out,hnb]; rfl);clear hnb;go_wp2_with fail;refine qaa (HE13.out _ HQ7.out) ?_;rintro y w8 ⟨rfl,hrd,hrg⟩;have HQ8:=zY (show RQ w8 r s b 13 from hrd);have HZ8:=zY (show Blk w8 w.heap.size 44 (jvCells zJV) from (World.grownBy.block hrg _ HZ7.out.lt (by have:=HRL.out; intro h; injection h with h; omega)).trans HZ7.out);have HG8:=zY (HG7.out.trans hrg);clear hrd hrg;go_wp2_with (refine qac (x:=.tmp 2) (cells:=jvCells zJV) HZ8.out rfl rfl rfl rfl qag rfl (qae _) ?_; intro w9 hb9 hw9);have HB9:=zY hb9;refine bodyPost_ret (qah (P:=Tryz.prog) rfl rfl HB9.out hu rfl qag) rfl ?_;rw [HN0.out];exact ⟨rfl,b,13,hbs,(fun _ _ h=>nomatch h),fun _=>by decide,hw9.blk HQ8.out (by have:=HRL.out; omega),HG8.out.wrote_new hw9 (Nat.le_refl _)⟩
   | false =>
    have HNP2:=zY (show numP X=if 1000000000000000<decV 0 tk then none else some (if neg=true then -(decV 0 tk:Int) else (decV 0 tk:Int),s.data.toList.drop b) by rw [HNP.out,hnb]; rfl)
    have HLEN:=zY (show tk.length≤16 by
     unfold numbad at hnb;simp only [Bool.or_eq_false_iff,decide_eq_false_iff_not] at hnb;have:=hnb.1.2
     omega)
    clear hnb;go_wp2_with fail
    go_loopw [6,7] (fun n i wr=>∃ k:Nat,n=.int .i64 ((decV 0 (tk.take k):Nat):Int)∧i=.int .i64 (k:Int)∧k≤tk.length∧wr=wc) (fun _ i _=>tk.length - (intOf i).toNat)
    case atStart=>exact ⟨0,rfl,rfl,Nat.zero_le _,rfl⟩
    case round =>
     obtain ⟨k,rfl,rfl,hkl,rfl⟩:=hrel
     by_cases hk:k<tk.length
     ·have hkT:k<T.size:=by rw [HTZ.out]; exact hk
      have hkT2:(k:Int)<(T.size:Int):=by omega
      have hTk:T[k]=tk[k]:=List.getElem_of_eq HTK.out (i:=k) hkT;have hdk:isDig tk[k]=true:=List.all_eq_true.1 HALL.out _ (List.getElem_mem hk);obtain ⟨h48,h57⟩:=qcv hdk;obtain ⟨z2,hz2⟩:∃ z2:Int,z2=((T[k].toNat:Nat):Int):=⟨_,rfl⟩;have hx2:((T[k].toNat:Nat):Int)=z2:=hz2.symm;have hzl:48≤z2:=by rw [hz2,hTk]; omega
      have hzu:z2≤57:=by rw [hz2,hTk]; omega
      obtain ⟨n,hn⟩:=eX (decV 0 (tk.take k));rw [← hn]
      have HNV:=zY (show ((decV 0 (tk.take (k+1)):Nat):Int)=10*(n:Int)+(z2 - 48) by
       rw [List.take_succ_eq_append_getElem hk,qcK,← hn,hz2,hTk]
       omega)
      have hn9:(n:Int)<10000000000000000:=by
       have h1:=decV_lt (tk.take k) 0 (List.all_eq_true.2 fun x hx=>List.all_eq_true.1 HALL.out x (List.mem_of_mem_take hx));have h2:10^(tk.take k).length≤10^16:=Nat.pow_le_pow_right (by decide) (by rw [List.length_take]; have:=HLEN.out; omega);rw [← hn] at h1;omega
      have hw1:wrap64 (10*(n:Int))=10*(n:Int):=by unfold wrap64; omega
      have hw2:wrap64 (10*(n:Int)+(z2 - 48))=10*(n:Int)+(z2 - 48):=by unfold wrap64; omega
      have hk16:(k:Int)≤16:=by have:=HLEN.out; omega
      have hw3:wrap64 ((k:Int)+1)=((k+1:Nat):Int):=by unfold wrap64; omega
      have HW2:=zY hw2;have HW3:=zY hw3;clear hn9 hn hz2 hdk hTk h48 h57 hw3;go_wp2_with fail
      go_roundw
      case measure=>simp only [intOf]; (try rw [HW3.out]); omega
      case rel=>exact ⟨k+1,by rw [HNV.out]; first | rfl | rw [HW2.out],by first | rfl | rw [HW3.out],hk,trivial⟩
     ·have hkT:¬ k<T.size:=by rw [HTZ.out]; exact hk
      have hkT2:¬ (k:Int)<(T.size:Int):=by omega
      obtain ⟨n,hn⟩:=eX (decV 0 tk);rw [show tk.take k=tk from List.take_of_length_le (by omega),← hn];rw [← hn] at HNP2
      have hn9:(n:Int)<10000000000000000:=by
       have h1:=decV_lt tk 0 HALL.out;have h2:10^tk.length≤10^16:=Nat.pow_le_pow_right (by decide) HLEN.out;rw [← hn] at h1;omega
      have hw:wrap64 (-(n:Int))=-(n:Int):=by unfold wrap64; omega
      clear hn hn9
      by_cases hbig:1000000000000000<n
      ·have hbig2:(1000000000000000:Int)<(n:Int):=by omega
       have HN0:=zY (show numP X=none by rw [HNP2.out,if_pos hbig]);clear hbig;go_wp2_with fail;refine qaa (HE13.out _ HQ7.out) ?_;rintro y w8 ⟨rfl,hrd,hrg⟩;have HQ8:=zY (show RQ w8 r s b 13 from hrd);have HZ8:=zY (show Blk w8 w.heap.size 44 (jvCells zJV) from (World.grownBy.block hrg _ HZ7.out.lt (by have:=HRL.out; intro h; injection h with h; omega)).trans HZ7.out);have HG8:=zY (HG7.out.trans hrg);clear hrd hrg;go_wp2_with (refine qac (x:=.tmp 2) (cells:=jvCells zJV) HZ8.out rfl rfl rfl rfl qag rfl (qae _) ?_; intro w9 hb9 hw9);have HB9:=zY hb9;refine bodyPost_ret (qah (P:=Tryz.prog) rfl rfl HB9.out hu rfl qag) rfl ?_;rw [HN0.out];exact ⟨rfl,b,13,hbs,(fun _ _ h=>nomatch h),fun _=>by decide,hw9.blk HQ8.out (by have:=HRL.out; omega),HG8.out.wrote_new hw9 (Nat.le_refl _)⟩
      ·have hbig2:¬ (1000000000000000:Int)<(n:Int):=by omega
       have HN0:=zY (show numP X=some (if neg=true then -(n:Int) else (n:Int),s.data.toList.drop b) by rw [HNP2.out,if_neg hbig]);clear hbig
       cases neg
       all_goals
        go_wp2_with (refine qac (x:=.tmp 2) (cells:=jvCells ⟨2,_,[],none,0,0,none,0,0⟩) HZ7.out rfl rfl rfl rfl qag rfl (qae _) ?_; intro w9 hb9 hw9);have HB9:=zY hb9;refine bodyPost_ret (qah (P:=Tryz.prog) rfl rfl HB9.out hu rfl qag) rfl ?_;rw [HN0.out];exact ⟨rfl,b,0,hbs,(fun _ _ h=>by cases h; exact ⟨rfl,rfl⟩),(fun h=>nomatch h),hw9.blk HQ7.out (by have:=HRL.out; omega),HG7.out.wrote_new hw9 (Nat.le_refl _)⟩
def nulJ:JV:=zJV
def truJ:JV:=⟨1,1,[],none,0,0,none,0,0⟩
def falJ:JV:=⟨1,0,[],none,0,0,none,0,0⟩
def wJ (p:Bool) (v:JV):JV:=if p then v else zJV
def wA (p:Bool) (a n:Nat):Nat:=if p then a+n else a
def wE (p:Bool):Int:=if p then 0 else 13
theorem take1_any (s:ByteArray) (hs:(s.size:Int)≤1000000) (r a:Nat) (d:Int) (w:World) (h:RD w r s a d 0) (ha:a≤s.size) :
  Calls Tryz.prog 98 #[.pointer (some ⟨r,0,none⟩)] w fun x w'=>x=.returned (.agg (jvCells (wJ (List.isPrefixOf [110,117,108,108] (s.data.toList.drop a)) nulJ))) ∧
   RD w' r s (wA (List.isPrefixOf [110,117,108,108] (s.data.toList.drop a)) a 4) d (wE (List.isPrefixOf [110,117,108,108] (s.data.toList.drop a)))∧RG r w w':=by
 have hu:=Tryz.underlying44;obtain ⟨W0,hW0⟩:=eX (w.alloc (.cells (jvCells zJV) 44));have hb0:Below w.heap.size w W0:=by rw [hW0]; exact (Below.refl _ w).alloc (Nat.le_refl _) _
 obtain ⟨G,hG⟩:=eX (w.heap.size);have HKZ:=zY (show Blk W0 G 44 (jvCells zJV) by rw [hW0,hG]; exact Blk.new _ _ _);have HRD:=zY (h.grow hb0);have HRG:=zY (show RG r w W0 from .below hb0);have HRL:=zY (show r<G by rw [hG]; exact Blk.lt h);have HW0:=zY hW0
 have CW:=zY (show Calls Tryz.prog 99 #[.pointer (some ⟨r,0,none⟩),.string (bs [110,117,108,108]),.agg (jvCells nulJ)] W0 fun x w'=>x=.returned (.agg (jvCells (wJ (List.isPrefixOf [110,117,108,108] (s.data.toList.drop a)) nulJ))) ∧
   RD w' r s (wA (List.isPrefixOf [110,117,108,108] (s.data.toList.drop a)) a 4) d (wE (List.isPrefixOf [110,117,108,108] (s.data.toList.drop a)))∧RG r W0 w' from word_any [110,117,108,108] (by decide) nulJ s hs r a d W0 HRD.out ha)
 obtain ⟨pre,hpre⟩:=eX (List.isPrefixOf [110,117,108,108] (s.data.toList.drop a));rw [← hpre] at CW ⊢;clear hW0 hb0 h ha hpre;rw [hG] at *;clear hG;go_enter Tryz.func98,Tryz.ntmps98
 go_upto_region 1 with (fail)
 rw [show (w.alloc (.cells #[.int .i64 0,.int .i64 0,.string ⟨#[]⟩,.slice none 0 0,.slice none 0 0] 44))=W0 from HW0.out.symm];clear HW0;go_wp2_with fail;refine qaa CW.out ?_;rintro y w1 ⟨rfl,hrd,hrg⟩;have HRD1:=zY hrd;have HZ1:=zY (show Blk w1 w.heap.size 44 (jvCells zJV) from (World.grownBy.block hrg _ HKZ.out.lt (by have:=HRL.out; intro h; injection h with h; omega)).trans HKZ.out);have HRG1:=zY (HRG.out.trans hrg);clear hrd hrg;go_wp2_with (refine qac (x:=.tmp 2) (cells:=jvCells (wJ pre nulJ)) HZ1.out rfl rfl rfl rfl qag rfl (qae _) ?_; intro w9 hb9 hw9);have HB9:=zY hb9;refine bodyPost_ret (qah (P:=Tryz.prog) rfl rfl HB9.out hu rfl qag) rfl ?_;exact ⟨rfl,hw9.blk HRD1.out (by have:=HRL.out; omega),HRG1.out.wrote_new hw9 (Nat.le_refl _)⟩
theorem take2_any (s:ByteArray) (hs:(s.size:Int)≤1000000) (r a:Nat) (d:Int) (w:World) (h:RD w r s a d 0) (ha:a≤s.size) :
  Calls Tryz.prog 100 #[.pointer (some ⟨r,0,none⟩)] w fun x w'=>x=.returned (.agg (jvCells (wJ (List.isPrefixOf [116,114,117,101] (s.data.toList.drop a)) truJ))) ∧
   RD w' r s (wA (List.isPrefixOf [116,114,117,101] (s.data.toList.drop a)) a 4) d (wE (List.isPrefixOf [116,114,117,101] (s.data.toList.drop a)))∧RG r w w':=by
 have hu:=Tryz.underlying44;obtain ⟨W0,hW0⟩:=eX (w.alloc (.cells (jvCells zJV) 44));have hb0:Below w.heap.size w W0:=by rw [hW0]; exact (Below.refl _ w).alloc (Nat.le_refl _) _
 obtain ⟨G,hG⟩:=eX (w.heap.size);have HKZ:=zY (show Blk W0 G 44 (jvCells zJV) by rw [hW0,hG]; exact Blk.new _ _ _);have HRD:=zY (h.grow hb0);have HRG:=zY (show RG r w W0 from .below hb0);have HRL:=zY (show r<G by rw [hG]; exact Blk.lt h);have HW0:=zY hW0
 have CW:=zY (show Calls Tryz.prog 99 #[.pointer (some ⟨r,0,none⟩),.string (bs [116,114,117,101]),.agg (jvCells truJ)] W0 fun x w'=>x=.returned (.agg (jvCells (wJ (List.isPrefixOf [116,114,117,101] (s.data.toList.drop a)) truJ))) ∧
   RD w' r s (wA (List.isPrefixOf [116,114,117,101] (s.data.toList.drop a)) a 4) d (wE (List.isPrefixOf [116,114,117,101] (s.data.toList.drop a)))∧RG r W0 w' from word_any [116,114,117,101] (by decide) truJ s hs r a d W0 HRD.out ha)
 obtain ⟨pre,hpre⟩:=eX (List.isPrefixOf [116,114,117,101] (s.data.toList.drop a));rw [← hpre] at CW ⊢;clear hW0 hb0 h ha hpre;rw [hG] at *;clear hG;go_enter Tryz.func100,Tryz.ntmps100
 go_upto_region 1 with (fail)
 rw [show (w.alloc (.cells #[.int .i64 0,.int .i64 0,.string ⟨#[]⟩,.slice none 0 0,.slice none 0 0] 44))=W0 from HW0.out.symm];clear HW0;go_wp2_with fail;refine qaa CW.out ?_;rintro y w1 ⟨rfl,hrd,hrg⟩;have HRD1:=zY hrd;have HZ1:=zY (show Blk w1 w.heap.size 44 (jvCells zJV) from (World.grownBy.block hrg _ HKZ.out.lt (by have:=HRL.out; intro h; injection h with h; omega)).trans HKZ.out);have HRG1:=zY (HRG.out.trans hrg);clear hrd hrg;go_wp2_with (refine qac (x:=.tmp 2) (cells:=jvCells (wJ pre truJ)) HZ1.out rfl rfl rfl rfl qag rfl (qae _) ?_; intro w9 hb9 hw9);have HB9:=zY hb9;refine bodyPost_ret (qah (P:=Tryz.prog) rfl rfl HB9.out hu rfl qag) rfl ?_;exact ⟨rfl,hw9.blk HRD1.out (by have:=HRL.out; omega),HRG1.out.wrote_new hw9 (Nat.le_refl _)⟩
theorem take3_any (s:ByteArray) (hs:(s.size:Int)≤1000000) (r a:Nat) (d:Int) (w:World) (h:RD w r s a d 0) (ha:a≤s.size) :
  Calls Tryz.prog 101 #[.pointer (some ⟨r,0,none⟩)] w fun x w'=>x=.returned (.agg (jvCells (wJ (List.isPrefixOf [102,97,108,115,101] (s.data.toList.drop a)) falJ))) ∧
   RD w' r s (wA (List.isPrefixOf [102,97,108,115,101] (s.data.toList.drop a)) a 5) d (wE (List.isPrefixOf [102,97,108,115,101] (s.data.toList.drop a)))∧RG r w w':=by
 have hu:=Tryz.underlying44;obtain ⟨W0,hW0⟩:=eX (w.alloc (.cells (jvCells zJV) 44));have hb0:Below w.heap.size w W0:=by rw [hW0]; exact (Below.refl _ w).alloc (Nat.le_refl _) _
 obtain ⟨G,hG⟩:=eX (w.heap.size);have HKZ:=zY (show Blk W0 G 44 (jvCells zJV) by rw [hW0,hG]; exact Blk.new _ _ _);have HRD:=zY (h.grow hb0);have HRG:=zY (show RG r w W0 from .below hb0);have HRL:=zY (show r<G by rw [hG]; exact Blk.lt h);have HW0:=zY hW0
 have CW:=zY (show Calls Tryz.prog 99 #[.pointer (some ⟨r,0,none⟩),.string (bs [102,97,108,115,101]),.agg (jvCells falJ)] W0 fun x w'=>x=.returned (.agg (jvCells (wJ (List.isPrefixOf [102,97,108,115,101] (s.data.toList.drop a)) falJ))) ∧
   RD w' r s (wA (List.isPrefixOf [102,97,108,115,101] (s.data.toList.drop a)) a 5) d (wE (List.isPrefixOf [102,97,108,115,101] (s.data.toList.drop a)))∧RG r W0 w' from word_any [102,97,108,115,101] (by decide) falJ s hs r a d W0 HRD.out ha)
 obtain ⟨pre,hpre⟩:=eX (List.isPrefixOf [102,97,108,115,101] (s.data.toList.drop a));rw [← hpre] at CW ⊢;clear hW0 hb0 h ha hpre;rw [hG] at *;clear hG;go_enter Tryz.func101,Tryz.ntmps101
 go_upto_region 1 with (fail)
 rw [show (w.alloc (.cells #[.int .i64 0,.int .i64 0,.string ⟨#[]⟩,.slice none 0 0,.slice none 0 0] 44))=W0 from HW0.out.symm];clear HW0;go_wp2_with fail;refine qaa CW.out ?_;rintro y w1 ⟨rfl,hrd,hrg⟩;have HRD1:=zY hrd;have HZ1:=zY (show Blk w1 w.heap.size 44 (jvCells zJV) from (World.grownBy.block hrg _ HKZ.out.lt (by have:=HRL.out; intro h; injection h with h; omega)).trans HKZ.out);have HRG1:=zY (HRG.out.trans hrg);clear hrd hrg;go_wp2_with (refine qac (x:=.tmp 2) (cells:=jvCells (wJ pre falJ)) HZ1.out rfl rfl rfl rfl qag rfl (qae _) ?_; intro w9 hb9 hw9);have HB9:=zY hb9;refine bodyPost_ret (qah (P:=Tryz.prog) rfl rfl HB9.out hu rfl qag) rfl ?_;exact ⟨rfl,hw9.blk HRD1.out (by have:=HRL.out; omega),HRG1.out.wrote_new hw9 (Nat.le_refl _)⟩
def mF (k:Int) (f:Nat) (b:Nat):MapEntry:=⟨.int .u8 k,.func (.func f) #[] #[],b⟩
def takersE:Array MapEntry:=#[mF 110 98 0,mF 116 100 1,mF 102 101 2,mF 34 102 3,mF 91 104 4,mF 123 104 5]
theorem takers_any (w:World):Calls Tryz.prog 71 #[] w fun x w'=>x=.returned (.map (some w.heap.size))∧MapB w' w.heap.size takersE∧Below w.heap.size w w':=by
 have ht:=Tryz.underlying114;have hk:=Tryz.underlying5;have hmm:=@run_makeMap Tryz.prog;have HB:=zY ((Below.refl w.heap.size w).alloc (Nat.le_refl _) (.map #[] 0));have M0:=zY (MapB.new w);go_enter Tryz.func71,Tryz.ntmps71
 go_wp2_with (first
  | (refine qav (x:=110) ht hk rfl rfl rfl rfl rfl M0.out rfl ?_; intro w1 m1 g1; have M1:=zY m1; have G1:=zY (HB.out.grown g1 HB.out.size (by intro k h; injection h with h; omega)); clear m1 g1)
  | (refine qav (x:=116) ht hk rfl rfl rfl rfl rfl M1.out rfl ?_; intro w2 m2 g2; have M2:=zY m2; have G2:=zY (G1.out.grown g2 G1.out.size (by intro k h; injection h with h; omega)); clear m2 g2)
  | (refine qav (x:=102) ht hk rfl rfl rfl rfl rfl M2.out rfl ?_; intro w3 m3 g3; have M3:=zY m3; have G3:=zY (G2.out.grown g3 G2.out.size (by intro k h; injection h with h; omega)); clear m3 g3)
  | (refine qav (x:=34) ht hk rfl rfl rfl rfl rfl M3.out rfl ?_; intro w4 m4 g4; have M4:=zY m4; have G4:=zY (G3.out.grown g4 G3.out.size (by intro k h; injection h with h; omega)); clear m4 g4)
  | (refine qav (x:=91) ht hk rfl rfl rfl rfl rfl M4.out rfl ?_; intro w5 m5 g5; have M5:=zY m5; have G5:=zY (G4.out.grown g5 G4.out.size (by intro k h; injection h with h; omega)); clear m5 g5)
  | (refine qav (x:=123) ht hk rfl rfl rfl rfl rfl M5.out rfl ?_; intro w6 m6 g6; have M6:=zY m6; have G6:=zY (G5.out.grown g6 G5.out.size (by intro k h; injection h with h; omega)); clear m6 g6))
 go_ret;exact ⟨rfl,M6.out,G6.out⟩
def txJ (o:Option (Bs × Bs)):JV:=⟨3,0,textS o,none,0,0,none,0,0⟩
theorem take4_any (s:ByteArray) (hs:(s.size:Int)≤1000000) (r a:Nat) (d:Int) (w:World) (h:RD w r s a d 0) (ha:a≤s.size) :
  Calls Tryz.prog 102 #[.pointer (some ⟨r,0,none⟩)] w fun x w'=>x=.returned (.agg (jvCells (txJ (textP (s.data.toList.drop a)))))∧∃ a':Nat,(a':Int)≤(s.size:Int)+5 ∧
   (∀ t r',textP (s.data.toList.drop a)=some (t,r')→At s a a' r') ∧
   RD w' r s a' d (textE (textP (s.data.toList.drop a)))∧RG r w w':=by
 have hu:=Tryz.underlying44;obtain ⟨W0,hW0⟩:=eX (w.alloc (.cells (jvCells zJV) 44));have hb0:Below w.heap.size w W0:=by rw [hW0]; exact (Below.refl _ w).alloc (Nat.le_refl _) _
 obtain ⟨G,hG⟩:=eX (w.heap.size);have HKZ:=zY (show Blk W0 G 44 (jvCells zJV) by rw [hW0,hG]; exact Blk.new _ _ _);have HRD:=zY (h.grow hb0);have HRG:=zY (show RG r w W0 from .below hb0);have HRL:=zY (show r<G by rw [hG]; exact Blk.lt h);have HW0:=zY hW0;have CW:=zY (text_any s hs r a d W0 HRD.out ha);obtain ⟨o,ho⟩:=eX (textP (s.data.toList.drop a));rw [← ho] at CW ⊢;clear hW0 hb0 h ha ho;rw [hG] at *;clear hG;go_enter Tryz.func102,Tryz.ntmps102
 go_upto_region 1 with (fail)
 rw [show (w.alloc (.cells #[.int .i64 0,.int .i64 0,.string ⟨#[]⟩,.slice none 0 0,.slice none 0 0] 44))=W0 from HW0.out.symm];clear HW0;go_wp2_with fail;refine qaa CW.out ?_;rintro y w1 ⟨rfl,a',ha',hat,hrd,hrg⟩;have HA':=zY ha';have HAT:=zY hat;have HRD1:=zY hrd;have HZ1:=zY (show Blk w1 w.heap.size 44 (jvCells zJV) from (World.grownBy.block hrg _ HKZ.out.lt (by have:=HRL.out; intro h; injection h with h; omega)).trans HKZ.out);have HRG1:=zY (HRG.out.trans hrg);clear hrd hrg hat ha';go_wp2_with (refine qac (x:=.tmp 2) (cells:=jvCells (txJ o)) HZ1.out rfl rfl rfl rfl qag rfl (qae _) ?_; intro w9 hb9 hw9);have HB9:=zY hb9;refine bodyPost_ret (qah (P:=Tryz.prog) rfl rfl HB9.out hu rfl qag) rfl ?_;exact ⟨rfl,a',HA'.out,HAT.out,hw9.blk HRD1.out (by have:=HRL.out; omega),HRG1.out.wrote_new hw9 (Nat.le_refl _)⟩
theorem odd1_any (r:Int) (w:World):Calls Tryz.prog 61 #[.int .i32 r] w fun e w'=>e=.returned (.bool (decide (126<r)))∧w'=w:=by
 go_enter Tryz.func61,Tryz.ntmps61;go_wp2_with fail;go_ret;exact ⟨rfl,rfl⟩
theorem decodeN_big (n b0 b1 b2 b3:Nat) (h:128≤b0):126<(Lib.decodeN n b0 b1 b2 b3).1:=by
 unfold Lib.decodeN;rw [if_neg (by omega)]
 repeat' split
 all_goals first | (show 126<65533; decide) | (show 126<_; omega)
theorem decode_big {s:ByteArray} {pos:Nat} (h:pos<s.size) (hb:126<(s[pos]'h).toNat):126<(Utf8.decode s pos).1:=by
 by_cases h8:(s[pos]'h).toNat<128
 ·rw [decode_ascii s pos h h8];exact hb
 ·rw [Lib.decode_at]
  have:(s.get! pos).toNat=(s[pos]'h).toNat:=by
   cases s with
   | mk d=>exact congrArg UInt8.toNat (getElem!_pos d pos h)
  have h2:=decodeN_big (s.size - pos) (s.get! pos).toNat (s.get! (pos+1)).toNat (s.get! (pos+2)).toNat (s.get! (pos+3)).toNat (by rw [this]; omega);exact h2
theorem idxf_any (s:ByteArray) (w:World) :
  Calls Tryz.prog 119 #[.string s,.func (.func 61) #[] #[],.bool true] w fun e w'=>(∃ k:Int,e=.returned (.int .i64 k)∧decide (0≤k)=!okT s.data.toList)∧Below w.heap.size w w':=by
 have eg:∀ args w,(callFunc 61 args).run Tryz.prog w=.ok (.enter 61 args) w:=enters_of Tryz.func61 (by kernel_rfl) rfl;have C:=zY odd1_any;go_enter Tryz.func119,Tryz.ntmps119;go_wp2_with fail
 go_loopg [] s.size (fun gf wx=>∃ pos:Nat,wx.heap[w.heap.size]?=some (.stringIter s pos)∧Below w.heap.size w wx∧pos+gf=s.size∧okT (s.data.toList.take pos)=true)
 case atStart=>exact ⟨0,World.iter_heap w s 0,(Below.refl _ w).alloc (Nat.le_refl _) _,by omega,rfl⟩
 case round =>
  obtain ⟨pos,hit,hbw,hfu,hok⟩:=hrel
  by_cases hps:pos<s.size
  ·obtain ⟨g',rfl⟩:∃ g',gk=g'+1:=⟨gk - 1,by omega⟩;have hpl:pos<s.data.toList.length:=hps
   have hst:okT (s.data.toList.take (pos+1))=(okT (s.data.toList.take pos) && decide ((s[pos]'hps).toNat≤126)):=by
    rw [List.take_succ_eq_append_getElem hpl];simp [okT,UInt8.le_iff_toNat_le];rfl
   by_cases hc:(s[pos]'hps).toNat≤126
   ·have hnx:∀ ty,(Instr.next (.pointer (some ⟨w.heap.size,0,none⟩)) true ty).run Tryz.prog wr=_:=fun ty=>Lib.run_next_ascii_at wr w.heap.size s pos ty hit hps (by omega);have HIT:=zY (Lib.iterAt_heap wr w.heap.size s pos (pos+1) hit);have HBW:=zY (Lib.below_iterAt hbw (k:=w.heap.size) (Nat.le_refl _) s (pos+1));have HOK:=zY (show okT (s.data.toList.take (pos+1))=true by rw [hst,hok]; simpa using hc);obtain ⟨n,hn⟩:∃ n,(s[pos]'hps).toNat=n:=⟨_,rfl⟩;rw [hn] at hnx hc;have hd:decide (126<(n:Int))=false:=by simp; omega
    have HFU:=zY hfu;obtain ⟨W,hWd⟩:∃ W,wr.iterAt w.heap.size s (pos+1)=W:=⟨_,rfl⟩;rw [hWd] at hnx HIT HBW;clear hit hbw hst hok hc hn hfu hpl hps;go_wp2_with (go_at_call 61; refine qaa (C.out _ _) ?_; rintro e W' ⟨rfl,rfl⟩)
    go_roundg g'
    case measure=>omega
    case rel=>exact ⟨pos+1,HIT.out,HBW.out,by have:=HFU.out; omega,HOK.out⟩
   ·have hnx:∀ ty,(Instr.next (.pointer (some ⟨w.heap.size,0,none⟩)) true ty).run Tryz.prog wr=_:=fun ty=>Lib.run_next_any_at wr w.heap.size s pos ty hit hps;have HBW:=zY (Lib.below_iterAt hbw (k:=w.heap.size) (Nat.le_refl _) s (pos+(Utf8.decode s pos).2));have HB:=zY (decode_big hps (by omega))
    have HNO:=zY (show okT s.data.toList=false by
     cases hq:okT s.data.toList with
     | false=>rfl
     | true =>
      unfold okT at hq;have:=List.all_eq_true.1 hq _ (List.getElem_mem hpl);simp [UInt8.le_iff_toNat_le] at this;exact absurd this hc)
    obtain ⟨r,hr⟩:∃ r,(Utf8.decode s pos).1=r:=⟨_,rfl⟩;rw [hr] at hnx HB;have hd:decide (126<(r:Int))=true:=by have:=HB.out; simp; omega
    obtain ⟨W,hWd⟩:∃ W,wr.iterAt w.heap.size s (pos+(Utf8.decode s pos).2)=W:=⟨_,rfl⟩;rw [hWd] at hnx HBW;clear hit hbw hst hok hc hr hfu hpl hps;go_wp2_with (go_at_call 61; refine qaa (C.out _ _) ?_; rintro e W' ⟨rfl,rfl⟩);go_ret;exact ⟨⟨_,rfl,by rw [HNO.out]; simp⟩,HBW.out⟩
  ·have hnx:∀ ty,(Instr.next (.pointer (some ⟨w.heap.size,0,none⟩)) true ty).run Tryz.prog wr=_:=fun ty=>Lib.run_next_end_at wr w.heap.size s pos ty hit hps;have HBW:=zY hbw
   have HOK:=zY (show okT s.data.toList=true by
    have:s.data.toList.take pos=s.data.toList:=List.take_of_length_le (by show s.size≤pos; omega)
    rwa [this] at hok)
   clear hit hbw hok hfu hps;go_wp2_with fail;go_ret;exact ⟨⟨_,rfl,by rw [HOK.out]; simp⟩,HBW.out⟩
theorem strf_any (s:ByteArray) (w:World) :
  Calls Tryz.prog 94 #[.string s,.func (.func 61) #[] #[]] w fun e w'=>(∃ k:Int,e=.returned (.int .i64 k)∧decide (0≤k)=!okT s.data.toList)∧Below w.heap.size w w':=by
 have C:=zY (idxf_any s w);go_enter Tryz.func94,Tryz.ntmps94;go_wp2_with fail;refine qaa C.out ?_;rintro e w1 ⟨⟨k,rfl,hk⟩,hb⟩;have HB:=zY hb;have HK:=zY hk;clear hb hk;go_wp2_with fail;go_ret;exact ⟨⟨_,rfl,HK.out⟩,HB.out⟩
theorem conf_any (s:ByteArray) (w:World) :
  Calls Tryz.prog 60 #[.string s,.func (.func 61) #[] #[]] w fun e w'=>e=.returned (.bool (!okT s.data.toList))∧Below w.heap.size w w':=by
 have C:=zY (strf_any s w);go_enter Tryz.func60,Tryz.ntmps60;go_wp2_with fail;refine qaa C.out ?_;rintro e w1 ⟨⟨k,rfl,hk⟩,hb⟩;have HB:=zY hb;have HK:=zY hk;clear hb hk;go_wp2_with fail;go_ret;exact ⟨by rw [← HK.out]; rfl,HB.out⟩
theorem odd_any (s:ByteArray) (w:World) :
  Calls Tryz.prog 59 #[.string s] w fun e w'=>e=.returned (.bool (!okT s.data.toList))∧Below w.heap.size w w':=by
 have C:=zY (conf_any s w);go_enter Tryz.func59,Tryz.ntmps59;go_wp2_with fail;refine qaa C.out ?_;rintro e w1 ⟨rfl,hb⟩;have HB:=zY hb;clear hb;go_wp2_with fail;go_ret;exact ⟨rfl,HB.out⟩
theorem idxs_any (l:List Bs) (A:Option Addr) (c B:Nat) (w:World) (hr:Rd w B A (rowsV sCell l)) (hB:B≤w.heap.size) (hl:l.length≤1099511627776) :
  Calls Tryz.prog 95 #[.slice A l.length c,.func (.func 59) #[] #[]] w fun e w'=>(∃ k:Int,e=.returned (.int .i64 k)∧decide (0≤k)=!l.all okT)∧Below w.heap.size w w':=by
 have eg:∀ args w,(callFunc 59 args).run Tryz.prog w=.ok (.enter 59 args) w:=enters_of Tryz.func59 (by kernel_rfl) rfl;have C:=zY odd_any;obtain ⟨n,hn⟩:=eX (l.length);have HN:=zY hn;have HR:=zY (hr.mono hB);have HL:=zY (show (n:Int)≤1099511627776 by omega);rw [← hn];clear hr hB hl hn;go_enter Tryz.func95,Tryz.ntmps95;go_wp2_with fail
 go_loopw [8] (fun x wr=>∃ i:Nat,i≤n∧x=.int .i64 (i:Int)∧(l.take i).all okT=true∧Below w.heap.size w wr) (fun x _=>n - (intOf x).toNat)
 case atStart=>exact ⟨0,by omega,rfl,by simp,Below.refl _ _⟩
 case round =>
  obtain ⟨i,hi,rfl,hok,hb⟩:=hrel;have HB:=zY hb;have HOK:=zY hok;clear hb hok
  by_cases hlt:i<n
  ·have hil:i<l.length:=by rw [← HN.out]; exact hlt
   have hlt':(i:Int)<(n:Int):=by omega
   obtain ⟨ad,hA,hadb,hcell⟩:=qaO (f:=sCell) (m:=1) (fun _=>rfl) (by decide) (HR.out.below HB.out) hil;subst hA;obtain ⟨X,hX⟩:=eX (l[i]);rw [← hX] at hcell
   have hc0:wr.cell? (ad.add i)=some (.string (bs X)):=by
    have h:=hcell 0 _ rfl;rw [Nat.mul_one] at h;exact h
   have HST:=zY (show (l.take (i+1)).all okT=((l.take i).all okT && okT X) by
    rw [List.take_succ_eq_append_getElem hil,← hX]
    simp)
   have HALL:=zY (show okT X=false→l.all okT=false from fun h=>by
    cases hq:l.all okT with
    | false=>rfl
    | true =>
     have:=List.all_eq_true.1 hq X (by rw [hX]; exact List.getElem_mem hil);rw [h] at this
     cases this)
   have HLT:=zY hlt;clear hX hcell hadb hil;go_wp2_with fail;refine qaa (C.out _ _) ?_;rintro e w1 ⟨rfl,hb1⟩;have HB1:=zY (HB.out.trans (hb1.mono HB.out.size));clear hb1;rw [show (bs X).data.toList=X from rfl]
   cases hq:okT X with
   | true =>
    have hns:=HL.out;go_wp2_with fail
    go_roundw
    case rel=>exact ⟨i+1,HLT.out,by go_num,by rw [HST.out,HOK.out,hq]; rfl,HB1.out⟩
    case measure=>have:=HLT.out; simp [intOf]; omega
   | false =>
    have HQ:=zY hq;clear hq;go_wp2_with fail;go_ret;exact ⟨⟨_,rfl,by rw [HALL.out HQ.out]; simp⟩,HB1.out⟩
  ·obtain rfl:i=n:=by omega
   have HALL:=zY (show l.all okT=true by
    have:=HOK.out
    rwa [HN.out,List.take_length] at this)
   go_wp2_with fail;go_ret;exact ⟨⟨_,rfl,by rw [HALL.out]; simp⟩,HB.out⟩
theorem cons_any (l:List Bs) (A:Option Addr) (c B:Nat) (w:World) (hr:Rd w B A (rowsV sCell l)) (hB:B≤w.heap.size) (hl:l.length≤1099511627776) :
  Calls Tryz.prog 62 #[.slice A l.length c,.func (.func 59) #[] #[]] w fun e w'=>e=.returned (.bool (!l.all okT))∧Below w.heap.size w w':=by
 have C:=zY (idxs_any l A c B w hr hB hl);clear hr;generalize l.length=n at *;go_enter Tryz.func62,Tryz.ntmps62;go_wp2_with fail;refine qaa C.out ?_;rintro e w1 ⟨⟨k,rfl,hk⟩,hb⟩;have HB:=zY hb;have HK:=zY hk;clear hb hk;go_wp2_with fail;go_ret;exact ⟨by rw [← HK.out]; rfl,HB.out⟩
theorem qat (a:Bs):(bs a).toList=a:=by
 rw [Lib.toList_data];rfl
theorem idx_any (l:List Bs) (s:Bs) (A:Option Addr) (c B:Nat) (w:World) (hr:Rd w B A (rowsV sCell l)) (hl:l.length≤1099511627776) :
  Calls Tryz.prog 42 #[.slice A l.length c,.string (bs s)] w fun e w'=>(∃ k:Int,e=.returned (.int .i64 k)∧decide (0≤k)=decide (s ∈ l))∧w'=w:=by
 obtain ⟨n,hn⟩:=eX (l.length);have HN:=zY hn;have HR:=zY hr;have HL:=zY (show (n:Int)≤1099511627776 by omega);rw [← hn];clear hr hl hn;go_enter Tryz.func42,Tryz.ntmps42;go_wp2_with fail
 go_loop [8] (fun x=>∃ i:Nat,i≤n∧x=.int .i64 (i:Int)∧s ∉ l.take i) (fun x=>n - (intOf x).toNat)
 case atStart=>exact ⟨0,by omega,rfl,by simp⟩
 case round =>
  obtain ⟨i,hi,rfl,hok⟩:=hrel;have HOK:=zY hok;clear hok
  by_cases hlt:i<n
  ·have hil:i<l.length:=by rw [← HN.out]; exact hlt
   have hlt':(i:Int)<(n:Int):=by omega
   obtain ⟨ad,hA,hadb,hcell⟩:=qaO (f:=sCell) (m:=1) (fun _=>rfl) (by decide) HR.out hil;subst hA;obtain ⟨X,hX⟩:=eX (l[i]);rw [← hX] at hcell
   have hc0:w.cell? (ad.add i)=some (.string (bs X)):=by
    have h:=hcell 0 _ rfl;rw [Nat.mul_one] at h;exact h
   have HST:=zY (show s≠X→s ∉ l.take (i+1) from fun h=>by
    rw [List.take_succ_eq_append_getElem hil,← hX,List.mem_append];rintro (h1 | h1)
    ·exact HOK.out h1
    ·exact h (by simpa using h1))
   have HMEM:=zY (show X ∈ l by rw [hX]; exact List.getElem_mem hil);have HLT:=zY hlt;clear hX hcell hadb hil;have hns:=HL.out
   by_cases hq:s=X
   ·subst hq;clear HST;go_wp2_with fail;go_ret;exact ⟨⟨_,rfl,by simp [HMEM.out]⟩,rfl⟩
   ·have hq':((bs s).toList == (bs X).toList)=false:=by rw [qat,qat]; simpa using hq
    have HQ:=zY hq;clear hq;go_wp2_with fail;exact ⟨⟨i+1,HLT.out,by go_num,HST.out HQ.out⟩,by have:=HLT.out; simp [intOf]; omega⟩
  ·obtain rfl:i=n:=by omega
   have HALL:=zY (show s ∉ l by
    have:=HOK.out
    rwa [HN.out,List.take_length] at this)
   go_wp2_with fail;go_ret;exact ⟨⟨_,rfl,by simp [HALL.out]⟩,rfl⟩
theorem has_any (l:List Bs) (s:Bs) (A:Option Addr) (c B:Nat) (w:World) (hr:Rd w B A (rowsV sCell l)) (hl:l.length≤1099511627776) :
  Calls Tryz.prog 63 #[.slice A l.length c,.string (bs s)] w fun e w'=>e=.returned (.bool (decide (s ∈ l)))∧w'=w:=by
 have C:=zY (idx_any l s A c B w hr hl);clear hr;obtain ⟨b,hb⟩:=eX (decide (s ∈ l));rw [← hb] at C ⊢;clear hl hb;generalize l.length=n at *;generalize bs s=t at *;go_enter Tryz.func63,Tryz.ntmps63;go_wp2_with fail;refine qaa C.out ?_;rintro e w1 ⟨⟨k,rfl,hk⟩,rfl⟩;have HK:=zY hk;clear hk;go_wp2_with fail;go_ret;exact ⟨by rw [← HK.out]; rfl,rfl⟩
def nameE (ns:List Bs) (o:Option (Bs × Bs)):Int:=match o with
 | none=>13
 | some (t,r1)=>if t ∈ ns then 8 else mustE 58 0 r1
theorem name_any (ns:List Bs) (A:Option Addr) (c base:Nat) (s:ByteArray) (hs:(s.size:Int)≤1000000) (r a:Nat) (d:Int) (w:World) (h:RD w r s a d 0) (ha:a≤s.size) (hrb:r<base)
  (hn:OwnX w base 9 1 (.slice A ns.length c) ns.length (rowsV sCell ns)) (hl:ns.length≤1099511627776) :
  Calls Tryz.prog 125 #[.pointer (some ⟨r,0,none⟩),.slice A ns.length c] w fun x w'=>x=.returned (.string (bs (textS (textP (s.data.toList.drop a)))))∧∃ a1 a':Nat,(a1:Int)≤(s.size:Int)+5 ∧
   (∀ t r',textP (s.data.toList.drop a)=some (t,r')→At s a a1 r')∧(∃ e1,At s a1 a' (signR 58 e1 (s.data.toList.drop a1))∧(nameE ns (textP (s.data.toList.drop a))=0→e1=0)) ∧
   RD w' r s a' d (nameE ns (textP (s.data.toList.drop a)))∧RG r w w':=by
 have CW:=zY (text_any s hs r a d w h ha);have HN:=zY hn;have HRB:=zY hrb;have CH:=zY (fun (t:Bs) (u:World) (hr:Rd u u.heap.size A (rowsV sCell ns))=>has_any ns t A c u.heap.size u hr hl);have CM:=zY (fun (b:Nat) (e:Int) (u:World) (h:RD u r s b d e) (hb:(b:Int)≤1500000)=>must_any 58 (by decide) s hs r b d e u h hb);have CF:=zY (fun (b:Nat) (u:World) (h:RD u r s b d 0)=>qbn 8 s r b d 0 u h);obtain ⟨o,ho⟩:=eX (textP (s.data.toList.drop a));rw [← ho] at CW ⊢;clear h ha hn hrb hl ho;go_enter Tryz.func125,Tryz.ntmps125;go_wp2_with fail;refine qaa CW.out ?_;rintro y w1 ⟨rfl,a1,ha1,hat,hrd,hrg⟩;have HA1:=zY ha1;have HAT:=zY hat;have HRD1:=zY hrd;have HRG1:=zY hrg;have HN1:=zY (HN.out.kept hrg (.inr (by intro h; have:=(HN.out.lt r h).1; have:=HRB.out; omega)));clear hrg hat
 cases o with
 | none =>
  have HR1:=zY (show RD w1 r s a1 d 13 from HRD1.out);obtain ⟨-,-,-,c3⟩:=HR1.out.cells;clear hrd ha1;go_wp2_with fail;refine qaa (CM.out a1 13 _ HR1.out (by have:=HA1.out; omega)) ?_;rintro y w2 ⟨rfl,a2,hat2,hrd2,hrg2⟩;have HAT2:=zY hat2;have HRD2:=zY hrd2;have HRG2:=zY (HRG1.out.trans hrg2);clear hat2 hrd2 hrg2 c3;go_wp2_with fail;go_ret;exact ⟨rfl,a1,a2,HA1.out,HAT.out,⟨13,HAT2.out,fun h=>by cases h⟩,HRD2.out,HRG2.out⟩
 | some p =>
  obtain ⟨t,r1⟩:=p;have HR1:=zY (show RD w1 r s a1 d 0 from HRD1.out);obtain ⟨-,-,-,c3⟩:=HR1.out.cells;clear hrd ha1;go_wp2_with fail;refine qaa (CH.out t _ (Rd.of_own HN1.out (Nat.le_refl _))) ?_;rintro y w2 ⟨rfl,rfl⟩
  by_cases ht:t ∈ ns
  ·rw [decide_eq_true ht];have HE:=zY (show nameE ns (some (t,r1))=8 by unfold nameE; exact if_pos ht);clear ht;go_wp2_with fail;refine qaa (CF.out a1 _ HR1.out) ?_;rintro y w3 ⟨rfl,hrd3,hrg3⟩;have HR2:=zY (show RD w3 r s a1 d 8 from hrd3);have HRG3:=zY (HRG1.out.trans hrg3);clear hrd3 hrg3 c3;go_wp2_with fail;refine qaa (CM.out a1 8 _ HR2.out (by have:=HA1.out; omega)) ?_;rintro y w4 ⟨rfl,a2,hat2,hrd2,hrg2⟩;have HAT2:=zY hat2;have HRD2:=zY hrd2;have HRG2:=zY (HRG3.out.trans hrg2);clear hat2 hrd2 hrg2;go_wp2_with fail;go_ret;rw [HE.out];exact ⟨rfl,a1,a2,HA1.out,HAT.out,⟨8,HAT2.out,fun h=>by cases h⟩,HRD2.out,HRG2.out⟩
  ·rw [decide_eq_false ht];have HX:=zY (show s.data.toList.drop a1=r1 from (HAT.out t r1 rfl).rest);have HE:=zY (show nameE ns (some (t,r1))=mustE 58 0 (s.data.toList.drop a1) by rw [HX.out]; unfold nameE; exact if_neg ht);have HR2:=zY HR1.out;have HRG3:=zY HRG1.out;clear ht c3;go_wp2_with fail;refine qaa (CM.out a1 0 _ HR2.out (by have:=HA1.out; omega)) ?_;rintro y w4 ⟨rfl,a2,hat2,hrd2,hrg2⟩;have HAT2:=zY hat2;have HRD2:=zY hrd2;have HRG2:=zY (HRG3.out.trans hrg2);clear hat2 hrd2 hrg2;go_wp2_with fail;go_ret;rw [HE.out];exact ⟨rfl,a1,a2,HA1.out,HAT.out,⟨0,HAT2.out,fun _=>rfl⟩,HRD2.out,HRG2.out⟩
def errE {α:Type}:Except Int α→Int
 | .error x=>x
 | .ok _=>0
def errP {α:Type} (e:Int) (p:Except Int α):Int:=if e=0 then errE p else e
theorem errP_ne {α:Type} {e:Int} (h:e≠0) (p:Except Int α):errP e p=e:=by rw [errP,if_neg h]
theorem errP_z {α:Type} (p:Except Int α):errP 0 p=errE p:=by rw [errP,if_pos rfl]
theorem lookE_ne {s:ByteArray} {a:Nat} {e:Int} (h:e≠0):lookE s a e=0:=by rw [lookE,if_neg h]
theorem text_bad (s:ByteArray) (r a:Nat) (d e:Int) (he:e≠0) (w:World) (h:RD w r s a d e) :
  Calls Tryz.prog 103 #[.pointer (some ⟨r,0,none⟩)] w fun x w'=>x=.returned (.string (bs []))∧RD w' r s a d e∧RG r w w':=by
 have CK:=zY (qbQ s r a d e w h);have CF:=zY (fun (u:World) (h:RD u r s a d e)=>qbn 13 s r a d e u h);have HL:=zY (lookE_ne (s:=s) (a:=a) he);have HE:=zY he;clear h he;go_enter Tryz.func103,Tryz.ntmps103;go_wp2_with fail;refine qaa CK.out ?_;rintro y w1 ⟨rfl,hrd,hrg⟩;have HRD1:=zY hrd;have HRG1:=zY hrg;rw [HL.out,show byteV 0=Value.int .u8 0 from rfl];clear hrd hrg;go_wp2_with fail;refine qaa (CF.out _ HRD1.out) ?_;rintro y w2 ⟨rfl,hrd,hrg⟩;have HRD2:=zY (show RD w2 r s a d e by rw [if_neg HE.out] at hrd; exact hrd);have HRG2:=zY (HRG1.out.trans hrg);clear hrd hrg;go_wp2_with fail;go_ret;exact ⟨rfl,HRD2.out,HRG2.out⟩
theorem name_bad (A:Option Addr) (n c:Nat) (s:ByteArray) (hs:(s.size:Int)≤1000000) (r a:Nat) (d e:Int) (he:e≠0) (w:World) (h:RD w r s a d e) (ha:(a:Int)≤1500000) :
  Calls Tryz.prog 125 #[.pointer (some ⟨r,0,none⟩),.slice A n c] w fun x w'=>x=.returned (.string (bs []))∧∃ a':Nat,(a':Int)≤1500000∧RD w' r s a' d e∧RG r w w':=by
 have CW:=zY (text_bad s r a d e he w h);have CM:=zY (fun (u:World) (h:RD u r s a d e)=>must_any 58 (by decide) s hs r a d e u h ha);have HE:=zY he;have HA:=zY ha;have HS:=zY hs;have he':(e == 0)=false:=by simpa using he
 clear h ha hs he;go_enter Tryz.func125,Tryz.ntmps125;go_wp2_with fail;refine qaa CW.out ?_;rintro y w1 ⟨rfl,hrd,hrg⟩;have HRD1:=zY hrd;have HRG1:=zY hrg;obtain ⟨-,-,-,c3⟩:=hrd.cells;clear hrd hrg;go_wp2_with fail;refine qaa (CM.out _ HRD1.out) ?_;rintro y w2 ⟨rfl,a2,hat2,hrd2,hrg2⟩;have HAT2:=zY hat2;have HRD2:=zY (show RD w2 r s a2 d e by unfold mustE at hrd2; rw [if_neg HE.out] at hrd2; exact hrd2);have HRG2:=zY (HRG1.out.trans hrg2);clear hat2 hrd2 hrg2 c3;go_wp2_with fail;go_ret;exact ⟨rfl,a2,HAT2.out.big HS.out HA.out,HRD2.out,HRG2.out⟩
theorem value_bad (s:ByteArray) (r a:Nat) (d e:Int) (he:e≠0) (w:World) (h:RD w r s a d e) :
  Calls Tryz.prog 40 #[.pointer (some ⟨r,0,none⟩)] w fun x w'=>x=.returned (.agg (jvCells zJV))∧RD w' r s a d e∧RG r w w':=by
 have hu:=Tryz.underlying44;obtain ⟨W0,hW0⟩:=eX (w.alloc (.cells (jvCells zJV) 44));have hb0:Below w.heap.size w W0:=by rw [hW0]; exact (Below.refl _ w).alloc (Nat.le_refl _) _
 obtain ⟨G,hG⟩:=eX (w.heap.size);have HKZ:=zY (show Blk W0 G 44 (jvCells zJV) by rw [hW0,hG]; exact Blk.new _ _ _);have HRD:=zY (h.grow hb0);have HRG:=zY (show RG r w W0 from .below hb0);have HRL:=zY (show r<G by rw [hG]; exact Blk.lt h);have HW0:=zY hW0;have he':(e != 0)=true:=by simpa using he
 obtain ⟨-,-,-,c3⟩:=(h.grow hb0).cells;clear hW0 hb0 h he;rw [hG] at *;clear hG;go_enter Tryz.func40,Tryz.ntmps40
 go_upto_region 1 with (fail)
 rw [show (w.alloc (.cells #[.int .i64 0,.int .i64 0,.string ⟨#[]⟩,.slice none 0 0,.slice none 0 0] 44))=W0 from HW0.out.symm];clear HW0;go_wp2_with (refine qac (x:=.tmp 2) (cells:=jvCells zJV) HKZ.out rfl rfl rfl rfl qag rfl (qae _) ?_; intro w9 hb9 hw9);have HB9:=zY hb9;refine bodyPost_ret (qah (P:=Tryz.prog) rfl rfl HB9.out hu rfl qag) rfl ?_;exact ⟨rfl,hw9.blk HRD.out (by have:=HRL.out; omega),HRG.out.wrote_new hw9 (Nat.le_refl _)⟩
theorem must_all (c:UInt8) (hc0:c≠0) (s:ByteArray) (hs:(s.size:Int)≤1000000) (r a:Nat) (d:Int) (w:World) (h:RD w r s a d 0) (ha:(a:Int)≤1500000) :
  Calls Tryz.prog 124 #[.pointer (some ⟨r,0,none⟩),byteV c] w fun x w'=>x=.returned (.tuple #[])∧∃ a':Nat,(a':Int)≤1500000∧RD w' r s a' d (errE (mustP c (s.data.toList.drop a)))∧RG r w w' ∧
   ∀ r1,mustP c (s.data.toList.drop a)=.ok r1→At s a a' r1:=by
 refine (must_any c hc0 s hs r a d 0 w h ha).mono ?_;rintro x w' ⟨rfl,a',hat,hrd,hrg⟩
 have e1:mustE c 0 (s.data.toList.drop a)=errE (mustP c (s.data.toList.drop a)):=by
  unfold mustE mustP signP;rw [if_pos rfl]
  split <;> simp_all [errE]
 rw [e1] at hrd;refine ⟨rfl,a',hat.big hs ha,hrd,hrg,fun r1 h1=>?_⟩
 have e2:signR c 0 (s.data.toList.drop a)=r1:=by
  unfold mustP at h1;unfold signR signB signP
  split at h1
  ·rename_i hl
   injection h1 with h1
   simp [hl,h1]
  ·cases h1
 rw [e2] at hat;exact hat
theorem name_all (ns:List Bs) (A:Option Addr) (c base:Nat) (s:ByteArray) (hs:(s.size:Int)≤1000000) (r a:Nat) (d e:Int) (w:World) (h:RD w r s a d e) (ha:(a:Int)≤1500000) (ha0:e=0→a≤s.size) (hrb:r<base)
  (hn:OwnX w base 9 1 (.slice A ns.length c) ns.length (rowsV sCell ns)) (hl:ns.length≤1099511627776) :
  Calls Tryz.prog 125 #[.pointer (some ⟨r,0,none⟩),.slice A ns.length c] w fun x w'=>∃ t:Bs,x=.returned (.string (bs t))∧∃ a':Nat,(a':Int)≤1500000 ∧
   RD w' r s a' d (errP e (nameP ns (s.data.toList.drop a)))∧RG r w w'∧(e=0→∀ ns' r1,nameP ns (s.data.toList.drop a)=.ok (ns',r1)→ns'=ns++[t]∧At s a a' r1):=by
 by_cases he:e=0
 ·subst he;refine (name_any ns A c base s hs r a d w h (ha0 rfl) hrb hn hl).mono ?_;rintro x w' ⟨rfl,a1,a2,ha1,hat1,⟨e1,hat2,he1⟩,hrd,hrg⟩
  have e2:nameE ns (textP (s.data.toList.drop a))=errP 0 (nameP ns (s.data.toList.drop a)):=by
   rw [errP_z];unfold nameE nameP
   cases hq:textP (s.data.toList.drop a) with
   | none=>rfl
   | some p =>
    obtain ⟨t,r0⟩:=p;dsimp only
    by_cases hm:t ∈ ns
    ·rw [if_pos hm,if_pos hm];rfl
    ·rw [if_neg hm,if_neg hm];unfold mustE mustP signP;rw [if_pos rfl]
     by_cases hl:look (skip r0)=58 <;> simp [hl,errE]
  rw [e2] at hrd;refine ⟨_,rfl,a2,hat2.big hs (by omega),hrd,hrg,fun _ ns' r1 h1=>?_⟩;rw [e2,h1] at he1;have hz:e1=0:=he1 rfl;subst hz;unfold nameP at h1
  split at h1
  ·cases h1
  ·rename_i t r0 ht
   have hat0:=hat1 t r0 ht;rw [hat0.rest] at hat2
   split at h1
   ·cases h1
   ·split at h1
    ·cases h1
    ·rename_i r2 hm
     injection h1 with h1
     injection h1 with h1 h2
     subst h1 h2;rw [ht];refine ⟨rfl,hat0.trans ?_⟩
     have e3:signR 58 0 r0=r2:=by
      unfold mustP at hm;unfold signR signB signP
      split at hm
      ·rename_i hl
       injection hm with hm
       simp [hl,hm]
      ·cases hm
     rw [e3] at hat2;exact hat2
 ·refine (name_bad A ns.length c s hs r a d e he w h ha).mono ?_;rintro x w' ⟨rfl,a2,ha2,hrd,hrg⟩;exact ⟨[],rfl,a2,ha2,by rw [errP_ne he]; exact hrd,hrg,fun h0=>absurd h0 he⟩
def VRd (d:Nat):Prop:=∀ (s:ByteArray) (hs:(s.size:Int)≤1000000) (r a:Nat) (D:Int) (hD:D+(d:Int)=6) (h0:0≤D) (w:World) (h:RD w r s a D 0) (ha:a≤s.size),
 Calls Tryz.prog 40 #[.pointer (some ⟨r,0,none⟩)] w fun x w'=>∃ v:JV,x=.returned (.agg (jvCells v))∧∃ a':Nat,(a':Int)≤1500000 ∧
  RD w' r s a' D (errE (valueP d (s.data.toList.drop a)))∧RG r w w'∧∀ j r1,valueP d (s.data.toList.drop a)=.ok (j,r1)→At s a a' r1∧JRep w' (fun b=>w.heap.size≤b) j v
theorem value_all (d:Nat) (IH:VRd d) (s:ByteArray) (hs:(s.size:Int)≤1000000) (r a:Nat) (D e:Int) (hD:D+(d:Int)=6) (h0:0≤D) (w:World) (h:RD w r s a D e) (ha:(a:Int)≤1500000) (ha0:e=0→a≤s.size) :
 Calls Tryz.prog 40 #[.pointer (some ⟨r,0,none⟩)] w fun x w'=>∃ v:JV,x=.returned (.agg (jvCells v))∧∃ a':Nat,(a':Int)≤1500000 ∧
  RD w' r s a' D (errP e (valueP d (s.data.toList.drop a)))∧RG r w w'∧(e=0→∀ j r1,valueP d (s.data.toList.drop a)=.ok (j,r1)→At s a a' r1∧JRep w' (fun b=>w.heap.size≤b) j v):=by
 by_cases he:e=0
 ·subst he;refine (IH s hs r a D hD h0 w h (ha0 rfl)).mono ?_;rintro x w' ⟨v,rfl,a1,ha1,hrd,hrg,hok⟩;exact ⟨v,rfl,a1,ha1,by rw [errP_z]; exact hrd,hrg,fun _=>hok⟩
 ·refine (value_bad s r a D e he w h).mono ?_;rintro x w' ⟨rfl,hrd,hrg⟩;exact ⟨zJV,rfl,a,ha,by rw [errP_ne he]; exact hrd,hrg,fun h0=>absurd h0 he⟩
end Go.Proofs.YtlkikjeccamheaaGreatDoor.Js
namespace Go.Proofs.YtlkikjeccamheaaGreatDoor
set_option linter.unusedSimpArgs false
set_option linter.unusedVariables false
set_option maxRecDepth 100000
set_option maxHeartbeats 4000000
open Go.RowKit
def OwnR (w:World) (base:Nat) (e:TypeId) (size:Nat) (A:Option Addr) (c:Nat) (n:Nat) (xs:List Value):Prop:=w.ownsRow base e size (.slice A n c) n xs
section
variable {w w':World} {base:Nat} {e:TypeId} {size:Nat} {A:Option Addr} {c n:Nat} {xs:List Value}
theorem OwnR.x (h:OwnR w base e size A c n xs):OwnX w base e size (.slice A n c) n xs:=.of h
theorem OwnR.nil (w:World) (base:Nat) (e:TypeId) (size:Nat):OwnR w base e size none 0 0 []:=⟨by simp,.inl ⟨rfl,rfl⟩⟩
theorem OwnR.cap (h:OwnR w base e size A c n xs):n≤c:=by
 rcases h.2 with ⟨h1,h2⟩ | ⟨g,cap,cur,h1,h2,h3,h4,h5,h6,h7⟩
 ·omega
 ·injection h1 with e1 e2 e3
  omega
theorem OwnR.lt (h:OwnR w base e size A c n xs):∀ k,(Value.slice A n c).ownBlock=some k→base≤k∧k<w.heap.size:=h.x.lt
theorem OwnR.mono {base':Nat} (h:OwnR w base e size A c n xs) (hb:base'≤base):OwnR w base' e size A c n xs:=by
 refine ⟨h.1,?_⟩
 rcases h.2 with h0 | ⟨g,cap,cur,h1,h2,h3⟩
 ·exact .inl h0
 ·exact .inr ⟨g,cap,cur,h1,by omega,h3⟩
theorem OwnR.heap (h:OwnR w base e size A c n xs) (hk:∀ k cs,w.heap[k]?=some (.cells cs e (0,0))→base≤k→w'.heap[k]?=some (.cells cs e (0,0))):OwnR w' base e size A c n xs:=by
 refine ⟨h.1,?_⟩
 rcases h.2 with h0 | ⟨g,cap,cur,h1,h2,h3,h4⟩
 ·exact .inl h0
 ·exact .inr ⟨g,cap,cur,h1,h2,hk _ _ h3 h2,h4⟩
theorem OwnR.keep {f:TypeId} (h:OwnR w base e size A c n xs) (hk:KeepBut f w w') (ht:e≠f):OwnR w' base e size A c n xs:=h.heap fun k cs h1 _=>qcI hk ht h1
theorem OwnR.alloc (h:OwnR w base e size A c n xs) (o:Obj):OwnR (w.alloc o) base e size A c n xs:=h.heap fun k cs h1 _=>(Below.heap_alloc w o k (Array.getElem?_eq_some_iff.1 h1).1).trans h1
theorem OwnR.below (h:OwnR w base e size A c n xs) (hb:Below w.heap.size w w'):OwnR w' base e size A c n xs:=h.heap fun k cs h1 _=>(hb.block k (Array.getElem?_eq_some_iff.1 h1).1).trans h1
theorem OwnR.row (h:OwnR w base e size A c n xs):Row w w.heap.size e A xs:=.of_own h.x
end
theorem KeepBut.refl (e:TypeId) (w:World):KeepBut e w w:=⟨Nat.le_refl _,fun _ _ _ _ _ h=>h⟩
theorem KeepBut.trans {e:TypeId} {a b c:World} (h:KeepBut e a b) (h':KeepBut e b c):KeepBut e a c:=⟨Nat.le_trans h.1 h'.1,fun k cs t fz ht hk=>h'.2 k cs t fz ht (h.2 k cs t fz ht hk)⟩
section
variable {P:Program}
theorem qc3 {w:World} {t ty e:TypeId} {size bytes:Nat} (T:SlT P t e size bytes) {base n c:Nat} {A:Option Addr} {xs:List Value} (hown:OwnR w base e size A c n xs)
  {Ad:Option Addr} {m cx:Nat} {news:List Value} (hl:news.length=m*size) (hnews:∀ j u,news[j]?=some u→∃ ad,Ad=some ad∧w.cell? (ad.add j)=some u) (h1:∀ u ∈ news,u.oneCell'=true)
  (h63:n+m≤maxLen) (hbytes:(n+m)*bytes≤140737488355328) (hbase:base≤w.heap.size) :
  ∃ A' c' w',(Builtin.append_ #[t,t] ty #[.slice A n c,.slice Ad m cx]).run P w=.ok (.slice A' (n+m) c') w'∧OwnR w' base e size A' c' (n+m) (xs++news)∧w.grownBy w' (Value.slice A n c).ownBlock∧Next w (.slice A n c) (.slice A' (n+m) c'):=by
 obtain ⟨i,z,hi,hz,hsz,hby,hzs⟩:=T.info
 by_cases hm:m=0
 ·subst hm;have hnn:news=[]:=List.eq_nil_of_length_eq_zero (by simpa using hl);subst hnn;have hcap:=hown.cap;refine ⟨A,c,w,?_,by simpa using hown,World.grownBy.refl _ _,.inl rfl⟩
  rcases hown.2 with ⟨h1,h2⟩ | ⟨g,cap,cur,h1,h2,h3,h4,h5,h6,h7⟩
  ·injection h1 with e1 e2 e3
   subst e1 e2 e3
   cases Ad <;> simp [Builtin.append_,run_underlying T.und,sizeOf,typeInfo,hi,Builtin.lenOf,Builtin.firstCells,loadCells,loadCellsFrom]
  ·injection h1 with e1 e2 e3
   subst e1 e3
   cases Ad <;> simp [Builtin.append_,run_underlying T.und,sizeOf,typeInfo,hi,Builtin.lenOf,Builtin.firstCells,loadCells,loadCellsFrom,hcap,storeCells]
 ·have hpos:0<news.length:=by rw [hl]; exact Nat.mul_pos (by omega) T.pos
  obtain ⟨ad,rfl,_⟩:=hnews 0 _ (List.getElem?_eq_getElem hpos)
  have hcells:∀ j u,news[j]?=some u→w.cell? (ad.add j)=some u:=fun j u hu=>by
   obtain ⟨ad',he,hc⟩:=hnews j u hu
   injection he with he
   subst he;exact hc
  obtain ⟨v',w',hr,h2,h3,_,h5⟩:=run_append_own_at (P:=P) w base t ty e i z size bytes T.und hi hz hsz hby hzs T.pos (.slice A n c) n xs hown ad m cx news hl hcells h1 h63 hbytes hbase
  have hn:Next w (.slice A n c) v':=by
   rcases h5 with h5 | h5
   ·exact .inl h5
   ·exact .inr fun k hk=>by rw [h5] at hk; simp at hk; omega
  have hv:∃ A' c',v'=.slice A' (n+m) c':=by
   rcases h2.2 with ⟨_,h0⟩ | ⟨g,cap,cur,rfl,_⟩
   ·omega
   ·exact ⟨_,_,rfl⟩
  obtain ⟨A',c',rfl⟩:=hv;exact ⟨A',c',w',hr,h2,h3,hn⟩
theorem qaM {w:World} {ops:Array Oper} {rest:List Oper} {o:Oper} {a:Act} {Q:Exit→Act→World→Prop} {sl x:Operand} {t e:TypeId} {size bytes:Nat} (T:SlT P t e size bytes)
  (hgd:o.guard=none) (ho:o.op=.call { callee:=.builtin .append,args:=#[sl,x],argTypes:=#[t,t] })
  {base n c B:Nat} {A:Option Addr} {xs:List Value} {Ad:Option Addr} {m cx:Nat} {news:List Value} (hown:OwnR w base e size A c n xs) (hs:a.eval sl=.slice A n c) (hx:a.eval x=.slice Ad m cx)
  (hl:news.length=m*size) (hr:Rd w B Ad news) (h1:∀ u ∈ news,u.oneCell'=true)
  (h63:n+m≤maxLen) (hbytes:(n+m)*bytes≤140737488355328) (hbase:base≤w.heap.size)
  (h:∀ A' c' w',OwnR w' base e size A' c' (n+m) (xs++news)→w.grownBy w' (Value.slice A n c).ownBlock→Next w (.slice A n c) (.slice A' (n+m) c')→wpList P ops Q rest (a.put o.dst (.slice A' (n+m) c')) w') :
  wpList P ops Q (o :: rest) a w:=by
 obtain ⟨A',c',w',hrun,h2,h3,h4⟩:=qc3 (ty:=o.type) (cx:=cx) T hown hl (fun j u hu=>by
  obtain ⟨ad,h1,_,h3⟩:=hr j u hu;exact ⟨ad,h1,h3⟩) h1 h63 hbytes hbase
 refine qaH (R:=fun v' w1=>v'=.slice A' (n+m) c'∧w1=w') hgd ho hs hx ⟨_,_,hrun,rfl,rfl⟩ ?_;rintro v' w1 ⟨rfl,rfl⟩;exact h _ _ _ h2 h3 h4
theorem qaP {w0:World} {ys:List Value} {ops:Array Oper} {rest:List Oper} {o:Oper} {a:Act} {Q:Exit→Act→World→Prop} {s x:Operand} {t e:TypeId} {size bytes:Nat} (T:SlT P t e size bytes)
  (hgd:o.guard=none) (ho:o.op=.call { callee:=.builtin .append,args:=#[s,x],argTypes:=#[t,t] })
  {base n c ad:Nat} {A:Option Addr} {xs:List Value} (hown:OwnR w0 base e size A c n xs) (hs:a.eval s=.slice A n c) (hx:a.eval x=.slice (some ⟨ad,0,none⟩) 1 1) (had:ad=w0.heap.size) (hm:ys.length=size)
  (hy:∀ u ∈ ys,u.oneCell'=true)
  (h63:n+1≤maxLen) (hbytes:(n+1)*bytes≤140737488355328) (hbase:base≤w0.heap.size)
  (h:∀ A' c' w',OwnR w' base e size A' c' (n+1) (xs++ys)→w0.grownBy w' (Value.slice A n c).ownBlock→Next w0 (.slice A n c) (.slice A' (n+1) c')→wpList P ops Q rest (a.put o.dst (.slice A' (n+1) c')) w') :
  wpList P ops Q (o :: rest) a (w0.alloc (.cells ys.toArray e)):=by
 subst had
 obtain ⟨A',c',w',hrun,h2,h3,h4⟩:=qc3 (ty:=o.type) (cx:=1) (Ad:=some ⟨w0.heap.size,0,none⟩) T (hown.alloc (.cells ys.toArray e)) (news:=ys) (m:=1) (by omega) (fun j u hu=>⟨_,rfl,by
  have hadd:(⟨w0.heap.size,0,none⟩:Addr).add j=⟨w0.heap.size,j,none⟩:=by unfold Addr.add; split <;> simp_all
  rw [hadd,cell_of_row _ _ _ _ _ (0,0) (heap_alloc_new w0 _)]
  simpa using hu⟩) hy h63 hbytes (by simp; omega)
 refine qaH (R:=fun v' w1=>v'=.slice A' (n+1) c'∧w1=w') hgd ho hs hx ⟨_,_,hrun,rfl,rfl⟩ ?_;rintro v' w1 ⟨rfl,rfl⟩;exact h _ _ _ h2 ((World.grownBy_alloc w0 _ _).trans h3) (h4.back (by simp))
end
end Go.Proofs.YtlkikjeccamheaaGreatDoor
namespace Go.Proofs.YtlkikjeccamheaaGreatDoor.Js
set_option linter.unusedSimpArgs false
set_option linter.unusedVariables false
set_option maxRecDepth 100000
set_option maxHeartbeats 4000000
open Go.RowKit
theorem sl_strz:SlT Tryz.prog 41 9 1 16:=SlT.mk1 (z:=.string ⟨#[]⟩) Tryz.underlying41 (by kernel_rfl) rfl (by decide)
theorem sl_jsons:SlT Tryz.prog 42 44 5 80:=SlT.mk1 (z:=.agg #[.int .i64 0,.int .i64 0,.string ⟨#[]⟩,.slice none 0 0,.slice none 0 0]) Tryz.underlying42 (by kernel_rfl) rfl (by decide)
theorem qdd {w:World} {base:Nat} {e:TypeId} {size:Nat} {A:Option Addr} {c n:Nat} {xs:List Value} (h:OwnR w base e size A c n xs) {g:Nat} (hg:(Value.slice A n c).ownBlock=some g):∃ cs,w.heap[g]?=some (.cells cs e (0,0)):=by
 rcases h.2 with ⟨h1,h2⟩ | ⟨g',cap,cur,h1,h2,h3,h4⟩
 ·injection h1 with e1
  subst e1;simp [Value.ownBlock] at hg
 ·injection h1 with e1
  subst e1;simp [Value.ownBlock] at hg;subst hg;exact ⟨_,h3⟩
theorem qdc {w:World} {base:Nat} {e:TypeId} {size:Nat} {A:Option Addr} {c n:Nat} {xs:List Value} (h:OwnR w base e size A c n xs):RdS w (fun b=>base≤b) A xs:=fun i u hu=>by
 obtain ⟨ad,h1,h2,h3⟩:=Rd.of_own h.x (Nat.le_refl _) i u hu;refine ⟨ad,h1,?_,h3⟩;exact (h.lt ad.block (by rw [h1]; rfl)).1
def KS (G:Nat) (X Y:Value) (b:Nat):Prop:=G+3≤b∧X.ownBlock≠some b∧Y.ownBlock≠some b
structure LsM (w0:World) (G r:Nat) (s:ByteArray) (D1:Int) (T:JV) (u:World) (a1:Nat) (e1:Int):Prop where
 low:r<G
 wg:w0.heap.size=G
 box:Blk u G 74 #[.pointer (some ⟨r,0,none⟩)]
 res:Blk u (G+1) 44 (jvCells zJV)
 tree:Blk u (G+2) 44 (jvCells T)
 rd:RD u r s a1 D1 e1
 rg:RG r w0 u
structure Ls (w0:World) (G r:Nat) (s:ByteArray) (D1:Int) (T:JV) (A1:Option Addr) (c1:Nat) (ns:List Bs) (A2:Option Addr) (c2:Nat) (ks:List JT) (u:World) (a1:Nat) (e1:Int):Prop where
 m:LsM w0 G r s D1 T u a1 e1
 names:OwnR u (G+3) 9 1 A1 c1 ns.length (rowsV sCell ns)
 kids:∃ kv:List JV,kv.length=ks.length∧OwnR u (G+3) 44 5 A2 c2 ks.length (rowsV jvCells kv) ∧
  ∀ i (h:i<ks.length) (h':i<kv.length),JRep u (KS G (.slice A1 ns.length c1) (.slice A2 ks.length c2)) ks[i] kv[i]
section
variable {w0:World} {G r:Nat} {s:ByteArray} {D1:Int} {T:JV} {A1:Option Addr} {c1:Nat} {ns:List Bs} {A2:Option Addr} {c2:Nat} {ks:List JT} {u u':World} {a1 a':Nat} {e1 e':Int}
theorem LsM.step {D2:Int} (h:LsM w0 G r s D1 T u a1 e1) (hg:RG r u u') (hr:RD u' r s a' D2 e'):LsM w0 G r s D2 T u' a' e' :=
 ⟨h.low,h.wg,h.box.grown hg (by have:=h.low; intro h; injection h with h; omega),h.res.grown hg (by have:=h.low; intro h; injection h with h; omega),h.tree.grown hg (by have:=h.low; intro h; injection h with h; omega),hr,h.rg.trans hg⟩
theorem LsM.new (h:LsM w0 G r s D1 T u a1 e1) (hb:Below u.heap.size u u'):LsM w0 G r s D1 T u' a1 e1:=h.step (.below hb) (h.rd.grow hb)
theorem LsM.drew (h:LsM w0 G r s D1 T u a1 e1):LsM w0 G r s D1 T u.drew a1 e1:=⟨h.low,h.wg,h.box,h.res,h.tree,h.rd,qbv h.rg⟩
theorem LsM.size (h:LsM w0 G r s D1 T u a1 e1):G+3≤u.heap.size:=h.tree.lt
theorem LsM.grown {g:Option Nat} (h:LsM w0 G r s D1 T u a1 e1) (hg:u.grownBy u' g) (hb:∀ k,g=some k→G+3≤k):LsM w0 G r s D1 T u' a1 e1:=by
 have hne:∀ k,k<G+3→some k≠g:=fun k hk he=>by have:=hb k he.symm; omega
 have hl:=h.low;exact ⟨h.low,h.wg,h.box.grown hg (hne _ (by omega)),h.res.grown hg (hne _ (by omega)),h.tree.grown hg (hne _ (by omega)),Blk.grown h.rd hg (hne _ (by omega)),h.rg.andThen hg (fun j hj=>.inl (by have:=hb j hj; rw [h.wg]; omega))⟩
theorem LsM.put {T':JV} (h:LsM w0 G r s D1 T u a1 e1) (hw:Wrote (G+2) u u') (ht:Blk u' (G+2) 44 (jvCells T')):LsM w0 G r s D1 T' u' a1 e1 :=
 ⟨h.low,h.wg,hw.blk h.box (by omega),hw.blk h.res (by omega),ht,hw.blk h.rd (by have:=h.low; omega),h.rg.wrote_new hw (by rw [h.wg]; omega)⟩
theorem KS.le {X Y:Value} {b:Nat} (h:KS G X Y b):G+3≤b:=h.1
theorem Ls.heap (h:Ls w0 G r s D1 T A1 c1 ns A2 c2 ks u a1 e1) (hm:LsM w0 G r s D1 T u' a' e') (hk:∀ b,b<u.heap.size→G+3≤b→u'.heap[b]?=u.heap[b]?):Ls w0 G r s D1 T A1 c1 ns A2 c2 ks u' a' e':=by
 obtain ⟨kv,h1,h2,h3⟩:=h.kids;have hlt:∀ {k cs t},u.heap[k]?=some (.cells cs t (0,0))→k<u.heap.size:=fun hq=>(Array.getElem?_eq_some_iff.1 hq).1;exact ⟨hm,h.names.heap fun k cs hq hl=>(hk k (hlt hq) hl).trans hq,kv,h1,h2.heap fun k cs hq hl=>(hk k (hlt hq) hl).trans hq,fun i hi hi'=>(h3 i hi hi').heap fun b hb hs=>hk b hb hs.le⟩
theorem Ls.step (h:Ls w0 G r s D1 T A1 c1 ns A2 c2 ks u a1 e1) (hg:RG r u u') (hr:RD u' r s a' D1 e'):Ls w0 G r s D1 T A1 c1 ns A2 c2 ks u' a' e' :=
 h.heap (h.m.step hg hr) fun b hb hl=>hg.block b hb (by have:=h.m.low; intro h; injection h with h; omega)
theorem Ls.new (h:Ls w0 G r s D1 T A1 c1 ns A2 c2 ks u a1 e1) (hb:Below u.heap.size u u'):Ls w0 G r s D1 T A1 c1 ns A2 c2 ks u' a1 e1:=h.step (.below hb) (h.m.rd.grow hb)
theorem Ls.drew (h:Ls w0 G r s D1 T A1 c1 ns A2 c2 ks u a1 e1):Ls w0 G r s D1 T A1 c1 ns A2 c2 ks u.drew a1 e1:=h.heap h.m.drew fun b _ _=>rfl
theorem Ls.put {T':JV} (h:Ls w0 G r s D1 T A1 c1 ns A2 c2 ks u a1 e1) (hw:Wrote (G+2) u u') (ht:Blk u' (G+2) 44 (jvCells T')):Ls w0 G r s D1 T' A1 c1 ns A2 c2 ks u' a1 e1:=by
 obtain ⟨kv,h1,h2,h3⟩:=h.kids;have hk:∀ b,b<u.heap.size→G+3≤b→u'.heap[b]?=u.heap[b]?:=fun b hb hl=>hw.grown.block b hb (by intro h; injection h with h; omega);have hlt:∀ {k cs t},u.heap[k]?=some (.cells cs t (0,0))→k<u.heap.size:=fun hq=>(Array.getElem?_eq_some_iff.1 hq).1;exact ⟨h.m.put hw ht,h.names.heap fun k cs hq hl=>(hk k (hlt hq) hl).trans hq,kv,h1,h2.heap fun k cs hq hl=>(hk k (hlt hq) hl).trans hq,fun i hi hi'=>(h3 i hi hi').heap fun b hb hs=>hk b hb hs.le⟩
theorem Ls.name {t:Bs} {A':Option Addr} {c':Nat} (h:Ls w0 G r s D1 T A1 c1 ns A2 c2 ks u a1 e1) (ho:OwnR u' (G+3) 9 1 A' c' (ns.length+1) (rowsV sCell ns++[.string (bs t)])) (hg:u.grownBy u' (Value.slice A1 ns.length c1).ownBlock)
  (hn:Next u (.slice A1 ns.length c1) (.slice A' (ns.length+1) c')):Ls w0 G r s D1 T A' c' (ns++[t]) A2 c2 ks u' a1 e1:=by
 obtain ⟨kv,h1,h2,h3⟩:=h.kids;refine ⟨h.m.grown hg (fun k hk=>(h.names.lt k hk).1),by rw [qaT,qbp,List.length_append]; exact ho,kv,h1,h2.heap fun k cs hq hl=>?_,fun i hi hi'=>?_⟩
 ·refine (hg.block k (Array.getElem?_eq_some_iff.1 hq).1 fun he=>?_).trans hq;obtain ⟨cs',hq'⟩:=qdd h.names he.symm;rw [hq] at hq'
  injection hq' with hq'
  injection hq' with _ ht
  exact absurd ht (by decide)
 ·have h5:JRep u (fun b=>KS G (.slice A1 ns.length c1) (.slice A2 ks.length c2) b∧KS G (.slice A' (ns++[t]).length c') (.slice A2 ks.length c2) b) ks[i] kv[i]:=(h3 i hi hi').imp fun b hb hs=>⟨hs,hs.1,fun he=>by
   rw [List.length_append] at he
   rcases hn with hn | hn
   ·exact hs.2.1 (hn.symm.trans he)
   ·have:=hn b he
    omega,hs.2.2⟩
  exact (h5.grown hg (fun b hb he=>hb.1.2.1 he.symm)).imp fun b _ hs=>hs.2
theorem Ls.kid {k:JT} {v:JV} {A':Option Addr} {c':Nat} (h:Ls w0 G r s D1 T A1 c1 ns A2 c2 ks u a1 e1) (hv:JRep u (KS G (.slice A1 ns.length c1) (.slice A2 ks.length c2)) k v)
  {kv:List JV} (h1:kv.length=ks.length) (h2:OwnR u (G+3) 44 5 A2 c2 ks.length (rowsV jvCells kv)) (h3:∀ i (h:i<ks.length) (h':i<kv.length),JRep u (KS G (.slice A1 ns.length c1) (.slice A2 ks.length c2)) ks[i] kv[i])
  (ho:OwnR u' (G+3) 44 5 A' c' (ks.length+1) (rowsV jvCells kv++(jvCells v).toList)) (hg:u.grownBy u' (Value.slice A2 ks.length c2).ownBlock)
  (hn:Next u (.slice A2 ks.length c2) (.slice A' (ks.length+1) c')):Ls w0 G r s D1 T A1 c1 ns A' c' (ks++[k]) u' a1 e1:=by
 have hS:∀ b,b<u.heap.size→KS G (.slice A1 ns.length c1) (.slice A2 ks.length c2) b→KS G (.slice A1 ns.length c1) (.slice A2 ks.length c2) b∧KS G (.slice A1 ns.length c1) (.slice A' (ks++[k]).length c') b:=fun b hb hs=>⟨hs,hs.1,hs.2.1,fun he=>by
   rw [List.length_append] at he
   rcases hn with hn | hn
   ·exact hs.2.2 (hn.symm.trans he)
   ·have:=hn b he
    omega⟩
 have hstep:∀ j x,JRep u (KS G (.slice A1 ns.length c1) (.slice A2 ks.length c2)) j x→JRep u' (KS G (.slice A1 ns.length c1) (.slice A' (ks++[k]).length c')) j x:=fun j x hj =>
  ((hj.imp hS).grown hg (fun b hb he=>hb.1.2.2 he.symm)).imp fun b _ hs=>hs.2
 refine ⟨h.m.grown hg (fun k hk=>(h2.lt k hk).1),h.names.heap fun k cs hq hl=>?_,kv++[v],by simp [h1],by rw [qaT,qbp,List.length_append]; exact ho,fun i hi hi'=>?_⟩
 ·refine (hg.block k (Array.getElem?_eq_some_iff.1 hq).1 fun he=>?_).trans hq;obtain ⟨cs',hq'⟩:=qdd h2 he.symm;rw [hq] at hq'
  injection hq' with hq'
  injection hq' with _ ht
  exact absurd ht (by decide)
 ·by_cases hl:i<ks.length
  ·rw [List.getElem_append_left hl,List.getElem_append_left (by omega)];exact hstep _ _ (h3 i hl (by omega))
  ·have e1:i=ks.length:=by simp at hi; omega
   subst e1;rw [List.getElem_append_right (Nat.le_refl _),List.getElem_append_right (by omega)];simp only [Nat.sub_self,h1,List.getElem_cons_zero];exact hstep _ _ hv
theorem Ls.rep {kk:Int} (h:Ls w0 G r s D1 T A1 c1 ns A2 c2 ks u a1 e1):JRep u (fun b=>G+3≤b) (.mk kk 0 [] ns ks) ⟨kk,0,[],A1,ns.length,c1,A2,ks.length,c2⟩:=by
 obtain ⟨kv,h1,h2,h3⟩:=h.kids
 exact .mk ⟨kk,0,[],A1,ns.length,c1,A2,ks.length,c2⟩ ns ks kv rfl h.names.cap (qdc h.names) rfl h2.cap h1 (qdc h2)
  (fun i hi hi'=>(h3 i hi hi').imp fun b _ hs=>hs.le)
theorem LsM.start (h:LsM w0 G r s D1 T u a1 e1):Ls w0 G r s D1 T none 0 [] none 0 [] u a1 e1:=⟨h,OwnR.nil _ _ _ _,[],rfl,OwnR.nil _ _ _ _,fun i hi _=>by simp at hi⟩
theorem Ls.fresh (h:Ls w0 G r s D1 T A1 c1 ns A2 c2 ks u a1 e1) {j:JT} {v:JV} (hj:JRep u' (fun b=>u.heap.size≤b) j v):JRep u' (KS G (.slice A1 ns.length c1) (.slice A2 ks.length c2)) j v:=by
 obtain ⟨kv,h1,h2,h3⟩:=h.kids;have hs:=h.m.size;exact hj.imp fun b _ hb=>⟨by omega,fun he=>by have:=(h.names.lt b he).2; omega,fun he=>by have:=(h2.lt b he).2; omega⟩
end
def kindV (m:Bool):Int:=if m then 5 else 4
def treeV (m:Bool) (A1:Option Addr) (n1 c1:Nat) (A2:Option Addr) (n2 c2:Nat):JV:=⟨kindV m,0,[],A1,n1,c1,A2,n2,c2⟩
def isMap (X:Bs):Bool:=look X == 123
theorem sign_parts (c:UInt8) (r:Bs):signB c 0 r=(signP c r).1∧signR c 0 r=(signP c r).2:=by
 unfold signR signB signP
 by_cases h:look (skip r)=c <;> simp [h]
def lres (m:Bool):Except Int (List Bs × List JT × Bs)→Except Int (JT × Bs)
 | .error e=>.error e
 | .ok (ns,ks,r)=>.ok (.mk (kindV m) 0 [] ns ks,r)
theorem qbK (val:Bs→Except Int (JT × Bs)) (r:Bs):listP val r=lres (isMap r) (listL val (isMap r) r.length [] [] (skip r.tail)):=by
 unfold listP lres isMap kindV
 cases h:listL val (look r == 123) r.length [] [] (skip r.tail) with
 | error e=>rfl
 | ok x=>rfl
def nameK (m:Bool) (ns:List Bs):Except Int Bs→Except Int (List Bs × Bs)
 | .error e=>.error e
 | .ok r2=>keyP m ns r2
def kidK (val:Bs→Except Int (JT × Bs)):Except Int (List Bs × Bs)→Except Int (List Bs × JT × Bs)
 | .error e=>.error e
 | .ok (ns,r3)=>match val r3 with
  | .error e=>.error e
  | .ok (k,r4)=>.ok (ns,k,r4)
def moreK (val:Bs→Except Int (JT × Bs)) (m:Bool) (n:Nat) (ks:List JT):Except Int (List Bs × JT × Bs)→Except Int (List Bs × List JT × Bs)
 | .error e=>.error e
 | .ok (ns,k,r4)=>listL val m n ns (ks++[k]) r4
theorem qbL {val:Bs→Except Int (JT × Bs)} {m:Bool} {n:Nat} {ns:List Bs} {ks:List JT} {r r1:Bs} (h:signP (endC m) r=(true,r1)):listL val m (n+1) ns ks r=.ok (ns,ks,r1):=by
 rw [listL,h]
theorem qbj {val:Bs→Except Int (JT × Bs)} {m:Bool} {n:Nat} {ns:List Bs} {ks:List JT} {r r1:Bs} (h:signP (endC m) r=(false,r1)):listL val m (n+1) ns ks r=moreK val m n ks (kidK val (nameK m ns (commaP ks.isEmpty r1))):=by
 rw [listL,h];dsimp only;unfold moreK kidK nameK
 cases commaP ks.isEmpty r1 with
 | error e=>rfl
 | ok r2 =>
  dsimp only
  cases keyP m ns r2 with
  | error e=>rfl
  | ok x =>
   dsimp only
   cases val x.2 with
   | error e=>rfl
   | ok y=>rfl
theorem mustP_err {c:UInt8} {r:Bs} {e:Int} (h:mustP c r=.error e):e≠0:=by
 unfold mustP at h
 split at h
 ·cases h
 ·injection h with h
  omega
theorem qcY {b:Bool} {r:Bs} {e:Int} (h:commaP b r=.error e):e≠0:=by
 unfold commaP at h
 split at h
 ·cases h
 ·exact mustP_err h
theorem nameP_err {ns:List Bs} {r:Bs} {e:Int} (h:nameP ns r=.error e):e≠0:=by
 unfold nameP at h
 split at h
 ·injection h with h; omega
 ·split at h
  ·injection h with h; omega
  ·split at h
   ·rename_i hm
    injection h with h
    subst h;exact mustP_err hm
   ·cases h
theorem qdI {m:Bool} {ns:List Bs} {b:Bool} {r:Bs} {e:Int} (h:nameK m ns (commaP b r)=.error e):e≠0:=by
 unfold nameK at h
 split at h
 ·rename_i hc
  injection h with h
  subst h;exact qcY hc
 ·unfold keyP at h
  split at h
  ·exact nameP_err h
  ·cases h
theorem kidK_err {val:Bs→Except Int (JT × Bs)} (hv:∀ {r e},val r=.error e→e≠0) {m:Bool} {ns:List Bs} {b:Bool} {r:Bs} {e:Int} (h:kidK val (nameK m ns (commaP b r))=.error e):e≠0:=by
 unfold kidK at h
 split at h
 ·rename_i hc
  injection h with h
  subst h;exact qdI hc
 ·split at h
  ·rename_i hc
   injection h with h
   subst h;exact hv hc
  ·cases h
theorem listL_err {val:Bs→Except Int (JT × Bs)} (hv:∀ {r e},val r=.error e→e≠0) {m:Bool}:∀ (n:Nat) {ns:List Bs} {ks:List JT} {r:Bs} {e:Int},listL val m n ns ks r=.error e→e≠0
 | 0,ns,ks,r,e,h=>by
  rw [listL] at h
  injection h with h
  omega
 | n+1,ns,ks,r,e,h=>by
  rcases hs:signP (endC m) r with ⟨b,r1⟩
  cases b with
  | true =>
   rw [qbL hs] at h
   cases h
  | false =>
   rw [qbj hs] at h;unfold moreK at h
   split at h
   ·rename_i hc
    injection h with h
    subst h;exact kidK_err hv hc
   ·exact listL_err hv n h
theorem lpOf_err {val:Bs→Except Int (JT × Bs)} (hv:∀ {r e},val r=.error e→e≠0) {r:Bs} {e:Int} (h:listP val r=.error e):e≠0:=by
 rw [qbK] at h;unfold lres at h
 split at h
 ·rename_i hc
  injection h with h
  subst h;exact listL_err hv _ hc
 ·cases h
theorem rawP_err {lp:Bs→Except Int (JT × Bs)} (hl:∀ {r e},lp r=.error e→e≠0) {r:Bs} {e:Int} (h:rawP lp r=.error e):e≠0:=by
 have hw:∀ {w r v},wordR w r v=.error e→e≠0:=by
  intro w r v h;unfold wordR at h
  split at h
  ·injection h with h; omega
  ·cases h
 have ho:∀ {α:Type} {x:Option (α × Bs)} {f:α→JT},optR x f=.error e→e≠0:=by
  intro α x f h;unfold optR at h
  split at h
  ·injection h with h; omega
  ·cases h
 unfold rawP at h
 split at h
 ·exact hw h
 split at h
 ·exact hw h
 split at h
 ·exact hw h
 split at h
 ·exact ho h
 split at h
 ·exact hl h
 ·exact ho h
theorem skipR_err {x:Except Int (JT × Bs)} {e:Int} (h:skipR x=.error e):x=.error e:=by
 unfold skipR at h
 split at h
 ·injection h with h
  subst h;rfl
 ·cases h
theorem qbI:∀ (d:Nat) {r:Bs} {e:Int},valueP d r=.error e→e≠0
 | 0,r,e,h=>rawP_err (by intro r e h; injection h with h; omega) (skipR_err h)
 | d+1,r,e,h=>rawP_err (fun h=>lpOf_err (fun h=>qbI d h) h) (skipR_err h)
def NmQ (s:ByteArray) (a4:Nat) (e4:Int) (ns:List Bs) (t:Bs) (a5:Nat) (e5:Int):Prop :=
 (a5:Int)≤1500000∧e5=errP e4 (nameP ns (s.data.toList.drop a4))∧(e4=0→∀ ns' r1,nameP ns (s.data.toList.drop a4)=.ok (ns',r1)→ns'=ns++[t]∧At s a4 a5 r1)
def VlQ (s:ByteArray) (a3:Nat) (E4:Except Int (List Bs × JT × Bs)) (ns:List Bs) (a6:Nat) (e6:Int):Prop :=
 (a6:Int)≤1500000∧e6=errE E4∧∀ ns' k r4,E4=.ok (ns',k,r4)→ns'=ns∧At s a3 a6 r4
theorem nmq_done {s:ByteArray} {a3 a4 a5:Nat} {e4 e5:Int} {ns:List Bs} {t r1:Bs} {b:Bool} (h:NmQ s a4 e4 ns t a5 e5) (he:e4=errE (commaP b r1)) (hat:∀ r2,commaP b r1=.ok r2→At s a3 a4 r2) :
  e5=errE (nameK true ns (commaP b r1))∧∀ x r3,nameK true ns (commaP b r1)=.ok (x,r3)→x=ns++[t]∧At s a3 a5 r3:=by
 obtain ⟨h1,h2,h3⟩:=h
 cases hc:commaP b r1 with
 | error e =>
  rw [hc] at he;have h0:=qcY hc;rw [errP_ne (by rw [he]; exact h0)] at h2;exact ⟨by rw [h2,he]; rfl,fun x r3 h=>by cases h⟩
 | ok r2 =>
  rw [hc] at he;have he0:e4=0:=he;have ha:=hat r2 hc;subst he0;rw [errP_z,ha.rest] at h2;refine ⟨h2,fun x r3 hx=>?_⟩;have h5:=h3 rfl x r3 (by rw [ha.rest]; exact hx);exact ⟨h5.1,ha.trans h5.2⟩
theorem vlq_of {d:Nat} {s:ByteArray} {a3 a5 a6:Nat} {ns':List Bs} {e5:Int} {K3:Except Int (List Bs × Bs)} (hK:∀ e,K3=.error e→e≠0) (he:e5=errE K3) (hat:∀ x r3,K3=.ok (x,r3)→x=ns'∧At s a3 a5 r3)
  {P:JT→Prop} (ha:(a6:Int)≤1500000) (hok:e5=0→∀ j r1,valueP d (s.data.toList.drop a5)=.ok (j,r1)→At s a5 a6 r1∧P j) :
  VlQ s a3 (kidK (valueP d) K3) ns' a6 (errP e5 (valueP d (s.data.toList.drop a5)))∧∀ x k r4,kidK (valueP d) K3=.ok (x,k,r4)→P k:=by
 cases hc:K3 with
 | error e =>
  rw [hc] at he;have h0:=hK e hc;rw [errP_ne (by rw [he]; exact h0)];exact ⟨⟨ha,by rw [he]; rfl,fun x k r4 h=>by cases h⟩,fun x k r4 h=>by cases h⟩
 | ok y =>
  obtain ⟨x,r3⟩:=y;rw [hc] at he;have he0:e5=0:=he;obtain ⟨rfl,h2⟩:=hat x r3 hc;subst he0;rw [errP_z,h2.rest];rw [h2.rest] at hok;unfold kidK;dsimp only
  cases hv:valueP d r3 with
  | error e=>exact ⟨⟨ha,rfl,fun x k r4 h=>by cases h⟩,fun x k r4 h=>by cases h⟩
  | ok z =>
   obtain ⟨k,r4⟩:=z;obtain ⟨h5,h6⟩:=hok rfl k r4 hv;refine ⟨⟨ha,rfl,fun x' k' r4' h=>?_⟩,fun x' k' r4' h=>?_⟩
   ·injection h with h
    injection h with h1 h
    injection h with h3 h4
    subst h1 h3 h4;exact ⟨rfl,h2.trans h5⟩
   ·injection h with h
    injection h with h1 h
    injection h with h3 h4
    subst h1 h3 h4;exact h6
theorem kidK_len {d:Nat} {m b:Bool} {ns x:List Bs} {k:JT} {r1 r4:Bs} (h:kidK (valueP d) (nameK m ns (commaP b r1))=.ok (x,k,r4)):r4.length<r1.length∧x.length≤ns.length+1:=by
 unfold kidK at h
 split at h
 ·cases h
 ·rename_i ns' r3 hn
  have hx:ns'=x∧valueP d r3=.ok (k,r4):=by
   split at h
   ·cases h
   ·rename_i hv
    injection h with h
    injection h with h1 h
    injection h with h2 h3
    subst h1 h2 h3;exact ⟨rfl,hv⟩
  obtain ⟨rfl,hv⟩:=hx;have l4:=qcQ d hv;unfold nameK at hn
  split at hn
  ·cases hn
  ·rename_i r2 hc
   have l2:r2.length≤r1.length:=by
    unfold commaP at hc
    split at hc
    ·injection hc with hc; subst hc; exact Nat.le_refl _
    ·exact qb1 hc
   unfold keyP at hn
   split at hn
   ·have l3:=qcC hn;refine ⟨by omega,?_⟩;unfold nameP at hn
    split at hn
    ·cases hn
    ·split at hn
     ·cases hn
     ·split at hn
      ·cases hn
      ·injection hn with hn
       injection hn with hn _
       subst hn;simp
   ·injection hn with hn
    injection hn with h1 h2
    subst h1 h2;exact ⟨by omega,by omega⟩
theorem listd_any (p:Nat) (s:ByteArray) (r a:Nat) (D e:Int) (hD:0≤D) (hD9:D≤100) (u:FrameMode) (w:World) (hb:Blk w p 74 #[.pointer (some ⟨r,0,none⟩)]) (h:RD w r s a (D+1) e) :
  CallsD Tryz.prog 122 #[.pointer (some ⟨p,0,none⟩)] u w fun x u' w'=>u'=u∧x=.returned (.tuple #[])∧RD w' r s a D e∧RG r w w'∧Wrote r w w':=by
 have c0:w.cell? ⟨p,0,none⟩=some (.pointer (some ⟨r,0,none⟩)):=hb.cell 0;obtain ⟨-,-,c2,-⟩:=h.cells;have H:=zY h;have e1:D+1 - 1=D:=by omega
 clear hb h
 go_enter_d Tryz.func122,Tryz.ntmps122
 go_wp2_with (refine qaf (x:=.tmp 7) (i:=2) H.out rfl rfl rfl rfl (by kernel_rfl) (by simp [rdCells]) rfl ?_; intro w1 hb1 hw1)
 go_end0
 exact ⟨rfl,hb1,RG.wrote hw1,hw1⟩
theorem qdK {R:Ending→World→Prop} (tmps:Array Value) (G:Nat) (T:JV) (ht:tmps.getD 2 undef=.pointer (some ⟨G+1,0,none⟩)) (s:ByteArray) (r a:Nat) (D e:Int) (hD:0≤D) (hD9:D≤100) (hr:r<G) (u:World)
  (hb:Blk u G 74 #[.pointer (some ⟨r,0,none⟩)]) (hres:Blk u (G+1) 44 (jvCells T)) (h:RD u r s a (D+1) e) (hR:∀ u',RD u' r s a D e→Wrote r u u'→R (.returned (.agg (jvCells T))) u') :
  Leaves Tryz.prog Tryz.f104 tmps R [{ target:=.fn (.func 122) #[.pointer (some ⟨G,0,none⟩)],args:=#[] }] .returning u:=by
 have hu:=Tryz.underlying44;refine leaves_cons (f:=122) (args:=#[.pointer (some ⟨G,0,none⟩)]) (by simp) (by simp [go_sem]) ?_;refine (listd_any G s r a D e hD hD9 .returning u hb h).mono ?_;rintro x u' w' ⟨rfl,rfl,hrd,hrg,hw⟩;exact ⟨_,qah (P:=Tryz.prog) rfl ht (hw.blk hres (by omega)) hu rfl qag,hR _ hrd hw⟩
def LRd (D:Int) (lp:Bs→Except Int (JT × Bs)):Prop:=∀ (s:ByteArray) (hs:(s.size:Int)≤1000000) (r a:Nat) (w:World) (h:RD w r s a D 0) (ha:a<s.size),
 Calls Tryz.prog 104 #[.pointer (some ⟨r,0,none⟩)] w fun x w'=>∃ v:JV,x=.returned (.agg (jvCells v))∧∃ a':Nat,(a':Int)≤1500000 ∧
  RD w' r s a' D (errE (lp (s.data.toList.drop a)))∧RG r w w'∧∀ j r1,lp (s.data.toList.drop a)=.ok (j,r1)→At s a a' r1∧JRep w' (fun b=>w.heap.size≤b) j v
def lpOf:Nat→Bs→Except Int (JT × Bs)
 | 0=>fun _=>.error 9
 | d+1=>listP (valueP d)
theorem qbW (d:Nat) (r:Bs):valueP d r=skipR (rawP (lpOf d) (skip r)):=by cases d <;> rfl
theorem list_step (d:Nat) (D:Int) (hD:D+(d:Int)=6) (hD0:0≤D) (IH:∀ d',d=d'+1→VRd d'):LRd D (lpOf d):=by
 intro s hs r a w h ha;have hu:=Tryz.underlying44;have hmf:∀ (fn:Fn) (first cap:Array Value) (w:World),(Instr.makeFunc fn first cap).run Tryz.prog w=.ok (.func fn first cap) w:=fun _ _ _ _=>rfl;obtain ⟨G,hG⟩:=eX (w.heap.size);obtain ⟨W1,hW1⟩:∃ W1,W1=((w.alloc (.cells #[.pointer (some ⟨r,0,none⟩)] 74)).alloc (.cells (jvCells zJV) 44)).alloc (.cells (jvCells (treeV false none 0 0 none 0 0)) 44):=⟨_,rfl⟩;have hb1:Below w.heap.size w W1:=by rw [hW1]; exact (((Below.refl _ w).alloc (Nat.le_refl _) _).alloc (by simp) _).alloc (by simp; omega) _
 have HM0:=zY (show LsM w G r s D (treeV false none 0 0 none 0 0) W1 a 0 from by
  refine ⟨by rw [hG]; exact Blk.lt h,hG.symm,?_,?_,?_,h.grow hb1,.below hb1⟩
  ·rw [hW1,hG];exact ((Blk.new _ _ _).alloc _).alloc _
  ·have:=(Blk.new (w.alloc (.cells #[.pointer (some ⟨r,0,none⟩)] 74)) 44 (jvCells zJV)).alloc (.cells (jvCells (treeV false none 0 0 none 0 0)) 44);rw [hW1,hG]
   simpa using this
  ·have:=Blk.new ((w.alloc (.cells #[.pointer (some ⟨r,0,none⟩)] 74)).alloc (.cells (jvCells zJV) 44)) 44 (jvCells (treeV false none 0 0 none 0 0));rw [hW1,hG]
   simpa [Nat.add_assoc] using this)
 have HW1:=zY hW1;have HA:=zY ha;have HS:=zY hs;have CK:=zY (qbQ s r a D 0 W1 HM0.out.rd);have CF:=zY (fun (u:World) (h:RD u r s a D 0)=>qbn 9 s r a D 0 u h);obtain ⟨X,hX⟩:=eX (s.data.toList.drop a);have HX:=zY hX;rw [← hX];have HL:=zY (show lookE s a 0=look X by rw [lookE,if_pos rfl,HX.out]);obtain ⟨m,hm⟩:=eX (isMap X);have HM:=zY hm.symm;obtain ⟨z,hz⟩:∃ z:Int,z=(((look X).toNat:Nat):Int):=⟨_,rfl⟩
 have hmz:(z == 123)=m:=by
  rw [hz,hm,isMap,Bool.eq_iff_iff,beq_iff_eq,beq_iff_eq]
  constructor
  ·intro h;exact UInt8.toNat.inj (by show (look X).toNat=123; omega)
  ·intro h;rw [h];rfl
 have HZ:=zY (show byteV (lookE s a 0)=.int .u8 z by rw [HL.out,hz]; rfl);have a0:W1.cell? ⟨G,0,none⟩=some (.pointer (some ⟨r,0,none⟩)):=HM0.out.box.cell 0;have HIH:=zY IH;have HDD:=zY hD;clear hW1 hb1 h ha hs hX hm hz hD IH;rw [hG] at *;clear hG
 go_enter_defers Tryz.func104,Tryz.ntmps104
 go_upto_region 2 with (fail)
 rw [show (((w.alloc (.cells #[.pointer (some ⟨r,0,none⟩)] 74)).alloc (.cells #[.int .i64 0,.int .i64 0,.string ⟨#[]⟩,.slice none 0 0,.slice none 0 0] 44)).alloc (.cells #[.int .i64 4,.int .i64 0,.string ⟨#[]⟩,.slice none 0 0,.slice none 0 0] 44))=W1 from HW1.out.symm];clear HW1;go_wp2_with fail;refine qaa CK.out ?_;rintro y w2 ⟨rfl,hrd,hrg⟩;have HM2:=zY (HM0.out.step hrg hrd);rw [HZ.out];clear hrd hrg a0
 go_upto_if 9 with (fail)
 go_cut [4] from 7 to 10 (fun c w3=>c=byteV (endC m)∧LsM w w.heap.size r s D (treeV m none 0 0 none 0 0) w3 a 0)
 case first =>
  cases m with
  | false =>
   go_wp2_with fail
   go_meet
   exact ⟨rfl,HM2.out⟩
  | true =>
   go_wp2_with (refine qaf (x:=.tmp 10) (i:=0) HM2.out.tree rfl rfl rfl rfl (by kernel_rfl) (by simp [jvCells]) rfl ?_; intro w3 hb3 hw3)
   go_meet
   exact ⟨rfl,HM2.out.put hw3 hb3⟩
 case rest =>
 obtain ⟨rfl,hm3⟩:=hcut;have HM3:=zY hm3;clear hm3 HM2 HM0 CK;obtain ⟨-,-,c2,-⟩:=HM3.out.rd.cells;have b0:wc.cell? ⟨w.heap.size,0,none⟩=some (.pointer (some ⟨r,0,none⟩)):=HM3.out.box.cell 0
 cases d with
 | zero =>
  obtain rfl:D=6:=by have:=HDD.out; omega
  go_wp2_with fail;refine qaa (CF.out _ HM3.out.rd) ?_;rintro y w4 ⟨rfl,hrd,hrg⟩;have HM4:=zY (HM3.out.step hrg (show RD w4 r s a 6 9 from hrd));clear hrd hrg c2 b0
  go_wp2_with (first
   | refine qad (x:=.tmp 3) HM4.out.tree rfl rfl rfl hu rfl qag ?_
   | (refine qac (x:=.tmp 2) (cells:=jvCells (treeV m none 0 0 none 0 0)) HM4.out.res rfl rfl rfl rfl qag rfl (qae _) ?_; intro w9 hb9 hw9))
  have HRD9:=zY (show RD w9 r s a 6 9 from hw9.blk HM4.out.rd (by have:=HM4.out.low; omega));have HRG9:=zY (show RG r w w9 from HM4.out.rg.wrote_new hw9 (by omega));have HA':=HA.out;have HS':=HS.out;exact ⟨_,qah (P:=Tryz.prog) rfl rfl hb9 hu rfl qag,_,rfl,a,by omega,HRD9.out,HRG9.out,fun j r1 h=>by cases h⟩
 | succ d =>
  have hD6:¬ 6≤D:=by have:=HDD.out; omega
  have HV:=zY (HIH.out d rfl);obtain ⟨LR,hLR⟩:=eX (lpOf (d+1) X);have HLR:=zY hLR;have HLP:=zY (show listP (valueP d) X=LR from hLR.symm);obtain ⟨c,hc⟩:=eX (a+1);have HC:=zY hc;have HCI:=zY (show (a:Int)+1=(c:Int) by omega);have CB:=zY (fun (u:World) (h:RD u r s c (D+1) 0)=>qbO s HS.out r c (D+1) 0 u h (by have:=HA.out; have:=HS.out; omega));have ha':(a:Int)≤1000000:=by have:=HA.out; have:=HS.out; omega
  have hD7:D≤6:=by omega
  clear hLR HIH CF hc
  go_wp2_with (first
   | (refine qaf (x:=.tmp 25) (i:=2) HM3.out.rd rfl rfl rfl rfl (by kernel_rfl) (by simp [rdCells]) rfl ?_; intro w4 hb4 hw4; have HM4:=zY (HM3.out.step (RG.wrote hw4) (show RD w4 r s a (D+1) 0 from hb4)); have b4:w4.cell? ⟨w.heap.size,0,none⟩=some (.pointer (some ⟨r,0,none⟩)):=HM4.out.box.cell 0; have c4:w4.cell? ⟨r,1,none⟩=some (.int .i64 (a:Int)):=HM4.out.rd.cells.2.1)
   | (refine qaf (x:=.tmp 33) (i:=1) HM4.out.rd rfl rfl rfl rfl (by kernel_rfl) (by simp [rdCells]) rfl ?_; intro w5 hb5 hw5; have HM5:=zY (HM4.out.step (RG.wrote hw5) (show RD w5 r s c (D+1) 0 from by
     show Blk w5 r _ #[.string s,.int .i64 ((c:Nat):Int),.int .i64 (D+1),.int .i64 0];rw [← HCI.out];exact hb5)); have b5:w5.cell? ⟨w.heap.size,0,none⟩=some (.pointer (some ⟨r,0,none⟩)):=HM5.out.box.cell 0))
  refine qaa (CB.out _ HM5.out.rd) ?_;rintro y w6 ⟨rfl,a1,h1,h2,h3,hrd,hrg⟩;have HM6:=zY (HM5.out.step hrg hrd);have HAT6:=zY (show At s a a1 (skip X.tail) from ⟨by have:=HC.out; omega,.inr (by have:=HC.out; have:=HA.out; omega),by rw [h3,HC.out,qaK,HX.out]⟩);have b6:w6.cell? ⟨w.heap.size,0,none⟩=some (.pointer (some ⟨r,0,none⟩)):=HM6.out.box.cell 0;have CS:=zY (sign_any (endC m) (by cases m <;> decide) s HS.out r a1 (D+1) 0 w6 HM6.out.rd (by have:=HAT6.out.top; have:=HA.out; have:=HS.out; omega));clear hrd hrg h1 h2 h3 b4 c4 b5 c2 b0 hb4 hw4 hb5 hw5;go_wp2_with fail;refine qaa CS.out ?_;rintro y w7 ⟨rfl,a2,hat,hrd,hrg⟩;have HM7:=zY (HM6.out.step hrg hrd);obtain ⟨hp1,hp2⟩:=sign_parts (endC m) (s.data.toList.drop a1);rw [hp2] at hat;rw [hp1];rw [HAT6.out.rest] at hat ⊢;obtain ⟨X1,hX1⟩:=eX (skip X.tail);rw [← hX1] at hat ⊢;have HAT7:=zY hat;have HX1:=zY hX1;obtain ⟨b,hb⟩:=eX ((signP (endC m) X1).1);rw [← hb];have HB:=zY (show signP (endC m) X1=(b,(signP (endC m) X1).2) by rw [hb]);obtain ⟨LL,hLL⟩:=eX (listL (valueP d) m X.length [] [] X1);have HLL:=zY (show LR=lres m LL by rw [← HLP.out,qbK,hLL,HM.out,hX1]);obtain ⟨n,hn⟩:∃ n,X.length=n+1:=⟨X.length - 1,by have:=HA.out; have:=HX.out; have h5:s.data.toList.length=s.size:=rfl; rw [HX.out,List.length_drop]; omega⟩;have HN:=zY (show listL (valueP d) m (n+1) [] [] X1=LL by rw [hLL,hn]);have HN1:=zY (show X1.length≤n by have h1:=qaG X.tail; rw [← hX1] at h1; simp at h1; omega);clear hrd hrg hp1 hp2 hat hX1 hb hLL hn CS b6;go_wp2_with fail
  go_loopg [5] n (fun gk more wr=>∃ (ns:List Bs) (ks:List JT) (A1 A2:Option Addr) (c1 c2 a1:Nat) (b:Bool) (X0 r1:Bs),more=.bool (!b)∧signP (endC m) X0=(b,r1)∧At s a a1 r1∧listL (valueP d) m (gk+1) ns ks X0=LL∧r1.length≤gk ∧
   ns.length≤ks.length∧ks.length≤a1∧Ls w w.heap.size r s (D+1) (treeV m A1 ns.length c1 A2 ks.length c2) A1 c1 ns A2 c2 ks wr a1 0)
  case atStart =>
   refine ⟨[],[],none,none,0,0,a2,b,X1,_,rfl,HB.out,HAT6.out.trans HAT7.out,HN.out,?_,Nat.le_refl _,Nat.zero_le _,HM7.out.start⟩;have h1:=qbY (endC m) X1;have h2:=HN1.out;omega
  case round =>
   obtain ⟨ns,ks,A1,A2,c1,c2,a3,b3,X0,r1,rfl,hsg,hat,hll,hlen,hnk,hka,hls⟩:=hrel;have HSG:=zY hsg;have HAT:=zY hat;have HLK:=zY hll;have HLEN:=zY hlen;have HNK:=zY hnk;have HKA:=zY hka;have HLS:=zY hls;clear hsg hat hll hlen hnk hka hls;clear HN HN1 HB HX1 HAT7 HM7 HAT6 HM6 HM5 HM4 HM3 hmz HZ
   cases b3 with
   | true =>
    have HE:=zY (show LL=.ok (ns,ks,r1) by rw [← HLK.out,qbL HSG.out])
    go_wp2_with (first
     | refine qad (x:=.tmp 3) HLS.out.m.tree rfl rfl rfl hu rfl qag ?_
     | (refine qac (x:=.tmp 2) (cells:=jvCells (treeV m A1 ns.length c1 A2 ks.length c2)) HLS.out.m.res rfl rfl rfl rfl qag rfl (qae _) ?_; intro w9 hb9 hw9))
    have HM9:=zY (HLS.out.m);refine qdK _ w.heap.size (treeV m A1 ns.length c1 A2 ks.length c2) rfl s r a3 D 0 hD0 (by omega) HM9.out.low w9 (hw9.blk HM9.out.box (by omega)) hb9 (hw9.blk HM9.out.rd (by have:=HM9.out.low; omega)) fun u' hrd hw=>?_;have hE:lpOf (d+1) X=.ok (.mk (kindV m) 0 [] ns ks,r1):=by rw [← HLR.out,HLL.out,HE.out]; rfl
    refine ⟨_,rfl,a3,by have:=HAT.out.top; have:=HA.out; have:=HS.out; omega,by rw [hE]; exact hrd,(HM9.out.rg.wrote_new hw9 (by omega)).trans (RG.wrote hw),fun j q hq=>?_⟩;rw [hE] at hq
    injection hq with hq
    injection hq with h1 h2
    subst h1 h2;refine ⟨HAT.out,?_⟩;have hlow:=HM9.out.low;exact (((HLS.out.rep).heap fun b hb1 hb=>hw9.grown.block b hb1 (by intro h; injection h with h; omega)).heap fun b hb1 hb=>hw.grown.block b hb1 (by intro h; injection h with h; omega)).imp fun b _ hb=>by omega
   | false =>
    have HE:=zY (show moreK (valueP d) m gk ks (kidK (valueP d) (nameK m ns (commaP ks.isEmpty r1)))=LL by rw [← HLK.out,qbj HSG.out]);have HA3:=zY (show a3≤s.size by have:=HAT.out.top; have:=HA.out; omega);have hks:(ks.length:Int)≤1000000:=by have:=HKA.out; have:=HA3.out; have:=HS.out; omega
    have HKS:=zY hks;have HRE:=zY (show s.data.toList.drop a3=r1 from HAT.out.rest);have b0:wr.cell? ⟨w.heap.size,0,none⟩=some (.pointer (some ⟨r,0,none⟩)):=HLS.out.m.box.cell 0;have b4:wr.cell? ⟨w.heap.size+2,4,none⟩=some (.slice A2 ks.length c2):=HLS.out.m.tree.cell 4;have CM:=zY (must_all 44 (by decide) s HS.out r a3 (D+1) wr HLS.out.m.rd (by have:=HA3.out; have:=HS.out; omega));clear HLK HSG;obtain ⟨kl,hkl⟩:=eX (ks.length);rw [← hkl] at b4 hks;have HKL:=zY hkl;clear hkl
    go_upto_if 48 with (fail)
    go_cut [] from 40 to 75 (fun wx=>∃ (a4:Nat) (e4:Int),(a4:Int)≤1500000∧Ls w w.heap.size r s (D+1) (treeV m A1 ns.length c1 A2 ks.length c2) A1 c1 ns A2 c2 ks wx a4 e4∧e4=errE (commaP ks.isEmpty r1)∧∀ r2,commaP ks.isEmpty r1=.ok r2→At s a3 a4 r2)
    case first =>
     by_cases hk0:kl=0
     ·subst hk0;have HK0:=zY (show ks.isEmpty=true by have:=HKL.out; rw [List.isEmpty_iff]; exact List.eq_nil_of_length_eq_zero this.symm);go_wp2_with fail
      go_meet
      rw [HK0.out];refine ⟨a3,0,by have:=HA3.out; have:=HS.out; omega,HLS.out,rfl,fun r2 h=>?_⟩
      injection h with h
      subst h;exact ⟨Nat.le_refl _,.inl (Nat.le_refl _),HRE.out⟩
     ·have hk1:(0:Int)<(kl:Int):=by omega
      have HK0:=zY (show ks.isEmpty=false by
       have:=HKL.out
       cases ks with
       | nil=>exact absurd this hk0
       | cons x l=>rfl)
      clear hk0;go_wp2_with fail;refine qaa CM.out ?_;rintro y w8 ⟨rfl,a4,ha4,hrd,hrg,hat⟩;have HLS8:=zY (HLS.out.step hrg hrd);rw [HRE.out] at hat HLS8;have HAT8:=zY hat;have HA8:=zY ha4;clear hat hrd hrg ha4;go_wp2_with fail
      go_meet
      rw [HK0.out];exact ⟨a4,_,HA8.out,HLS8.out,rfl,HAT8.out⟩
    case rest =>
    obtain ⟨a4,e4,ha4,hls4,he4,hat4⟩:=hcut;have HA4:=zY ha4;have HLS4:=zY hls4;have HE4:=zY he4;have HAT4:=zY hat4;have HLOW:=zY hls4.m.low;clear ha4 hls4 he4 hat4 CM b0 b4;have k0:wc.cell? ⟨w.heap.size+2,0,none⟩=some (.int .i64 (kindV m)):=HLS4.out.m.tree.cell 0
    go_upto_if 53 with (fail)
    go_cut [] from 40 to 75 (fun wx=>∃ (ns':List Bs) (A1':Option Addr) (c1' a5:Nat) (e5:Int),(a5:Int)≤1500000∧Ls w w.heap.size r s (D+1) (treeV m A1' ns'.length c1' A2 ks.length c2) A1' c1' ns' A2 c2 ks wx a5 e5 ∧
     e5=errE (nameK m ns (commaP ks.isEmpty r1))∧ns'.length≤ks.length+1∧∀ x r3,nameK m ns (commaP ks.isEmpty r1)=.ok (x,r3)→x=ns'∧At s a3 a5 r3)
    case first =>
     cases m with
     | false =>
      go_wp2_with fail
      go_meet
      refine ⟨ns,A1,c1,a4,e4,HA4.out,HLS4.out,?_,by have:=HNK.out; omega,fun x r3 h=>?_⟩
      ·rw [HE4.out]
       cases commaP ks.isEmpty r1 <;> rfl
      ·cases hc:commaP ks.isEmpty r1 with
       | error e=>rw [hc] at h; cases h
       | ok r2 =>
        rw [hc] at h
        injection h with h
        injection h with h1 h2
        subst h1 h2;exact ⟨rfl,HAT4.out _ hc⟩
     | true =>
      have CN:=zY (fun (u:World) (h:Ls w w.heap.size r s (D+1) (treeV true A1 ns.length c1 A2 ks.length c2) A1 c1 ns A2 c2 ks u a4 e4) =>
       show Calls Tryz.prog 125 #[.pointer (some ⟨r,0,none⟩),.slice A1 ns.length c1] u fun x w'=>∃ (t:Bs) (a5:Nat) (e5:Int),x=.returned (.string (bs t))∧NmQ s a4 e4 ns t a5 e5 ∧
        Ls w w.heap.size r s (D+1) (treeV true A1 ns.length c1 A2 ks.length c2) A1 c1 ns A2 c2 ks w' a5 e5∧RG r u w' from by
        refine (name_all ns A1 c1 (w.heap.size+3) s HS.out r a4 (D+1) e4 u h.m.rd HA4.out (fun h0=>?_) (by have:=HLOW.out; omega) h.names.x (by have:=HNK.out; have:=HKS.out; omega)).mono ?_
        ·cases hc:commaP ks.isEmpty r1 with
         | error e=>exact absurd (by rw [← h0,HE4.out,hc]; rfl) (qcY hc)
         | ok r2=>have:=(HAT4.out r2 hc).top; have:=HA3.out; omega
        ·rintro x w' ⟨t,rfl,a5,ha5,hrd,hrg,hok⟩;exact ⟨t,a5,_,rfl,⟨ha5,rfl,hok⟩,h.step hrg hrd,hrg⟩)
      have hnl:(ns.length:Int)≤1000000:=by have:=HNK.out; have:=HKS.out; omega
      clear k0;go_wp2_with fail;have HI0:wc.drew.cell? ⟨w.heap.size,0,none⟩=some (.pointer (some ⟨r,0,none⟩))∧wc.drew.cell? ⟨w.heap.size+2,3,none⟩=some (.slice A1 ns.length c1):=⟨HLS4.out.m.box.cell 0,HLS4.out.m.tree.cell 3⟩;have HJ0:Ls w w.heap.size r s (D+1) (treeV true A1 ns.length c1 A2 ks.length c2) A1 c1 ns A2 c2 ks wc.drew a4 e4:=HLS4.out.drew
      refine qas (fun _=>True) (fun | false=>(fun u=>u.cell? ⟨w.heap.size,0,none⟩=some (.pointer (some ⟨r,0,none⟩))∧u.cell? ⟨w.heap.size+2,3,none⟩=some (.slice A1 ns.length c1)) | true=>(fun u=>Ls w w.heap.size r s (D+1) (treeV true A1 ns.length c1 A2 ks.length c2) A1 c1 ns A2 c2 ks u a4 e4)) (fun | false,i=>i == 9 | true,i=>i == 5 || i == 6 || i == 7 || i == 9)
       [fun z _=>z 0=.pointer (some ⟨w.heap.size+2,3,none⟩),
        fun z _=>z 1=.slice A1 ns.length c1,
        fun z _=>z 2=.pointer (some ⟨r,0,none⟩),
        fun z _=>z 3=.pointer (some ⟨w.heap.size+2,3,none⟩),
        fun z _=>z 4=.slice A1 ns.length c1,
        fun z u=>∃ (t:Bs) (a5:Nat) (e5:Int),z 5=.string (bs t)∧NmQ s a4 e4 ns t a5 e5∧Ls w w.heap.size r s (D+1) (treeV true A1 ns.length c1 A2 ks.length c2) A1 c1 ns A2 c2 ks u a5 e5,
        fun z u=>∃ (t:Bs) (a5:Nat) (e5:Int) (ad:Nat),z 6=.slice (some ⟨ad,0,none⟩) 1 1∧Blk u ad 9 #[.string (bs t)]∧NmQ s a4 e4 ns t a5 e5∧Ls w w.heap.size r s (D+1) (treeV true A1 ns.length c1 A2 ks.length c2) A1 c1 ns A2 c2 ks u a5 e5,
        fun z u=>∃ (t:Bs) (a5:Nat) (e5:Int) (A':Option Addr) (c':Nat),z 7=.slice A' (ns.length+1) c'∧NmQ s a4 e4 ns t a5 e5∧Ls w w.heap.size r s (D+1) (treeV true A1 ns.length c1 A2 ks.length c2) A' c' (ns++[t]) A2 c2 ks u a5 e5,
        fun z _=>z 8=.pointer (some ⟨w.heap.size+2,3,none⟩),
        fun z u=>∃ (t:Bs) (a5:Nat) (e5:Int) (A':Option Addr) (c':Nat),NmQ s a4 e4 ns t a5 e5∧Ls w w.heap.size r s (D+1) (treeV true A' (ns++[t]).length c' A2 ks.length c2) A' c' (ns++[t]) A2 c2 ks u a5 e5]
       [Eq,Eq,Eq,Eq,Eq,fun u u'=>RG r u u',fun u u'=>Below u.heap.size u u',fun u u'=>∃ g:Option Nat,u.grownBy u' g∧∀ k,g=some k→w.heap.size+3≤k,Eq,fun _ _=>True]
       (fun i k=>(i == 6 && k == 5) || (i == 7 && k == 5) || (i == 7 && k == 6) || (i == 9 && k == 5) || (i == 9 && k == 6) || (i == 9 && k == 7)) [(0,some 54),(1,some 55),(2,some 56),(3,some 57),(4,some 58),(5,some 59),(6,some 60),(7,some 61),(8,some 62),(9,none)] (by kernel_rfl) (by kernel_rfl) rfl (fun _=>rfl) ?_ ?_ ?_ ?_ ?_ ?_
      ·exact (by first | trivial | assumption)
      ·intro m; cases m; exact HI0; exact HJ0
      ·intro m; cases m
       ·refine ⟨?_,?_,?_,?_,?_,.inr (fun _ _ h h0=>⟨World.grownBy.cell h h0.1 (by have:=HLOW.out; intro e; injection e with e; have e:w.heap.size=r:=e; omega),World.grownBy.cell h h0.2 (by have:=HLOW.out; intro e; injection e with e; have e:w.heap.size+2=r:=e; omega)⟩),.inr (fun _ _ h h0=>⟨(qaZ h none).cell h0.1 (by simp),(qaZ h none).cell h0.2 (by simp)⟩),.inr (fun _ _ h h0=>by obtain ⟨g,hg,hk⟩:=h; exact ⟨hg.cell h0.1 (by intro e; have:w.heap.size+3≤w.heap.size:=hk _ e.symm; omega),hg.cell h0.2 (by intro e; have:w.heap.size+3≤w.heap.size+2:=hk _ e.symm; omega)⟩),?_,.inl rfl,trivial⟩ <;> exact .inr fun _ _ h h0=>h▸h0
       ·refine ⟨?_,?_,?_,?_,?_,.inl rfl,.inl rfl,.inl rfl,?_,.inl rfl,trivial⟩ <;> exact .inr fun _ _ h h0=>h▸h0
      ·refine ⟨⟨.inl rfl,?_,?_,?_,?_,?_,?_,?_,?_,?_,trivial⟩,⟨?_,.inl rfl,?_,?_,?_,?_,?_,?_,?_,?_,trivial⟩,⟨?_,?_,.inl rfl,?_,?_,?_,?_,?_,?_,?_,trivial⟩,⟨?_,?_,?_,.inl rfl,?_,?_,?_,?_,?_,?_,trivial⟩,⟨?_,?_,?_,?_,.inl rfl,?_,?_,?_,?_,?_,trivial⟩,⟨?_,?_,?_,?_,?_,.inl rfl,?_,?_,?_,?_,trivial⟩,⟨?_,?_,?_,?_,?_,.inr (.inl rfl),.inl rfl,?_,?_,?_,trivial⟩,⟨?_,?_,?_,?_,?_,.inr (.inl rfl),.inr (.inl rfl),.inl rfl,?_,?_,trivial⟩,⟨?_,?_,?_,?_,?_,?_,?_,?_,.inl rfl,?_,trivial⟩,⟨?_,?_,?_,?_,?_,.inr (.inl rfl),.inr (.inl rfl),.inr (.inl rfl),?_,.inl rfl,trivial⟩,trivial⟩ <;> first | exact .inr (.inr (.inl rfl)) | exact .inr (.inr (.inr fun _ _ _ _ _ h=>h)) | exact .inr (.inr (.inr fun _ _ _ _ h h0=>by cases h; exact h0))
      ·refine ⟨?_,?_,?_,?_,?_,?_,?_,?_,?_,?_,trivial⟩
       ·refine qab [] (fun _=>rfl) rfl ?_;intro w1 vals hC1 hi0 hf E hE;have hI1:(fun u=>u.cell? ⟨w.heap.size,0,none⟩=some (.pointer (some ⟨r,0,none⟩))∧u.cell? ⟨w.heap.size+2,3,none⟩=some (.slice A1 ns.length c1)) w1:=hi0 false rfl
        try dsimp only at hI1
        clear hi0;clear hf;simp only [sP] at hE ⊢;go_wp2;exact .mk (hE _ _ rfl hC1 rfl)
       ·refine qab [(0,some 54)] (fun _=>rfl) rfl ?_;intro w1 vals hC1 hi0 hf E hE;have hI1:(fun u=>u.cell? ⟨w.heap.size,0,none⟩=some (.pointer (some ⟨r,0,none⟩))∧u.cell? ⟨w.heap.size+2,3,none⟩=some (.slice A1 ns.length c1)) w1:=hi0 false rfl
        try dsimp only at hI1
        clear hi0;have f0:vals 0=_:=hf 0 rfl
        try dsimp only at f0
        clear hf;obtain ⟨d1,d0⟩:=hI1;simp only [sP,f0] at hE ⊢;clear f0;go_wp2;exact .mk (hE _ _ rfl hC1 rfl)
       ·refine qab [] (fun _=>rfl) rfl ?_;intro w1 vals hC1 hi0 hf E hE;have hI1:(fun u=>u.cell? ⟨w.heap.size,0,none⟩=some (.pointer (some ⟨r,0,none⟩))∧u.cell? ⟨w.heap.size+2,3,none⟩=some (.slice A1 ns.length c1)) w1:=hi0 false rfl
        try dsimp only at hI1
        have hJ1:(fun u=>Ls w w.heap.size r s (D+1) (treeV true A1 ns.length c1 A2 ks.length c2) A1 c1 ns A2 c2 ks u a4 e4) w1:=hi0 true rfl
        try dsimp only at hJ1
        clear hi0;clear hf;obtain ⟨d1,d0⟩:=hI1;simp only [sP] at hE ⊢;go_wp2;exact .mk (hE _ _ rfl hC1 rfl)
       ·refine qab [] (fun _=>rfl) rfl ?_;intro w1 vals hC1 hi0 hf E hE;have hI1:(fun u=>u.cell? ⟨w.heap.size,0,none⟩=some (.pointer (some ⟨r,0,none⟩))∧u.cell? ⟨w.heap.size+2,3,none⟩=some (.slice A1 ns.length c1)) w1:=hi0 false rfl
        try dsimp only at hI1
        have hJ1:(fun u=>Ls w w.heap.size r s (D+1) (treeV true A1 ns.length c1 A2 ks.length c2) A1 c1 ns A2 c2 ks u a4 e4) w1:=hi0 true rfl
        try dsimp only at hJ1
        clear hi0;clear hf;simp only [sP] at hE ⊢;go_wp2;exact .mk (hE _ _ rfl hC1 rfl)
       ·refine qab [(3,some 57)] (fun _=>rfl) rfl ?_;intro w1 vals hC1 hi0 hf E hE;have hI1:(fun u=>u.cell? ⟨w.heap.size,0,none⟩=some (.pointer (some ⟨r,0,none⟩))∧u.cell? ⟨w.heap.size+2,3,none⟩=some (.slice A1 ns.length c1)) w1:=hi0 false rfl
        try dsimp only at hI1
        have hJ1:(fun u=>Ls w w.heap.size r s (D+1) (treeV true A1 ns.length c1 A2 ks.length c2) A1 c1 ns A2 c2 ks u a4 e4) w1:=hi0 true rfl
        try dsimp only at hJ1
        clear hi0;have f3:vals 3=_:=hf 3 rfl
        try dsimp only at f3
        clear hf;obtain ⟨d1,d0⟩:=hI1;simp only [sP,f3] at hE ⊢;clear f3;go_wp2;exact .mk (hE _ _ rfl hC1 rfl)
       ·refine qab [(2,some 56),(4,some 58)] (fun _=>rfl) rfl ?_;intro w1 vals hC1 hi0 hf E hE;have hI1:(fun u=>u.cell? ⟨w.heap.size,0,none⟩=some (.pointer (some ⟨r,0,none⟩))∧u.cell? ⟨w.heap.size+2,3,none⟩=some (.slice A1 ns.length c1)) w1:=hi0 false rfl
        try dsimp only at hI1
        have hJ1:(fun u=>Ls w w.heap.size r s (D+1) (treeV true A1 ns.length c1 A2 ks.length c2) A1 c1 ns A2 c2 ks u a4 e4) w1:=hi0 true rfl
        try dsimp only at hJ1
        clear hi0;have f2:vals 2=_:=hf 2 rfl;have f4:vals 4=_:=hf 4 rfl
        try dsimp only at f2 f4
        clear hf;have HJ1:=zY hJ1;clear hJ1;simp only [sP,f2,f4] at hE ⊢;clear f2 f4;go_wp2_with fail;refine qaa (CN.out _ HJ1.out) ?_;rintro y w5 ⟨t,a5,e5,rfl,hq,hl,hg⟩;have HQ:=zY hq;have HL:=zY hl;have HG:=zY hg;clear hq hl hg;go_wp2_with fail;exact .mk (hE _ _ ⟨t,a5,e5,rfl,HQ.out,HL.out⟩ hC1 HG.out)
       ·refine qab [(5,some 59)] (fun _=>rfl) rfl ?_;intro w1 vals hC1 hi0 hf E hE;have hI1:(fun u=>u.cell? ⟨w.heap.size,0,none⟩=some (.pointer (some ⟨r,0,none⟩))∧u.cell? ⟨w.heap.size+2,3,none⟩=some (.slice A1 ns.length c1)) w1:=hi0 false rfl
        try dsimp only at hI1
        clear hi0;have f5:(fun z u=>∃ (t:Bs) (a5:Nat) (e5:Int),z 5=.string (bs t)∧NmQ s a4 e4 ns t a5 e5∧Ls w w.heap.size r s (D+1) (treeV true A1 ns.length c1 A2 ks.length c2) A1 c1 ns A2 c2 ks u a5 e5) vals w1:=hf 5 rfl
        try dsimp only at f5
        clear hf;obtain ⟨t,a5,e5,hx,hq,hl⟩:=f5;have HQ:=zY hq;have HL:=zY hl;clear hq hl;simp only [sP,hx] at hE ⊢;clear hx;go_wp2;exact .mk (hE _ _ ⟨t,a5,e5,_,rfl,Blk.new _ _ _,HQ.out,HL.out.new ((Below.refl _ _).alloc (Nat.le_refl _) _)⟩ hC1 ((Below.refl _ _).alloc (Nat.le_refl _) _))
       ·refine qab [(1,some 55),(6,some 60),(5,some 59)] (fun _=>rfl) rfl ?_;intro w1 vals hC1 hi0 hf E hE;have hI1:(fun u=>u.cell? ⟨w.heap.size,0,none⟩=some (.pointer (some ⟨r,0,none⟩))∧u.cell? ⟨w.heap.size+2,3,none⟩=some (.slice A1 ns.length c1)) w1:=hi0 false rfl
        try dsimp only at hI1
        clear hi0;have f1:vals 1=_:=hf 1 rfl;have f6:(fun z u=>∃ (t:Bs) (a5:Nat) (e5:Int) (ad:Nat),z 6=.slice (some ⟨ad,0,none⟩) 1 1∧Blk u ad 9 #[.string (bs t)]∧NmQ s a4 e4 ns t a5 e5∧Ls w w.heap.size r s (D+1) (treeV true A1 ns.length c1 A2 ks.length c2) A1 c1 ns A2 c2 ks u a5 e5) vals w1:=hf 6 rfl
        try dsimp only at f1 f6
        clear hf;obtain ⟨t,a5,e5,ad,hx,hk,hq,hl⟩:=f6;have HQ:=zY hq;have HL:=zY hl;have HK:=zY hk;clear hq hl hk;simp only [sP,f1,hx] at hE ⊢;clear f1;clear hx;go_wp2_with (refine qaM (news:=[.string (bs t)]) (m:=1) sl_strz rfl rfl HL.out.names rfl rfl rfl (Rd.of_blk (l:=[.string (bs t)]) HK.out (HK.out.lt)) (by simp [Value.oneCell']) (by unfold maxLen; omega) (by omega) (HL.out.m.size) ?_; intro A' c' w5 ho hg hn);exact .mk (hE _ _ ⟨t,a5,e5,A',c',rfl,HQ.out,HL.out.name ho hg hn⟩ hC1 ⟨_,hg,fun k hk=>(HL.out.names.lt k hk).1⟩)
       ·refine qab [(0,some 54),(1,some 55),(2,some 56),(3,some 57),(4,some 58),(5,some 59),(6,some 60),(7,some 61)] (fun _=>rfl) rfl ?_;intro w1 vals hC1 hi0 hf E hE;have hI1:(fun u=>u.cell? ⟨w.heap.size,0,none⟩=some (.pointer (some ⟨r,0,none⟩))∧u.cell? ⟨w.heap.size+2,3,none⟩=some (.slice A1 ns.length c1)) w1:=hi0 false rfl
        try dsimp only at hI1
        clear hi0;have f0:vals 0=_:=hf 0 rfl;have f1:vals 1=_:=hf 1 rfl;have f2:vals 2=_:=hf 2 rfl;have f3:vals 3=_:=hf 3 rfl;have f4:vals 4=_:=hf 4 rfl;have f7:(fun z u=>∃ (t:Bs) (a5:Nat) (e5:Int) (A':Option Addr) (c':Nat),z 7=.slice A' (ns.length+1) c'∧NmQ s a4 e4 ns t a5 e5∧Ls w w.heap.size r s (D+1) (treeV true A1 ns.length c1 A2 ks.length c2) A' c' (ns++[t]) A2 c2 ks u a5 e5) vals w1:=hf 7 rfl
        try dsimp only at f0 f1 f2 f3 f4 f7
        clear hf;simp only [sP,f0,f1,f2,f3,f4] at hE ⊢;clear f0 f1 f2 f3 f4;go_wp2;exact .mk (hE _ _ rfl hC1 rfl)
       ·refine qab [(8,some 62),(7,some 61),(7,some 61),(0,some 54),(1,some 55),(2,some 56),(3,some 57),(4,some 58),(5,some 59),(6,some 60),(7,some 61)] (fun _=>rfl) rfl ?_;intro w1 vals hC1 hi0 hf E hE;have hI1:(fun u=>u.cell? ⟨w.heap.size,0,none⟩=some (.pointer (some ⟨r,0,none⟩))∧u.cell? ⟨w.heap.size+2,3,none⟩=some (.slice A1 ns.length c1)) w1:=hi0 false rfl
        try dsimp only at hI1
        clear hi0;have f0:vals 0=_:=hf 0 rfl;have f1:vals 1=_:=hf 1 rfl;have f2:vals 2=_:=hf 2 rfl;have f3:vals 3=_:=hf 3 rfl;have f4:vals 4=_:=hf 4 rfl;have f7:(fun z u=>∃ (t:Bs) (a5:Nat) (e5:Int) (A':Option Addr) (c':Nat),z 7=.slice A' (ns.length+1) c'∧NmQ s a4 e4 ns t a5 e5∧Ls w w.heap.size r s (D+1) (treeV true A1 ns.length c1 A2 ks.length c2) A' c' (ns++[t]) A2 c2 ks u a5 e5) vals w1:=hf 7 rfl;have f8:vals 8=_:=hf 8 rfl
        try dsimp only at f0 f1 f2 f3 f4 f7 f8
        clear hf;obtain ⟨t,a5,e5,A',c',hx,hq,hl⟩:=f7;have HQ:=zY hq;have HL:=zY hl;clear hq hl;simp only [sP,f0,f1,f2,f3,f4,f8,hx] at hE ⊢;clear f0 f1 f2 f3 f4 f8;clear hx;go_wp2_with (refine qaf (x:=.tmp 62) (i:=3) HL.out.m.tree rfl rfl rfl rfl (by kernel_rfl) (by simp [jvCells]) rfl ?_; intro w5 hb5 hw5);exact .mk (hE undef _ ⟨t,a5,e5,A',c',HQ.out,HL.out.put hw5 (by rw [List.length_append]; exact hb5)⟩ hC1 trivial)
      intro w1 vals hC1 hf;have f0:vals 0=_:=hf 0 (by decide) rfl;have f1:vals 1=_:=hf 1 (by decide) rfl;have f2:vals 2=_:=hf 2 (by decide) rfl;have f3:vals 3=_:=hf 3 (by decide) rfl;have f4:vals 4=_:=hf 4 (by decide) rfl;have f8:vals 8=_:=hf 8 (by decide) rfl;have f9:(fun z u=>∃ (t:Bs) (a5:Nat) (e5:Int) (A':Option Addr) (c':Nat),NmQ s a4 e4 ns t a5 e5∧Ls w w.heap.size r s (D+1) (treeV true A' (ns++[t]).length c' A2 ks.length c2) A' c' (ns++[t]) A2 c2 ks u a5 e5) vals w1:=hf 9 (by decide) rfl
      try dsimp only at f0 f1 f2 f3 f4 f8 f9
      clear hf;simp only [sP,f0,f1,f2,f3,f4,f8];clear f0 f1 f2 f3 f4 f8;generalize vals 5=x5 at *;generalize vals 6=x6 at *;generalize vals 7=x7 at *;obtain ⟨t,a5,e5,A',c',hq,hl⟩:=f9;have HQ:=zY hq;have HL9:=zY hl;clear hq hl HI0 HJ0 hC1;go_wp2_with fail
      go_meet
      obtain ⟨h1,h2⟩:=nmq_done HQ.out HE4.out HAT4.out;exact ⟨ns++[t],A',c',a5,e5,HQ.out.1,HL9.out,h1,by have:=HNK.out; rw [List.length_append]; simp; omega,h2⟩
    case rest =>
    obtain ⟨ns',A1',c1',a5,e5,ha5,hls5,he5,hnl5,hat5⟩:=hcut;have HA5:=zY ha5;have HLS5:=zY hls5;have HE5:=zY he5;have HAT5:=zY hat5;have HNL5:=zY hnl5;clear ha5 hls5 he5 hat5 hnl5 k0 HLS4 HLS;obtain ⟨E4,hE4⟩:=eX (kidK (valueP d) (nameK m ns (commaP ks.isEmpty r1)));have HE4':=zY hE4;rw [← hE4] at HE;clear hE4
    have CV:=zY (fun (u:World) (h:Ls w w.heap.size r s (D+1) (treeV m A1' ns'.length c1' A2 ks.length c2) A1' c1' ns' A2 c2 ks u a5 e5) =>
     show Calls Tryz.prog 40 #[.pointer (some ⟨r,0,none⟩)] u fun x w'=>∃ (v:JV) (a6:Nat) (e6:Int),x=.returned (.agg (jvCells v))∧VlQ s a3 E4 ns' a6 e6 ∧
      Ls w w.heap.size r s (D+1) (treeV m A1' ns'.length c1' A2 ks.length c2) A1' c1' ns' A2 c2 ks w' a6 e6∧(∀ x k r4,E4=.ok (x,k,r4)→JRep w' (KS w.heap.size (.slice A1' ns'.length c1') (.slice A2 ks.length c2)) k v)∧RG r u w' from by
      have hz:e5=0→a5≤s.size:=fun h0=>by
       cases hc:nameK m ns (commaP ks.isEmpty r1) with
       | error e=>exact absurd (by rw [← h0,HE5.out,hc]; rfl) (qdI hc)
       | ok x=>have:=(HAT5.out x.1 x.2 hc).2.top; have:=HA3.out; omega
      refine (value_all d HV.out s HS.out r a5 (D+1) e5 (by have:=HDD.out; omega) (by omega) u h.m.rd HA5.out hz).mono ?_;rintro x w' ⟨v,rfl,a6,ha6,hrd,hrg,hok⟩;obtain ⟨h1,h2⟩:=vlq_of (ns':=ns') (P:=fun j=>JRep w' (fun b=>u.heap.size≤b) j v) (fun e he=>qdI he) HE5.out HAT5.out ha6 hok;rw [HE4'.out];exact ⟨v,a6,_,rfl,h1,h.step hrg hrd,fun x k r4 hx=>h.fresh (h2 x k r4 hx),hrg⟩)
    have hnk:(ks.length:Int)≤1000000:=HKS.out;go_wp2_with fail;have HI0:wc.drew.cell? ⟨w.heap.size,0,none⟩=some (.pointer (some ⟨r,0,none⟩))∧wc.drew.cell? ⟨w.heap.size+2,4,none⟩=some (.slice A2 ks.length c2):=⟨HLS5.out.m.box.cell 0,HLS5.out.m.tree.cell 4⟩;have HJ0:Ls w w.heap.size r s (D+1) (treeV m A1' ns'.length c1' A2 ks.length c2) A1' c1' ns' A2 c2 ks wc.drew a5 e5:=HLS5.out.drew
    refine qas (fun _=>True) (fun | false=>(fun u=>u.cell? ⟨w.heap.size,0,none⟩=some (.pointer (some ⟨r,0,none⟩))∧u.cell? ⟨w.heap.size+2,4,none⟩=some (.slice A2 ks.length c2)) | true=>(fun u=>Ls w w.heap.size r s (D+1) (treeV m A1' ns'.length c1' A2 ks.length c2) A1' c1' ns' A2 c2 ks u a5 e5)) (fun | false,i=>i == 7 | true,i=>i == 3 || i == 4 || i == 5 || i == 7)
     [fun z _=>z 0=.pointer (some ⟨w.heap.size+2,4,none⟩),
      fun z _=>z 1=.slice A2 ks.length c2,
      fun z _=>z 2=.pointer (some ⟨r,0,none⟩),
      fun z u=>∃ (v:JV) (a6:Nat) (e6:Int),z 3=.agg (jvCells v)∧VlQ s a3 E4 ns' a6 e6∧Ls w w.heap.size r s (D+1) (treeV m A1' ns'.length c1' A2 ks.length c2) A1' c1' ns' A2 c2 ks u a6 e6∧(∀ x k r4,E4=.ok (x,k,r4)→JRep u (KS w.heap.size (.slice A1' ns'.length c1') (.slice A2 ks.length c2)) k v),
      fun z u=>∃ (v:JV) (a6:Nat) (e6:Int) (ad:Nat),z 4=.slice (some ⟨ad,0,none⟩) 1 1∧Blk u ad 44 (jvCells v)∧VlQ s a3 E4 ns' a6 e6∧Ls w w.heap.size r s (D+1) (treeV m A1' ns'.length c1' A2 ks.length c2) A1' c1' ns' A2 c2 ks u a6 e6∧(∀ x k r4,E4=.ok (x,k,r4)→JRep u (KS w.heap.size (.slice A1' ns'.length c1') (.slice A2 ks.length c2)) k v),
      fun z u=>∃ (a6:Nat) (e6:Int) (A':Option Addr) (c':Nat),z 5=.slice A' (ks.length+1) c'∧VlQ s a3 E4 ns' a6 e6∧LsM w w.heap.size r s (D+1) (treeV m A1' ns'.length c1' A2 ks.length c2) u a6 e6∧(∀ x k r4,E4=.ok (x,k,r4)→Ls w w.heap.size r s (D+1) (treeV m A1' ns'.length c1' A2 ks.length c2) A1' c1' ns' A' c' (ks++[k]) u a6 e6),
      fun z _=>z 6=.pointer (some ⟨w.heap.size+2,4,none⟩),
      fun z u=>∃ (a6:Nat) (e6:Int) (A':Option Addr) (c':Nat),VlQ s a3 E4 ns' a6 e6∧LsM w w.heap.size r s (D+1) (treeV m A1' ns'.length c1' A' (ks.length+1) c') u a6 e6∧(∀ x k r4,E4=.ok (x,k,r4)→Ls w w.heap.size r s (D+1) (treeV m A1' ns'.length c1' A' (ks++[k]).length c') A1' c1' ns' A' c' (ks++[k]) u a6 e6)]
     [Eq,Eq,Eq,fun u u'=>RG r u u',fun u u'=>Below u.heap.size u u',fun u u'=>∃ g:Option Nat,u.grownBy u' g∧∀ k,g=some k→w.heap.size+3≤k,Eq,fun _ _=>True]
     (fun i k=>(i == 4 && k == 3) || (i == 5 && k == 3) || (i == 5 && k == 4) || (i == 7 && k == 3) || (i == 7 && k == 4) || (i == 7 && k == 5)) [(0,some 63),(1,some 64),(2,some 65),(3,some 66),(4,some 67),(5,some 68),(6,some 69),(7,none)] (by kernel_rfl) (by kernel_rfl) rfl (fun _=>rfl) ?_ ?_ ?_ ?_ ?_ ?_
    ·exact (by first | trivial | assumption)
    ·intro m; cases m; exact HI0; exact HJ0
    ·intro m; cases m
     ·refine ⟨?_,?_,?_,.inr (fun _ _ h h0=>⟨World.grownBy.cell h h0.1 (by have:=HLOW.out; intro e; injection e with e; have e:w.heap.size=r:=e; omega),World.grownBy.cell h h0.2 (by have:=HLOW.out; intro e; injection e with e; have e:w.heap.size+2=r:=e; omega)⟩),.inr (fun _ _ h h0=>⟨(qaZ h none).cell h0.1 (by simp),(qaZ h none).cell h0.2 (by simp)⟩),.inr (fun _ _ h h0=>by obtain ⟨g,hg,hk⟩:=h; exact ⟨hg.cell h0.1 (by intro e; have:w.heap.size+3≤w.heap.size:=hk _ e.symm; omega),hg.cell h0.2 (by intro e; have:w.heap.size+3≤w.heap.size+2:=hk _ e.symm; omega)⟩),?_,.inl rfl,trivial⟩ <;> exact .inr fun _ _ h h0=>h▸h0
     ·refine ⟨?_,?_,?_,.inl rfl,.inl rfl,.inl rfl,?_,.inl rfl,trivial⟩ <;> exact .inr fun _ _ h h0=>h▸h0
    ·refine ⟨⟨.inl rfl,?_,?_,?_,?_,?_,?_,?_,trivial⟩,⟨?_,.inl rfl,?_,?_,?_,?_,?_,?_,trivial⟩,⟨?_,?_,.inl rfl,?_,?_,?_,?_,?_,trivial⟩,⟨?_,?_,?_,.inl rfl,?_,?_,?_,?_,trivial⟩,⟨?_,?_,?_,.inr (.inl rfl),.inl rfl,?_,?_,?_,trivial⟩,⟨?_,?_,?_,.inr (.inl rfl),.inr (.inl rfl),.inl rfl,?_,?_,trivial⟩,⟨?_,?_,?_,?_,?_,?_,.inl rfl,?_,trivial⟩,⟨?_,?_,?_,.inr (.inl rfl),.inr (.inl rfl),.inr (.inl rfl),?_,.inl rfl,trivial⟩,trivial⟩ <;> first | exact .inr (.inr (.inl rfl)) | exact .inr (.inr (.inr fun _ _ _ _ _ h=>h)) | exact .inr (.inr (.inr fun _ _ _ _ h h0=>by cases h; exact h0))
    ·refine ⟨?_,?_,?_,?_,?_,?_,?_,?_,trivial⟩
     ·refine qab [] (fun _=>rfl) rfl ?_;intro w1 vals hC1 hi0 hf E hE;have hI1:(fun u=>u.cell? ⟨w.heap.size,0,none⟩=some (.pointer (some ⟨r,0,none⟩))∧u.cell? ⟨w.heap.size+2,4,none⟩=some (.slice A2 ks.length c2)) w1:=hi0 false rfl
      try dsimp only at hI1
      clear hi0;clear hf;simp only [sP] at hE ⊢;go_wp2;exact .mk (hE _ _ rfl hC1 rfl)
     ·refine qab [(0,some 63)] (fun _=>rfl) rfl ?_;intro w1 vals hC1 hi0 hf E hE;have hI1:(fun u=>u.cell? ⟨w.heap.size,0,none⟩=some (.pointer (some ⟨r,0,none⟩))∧u.cell? ⟨w.heap.size+2,4,none⟩=some (.slice A2 ks.length c2)) w1:=hi0 false rfl
      try dsimp only at hI1
      clear hi0;have f0:vals 0=_:=hf 0 rfl
      try dsimp only at f0
      clear hf;obtain ⟨d1,d0⟩:=hI1;simp only [sP,f0] at hE ⊢;clear f0;go_wp2;exact .mk (hE _ _ rfl hC1 rfl)
     ·refine qab [] (fun _=>rfl) rfl ?_;intro w1 vals hC1 hi0 hf E hE;have hI1:(fun u=>u.cell? ⟨w.heap.size,0,none⟩=some (.pointer (some ⟨r,0,none⟩))∧u.cell? ⟨w.heap.size+2,4,none⟩=some (.slice A2 ks.length c2)) w1:=hi0 false rfl
      try dsimp only at hI1
      have hJ1:(fun u=>Ls w w.heap.size r s (D+1) (treeV m A1' ns'.length c1' A2 ks.length c2) A1' c1' ns' A2 c2 ks u a5 e5) w1:=hi0 true rfl
      try dsimp only at hJ1
      clear hi0;clear hf;obtain ⟨d1,d0⟩:=hI1;simp only [sP] at hE ⊢;go_wp2;exact .mk (hE _ _ rfl hC1 rfl)
     ·refine qab [(2,some 65)] (fun _=>rfl) rfl ?_;intro w1 vals hC1 hi0 hf E hE;have hI1:(fun u=>u.cell? ⟨w.heap.size,0,none⟩=some (.pointer (some ⟨r,0,none⟩))∧u.cell? ⟨w.heap.size+2,4,none⟩=some (.slice A2 ks.length c2)) w1:=hi0 false rfl
      try dsimp only at hI1
      have hJ1:(fun u=>Ls w w.heap.size r s (D+1) (treeV m A1' ns'.length c1' A2 ks.length c2) A1' c1' ns' A2 c2 ks u a5 e5) w1:=hi0 true rfl
      try dsimp only at hJ1
      clear hi0;have f2:vals 2=_:=hf 2 rfl
      try dsimp only at f2
      clear hf;have HJ1:=zY hJ1;clear hJ1;simp only [sP,f2] at hE ⊢;clear f2;go_wp2_with fail;refine qaa (CV.out _ HJ1.out) ?_;rintro y w5 ⟨v,a6,e6,rfl,hq,hl,hj,hg⟩;have HQ:=zY hq;have HL:=zY hl;have HJ:=zY hj;have HG:=zY hg;clear hq hl hg hj;go_wp2_with fail;exact .mk (hE _ _ ⟨v,a6,e6,rfl,HQ.out,HL.out,HJ.out⟩ hC1 HG.out)
     ·refine qab [(3,some 66)] (fun _=>rfl) rfl ?_;intro w1 vals hC1 hi0 hf E hE;have hI1:(fun u=>u.cell? ⟨w.heap.size,0,none⟩=some (.pointer (some ⟨r,0,none⟩))∧u.cell? ⟨w.heap.size+2,4,none⟩=some (.slice A2 ks.length c2)) w1:=hi0 false rfl
      try dsimp only at hI1
      clear hi0;have f3:(fun z u=>∃ (v:JV) (a6:Nat) (e6:Int),z 3=.agg (jvCells v)∧VlQ s a3 E4 ns' a6 e6∧Ls w w.heap.size r s (D+1) (treeV m A1' ns'.length c1' A2 ks.length c2) A1' c1' ns' A2 c2 ks u a6 e6∧(∀ x k r4,E4=.ok (x,k,r4)→JRep u (KS w.heap.size (.slice A1' ns'.length c1') (.slice A2 ks.length c2)) k v)) vals w1:=hf 3 rfl
      try dsimp only at f3
      clear hf;obtain ⟨v,a6,e6,hx,hq,hl,hj⟩:=f3;have HQ:=zY hq;have HL:=zY hl;have HJ:=zY hj;clear hq hl hj;simp only [sP,hx] at hE ⊢;clear hx;unfold jvCells;go_wp2;exact .mk (hE _ _ ⟨v,a6,e6,_,rfl,Blk.new _ _ _,HQ.out,HL.out.new ((Below.refl _ _).alloc (Nat.le_refl _) _),fun x k r4 h=>(HJ.out x k r4 h).heap fun b hb _=>Below.heap_alloc _ _ _ hb⟩ hC1 ((Below.refl _ _).alloc (Nat.le_refl _) _))
     ·refine qab [(1,some 64),(4,some 67),(3,some 66)] (fun _=>rfl) rfl ?_;intro w1 vals hC1 hi0 hf E hE;have hI1:(fun u=>u.cell? ⟨w.heap.size,0,none⟩=some (.pointer (some ⟨r,0,none⟩))∧u.cell? ⟨w.heap.size+2,4,none⟩=some (.slice A2 ks.length c2)) w1:=hi0 false rfl
      try dsimp only at hI1
      clear hi0;have f1:vals 1=_:=hf 1 rfl;have f4:(fun z u=>∃ (v:JV) (a6:Nat) (e6:Int) (ad:Nat),z 4=.slice (some ⟨ad,0,none⟩) 1 1∧Blk u ad 44 (jvCells v)∧VlQ s a3 E4 ns' a6 e6∧Ls w w.heap.size r s (D+1) (treeV m A1' ns'.length c1' A2 ks.length c2) A1' c1' ns' A2 c2 ks u a6 e6∧(∀ x k r4,E4=.ok (x,k,r4)→JRep u (KS w.heap.size (.slice A1' ns'.length c1') (.slice A2 ks.length c2)) k v)) vals w1:=hf 4 rfl
      try dsimp only at f1 f4
      clear hf;obtain ⟨v,a6,e6,ad,hx,hk,hq,hl,hj⟩:=f4;have HQ:=zY hq;have HL:=zY hl;have HK:=zY hk;have HJ:=zY hj;obtain ⟨kv,hv1,hv2,hv3⟩:=HL.out.kids;have HO:=zY hv2;have HV1:=zY hv1;have HV3:=zY hv3;clear hq hl hk hj hv1 hv2 hv3;simp only [sP,f1,hx] at hE ⊢;clear f1;clear hx;go_wp2_with (refine qaM (news:=(jvCells v).toList) (m:=1) sl_jsons rfl rfl HO.out rfl rfl rfl (Rd.of_blk (l:=(jvCells v).toList) HK.out (HK.out.lt)) (by simp [jvCells,Value.oneCell']) (by unfold maxLen; omega) (by omega) (HL.out.m.size) ?_; intro A' c' w5 ho hg hn);exact .mk (hE _ _ ⟨a6,e6,A',c',rfl,HQ.out,HL.out.m.grown hg (fun k hk=>(HO.out.lt k hk).1),fun x k r4 h=>HL.out.kid (HJ.out x k r4 h) HV1.out HO.out HV3.out ho hg hn⟩ hC1 ⟨_,hg,fun k hk=>(HO.out.lt k hk).1⟩)
     ·refine qab [(0,some 63),(1,some 64),(2,some 65),(3,some 66),(4,some 67),(5,some 68)] (fun _=>rfl) rfl ?_;intro w1 vals hC1 hi0 hf E hE;have hI1:(fun u=>u.cell? ⟨w.heap.size,0,none⟩=some (.pointer (some ⟨r,0,none⟩))∧u.cell? ⟨w.heap.size+2,4,none⟩=some (.slice A2 ks.length c2)) w1:=hi0 false rfl
      try dsimp only at hI1
      clear hi0;have f0:vals 0=_:=hf 0 rfl;have f1:vals 1=_:=hf 1 rfl;have f2:vals 2=_:=hf 2 rfl;have f5:(fun z u=>∃ (a6:Nat) (e6:Int) (A':Option Addr) (c':Nat),z 5=.slice A' (ks.length+1) c'∧VlQ s a3 E4 ns' a6 e6∧LsM w w.heap.size r s (D+1) (treeV m A1' ns'.length c1' A2 ks.length c2) u a6 e6∧(∀ x k r4,E4=.ok (x,k,r4)→Ls w w.heap.size r s (D+1) (treeV m A1' ns'.length c1' A2 ks.length c2) A1' c1' ns' A' c' (ks++[k]) u a6 e6)) vals w1:=hf 5 rfl
      try dsimp only at f0 f1 f2 f5
      clear hf;simp only [sP,f0,f1,f2] at hE ⊢;clear f0 f1 f2;go_wp2;exact .mk (hE _ _ rfl hC1 rfl)
     ·refine qab [(6,some 69),(5,some 68),(5,some 68),(0,some 63),(1,some 64),(2,some 65),(3,some 66),(4,some 67),(5,some 68)] (fun _=>rfl) rfl ?_;intro w1 vals hC1 hi0 hf E hE;have hI1:(fun u=>u.cell? ⟨w.heap.size,0,none⟩=some (.pointer (some ⟨r,0,none⟩))∧u.cell? ⟨w.heap.size+2,4,none⟩=some (.slice A2 ks.length c2)) w1:=hi0 false rfl
      try dsimp only at hI1
      clear hi0;have f0:vals 0=_:=hf 0 rfl;have f1:vals 1=_:=hf 1 rfl;have f2:vals 2=_:=hf 2 rfl;have f5:(fun z u=>∃ (a6:Nat) (e6:Int) (A':Option Addr) (c':Nat),z 5=.slice A' (ks.length+1) c'∧VlQ s a3 E4 ns' a6 e6∧LsM w w.heap.size r s (D+1) (treeV m A1' ns'.length c1' A2 ks.length c2) u a6 e6∧(∀ x k r4,E4=.ok (x,k,r4)→Ls w w.heap.size r s (D+1) (treeV m A1' ns'.length c1' A2 ks.length c2) A1' c1' ns' A' c' (ks++[k]) u a6 e6)) vals w1:=hf 5 rfl;have f6:vals 6=_:=hf 6 rfl
      try dsimp only at f0 f1 f2 f5 f6
      clear hf;obtain ⟨a6,e6,A',c',hx,hq,hm,hl⟩:=f5;have HQ:=zY hq;have HL:=zY hl;have HM7:=zY hm;clear hq hl hm;simp only [sP,f0,f1,f2,f6,hx] at hE ⊢;clear f0 f1 f2 f6;clear hx;go_wp2_with (refine qaf (x:=.tmp 69) (i:=4) HM7.out.tree rfl rfl rfl rfl (by kernel_rfl) (by simp [jvCells]) rfl ?_; intro w5 hb5 hw5);exact .mk (hE undef _ ⟨a6,e6,A',c',HQ.out,HM7.out.put hw5 hb5,fun x k r4 h=>(HL.out x k r4 h).put hw5 (by rw [List.length_append]; exact hb5)⟩ hC1 trivial)
    intro w1 vals hC1 hf;have f0:vals 0=_:=hf 0 (by decide) rfl;have f1:vals 1=_:=hf 1 (by decide) rfl;have f2:vals 2=_:=hf 2 (by decide) rfl;have f6:vals 6=_:=hf 6 (by decide) rfl;have f7:(fun z u=>∃ (a6:Nat) (e6:Int) (A':Option Addr) (c':Nat),VlQ s a3 E4 ns' a6 e6∧LsM w w.heap.size r s (D+1) (treeV m A1' ns'.length c1' A' (ks.length+1) c') u a6 e6∧(∀ x k r4,E4=.ok (x,k,r4)→Ls w w.heap.size r s (D+1) (treeV m A1' ns'.length c1' A' (ks++[k]).length c') A1' c1' ns' A' c' (ks++[k]) u a6 e6)) vals w1:=hf 7 (by decide) rfl
    try dsimp only at f0 f1 f2 f6 f7
    clear hf;simp only [sP,f0,f1,f2,f6];clear f0 f1 f2 f6;generalize vals 3=x3 at *;generalize vals 4=x4 at *;generalize vals 5=x5 at *;obtain ⟨a6,e6,A',c',hq,hm,hl⟩:=f7;have HQ:=zY hq;have HM8:=zY hm;have HL8:=zY hl;clear hq hm hl HI0 HJ0 hC1 CV;have b1:w1.cell? ⟨w.heap.size,0,none⟩=some (.pointer (some ⟨r,0,none⟩)):=HM8.out.box.cell 0;obtain ⟨-,-,-,c3⟩:=HM8.out.rd.cells
    cases E4 with
    | error e =>
     have HE0:=zY (show e≠0 from kidK_err (fun h=>qbI d h) HE4'.out.symm);have he6:e6=e:=HQ.out.2.1;subst he6;have hne:(e6 != 0)=true:=by simpa using HE0.out
     go_wp2_with (first
      | refine qad (x:=.tmp 3) HM8.out.tree rfl rfl rfl hu rfl qag ?_
      | (refine qac (x:=.tmp 2) (cells:=jvCells (treeV m A1' ns'.length c1' A' (ks.length+1) c')) HM8.out.res rfl rfl rfl rfl qag rfl (qae _) ?_; intro w9 hb9 hw9))
     have HM9:=zY (HM8.out);refine qdK _ w.heap.size (treeV m A1' ns'.length c1' A' (ks.length+1) c') rfl s r a6 D e6 hD0 (by omega) HM9.out.low w9 (hw9.blk HM9.out.box (by omega)) hb9 (hw9.blk HM9.out.rd (by have:=HM9.out.low; omega)) fun u' hrd hw=>?_;have hE:lpOf (d+1) X=.error e6:=by rw [← HLR.out,HLL.out,← HE.out]; rfl
     exact ⟨_,rfl,a6,HQ.out.1,by rw [hE]; exact hrd,(HM9.out.rg.wrote_new hw9 (by omega)).trans (RG.wrote hw),fun j q hq=>by rw [hE] at hq; cases hq⟩
    | ok y =>
     obtain ⟨x,k,r4⟩:=y;have he6:e6=0:=HQ.out.2.1;subst he6;obtain ⟨hx1,hat6⟩:=HQ.out.2.2 x k r4 rfl;subst hx1;have HAT6:=zY hat6;have HLL8:=zY (HL8.out x k r4 rfl);have HLT:=zY (kidK_len HE4'.out.symm);have CS:=zY (sign_any (endC m) (by cases m <;> decide) s HS.out r a6 (D+1) 0 w1 HM8.out.rd (by have:=HQ.out.1; omega));clear hat6 HQ HM8 HL8;go_wp2_with fail;refine qaa CS.out ?_;rintro y w9 ⟨rfl,a7,hat,hrd,hrg⟩;have HLS9:=zY (HLL8.out.step hrg hrd);obtain ⟨hp1,hp2⟩:=sign_parts (endC m) (s.data.toList.drop a6);rw [hp2] at hat;rw [hp1];rw [HAT6.out.rest] at hat ⊢;have HAT9:=zY hat;obtain ⟨b',hb'⟩:∃ b',b'=(signP (endC m) r4).1:=⟨_,rfl⟩;rw [← hb'];have HB':=zY (show signP (endC m) r4=(b',(signP (endC m) r4).2) by rw [hb']);clear hp1 hp2 hrd hrg hat hb' c3 b1;go_wp2_with fail;have hgk:1≤gk:=by have:=HLT.out.1; have:=HLEN.out; omega
     go_roundg (gk - 1)
     case measure=>omega
     case rel =>
      have h1:=HLT.out.1;have h2:=HLEN.out;have h3:=qbY (endC m) r4
      have h4:a3<a6:=by
       have e1:=congrArg List.length HAT6.out.rest;have e2:=congrArg List.length HRE.out;rw [List.length_drop] at e1 e2;omega
      refine ⟨x,ks++[k],A1',A',c1',c',a7,b',r4,_,rfl,HB'.out,?_,?_,by omega,?_,?_,HLS9.out⟩
      ·exact HAT.out.trans (HAT6.out.trans HAT9.out)
      ·rw [Nat.sub_add_cancel hgk,← HE.out];rfl
      ·rw [List.length_append];have:=HNL5.out
       simpa using this
      ·rw [List.length_append];have:=HKA.out;have:=HAT9.out.le;simp;omega
def Krq (H:Nat) (X Y:Value) (b:Nat):Prop:=H+1≤b∧X.ownBlock≠some b∧Y.ownBlock≠some b
structure QM (w0:World) (G H r:Nat) (s:ByteArray) (T:JV) (u:World) (a1:Nat) (e1:Int):Prop where
 low:r<G
 wg:w0.heap.size=G
 gh:G<H
 res:Blk u G 44 (jvCells zJV)
 tree:Blk u H 44 (jvCells T)
 rd:RQ u r s a1 e1
 rg:RG r w0 u
structure QL (w0:World) (G H r:Nat) (s:ByteArray) (T:JV) (A1:Option Addr) (c1:Nat) (ns:List Bs) (A2:Option Addr) (c2:Nat) (ks:List JT) (u:World) (a1:Nat) (e1:Int):Prop where
 m:QM w0 G H r s T u a1 e1
 names:OwnR u (H+1) 9 1 A1 c1 ns.length (rowsV sCell ns)
 kids:∃ kv:List JV,kv.length=ks.length∧OwnR u (H+1) 44 5 A2 c2 ks.length (rowsV jvCells kv) ∧
  ∀ i (h:i<ks.length) (h':i<kv.length),JRep u (Krq H (.slice A1 ns.length c1) (.slice A2 ks.length c2)) ks[i] kv[i]
section
variable {w0:World} {G H r:Nat} {s:ByteArray} {T:JV} {A1:Option Addr} {c1:Nat} {ns:List Bs} {A2:Option Addr} {c2:Nat} {ks:List JT} {u u':World} {a1 a':Nat} {e1 e':Int}
theorem QM.step (h:QM w0 G H r s T u a1 e1) (hg:RG r u u') (hr:RQ u' r s a' e'):QM w0 G H r s T u' a' e' :=
 ⟨h.low,h.wg,h.gh,h.res.grown hg (by have:=h.low; intro h; injection h with h; omega),h.tree.grown hg (by have:=h.low; have:=h.gh; intro h; injection h with h; omega),hr,h.rg.trans hg⟩
theorem QM.new (h:QM w0 G H r s T u a1 e1) (hb:Below u.heap.size u u'):QM w0 G H r s T u' a1 e1:=h.step (.below hb) (h.rd.grow hb)
theorem QM.drew (h:QM w0 G H r s T u a1 e1):QM w0 G H r s T u.drew a1 e1:=⟨h.low,h.wg,h.gh,h.res,h.tree,h.rd,qbv h.rg⟩
theorem QM.size (h:QM w0 G H r s T u a1 e1):H+1≤u.heap.size:=h.tree.lt
theorem QM.grown {g:Option Nat} (h:QM w0 G H r s T u a1 e1) (hg:u.grownBy u' g) (hb:∀ k,g=some k→H+1≤k):QM w0 G H r s T u' a1 e1:=by
 have hne:∀ k,k<H+1→some k≠g:=fun k hk he=>by have:=hb k he.symm; omega
 have hl:=h.low;have hh:=h.gh;exact ⟨h.low,h.wg,h.gh,h.res.grown hg (hne _ (by omega)),h.tree.grown hg (hne _ (by omega)),Blk.grown h.rd hg (hne _ (by omega)),h.rg.andThen hg (fun j hj=>.inl (by have:=hb j hj; rw [h.wg]; omega))⟩
theorem QM.put {T':JV} (h:QM w0 G H r s T u a1 e1) (hw:Wrote H u u') (ht:Blk u' H 44 (jvCells T')):QM w0 G H r s T' u' a1 e1 :=
 ⟨h.low,h.wg,h.gh,hw.blk h.res (by have:=h.gh; omega),ht,hw.blk h.rd (by have:=h.low; have:=h.gh; omega),h.rg.wrote_new hw (by rw [h.wg]; have:=h.gh; omega)⟩
theorem Krq.le {X Y:Value} {b:Nat} (h:Krq H X Y b):H+1≤b:=h.1
theorem QL.heap (h:QL w0 G H r s T A1 c1 ns A2 c2 ks u a1 e1) (hm:QM w0 G H r s T u' a' e') (hk:∀ b,b<u.heap.size→H+1≤b→u'.heap[b]?=u.heap[b]?):QL w0 G H r s T A1 c1 ns A2 c2 ks u' a' e':=by
 obtain ⟨kv,h1,h2,h3⟩:=h.kids;have hlt:∀ {k cs t},u.heap[k]?=some (.cells cs t (0,0))→k<u.heap.size:=fun hq=>(Array.getElem?_eq_some_iff.1 hq).1;exact ⟨hm,h.names.heap fun k cs hq hl=>(hk k (hlt hq) hl).trans hq,kv,h1,h2.heap fun k cs hq hl=>(hk k (hlt hq) hl).trans hq,fun i hi hi'=>(h3 i hi hi').heap fun b hb hs=>hk b hb hs.le⟩
theorem QL.step (h:QL w0 G H r s T A1 c1 ns A2 c2 ks u a1 e1) (hg:RG r u u') (hr:RQ u' r s a' e'):QL w0 G H r s T A1 c1 ns A2 c2 ks u' a' e' :=
 h.heap (h.m.step hg hr) fun b hb hl=>hg.block b hb (by have:=h.m.low; have:=h.m.gh; intro h; injection h with h; omega)
theorem QL.new (h:QL w0 G H r s T A1 c1 ns A2 c2 ks u a1 e1) (hb:Below u.heap.size u u'):QL w0 G H r s T A1 c1 ns A2 c2 ks u' a1 e1:=h.step (.below hb) (h.m.rd.grow hb)
theorem QL.drew (h:QL w0 G H r s T A1 c1 ns A2 c2 ks u a1 e1):QL w0 G H r s T A1 c1 ns A2 c2 ks u.drew a1 e1:=h.heap h.m.drew fun b _ _=>rfl
theorem QL.put {T':JV} (h:QL w0 G H r s T A1 c1 ns A2 c2 ks u a1 e1) (hw:Wrote H u u') (ht:Blk u' H 44 (jvCells T')):QL w0 G H r s T' A1 c1 ns A2 c2 ks u' a1 e1:=by
 obtain ⟨kv,h1,h2,h3⟩:=h.kids;have hk:∀ b,b<u.heap.size→H+1≤b→u'.heap[b]?=u.heap[b]?:=fun b hb hl=>hw.grown.block b hb (by intro h; injection h with h; omega);have hlt:∀ {k cs t},u.heap[k]?=some (.cells cs t (0,0))→k<u.heap.size:=fun hq=>(Array.getElem?_eq_some_iff.1 hq).1;exact ⟨h.m.put hw ht,h.names.heap fun k cs hq hl=>(hk k (hlt hq) hl).trans hq,kv,h1,h2.heap fun k cs hq hl=>(hk k (hlt hq) hl).trans hq,fun i hi hi'=>(h3 i hi hi').heap fun b hb hs=>hk b hb hs.le⟩
theorem QL.name {t:Bs} {A':Option Addr} {c':Nat} (h:QL w0 G H r s T A1 c1 ns A2 c2 ks u a1 e1) (ho:OwnR u' (H+1) 9 1 A' c' (ns.length+1) (rowsV sCell ns++[.string (bs t)])) (hg:u.grownBy u' (Value.slice A1 ns.length c1).ownBlock)
  (hn:Next u (.slice A1 ns.length c1) (.slice A' (ns.length+1) c')):QL w0 G H r s T A' c' (ns++[t]) A2 c2 ks u' a1 e1:=by
 obtain ⟨kv,h1,h2,h3⟩:=h.kids;refine ⟨h.m.grown hg (fun k hk=>(h.names.lt k hk).1),by rw [qaT,qbp,List.length_append]; exact ho,kv,h1,h2.heap fun k cs hq hl=>?_,fun i hi hi'=>?_⟩
 ·refine (hg.block k (Array.getElem?_eq_some_iff.1 hq).1 fun he=>?_).trans hq;obtain ⟨cs',hq'⟩:=qdd h.names he.symm;rw [hq] at hq'
  injection hq' with hq'
  injection hq' with _ ht
  exact absurd ht (by decide)
 ·have h5:JRep u (fun b=>Krq H (.slice A1 ns.length c1) (.slice A2 ks.length c2) b∧Krq H (.slice A' (ns++[t]).length c') (.slice A2 ks.length c2) b) ks[i] kv[i]:=(h3 i hi hi').imp fun b hb hs=>⟨hs,hs.1,fun he=>by
   rw [List.length_append] at he
   rcases hn with hn | hn
   ·exact hs.2.1 (hn.symm.trans he)
   ·have:=hn b he
    omega,hs.2.2⟩
  exact (h5.grown hg (fun b hb he=>hb.1.2.1 he.symm)).imp fun b _ hs=>hs.2
theorem QL.kid {k:JT} {v:JV} {A':Option Addr} {c':Nat} (h:QL w0 G H r s T A1 c1 ns A2 c2 ks u a1 e1) (hv:JRep u (Krq H (.slice A1 ns.length c1) (.slice A2 ks.length c2)) k v)
  {kv:List JV} (h1:kv.length=ks.length) (h2:OwnR u (H+1) 44 5 A2 c2 ks.length (rowsV jvCells kv)) (h3:∀ i (h:i<ks.length) (h':i<kv.length),JRep u (Krq H (.slice A1 ns.length c1) (.slice A2 ks.length c2)) ks[i] kv[i])
  (ho:OwnR u' (H+1) 44 5 A' c' (ks.length+1) (rowsV jvCells kv++(jvCells v).toList)) (hg:u.grownBy u' (Value.slice A2 ks.length c2).ownBlock)
  (hn:Next u (.slice A2 ks.length c2) (.slice A' (ks.length+1) c')):QL w0 G H r s T A1 c1 ns A' c' (ks++[k]) u' a1 e1:=by
 have hS:∀ b,b<u.heap.size→Krq H (.slice A1 ns.length c1) (.slice A2 ks.length c2) b→Krq H (.slice A1 ns.length c1) (.slice A2 ks.length c2) b∧Krq H (.slice A1 ns.length c1) (.slice A' (ks++[k]).length c') b:=fun b hb hs=>⟨hs,hs.1,hs.2.1,fun he=>by
   rw [List.length_append] at he
   rcases hn with hn | hn
   ·exact hs.2.2 (hn.symm.trans he)
   ·have:=hn b he
    omega⟩
 have hstep:∀ j x,JRep u (Krq H (.slice A1 ns.length c1) (.slice A2 ks.length c2)) j x→JRep u' (Krq H (.slice A1 ns.length c1) (.slice A' (ks++[k]).length c')) j x:=fun j x hj =>
  ((hj.imp hS).grown hg (fun b hb he=>hb.1.2.2 he.symm)).imp fun b _ hs=>hs.2
 refine ⟨h.m.grown hg (fun k hk=>(h2.lt k hk).1),h.names.heap fun k cs hq hl=>?_,kv++[v],by simp [h1],by rw [qaT,qbp,List.length_append]; exact ho,fun i hi hi'=>?_⟩
 ·refine (hg.block k (Array.getElem?_eq_some_iff.1 hq).1 fun he=>?_).trans hq;obtain ⟨cs',hq'⟩:=qdd h2 he.symm;rw [hq] at hq'
  injection hq' with hq'
  injection hq' with _ ht
  exact absurd ht (by decide)
 ·by_cases hl:i<ks.length
  ·rw [List.getElem_append_left hl,List.getElem_append_left (by omega)];exact hstep _ _ (h3 i hl (by omega))
  ·have e1:i=ks.length:=by simp at hi; omega
   subst e1;rw [List.getElem_append_right (Nat.le_refl _),List.getElem_append_right (by omega)];simp only [Nat.sub_self,h1,List.getElem_cons_zero];exact hstep _ _ hv
theorem QL.rep {kk:Int} (h:QL w0 G H r s T A1 c1 ns A2 c2 ks u a1 e1):JRep u (fun b=>H+1≤b) (.mk kk 0 [] ns ks) ⟨kk,0,[],A1,ns.length,c1,A2,ks.length,c2⟩:=by
 obtain ⟨kv,h1,h2,h3⟩:=h.kids
 exact .mk ⟨kk,0,[],A1,ns.length,c1,A2,ks.length,c2⟩ ns ks kv rfl h.names.cap (qdc h.names) rfl h2.cap h1 (qdc h2)
  (fun i hi hi'=>(h3 i hi hi').imp fun b _ hs=>hs.le)
theorem QM.start (h:QM w0 G H r s T u a1 e1):QL w0 G H r s T none 0 [] none 0 [] u a1 e1:=⟨h,OwnR.nil _ _ _ _,[],rfl,OwnR.nil _ _ _ _,fun i hi _=>by simp at hi⟩
theorem QL.fresh (h:QL w0 G H r s T A1 c1 ns A2 c2 ks u a1 e1) {j:JT} {v:JV} (hj:JRep u' (fun b=>u.heap.size≤b) j v):JRep u' (Krq H (.slice A1 ns.length c1) (.slice A2 ks.length c2)) j v:=by
 obtain ⟨kv,h1,h2,h3⟩:=h.kids;have hs:=h.m.size;exact hj.imp fun b _ hb=>⟨by omega,fun he=>by have:=(h.names.lt b he).2; omega,fun he=>by have:=(h2.lt b he).2; omega⟩
end
def TkP (c:UInt8) (f:FuncId) (D:Int) (P:Bs→Except Int (JT × Bs)):Prop:=∀ (s:ByteArray) (hs:(s.size:Int)≤1000000) (r a:Nat) (w:World) (h:RD w r s a D 0) (ha:a≤s.size) (hc:look (s.data.toList.drop a)=c),
 Calls Tryz.prog f #[.pointer (some ⟨r,0,none⟩)] w fun x w'=>∃ v:JV,x=.returned (.agg (jvCells v))∧∃ a':Nat,(a':Int)≤1500000 ∧
  RD w' r s a' D (errE (P (s.data.toList.drop a)))∧RG r w w'∧∀ j r1,P (s.data.toList.drop a)=.ok (j,r1)→At s a a' r1∧JRep w' (fun b=>w.heap.size≤b) j v
theorem tk_word {W:Bs} (hW:W.length=4∨W.length=5) {v:JV} {s:ByteArray} {a:Nat} {e:Ending} {D:Int} {r:Nat} {w w':World} {P:Except Int (JT × Bs)} {k n:Int} (hv:v=⟨k,n,[],none,0,0,none,0,0⟩) (hs:(s.size:Int)≤1000000) (ha:a≤s.size)
  (hP:P=wordR W (s.data.toList.drop a) (.mk k n [] [] []))
  (h:e=.returned (.agg (jvCells (wJ (W.isPrefixOf (s.data.toList.drop a)) v)))∧RD w' r s (wA (W.isPrefixOf (s.data.toList.drop a)) a W.length) D (wE (W.isPrefixOf (s.data.toList.drop a)))∧RG r w w') :
  ∃ v:JV,e=.returned (.agg (jvCells v))∧∃ a':Nat,(a':Int)≤1500000∧RD w' r s a' D (errE P)∧RG r w w'∧∀ j r1,P=.ok (j,r1)→At s a a' r1∧JRep w' (fun b=>w.heap.size≤b) j v:=by
 obtain ⟨h1,h2,h3⟩:=h;refine ⟨_,h1,wA (W.isPrefixOf (s.data.toList.drop a)) a W.length,?_,?_,h3,?_⟩
 ·unfold wA
  split <;> omega
 ·rw [hP];unfold wordR wordP
  cases hp:W.isPrefixOf (s.data.toList.drop a) <;> rw [hp] at h2 <;> exact h2
 ·intro j r1 hj;rw [hP] at hj;unfold wordR wordP at hj
  cases hp:W.isPrefixOf (s.data.toList.drop a) with
  | false=>rw [hp] at hj; cases hj
  | true =>
   rw [hp] at hj
   injection hj with hj
   injection hj with e1 e2
   subst e1 e2;have hl:=List.IsPrefix.length_le (List.isPrefixOf_iff_prefix.1 hp);rw [List.length_drop] at hl;have h5:s.data.toList.length=s.size:=rfl;refine ⟨⟨by unfold wA; rw [if_pos rfl]; omega,.inr (by unfold wA; rw [if_pos rfl]; omega),?_⟩,?_⟩
   ·unfold wA;rw [if_pos rfl,List.drop_drop]
   ·rw [show wJ true v=v from rfl,hv];exact JRep.flat _ _ _ _ _
def pickF (c:UInt8):FuncId :=
 if c=110 then 98 else if c=116 then 100 else if c=102 then 101 else if c=34 then 102
 else if c=91∨c=123 then 104 else 73
theorem pick_any (c:UInt8) (D:Int) (lp:Bs→Except Int (JT × Bs)) (LH:LRd D lp):TkP c (pickF c) D (rawP lp):=by
 intro s hs r a w h ha hc;unfold pickF
 by_cases h1:c=110
 ·rw [if_pos h1];exact (take1_any s hs r a D w h ha).mono fun e w' hq=>tk_word (W:=[110,117,108,108]) (.inl rfl) (v:=nulJ) (k:=0) (n:=0) rfl hs ha (by rw [rawP,if_pos (hc.trans h1)]; rfl) hq
 rw [if_neg h1]
 by_cases h2:c=116
 ·rw [if_pos h2];exact (take2_any s hs r a D w h ha).mono fun e w' hq=>tk_word (W:=[116,114,117,101]) (.inl rfl) (v:=truJ) (k:=1) (n:=1) rfl hs ha (by rw [rawP,if_neg (by rw [hc]; exact h1),if_pos (hc.trans h2)]; rfl) hq
 rw [if_neg h2]
 by_cases h3:c=102
 ·rw [if_pos h3];exact (take3_any s hs r a D w h ha).mono fun e w' hq=>tk_word (W:=[102,97,108,115,101]) (.inr rfl) (v:=falJ) (k:=1) (n:=0) rfl hs ha (by rw [rawP,if_neg (by rw [hc]; exact h1),if_neg (by rw [hc]; exact h2),if_pos (hc.trans h3)]; rfl) hq
 rw [if_neg h3]
 by_cases h4:c=34
 ·rw [if_pos h4];refine (take4_any s hs r a D w h ha).mono ?_;rintro e w' ⟨rfl,a',ha',hat,hrd,hrg⟩
  have hP:rawP lp (s.data.toList.drop a)=optR (textP (s.data.toList.drop a)) jtext:=by
   rw [rawP,if_neg (by rw [hc]; exact h1),if_neg (by rw [hc]; exact h2),if_neg (by rw [hc]; exact h3),if_pos (hc.trans h4)]
  rw [hP];refine ⟨_,rfl,a',by omega,?_,hrg,?_⟩
  ·cases ht:textP (s.data.toList.drop a) with
   | none=>rw [ht] at hrd; exact hrd
   | some p=>rw [ht] at hrd; exact hrd
  ·intro j r1 hj
   cases ht:textP (s.data.toList.drop a) with
   | none=>rw [ht] at hj; cases hj
   | some p =>
    obtain ⟨t,r0⟩:=p;rw [ht] at hj
    injection hj with hj
    injection hj with e1 e2
    subst e1 e2;exact ⟨hat _ _ ht,JRep.flat _ _ _ _ _⟩
 rw [if_neg h4]
 by_cases h5:c=91∨c=123
 ·rw [if_pos h5]
  have hP:rawP lp (s.data.toList.drop a)=lp (s.data.toList.drop a):=by
   rw [rawP,if_neg (by rw [hc]; exact h1),if_neg (by rw [hc]; exact h2),if_neg (by rw [hc]; exact h3),if_neg (by rw [hc]; exact h4),if_pos (by rw [hc]; exact h5)]
  rw [hP];exact LH s hs r a w h (qba (by rw [hc]; rcases h5 with rfl | rfl <;> decide))
 rw [if_neg h5];refine (number_any s hs r a D w h ha).mono ?_;rintro e w' ⟨rfl,a',hat,hrd,hrg⟩
 have hP:rawP lp (s.data.toList.drop a)=optR (numP (s.data.toList.drop a)) jint:=by
  rw [rawP,if_neg (by rw [hc]; exact h1),if_neg (by rw [hc]; exact h2),if_neg (by rw [hc]; exact h3),if_neg (by rw [hc]; exact h4),if_neg (by rw [hc]; exact h5)]
 rw [hP];refine ⟨_,rfl,a',by have:=hat.top; omega,?_,hrg,?_⟩
 ·cases ht:numP (s.data.toList.drop a) with
  | none=>rw [ht] at hrd; exact hrd
  | some p=>rw [ht] at hrd; exact hrd
 ·intro j r1 hj
  cases ht:numP (s.data.toList.drop a) with
  | none=>rw [ht] at hj; cases hj
  | some p =>
   obtain ⟨t,r0⟩:=p;rw [ht] at hj
   injection hj with hj
   injection hj with e1 e2
   subst e1 e2;rw [(numP_ok ht).2.2];exact ⟨hat,JRep.flat _ _ _ _ _⟩
theorem takers_found (c:UInt8):(∃ i,Instr.findNow (.int .u8) (.int .u8 ((c.toNat:Nat):Int)) takersE.toList 0=some (some (i,.func (.func (pickF c)) #[] #[]))) ∨
  (Instr.findNow (.int .u8) (.int .u8 ((c.toNat:Nat):Int)) takersE.toList 0=some none∧pickF c=73):=by
 by_cases h1:c=110
 ·subst h1; exact .inl ⟨0,rfl⟩
 by_cases h2:c=116
 ·subst h2; exact .inl ⟨1,rfl⟩
 by_cases h3:c=102
 ·subst h3; exact .inl ⟨2,rfl⟩
 by_cases h4:c=34
 ·subst h4; exact .inl ⟨3,rfl⟩
 by_cases h5:c=91
 ·subst h5; exact .inl ⟨4,rfl⟩
 by_cases h6:c=123
 ·subst h6; exact .inl ⟨5,rfl⟩
 refine .inr ⟨?_,by simp [pickF,h1,h2,h3,h4,h5,h6]⟩
 have e:∀ d:UInt8,c≠d→(((c.toNat:Nat):Int) == ((d.toNat:Nat):Int))=false:=fun d hd=>by
  rw [beq_eq_false_iff_ne];intro h;exact hd (UInt8.toNat.inj (by omega))
 have e1:=e 110 h1;have e2:=e 116 h2;have e3:=e 102 h3;have e4:=e 34 h4;have e5:=e 91 h5;have e6:=e 123 h6;simp only [takersE,mF,Instr.findNow,Instr.sameNow,if_true];rw [show ((110:UInt8).toNat:Int)=110 from rfl] at e1;rw [show ((116:UInt8).toNat:Int)=116 from rfl] at e2;rw [show ((102:UInt8).toNat:Int)=102 from rfl] at e3;rw [show ((34:UInt8).toNat:Int)=34 from rfl] at e4;rw [show ((91:UInt8).toNat:Int)=91 from rfl] at e5;rw [show ((123:UInt8).toNat:Int)=123 from rfl] at e6;simp only [e1,e2,e3,e4,e5,e6]
theorem pick_enters (c:UInt8):∀ args w,(callFunc (pickF c) args).run Tryz.prog w=.ok (.enter (pickF c) args) w:=by
 have g1:=enters_of Tryz.func98 (by kernel_rfl) rfl;have g2:=enters_of Tryz.func100 (by kernel_rfl) rfl;have g3:=enters_of Tryz.func101 (by kernel_rfl) rfl;have g4:=enters_of Tryz.func102 (by kernel_rfl) rfl;have g5:=enters_of Tryz.func104 (by kernel_rfl) rfl;have g6:=enters_of Tryz.func73 (by kernel_rfl) rfl;intro args w;unfold pickF
 split
 ·exact g1 args w
 split
 ·exact g2 args w
 split
 ·exact g3 args w
 split
 ·exact g4 args w
 split
 ·exact g5 args w
 ·exact g6 args w
theorem value_step (d:Nat) (LH:∀ D:Int,D+(d:Int)=6→0≤D→LRd D (lpOf d)):VRd d:=by
 intro s hs r a D hD h0 w h ha;have hu:=Tryz.underlying44;have ht:=Tryz.underlying114;have hk:=Tryz.underlying5;obtain ⟨W0,hW0⟩:=eX (w.alloc (.cells (jvCells zJV) 44));have hb0:Below w.heap.size w W0:=by rw [hW0]; exact (Below.refl _ w).alloc (Nat.le_refl _) _
 obtain ⟨G,hG⟩:=eX (w.heap.size);have HKZ:=zY (show Blk W0 G 44 (jvCells zJV) by rw [hW0,hG]; exact Blk.new _ _ _);have HRD:=zY (h.grow hb0);have HRG:=zY (show RG r w W0 from .below hb0);have HRL:=zY (show r<G by rw [hG]; exact Blk.lt h);have HW0:=zY hW0;have HLH:=zY (LH D hD h0);have HA:=zY ha;have HS:=zY hs;obtain ⟨-,-,-,c3⟩:=(h.grow hb0).cells;have CB:=zY (qbO s hs r a D 0 W0 HRD.out (by omega));clear hW0 hb0 h LH ha hs hD h0;rw [hG] at *;clear hG;go_enter Tryz.func40,Tryz.ntmps40
 go_upto_region 1 with (fail)
 rw [show (w.alloc (.cells #[.int .i64 0,.int .i64 0,.string ⟨#[]⟩,.slice none 0 0,.slice none 0 0] 44))=W0 from HW0.out.symm];clear HW0;go_wp2_with fail;refine qaa CB.out ?_;rintro y w1 ⟨rfl,a1,h1,h2,h3,hrd,hrg⟩;have HAT:=zY (show At s a a1 (skip (s.data.toList.drop a)) from ⟨h1,h2,h3⟩);have HA1:=zY (show a1≤s.size by have:=HA.out; omega);have HRD1:=zY hrd;have HRG1:=zY (HRG.out.trans hrg);have HZ1:=zY (show Blk w1 w.heap.size 44 (jvCells zJV) from HKZ.out.grown hrg (by have:=HRL.out; intro h; injection h with h; omega));clear h1 h2 h3 hrd hrg c3 CB;have CT:=zY (takers_any w1);go_wp2_with fail;refine qaa CT.out ?_;rintro y w2 ⟨rfl,hm,hb⟩;have HRD2:=zY (HRD1.out.grow hb);have HRG2:=zY (HRG1.out.trans (RG.below hb));have HZ2:=zY (HZ1.out.below hb HZ1.out.lt);have HMB:=zY hm;have HML:=zY (show r<w1.heap.size from Blk.lt HRD1.out);clear hm hb CT;have CL:=zY (qbQ s r a1 D 0 w2 HRD2.out);go_wp2_with fail;refine qaa CL.out ?_;rintro y w3 ⟨rfl,hrd,hrg⟩;have HRD3:=zY hrd;have HRG3:=zY (HRG2.out.trans hrg);have HZ3:=zY (HZ2.out.grown hrg (by have:=HRL.out; intro h; injection h with h; omega));have HMB3:=zY (show MapB w3 w1.heap.size takersE from (hrg.block _ HMB.out.lt (by have:=HML.out; intro h; injection h with h; omega)).trans HMB.out);clear hrd hrg CL;obtain ⟨c,hc⟩:=eX (look (s.data.toList.drop a1));have HC:=zY hc.symm;rw [show lookE s a1 0=c by rw [lookE,if_pos rfl,hc]];have HPK:=zY (pick_any c D (lpOf d) HLH.out);have eg:=pick_enters c;have hz:(zeroValue 113).run Tryz.prog w3=.ok .nilFunc w3:=by kernel_rfl
 unfold byteV
 obtain ⟨r0,hf,hr0⟩:∃ r0,Instr.findNow (.int .u8) (.int .u8 ((c.toNat:Nat):Int)) takersE.toList 0=some r0∧((found8 .nilFunc r0).1=.func (.func (pickF c)) #[] #[]∨((found8 .nilFunc r0).1=.nilFunc∧pickF c=73)):=by
  rcases takers_found c with ⟨i,hf⟩ | ⟨hf,hp⟩
  ·exact ⟨_,hf,.inl rfl⟩
  ·exact ⟨_,hf,.inr ⟨rfl,hp⟩⟩
 have hlk:=qdv false ht hk HMB3.out hf hz;obtain ⟨fv,hfv⟩:=eX ((found8 .nilFunc r0).1);rw [← hfv] at hlk hr0;simp only [Bool.false_eq_true,if_false] at hlk
 obtain ⟨nb,hg1,hg2,hnb⟩:∃ nb,(eqGuard BinOp.eql 113 (Operand.tmp 17) (Operand.const Value.nilFunc) fv Value.nilFunc).run Tryz.prog w3=.ok () w3∧(binOp BinOp.eql 113 fv Value.nilFunc).run Tryz.prog w3=.ok (.bool nb) w3 ∧
   ((nb=false∧fv=.func (.func (pickF c)) #[] #[])∨(nb=true∧pickF c=73)):=by
  rcases hr0 with rfl | ⟨rfl,hp⟩
  ·exact ⟨false,by kernel_rfl,by kernel_rfl,.inl ⟨rfl,rfl⟩⟩
  ·exact ⟨true,by kernel_rfl,by kernel_rfl,.inr ⟨rfl,hp⟩⟩
 have HR0:=zY hnb;clear hf hr0 hfv hc hz hnb
 go_upto_if 18 with (fail)
 go_cut [3] (fun f wx=>f=.func (.func (pickF c)) #[] #[]∧wx=w3)
 case first =>
  rcases HR0.out with ⟨rfl,rfl⟩ | ⟨rfl,hp⟩
  ·go_wp2_with fail
   go_meet
   exact ⟨rfl,rfl⟩
  ·have HP:=zY hp;clear hp;go_wp2_with fail
   go_meet
   exact ⟨by rw [HP.out],rfl⟩
 case rest =>
 obtain ⟨rfl,rfl⟩:=hcut;have CP:=zY (HPK.out s HS.out r a1 wc HRD3.out HA1.out HC.out);clear hlk HR0;obtain ⟨f,hf⟩:=eX (pickF c);rw [← hf] at CP eg ⊢;clear hf HPK;go_wp2_with fail;refine qaa CP.out ?_;rintro y w4 ⟨v,rfl,a2,ha2,hrd,hrg,hok⟩;have HRD4:=zY hrd;have HRG4:=zY (HRG3.out.trans hrg);have HZ4:=zY (HZ3.out.grown hrg (by have:=HRL.out; intro h; injection h with h; omega));have HOK:=zY hok;have HA2:=zY ha2;have HLV:=zY (show w.heap.size+1≤wc.heap.size from HZ3.out.lt);clear hrd hrg hok ha2 CP eg hg1 hg2;have HB5:=zY (show Blk (w4.alloc (.cells #[.int .i64 0,.int .i64 0,.string ⟨#[]⟩,.slice none 0 0,.slice none 0 0] 44)) w4.heap.size 44 (jvCells zJV) from Blk.new _ _ _);have HX:=zY (show r<w4.heap.size from Blk.lt HRD4.out);have CB:=zY (fun u h=>qbO s HS.out r a2 D (errE (rawP (lpOf d) (s.data.toList.drop a1))) u h (by have:=HA2.out; omega));go_wp2_with (refine qac (x:=.tmp 4) (cells:=jvCells v) HB5.out rfl rfl rfl rfl qag rfl (qae _) ?_; intro w6 hb6 hw6);have hb5:=(Below.refl w4.heap.size w4).alloc (Nat.le_refl _) (.cells #[.int .i64 0,.int .i64 0,.string ⟨#[]⟩,.slice none 0 0,.slice none 0 0] 44);have hbl:Below w4.heap.size w4 w6:=hw6.below hb5 (Nat.le_refl _) (by simp);have HRD6:=zY (HRD4.out.grow hbl);have HRG6:=zY (HRG4.out.trans (RG.below hbl));have HZ6:=zY (HZ4.out.below hbl HZ4.out.lt);have HB6:=zY hb6;have HBL:=zY hbl;clear hb5 hbl hb6 hw6;refine qaa (CB.out _ HRD6.out) ?_;rintro y w7 ⟨rfl,a3,h1,h2,h3,hrd,hrg⟩;have HRD7:=zY hrd;have HRG7:=zY (HRG6.out.trans hrg);have HG7:=zY hrg;have HZ7:=zY (HZ6.out.grown hrg (by have:=HRL.out; intro h; injection h with h; omega));have HB7:=zY (HB6.out.grown hrg (by have:=HX.out; intro h; injection h with h; omega));have HAT7:=zY (show At s a2 a3 (skip (s.data.toList.drop a2)) from ⟨h1,h2,h3⟩);clear h1 h2 h3 hrd hrg
 go_wp2_with (first
  | refine qad (x:=.tmp 4) HB7.out rfl rfl rfl hu rfl qag ?_
  | (refine qac (x:=.tmp 2) (cells:=jvCells v) HZ7.out rfl rfl rfl rfl qag rfl (qae _) ?_; intro w9 hb9 hw9))
 have HB9:=zY hb9;have hlow:=HRL.out;refine bodyPost_ret (qah (P:=Tryz.prog) rfl rfl HB9.out hu rfl qag) rfl ?_;have hE:valueP d (s.data.toList.drop a)=skipR (rawP (lpOf d) (s.data.toList.drop a1)):=by rw [qbW,HAT.out.rest]
 refine ⟨v,rfl,a3,HAT7.out.big HS.out HA2.out,?_,HRG7.out.wrote_new hw9 (Nat.le_refl _),fun j q hq=>?_⟩
 ·rw [hE]
  have e1:errE (skipR (rawP (lpOf d) (s.data.toList.drop a1)))=errE (rawP (lpOf d) (s.data.toList.drop a1)):=by
   cases rawP (lpOf d) (s.data.toList.drop a1) <;> rfl
  rw [e1];exact hw9.blk HRD7.out (by omega)
 ·rw [hE] at hq;obtain ⟨q0,hq1,rfl⟩:=qbD hq;obtain ⟨hat2,hj⟩:=HOK.out j q0 hq1;refine ⟨?_,?_⟩
  ·have:=HAT7.out;rw [hat2.rest] at this;exact HAT.out.trans (hat2.trans this)
  ·have h0:=HLV.out;have hj6:JRep w6 (fun b=>w.heap.size+1≤b) j v:=(hj.heap fun b hb _=>HBL.out.block b hb).imp fun b _ hb=>Nat.le_trans h0 hb;exact ((hj6.heap fun b hb hs=>HG7.out.block b hb (by intro h; injection h with h; omega)).heap fun b hb hs=>hw9.grown.block b hb (by intro h; injection h with h; omega)).imp fun b _ hb=>by omega
theorem value_any:∀ d,VRd d
 | 0=>value_step 0 fun D h h0=>list_step 0 D h h0 fun d' hd=>by cases hd
 | d+1=>value_step (d+1) fun D h h0=>list_step (d+1) D h h0 fun d' hd=>by
  have e:d'=d:=by omega
  subst e;exact value_any d'
theorem readP_long {s:Bs} (h:2000<s.length):readP s=.error 4:=by rw [readP,if_pos h]
def endP:Except Int (JT × Bs)→Except Int JT
 | .error e=>.error e
 | .ok (v,[])=>.ok v
 | .ok (_,_ :: _)=>.error 13
theorem readP_end {s:Bs} (h:¬ 2000<s.length):readP s=endP (valueP 6 s):=by
 rw [readP,if_neg h]
 cases valueP 6 s with
 | error e=>rfl
 | ok p =>
  obtain ⟨v,r⟩:=p
  cases r <;> rfl
theorem jread_any (s:ByteArray) (w:World) :
  Calls Tryz.prog 20 #[.string s] w fun x w'=>∃ v:JV,x=.returned (.tuple #[.agg (jvCells v),.int .i64 (errE (readP s.data.toList))])∧Below w.heap.size w w' ∧
   (∀ j,readP s.data.toList=.ok j→JRep w' (fun b=>w.heap.size≤b) j v)∧(∀ e,readP s.data.toList=.error e→v=zJV):=by
 have hu:=Tryz.underlying44;obtain ⟨W0,hW0⟩:=eX (w.alloc (.cells (jvCells zJV) 44));have hb0:Below w.heap.size w W0:=by rw [hW0]; exact (Below.refl _ w).alloc (Nat.le_refl _) _
 obtain ⟨G,hG⟩:=eX (w.heap.size);have HKZ:=zY (show Blk W0 G 44 (jvCells zJV) by rw [hW0,hG]; exact Blk.new _ _ _);have HB0:=zY hb0;have HW0:=zY hW0;have h5:s.data.toList.length=s.size:=rfl
 by_cases hlong:2000<s.size
 ·have hl:(2000:Int)<(s.size:Int):=by omega
  have HE:=zY (readP_long (s:=s.data.toList) (by omega));clear hW0 hb0 hlong h5;rw [hG] at *;clear hG;go_enter Tryz.func20,Tryz.ntmps20
  go_upto_region 1 with (fail)
  rw [show (w.alloc (.cells #[.int .i64 0,.int .i64 0,.string ⟨#[]⟩,.slice none 0 0,.slice none 0 0] 44))=W0 from HW0.out.symm];clear HW0;go_wp2_with (refine qac (x:=.tmp 2) (cells:=jvCells zJV) HKZ.out rfl rfl rfl rfl qag rfl (qae _) ?_; intro w9 hb9 hw9);have HB9:=zY hb9;refine bodyPost_ret (qai (P:=Tryz.prog) rfl rfl HB9.out hu rfl qag) rfl ?_;exact ⟨zJV,by rw [HE.out]; rfl,HB0.out.trans ((hw9.below (Below.refl _ _) (Nat.le_refl _) (Nat.le_of_lt HKZ.out.lt))),fun j h=>by (rw [HE.out] at h; cases h),fun e h=>rfl⟩
 ·have hl:¬ (2000:Int)<(s.size:Int):=by omega
  have HE:=zY (readP_end (s:=s.data.toList) (by omega));have HL:=zY (show s.size≤2000 by omega);have HC:=zY (fun (r:Nat) (u:World) (h:RD u r s 0 0 0)=>value_any 6 s (by omega) r 0 0 (by omega) (by omega) u h (Nat.zero_le _));clear hW0 hb0 hlong h5;rw [hG] at *;clear hG;go_enter Tryz.func20,Tryz.ntmps20
  go_upto_region 1 with (fail)
  rw [show (w.alloc (.cells #[.int .i64 0,.int .i64 0,.string ⟨#[]⟩,.slice none 0 0,.slice none 0 0] 44))=W0 from HW0.out.symm];clear HW0
  go_upto_region 4 with (fail)
  obtain ⟨R,hR⟩:=eX (W0.heap.size);obtain ⟨W1,hW1⟩:=eX (W0.alloc (.cells #[.string s,.int .i64 0,.int .i64 0,.int .i64 0] 76));rw [← hW1,← hR];have hb1:Below W0.heap.size W0 W1:=by rw [hW1]; exact (Below.refl _ W0).alloc (Nat.le_refl _) _
  have HRD1:=zY (show RD W1 R s 0 0 0 by rw [hW1,hR]; exact Blk.new _ _ _);have HZ1:=zY (HKZ.out.below hb1 HKZ.out.lt);have HRL:=zY (show w.heap.size<R by rw [hR]; exact HKZ.out.lt);have HF1:=zY (show Below w.heap.size w W1 from HB0.out.trans (hb1.mono HB0.out.size));have CV:=zY (HC.out R W1 HRD1.out);rw [show s.data.toList.drop 0=s.data.toList from rfl] at CV;obtain ⟨E,hE⟩:=eX (valueP 6 s.data.toList);rw [← hE] at CV HE;have HEE:=zY hE.symm;clear hR hW1 hb1 hE;go_wp2_with fail;refine qaa CV.out ?_;rintro y w2 ⟨v,rfl,a,ha,hrd,hrg,hok⟩;have HRD2:=zY hrd;have HG2:=zY hrg;have HZ2:=zY (show Blk w2 w.heap.size 44 (jvCells zJV) from HZ1.out.grown hrg (by have:=HRL.out; intro h; injection h with h; omega));have HF2:=zY (show Below w.heap.size w w2 from HF1.out.grown hrg HF1.out.size (by intro k hk; injection hk with hk; have:=HRL.out; omega));have HOK:=zY hok;have HA:=zY ha;have HSZ:=zY (show R<w2.heap.size from Blk.lt HRD2.out);have HS1:=zY (show R<W1.heap.size from Blk.lt HRD1.out);have HB5:=zY (show Blk (w2.alloc (.cells #[.int .i64 0,.int .i64 0,.string ⟨#[]⟩,.slice none 0 0,.slice none 0 0] 44)) w2.heap.size 44 (jvCells zJV) from Blk.new _ _ _);clear hrd hrg hok ha CV HC
  go_upto_region 5 with (refine qac (x:=.tmp 5) (cells:=jvCells v) HB5.out rfl rfl rfl rfl qag rfl (qae _) ?_; intro w6 hb6 hw6)
  have hb5:=(Below.refl w2.heap.size w2).alloc (Nat.le_refl _) (.cells #[.int .i64 0,.int .i64 0,.string ⟨#[]⟩,.slice none 0 0,.slice none 0 0] 44);have hbl:Below w2.heap.size w2 w6:=hw6.below hb5 (Nat.le_refl _) (by simp);have HRD6:=zY (HRD2.out.grow hbl);have HZ6:=zY (HZ2.out.below hbl HZ2.out.lt);have HB6:=zY hb6;have HBL:=zY hbl;have HF6:=zY (HF2.out.trans (hbl.mono HF2.out.size));obtain ⟨-,c1,-,-⟩:=HRD6.out.cells;clear hb5 hbl hb6 hw6 HB5
  go_upto_if 21 with (fail)
  go_cut [] (fun wx=>RD wx R s a 0 (errE (endP E))∧RG R w6 wx)
  case first =>
   cases hq:E with
   | error e =>
    have HN:=zY (show e≠0 from qbI 6 (HEE.out.trans hq));have HR7:=zY (show RD w6 R s a 0 e by have:=HRD6.out; rw [hq] at this; exact this);have HQ:=zY hq;clear hq
    by_cases hlt:a<s.size
    ·have hlt':(a:Int)<(s.size:Int):=by omega
     clear hlt;go_wp2_with fail;refine qaa (qbn 13 s R a 0 e w6 HR7.out) ?_;rintro y w7 ⟨rfl,hrd,hrg⟩;rw [if_neg HN.out] at hrd;have HR8:=zY hrd;have HG8:=zY hrg;clear hrd hrg;go_wp2_with fail
     go_meet
     exact ⟨by rw [HQ.out]; exact HR8.out,HG8.out⟩
    ·have hlt':¬ (a:Int)<(s.size:Int):=by omega
     clear hlt;go_wp2_with fail
     go_meet
     exact ⟨by rw [HQ.out]; exact HR7.out,RG.refl _ _⟩
   | ok p =>
    obtain ⟨j,rest⟩:=p;have HAT:=zY (HOK.out j rest hq).1;have HR7:=zY (show RD w6 R s a 0 0 by have:=HRD6.out; rw [hq] at this; exact this);have HQ:=zY hq;clear hq;have h5:s.data.toList.length=s.size:=rfl
    cases rest with
    | nil =>
     have hlt':¬ (a:Int)<(s.size:Int):=by
      have:=congrArg List.length HAT.out.rest;rw [List.length_drop] at this;simp only [List.length_nil] at this;omega
     clear h5;go_wp2_with fail
     go_meet
     exact ⟨by rw [HQ.out]; exact HR7.out,RG.refl _ _⟩
    | cons x l =>
     have hlt':(a:Int)<(s.size:Int):=by
      have:=congrArg List.length HAT.out.rest;rw [List.length_drop] at this;simp only [List.length_cons] at this;omega
     clear h5;go_wp2_with fail;refine qaa (qbn 13 s R a 0 0 w6 HR7.out) ?_;rintro y w7 ⟨rfl,hrd,hrg⟩;have HR8:=zY (show RD w7 R s a 0 13 from hrd);have HG8:=zY hrg;clear hrd hrg;go_wp2_with fail
     go_meet
     exact ⟨by rw [HQ.out]; exact HR8.out,HG8.out⟩
  case rest =>
  obtain ⟨hrd,hrg⟩:=hcut;have HRD7:=zY hrd;have HG7:=zY hrg;have HZ7:=zY (HZ6.out.grown hrg (by have:=HRL.out; intro h; injection h with h; omega));have HB7:=zY (HB6.out.grown hrg (by have:=HSZ.out; intro h; injection h with h; omega));have HF7:=zY (show Below w.heap.size w wc from HF6.out.grown hrg HF6.out.size (by intro k hk; injection hk with hk; have:=HRL.out; omega));clear hrd hrg c1
  cases hq:endP E with
  | error e =>
   have HQ:=zY hq
   have HN:=zY (show e≠0 by
    unfold endP at hq
    split at hq
    ·rename_i hv
     injection hq with hq
     subst hq;exact qbI 6 HEE.out
    ·cases hq
    ·injection hq with hq
     omega)
   have HR8:=zY (show RD wc R s a 0 e by have:=HRD7.out; rw [hq] at this; exact this);obtain ⟨-,-,-,c3⟩:=HR8.out.cells;have hne:(e != 0)=true:=by simpa using HN.out
   clear hq;go_wp2_with fail;have HC0:RD wc.drew R s a 0 e∧Blk wc.drew w.heap.size 44 (jvCells zJV)∧Below w.heap.size w wc.drew:=⟨HR8.out,HZ7.out,HF7.out.drew⟩;clear c3;refine qaj (fun u=>RD u R s a 0 e∧Blk u w.heap.size 44 (jvCells zJV)∧Below w.heap.size w u) (fun u=>RD u R s a 0 e∧Blk u w.heap.size 44 (jvCells zJV)∧Below w.heap.size w u) [(0,some 29),(1,some 30),(2,some 31),(3,some 32),(4,some 33),(5,none),(6,some 3)] (by kernel_rfl) (by kernel_rfl) (by decide) (by kernel_rfl) (fun _=>rfl) HC0 ?_;apply yN_
   ·apply dP [];exact fun _=>rfl;rfl;rintro vals - w1 hC1 E hE;simp only [sP] at hE ⊢;go_wp2;exact .mk (hE _ hC1)
   apply yN_
   ·apply dP [];exact fun _=>rfl;rfl;rintro vals ⟨-,-⟩ w1 hC1 E hE;simp only [sP] at hE ⊢;go_wp2;exact .mk (hE _ hC1)
   apply yN_
   ·apply dP [(1,some 30)];exact fun _=>rfl;rfl;intro vals vq w1 hC1 E hE;simp only [sP,vq] at hE ⊢;clear vq;go_wp2;exact .mk (hE _ hC1)
   apply yN_
   ·apply dP [(2,some 31)];exact fun _=>rfl;rfl;intro vals vq w1 hC1 E hE;simp only [sP,vq] at hE ⊢;clear vq;go_wp2;exact .mk (hE _ hC1)
   apply yN_
   ·apply dP [(3,some 32)];exact fun _=>rfl;rfl;intro vals vq w1 hC1 E hE;have d3:=hC1.1.cells.2.2.2;simp only [sP,vq] at hE ⊢;clear vq;go_wp2;exact .mk (hE _ hC1)
   apply yN_ (v:=undef)
   ·apply dP [(0,some 29),(0,some 29)];exact fun _=>rfl;rfl;intro vals vq w1 hC1 E hE;have HC1:=zY hC1;simp only [sP,vq] at hE ⊢;clear vq;go_wp2_with (refine qac (x:=.tmp 2) (cells:=jvCells zJV) HC1.out.2.1 rfl rfl rfl rfl qag rfl (qae _) ?_; intro w9 hb9 hw9);exact .mk (hE _ ⟨hw9.blk HC1.out.1 (by have:=HRL.out; omega),hb9,hw9.below HC1.out.2.2 (Nat.le_refl _) HC1.out.2.2.size⟩)
   apply yL_
   ·apply dP [(4,some 33),(5,none),(0,some 29),(1,some 30),(2,some 31),(3,some 32),(4,some 33),(5,none)];exact fun _=>rfl;rfl;intro vals vq w1 hC1 E hE;simp only [sP,vq] at hE ⊢;clear vq;go_wp2;exact .mk (hE _ hC1)
   intro vals vq w1 hC1;simp only [sP,vq];clear vq;obtain ⟨h1,h2,h3⟩:=hC1;have HB9:=zY h2;have HF9:=zY h3;clear h1 h2 h3 HC0;go_wp2_with fail;refine bodyPost_ret (qai (P:=Tryz.prog) rfl rfl HB9.out hu rfl qag) rfl ?_;exact ⟨zJV,by rw [HE.out,HQ.out]; rfl,HF9.out,fun j h=>by (rw [HE.out,HQ.out] at h; cases h),fun e h=>rfl⟩
  | ok j =>
   have HQ:=zY hq;have HR8:=zY (show RD wc R s a 0 0 by have:=HRD7.out; rw [hq] at this; exact this)
   have HJ:=zY (show E=.ok (j,[]) by
    cases hE:E with
    | error e=>rw [hE] at hq; cases hq
    | ok p =>
     obtain ⟨j1,r1⟩:=p;rw [hE] at hq
     cases r1 with
     | nil=>injection hq with hq; subst hq; rfl
     | cons x l=>cases hq)
   obtain ⟨-,-,-,c3⟩:=HR8.out.cells;clear hq
   go_wp2_with (first
    | refine qad (x:=.tmp 5) HB7.out rfl rfl rfl hu rfl qag ?_
    | (refine qac (x:=.tmp 2) (cells:=jvCells v) HZ7.out rfl rfl rfl rfl qag rfl (qae _) ?_; intro w9 hb9 hw9))
   have HB9:=zY hb9;refine bodyPost_ret (qai (P:=Tryz.prog) rfl rfl HB9.out hu rfl qag) rfl ?_;refine ⟨v,by rw [HE.out,HQ.out]; rfl,hw9.below HF7.out (Nat.le_refl _) HF7.out.size,fun j' hj'=>?_,fun e he=>by (rw [HE.out,HQ.out] at he; cases he)⟩;rw [HE.out,HQ.out] at hj'
   injection hj' with hj'
   subst hj';have hj:=(HOK.out j [] HJ.out).2;have h0:=HS1.out;have h1:=HRL.out;exact ((((hj.heap fun b hb _=>HBL.out.block b hb).heap fun b hb hs=>HG7.out.block b hb (by intro h; injection h with h; omega)).heap fun b hb hs=>hw9.grown.block b hb (by intro h; injection h with h; omega))).imp fun b _ hb=>by omega
def okO {α:Type}:Except Int α→Option α
 | .error _=>none
 | .ok a=>some a
theorem qch {c:UInt8} {l Y:Bs} (h:(c :: l).isPrefixOf Y=true):look Y=c:=by
 cases Y with
 | nil=>simp [List.isPrefixOf] at h
 | cons x r =>
  simp only [List.isPrefixOf,Bool.and_eq_true,beq_iff_eq] at h;exact h.1.symm
theorem nextB_z {t rest:Bs}:nextB t 0 rest=t.isPrefixOf rest:=by simp [nextB]
theorem nextB_e {t rest:Bs} {e:Int} (h:e≠0):nextB t e rest=false:=by simp [nextB,h]
section
variable {lp:Bs→Except Int (JT × Bs)} {Y:Bs}
theorem raw_null (h:[110,117,108,108].isPrefixOf Y=true):okO (rawP lp Y)=some (jzero,Y.drop 4):=by
 unfold rawP;rw [if_pos (qch h)];unfold wordR wordP;rw [if_pos h];rfl
theorem raw_true (h:[116,114,117,101].isPrefixOf Y=true):okO (rawP lp Y)=some (jtrue,Y.drop 4):=by
 unfold rawP;rw [if_neg (by rw [qch h]; decide),if_pos (qch h)];unfold wordR wordP;rw [if_pos h];rfl
theorem raw_false (h:[102,97,108,115,101].isPrefixOf Y=true):okO (rawP lp Y)=some (jfalse,Y.drop 5):=by
 unfold rawP;rw [if_neg (by rw [qch h]; decide),if_neg (by rw [qch h]; decide),if_pos (qch h)];unfold wordR wordP;rw [if_pos h];rfl
theorem raw_text (h:look Y=34):rawP lp Y=optR (textP Y) jtext:=by
 unfold rawP;rw [if_neg (by rw [h]; decide),if_neg (by rw [h]; decide),if_neg (by rw [h]; decide),if_pos h]
theorem raw_list (h:look Y=91∨look Y=123):rawP lp Y=lp Y:=by
 unfold rawP
 rcases h with h | h <;> rw [if_neg (by rw [h]; decide),if_neg (by rw [h]; decide),if_neg (by rw [h]; decide),if_neg (by rw [h]; decide)]
 ·rw [if_pos (.inl h)]
 ·rw [if_pos (.inr h)]
theorem qdG {c:UInt8} (h:look Y=c) (h1:c≠45) (h2:isDig c=false):numP Y=none:=by
 have hn:negP Y=false:=by
  unfold negP;rw [h]
  simpa using h1
 have hd:digP Y=([],Y):=by
  unfold digP;rw [hn]
  cases Y with
  | nil=>rfl
  | cons x r =>
   have hx:isDig x=false:=by rw [show x=c from h]; exact h2
   show takeD 17 (x :: r)=_;rw [takeD,if_neg (by rw [hx]; decide)]
 unfold numP;rw [hd];rfl
theorem raw_num (h0:¬ [110,117,108,108].isPrefixOf Y=true) (h1:¬ [116,114,117,101].isPrefixOf Y=true) (h2:¬ [102,97,108,115,101].isPrefixOf Y=true) (h3:look Y≠34) (h4:look Y≠91) (h5:look Y≠123) :
  okO (rawP lp Y)=okO (optR (numP Y) jint):=by
 unfold rawP
 by_cases c0:look Y=110
 ·rw [if_pos c0,qdG c0 (by decide) (by decide)];unfold wordR wordP;rw [if_neg h0];rfl
 by_cases c1:look Y=116
 ·rw [if_neg c0,if_pos c1,qdG c1 (by decide) (by decide)];unfold wordR wordP;rw [if_neg h1];rfl
 by_cases c2:look Y=102
 ·rw [if_neg c0,if_neg c1,if_pos c2,qdG c2 (by decide) (by decide)];unfold wordR wordP;rw [if_neg h2];rfl
 rw [if_neg c0,if_neg c1,if_neg c2,if_neg h3,if_neg (fun h=>h.elim h4 h5)]
end
theorem qbP (d:Nat) (r:Bs):valueP d (skip r)=valueP d r:=by rw [qbW,qbW,qbg]
theorem txr_text {s:ByteArray} {b:Nat} {Y:Bs} (h:s.data.toList.drop b=Y) (hq:look Y=34):b<s.size∧TxR (textP Y) s (b+1) []:=by
 have hb:b<s.size:=qba (by rw [h,hq]; decide);refine ⟨hb,Y.length,?_,?_⟩
 ·rw [← h,List.length_drop,List.length_drop];have:s.data.toList.length=s.size:=rfl;omega
 ·rw [qaK,h];unfold textP;rw [if_pos hq]
structure VM (w:World) (r:Nat) (s:ByteArray) (u:World) (a:Nat) (e:Int):Prop where
 low:r<w.heap.size
 res:Blk u w.heap.size 44 (jvCells zJV)
 q:RQ u r s a e
 g:RG r w u
def VPost (d:Nat) (s:ByteArray) (r a:Nat) (w w':World) (v:JV):Prop :=
 ∃ (a':Nat) (e':Int),a'≤s.size∧RQ w' r s a' e'∧RG r w w' ∧
  ((e'=0∧∃ j r',okO (valueP d (s.data.toList.drop a))=some (j,r')∧skip (s.data.toList.drop a')=r'∧JRep w' (fun b=>w.heap.size≤b) j v)∨(e'≠0∧okO (valueP d (s.data.toList.drop a))=none))
theorem okO_skipR {x:Except Int (JT × Bs)}:okO (skipR x)=(okO x).map fun p=>(p.1,skip p.2):=by
 cases x with
 | error e=>rfl
 | ok p=>rfl
section
variable {w u u':World} {r a a' d:Nat} {s:ByteArray} {e e':Int} {v:JV}
theorem VM.step (h:VM w r s u a e) (hq:RQ u' r s a' e') (hg:RG r u u'):VM w r s u' a' e' :=
 ⟨h.low,h.res.grown hg (by have:=h.low; intro h; injection h with h; omega),hq,h.g.trans hg⟩
theorem VM.ok {j:JT} {r':Bs} (h:VM w r s u a' 0) (hw:Wrote w.heap.size u u') (ha:a'≤s.size) (hraw:okO (rawP (lpOf d) (skip (s.data.toList.drop a)))=some (j,r')) (hr:skip (s.data.toList.drop a')=skip r')
  (hj:JRep u' (fun b=>w.heap.size≤b) j v):VPost d s r a w u' v:=by
 refine ⟨a',0,ha,hw.blk h.q (by have:=h.low; omega),h.g.wrote_new hw (Nat.le_refl _),.inl ⟨rfl,j,skip r',?_,hr,hj⟩⟩;rw [qbW,okO_skipR,hraw];rfl
theorem VM.err (h:VM w r s u a' e') (hw:Wrote w.heap.size u u') (ha:a'≤s.size) (he:e'≠0) (hraw:okO (rawP (lpOf d) (skip (s.data.toList.drop a)))=none):VPost d s r a w u' v:=by
 refine ⟨a',e',ha,hw.blk h.q (by have:=h.low; omega),h.g.wrote_new hw (Nat.le_refl _),.inr ⟨he,?_⟩⟩;rw [qbW,okO_skipR,hraw];rfl
theorem QM.vm {H:Nat} {T:JV} (h:QM w w.heap.size H r s T u a e):VM w r s u a e:=⟨h.low,h.res,h.rd,h.rg⟩
theorem VM.qm {H:Nat} {T:JV} (h:VM w r s u a e) (ht:Blk u H 44 (jvCells T)) (hH:w.heap.size<H):QM w w.heap.size H r s T u a e:=⟨h.low,rfl,hH,h.res,ht,h.q,h.g⟩
end
def LSt (w:World) (H r:Nat) (s:ByteArray) (d:Nat) (m:Bool) (L:Nat) (LL:Except Int (List Bs × List JT × Bs)) (gk:Nat) (wr:World) (b:Nat) (e:Int) (o:Bool) (T:JV):Prop :=
 (e=0∧∃ (ns:List Bs) (ks:List JT) (A1 A2:Option Addr) (c1 c2:Nat),T=treeV m A1 ns.length c1 A2 ks.length c2∧QL w w.heap.size H r s T A1 c1 ns A2 c2 ks wr b e∧ns.length≤ks.length∧ks.length+gk≤L ∧
  ((o=true∧okO LL=some (ns,ks,skip (s.data.toList.drop b)))∨(o=false∧∃ n,gk=n+1∧(skip (s.data.toList.drop b)).length≤n∧okO (moreK (valueP d) m n ks (kidK (valueP d) (keyP m ns (skip (s.data.toList.drop b)))))=okO LL))) ∨
 (e≠0∧o=false∧okO LL=none)
def NmSt (w:World) (H r:Nat) (s:ByteArray) (m:Bool) (ns:List Bs) (A2:Option Addr) (c2:Nat) (ks:List JT) (R:Bs) (wx:World):Prop :=
 ∃ (ns':List Bs) (A1':Option Addr) (c1' b':Nat) (R':Bs),b'≤s.size∧QL w w.heap.size H r s (treeV m A1' ns'.length c1' A2 ks.length c2) A1' c1' ns' A2 c2 ks wx b' 0∧ns'.length≤ks.length+1∧okO (keyP m ns R)=some (ns',R')∧skip (s.data.toList.drop b')=skip R'
def KidF (d:Nat) (s:ByteArray) (b' b6:Nat) (e6:Int) (P:JT→Prop):Prop :=
 b6≤s.size∧((e6=0∧∃ j r',okO (valueP d (s.data.toList.drop b'))=some (j,r')∧skip (s.data.toList.drop b6)=r'∧P j)∨(e6≠0∧okO (valueP d (s.data.toList.drop b'))=none))
theorem KidF.imp {d:Nat} {s:ByteArray} {b' b6:Nat} {e6:Int} {P P':JT→Prop} (h:KidF d s b' b6 e6 P) (hp:∀ j,P j→P' j):KidF d s b' b6 e6 P':=by
 obtain ⟨h1,h2⟩:=h;refine ⟨h1,h2.imp ?_ id⟩;rintro ⟨h3,j,r',h4,h5,h6⟩;exact ⟨h3,j,r',h4,h5,hp j h6⟩
theorem qcf {α:Type} {x:Except Int α} (h:okO x=none):∃ e,x=.error e:=by
 cases x with
 | error e=>exact ⟨e,rfl⟩
 | ok a=>cases h
theorem qbF {α:Type} {x:Except Int α} {a:α} (h:okO x=some a):x=.ok a:=by
 cases x with
 | error e=>cases h
 | ok b=>injection h with h; rw [h]
theorem more_none {d n:Nat} {m:Bool} {ks:List JT} {x:Except Int (List Bs × Bs)} (h:okO x=none):okO (moreK (valueP d) m n ks (kidK (valueP d) x))=none:=by
 obtain ⟨e,rfl⟩:=qcf h;rfl
theorem more_kid_none {d n:Nat} {m:Bool} {ks:List JT} {x:Except Int (List Bs × Bs)} {ns':List Bs} {R':Bs} (h:okO x=some (ns',R')) (hv:okO (valueP d R')=none):okO (moreK (valueP d) m n ks (kidK (valueP d) x))=none:=by
 obtain rfl:=qbF h;obtain ⟨e,he⟩:=qcf hv;show okO (moreK (valueP d) m n ks (match valueP d R' with | .error e=>.error e | .ok (k,r4)=>.ok (ns',k,r4)))=none;rw [he];rfl
theorem more_kid {d n:Nat} {m:Bool} {ks:List JT} {x:Except Int (List Bs × Bs)} {ns':List Bs} {R' r4:Bs} {k:JT} (h:okO x=some (ns',R')) (hv:okO (valueP d R')=some (k,r4)) :
  moreK (valueP d) m n ks (kidK (valueP d) x)=listL (valueP d) m n ns' (ks++[k]) r4:=by
 obtain rfl:=qbF h;show moreK (valueP d) m n ks (match valueP d R' with | .error e=>.error e | .ok (k,r4)=>.ok (ns',k,r4))=_;rw [qbF hv];rfl
theorem keyP_len {m:Bool} {ns ns':List Bs} {R R':Bs} (h:okO (keyP m ns R)=some (ns',R')):R'.length≤R.length:=by
 have h:=qbF h;unfold keyP at h
 split at h
 ·exact qcC h
 ·injection h with h
  injection h with _ h
  subst h;exact Nat.le_refl _
theorem next_kid {d k:Nat} {m:Bool} {ks:List JT} {ns ns':List Bs} {R R' r4:Bs} {j:JT} {LL:Except Int (List Bs × List JT × Bs)} (hk:okO (keyP m ns R)=some (ns',R')) (hv:okO (valueP d R')=some (j,r4))
  (hll:okO (moreK (valueP d) m k ks (kidK (valueP d) (keyP m ns R)))=okO LL) (hl:R.length≤k):∃ k',k=k'+1∧r4.length≤k'∧okO (listL (valueP d) m (k'+1) ns' (ks++[j]) r4)=okO LL:=by
 have h1:=qcQ d (qbF hv);have h2:=keyP_len hk;obtain ⟨k',rfl⟩:∃ k',k=k'+1:=⟨k - 1,by omega⟩;refine ⟨k',rfl,by omega,?_⟩;rw [more_kid hk hv] at hll;exact hll
section
variable {d k:Nat} {m:Bool} {ks:List JT} {ns:List Bs} {r4:Bs} {LL:Except Int (List Bs × List JT × Bs)}
theorem kid_end (h:okO (listL (valueP d) m (k+1) ns ks r4)=okO LL) (hs:skip r4=r4) (he:look r4=endC m):okO LL=some (ns,ks,skip r4.tail):=by
 rw [← h,qbL (r1:=skip r4.tail) (by unfold signP; rw [hs,if_pos he])];rfl
theorem kid_comma (h:okO (listL (valueP d) m (k+1) ns ks r4)=okO LL) (hs:skip r4=r4) (he:look r4≠endC m) (hk:ks≠[]) (hc:look r4=44):okO (moreK (valueP d) m k ks (kidK (valueP d) (keyP m ns (skip r4.tail))))=okO LL:=by
 rw [← h,qbj (r1:=r4) (by unfold signP; rw [hs,if_neg he])];have:ks.isEmpty=false:=by cases ks with | nil=>exact absurd rfl hk | cons _ _=>rfl
 rw [this]
 have h2:commaP false r4=.ok (skip r4.tail):=by
  show mustP 44 r4=_;unfold mustP;rw [hs,if_pos hc]
 rw [h2];rfl
theorem kid_stop (h:okO (listL (valueP d) m (k+1) ns ks r4)=okO LL) (hs:skip r4=r4) (he:look r4≠endC m) (hk:ks≠[]) (hc:look r4≠44):okO LL=none:=by
 rw [← h,qbj (r1:=r4) (by unfold signP; rw [hs,if_neg he])];have:ks.isEmpty=false:=by cases ks with | nil=>exact absurd rfl hk | cons _ _=>rfl
 rw [this]
 have h2:commaP false r4=.error 13:=by
  show mustP 44 r4=_;unfold mustP;rw [hs,if_neg hc]
 rw [h2];rfl
end
theorem qdg {ns:List Bs} {R:Bs}:keyP true ns R=nameP ns R:=rfl
theorem name_none {ns:List Bs} {R:Bs} (h:textP R=none):okO (keyP true ns R)=none:=by
 rw [qdg,nameP,h];rfl
theorem name_dup {ns:List Bs} {R t r':Bs} (h:textP R=some (t,r')) (hd:t ∈ ns):okO (keyP true ns R)=none:=by
 rw [qdg,nameP,h];dsimp only;rw [if_pos hd];rfl
theorem name_no {ns:List Bs} {R t r':Bs} (h:textP R=some (t,r')) (hc:look (skip r')≠58):okO (keyP true ns R)=none:=by
 rw [qdg,nameP,h];dsimp only
 by_cases hd:t ∈ ns
 ·rw [if_pos hd]; rfl
 ·rw [if_neg hd,mustP,if_neg hc];rfl
theorem name_yes {ns:List Bs} {R t r':Bs} (h:textP R=some (t,r')) (hd:t ∉ ns) (hc:look (skip r')=58):okO (keyP true ns R)=some (ns++[t],skip (skip r').tail):=by
 rw [qdg,nameP,h];dsimp only;rw [if_neg hd,mustP,if_pos hc];rfl
def errK (e3:Int) (t:Bs) (l:List Bs) (k:Nat):Int:=if e3=0 then (if t ∈ l.take k then 8 else 0) else e3
theorem errK_zero (e3:Int) (t:Bs) (l:List Bs):errK e3 t l 0=e3:=by
 unfold errK
 split
 ·rename_i h; rw [h]; simp
 ·rfl
theorem errK_no {e3:Int} {t:Bs} {l:List Bs} {k:Nat} (hk:k<l.length) (h:l[k]≠t):errK e3 t l (k+1)=errK e3 t l k:=by
 unfold errK;rw [List.take_succ_eq_append_getElem hk]
 have:t ∈ l.take k++[l[k]]↔t ∈ l.take k:=by
  rw [List.mem_append,List.mem_singleton];exact ⟨fun h1=>h1.elim id fun h2=>absurd h2.symm h,.inl⟩
 simp only [this]
theorem errK_hit {e3:Int} {t:Bs} {l:List Bs} {k:Nat} (hk:k<l.length) (h:l[k]=t) (h0:errK e3 t l k=0):errK e3 t l (k+1)=8:=by
 unfold errK at h0 ⊢
 by_cases h3:e3=0
 ·rw [if_pos h3,if_pos];rw [List.take_succ_eq_append_getElem hk,h];simp
 ·rw [if_neg h3] at h0;exact absurd h0 h3
theorem errK_past {e3:Int} {t:Bs} {l:List Bs} {k:Nat} (hk:k<l.length) (h0:errK e3 t l k≠0):errK e3 t l (k+1)=errK e3 t l k:=by
 unfold errK at h0 ⊢
 by_cases h3:e3=0
 ·rw [if_pos h3] at h0 ⊢
  by_cases hm:t ∈ l.take k
  ·rw [if_pos h3,if_pos hm,if_pos];rw [List.take_succ_eq_append_getElem hk];exact List.mem_append_left _ hm
  ·rw [if_neg hm] at h0;exact absurd rfl h0
 ·rw [if_neg h3,if_neg h3]
theorem qcM {c:UInt8}:isBl c=true↔(c=32∨c=9∨c=10∨c=13):=by
 unfold isBl;simp only [Bool.or_eq_true,beq_iff_eq]
 constructor
 ·rintro (((h | h) | h) | h)
  ·exact .inl h
  ·exact .inr (.inl h)
  ·exact .inr (.inr (.inl h))
  ·exact .inr (.inr (.inr h))
 ·rintro (h | h | h | h)
  ·exact .inl (.inl (.inl h))
  ·exact .inl (.inl (.inr h))
  ·exact .inl (.inr h)
  ·exact .inr h
theorem blank_ne {c:UInt8} {z:Int} (hz:z=((c.toNat:Nat):Int)) (h:¬ isBl c=true):(z == 32)=false∧(z == 9)=false∧(z == 10)=false∧(z == 13)=false :=
 ⟨qb9 (k:=32) hz fun e=>h (qcM.2 (.inl e)),qb9 (k:=9) hz fun e=>h (qcM.2 (.inr (.inl e))),qb9 (k:=10) hz fun e=>h (qcM.2 (.inr (.inr (.inl e)))),qb9 (k:=13) hz fun e=>h (qcM.2 (.inr (.inr (.inr e))))⟩
set_option maxHeartbeats 8000000 in
theorem rgap_any (s:ByteArray) (r a:Nat) (e:Int) (ha:a≤s.size) (hs:(s.size:Int)≤1000000) (w:World) (h:RQ w r s a e) :
  Calls Tryz.prog 48 #[.pointer (some ⟨r,0,none⟩)] w fun x w'=>x=.returned (.tuple #[])∧∃ a',a≤a'∧a'≤s.size∧s.data.toList.drop a'=skip (s.data.toList.drop a)∧RQ w' r s a' e∧RG r w w':=by
 have H:=zY h;have HRG0:=zY (RG.refl r w);clear h;go_enter Tryz.func48,Tryz.ntmps48;go_wp2_with fail
 go_loopw [] (fun wr=>∃ b:Nat,a≤b∧b≤s.size∧skip (s.data.toList.drop b)=skip (s.data.toList.drop a)∧RQ wr r s b e∧RG r w wr) (fun wr=>s.size - atI wr r)
 case atStart=>exact ⟨a,Nat.le_refl _,ha,rfl,H.out,HRG0.out⟩
 case round =>
  obtain ⟨b,hab,hbs,hsk,hrq,hrg⟩:=hrel;have HRQ:=zY hrq;have HRG:=zY hrg;have HSK:=zY hsk;have HAT:=zY hrq.atI;obtain ⟨c0,c1,c2⟩:=hrq.cells;clear hrq hrg hsk c2
  by_cases hl:b<s.size
  ·have hl':(b:Int)<(s.size:Int):=by omega
   have hne:b<s.data.toList.length:=hl;have HSA:=zY (skip_at hl);obtain ⟨z,hz⟩:∃ z:Int,z=((s[b].toNat:Nat):Int):=⟨_,rfl⟩;have hx:((s[b].toNat:Nat):Int)=z:=hz.symm
   by_cases hbl:isBl s[b]=true
   ·have HSN:=zY (show skip (s.data.toList.drop (b+1))=skip (s.data.toList.drop a) by rw [← HSK.out,HSA.out,if_pos hbl])
    have hz4:z=32∨z=9∨z=10∨z=13:=by
     rcases qcM.1 hbl with h | h | h | h <;> rw [hz,h] <;> decide
    clear hz hbl
    rcases hz4 with rfl | rfl | rfl | rfl
    all_goals
     go_wp2_with fail
     go_quiet (fail)
     go_wp2_with (refine qaf (x:=.tmp 66) (i:=1) HRQ.out rfl rfl rfl rfl (by kernel_rfl) (by simp [rqCells]) rfl ?_; intro w5 hb5 hw5);have hrq5:RQ w5 r s (b+1) e:=hb5;refine ⟨?_,by rw [hrq5.atI,HAT.out]; omega⟩
     repeat (apply Exists.intro)
     refine ⟨?_,rfl⟩;exact ⟨b+1,by omega,hl,HSN.out,hrq5,(HRG.out.drewN _).trans (.wrote hw5)⟩
   ·obtain ⟨hz1,hz2,hz3,hz4⟩:=blank_ne hz hbl;have HST:=zY (show s.data.toList.drop b=skip (s.data.toList.drop a) by rw [← HSK.out,HSA.out,if_neg hbl]);clear hz hbl;go_wp2_with fail
    go_quiet (fail)
    go_wp2_with fail
    go_end0
    exact ⟨rfl,b,hab,hbs,HST.out,HRQ.out,HRG.out.drewN _⟩
  ·have hl':¬ (b:Int)<(s.size:Int):=by omega
   have HST:=zY (show s.data.toList.drop b=skip (s.data.toList.drop a) by rw [← HSK.out,skip_off hl]);go_wp2_with fail
   go_quiet (fail)
   go_wp2_with fail
   go_end0
   exact ⟨rfl,b,hab,hbs,HST.out,HRQ.out,HRG.out.drewN _⟩
end Go.Proofs.YtlkikjeccamheaaGreatDoor.Js
