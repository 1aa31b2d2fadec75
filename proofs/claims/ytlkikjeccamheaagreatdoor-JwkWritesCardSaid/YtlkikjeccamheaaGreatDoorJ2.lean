/-
  Joined texts: Jva Jvl Jwr Jk1 Jkl Jgt Js1 Js2 Js3 Jse Mp8 Js5 Js6 Js7 Js4 Js8 Js9 Js10 Js11 Js12 Owr Js13 Jsm Jok Jdc Jen Jde Own Jfd Turned Cut32 Row32.
-/
import Derived.Carry
import Derived.Test.YtlkikjeccamheaaGreatDoorProg
import Derived.Lib.Bytealg
import Derived.Lib.Strings
import Derived.Lib.Slices
import Derived.Laws.Externs
import Derived.Deep.QuietTactic
import Derived.BigQuiet
import Derived.Deep.DeepCutAuto
import Derived.Deep.LoopGhost
import Derived.Lib.Walk
import Derived.MapKept
import Derived.Maps.AppendAt
import Derived.Defers
import Derived.IntWalk
import Derived.Test.YtlkikjeccamheaaGreatDoorJ1
namespace Go.Proofs.YtlkikjeccamheaaGreatDoor.Js
set_option linter.unusedSimpArgs false
set_option linter.unusedVariables false
set_option maxRecDepth 100000
set_option maxHeartbeats 4000000
open Go.RowKit
theorem qbP:(Tryz.prog.info? 44).map (·.size)=some 5:=by kernel_rfl
def WVal (d:Nat):Prop:=∀ (j:JT) (v:JV) (B p:Nat) (c:Bs) (w0 w:World),rightV d j=true→JRep w (fun b=>b<B) j v→WB w0 B p c w→c.length+(writeV j).length≤1099511627776 →
 Calls Tryz.prog 35 #[.pointer (some ⟨p,0,none⟩),.agg (jvCells v)] w fun e w'=>e=.returned (.tuple #[])∧∃ c',Out c (writeV j) c'∧WB w0 B p c' w'
def kidsB (m:Bool) (ns:List Bs) (ks:List JT) (k:Nat):Bs:=itemsV m (ns.take k) (ks.take k) true
theorem _root_.Go.Proofs.YtlkikjeccamheaaGreatDoor.Blk.keep9 {w:World} {g:Nat} {t:TypeId} {cs:Array Value} (h:Blk w g t cs):Blk w g t cs:=h
theorem app_len (a b:Bs):(a++b).length=a.length+b.length:=List.length_append
structure StepK (a b:Bs):Prop where
 eq:a=b
theorem qbb (m:Bool):∀ (ks:List JT) (ns:List Bs) (k:JT) (s:Bs) (f:Bool),(m=true→ns.length=ks.length) →
  itemsV m (if m then ns++[s] else []) (ks++[k]) f=itemsV m (if m then ns else []) ks f++((if (f && ks.isEmpty) then [] else [44])++((if m then quote s++[58] else [])++writeV k))
 | [],ns,k,s,f,h=>by
  cases m with
  | true =>
   have:ns=[]:=by simpa using h rfl
   subst this
   cases f <;> simp [itemsV]
  | false=>cases f <;> simp [itemsV]
 | k1 :: ks,ns,k,s,f,h=>by
  cases m with
  | true =>
   cases ns with
   | nil=>simp at h
   | cons s1 ns =>
    have ih:=qbb true ks ns k s false (fun _=>by simpa using h rfl);simp only [if_true,Bool.false_and,Bool.false_eq_true,if_false] at ih
    cases f <;> simp [itemsV,ih]
  | false =>
   have ih:=qbb false ks [] k s false (by simp);simp at ih
   cases f <;> simp [itemsV,ih]
theorem qdy (m:Bool):∀ (ks:List JT) (ns:List Bs) (f:Bool) (k:Nat),∃ r,itemsV m ns ks f=itemsV m (ns.take k) (ks.take k) f++r
 | [],ns,f,k=>⟨[],by simp [itemsV]⟩
 | x :: ks,ns,f,0=>⟨_,by simp [itemsV]; rfl⟩
 | x :: ks,ns,f,k+1=>by
  obtain ⟨r,hr⟩:=qdy m ks ns.tail false k;refine ⟨r,?_⟩
  cases ns with
  | nil=>simp at hr; simp [itemsV,hr]
  | cons s ns=>simp at hr; simp [itemsV,hr]
theorem qcm (m:Bool) (ns:List Bs) (ks:List JT) (k:Nat):(kidsB m ns ks k).length≤(itemsV m ns ks true).length:=by
 obtain ⟨r,hr⟩:=qdy m ks ns true k;rw [hr,kidsB];simp
theorem kidsB_map {ns:List Bs} {ks:List JT} {k:Nat} (h:ns.length=ks.length) (hk:k<ks.length) :
  kidsB true ns ks (k+1)=kidsB true ns ks k++((if k=0 then [] else [44])++((quote (ns[k]'(by omega))++[58])++writeV ks[k])):=by
 have e:=qbb true (ks.take k) (ns.take k) ks[k] (ns[k]'(by omega)) true (fun _=>by simp [h]);simp only [if_true,Bool.true_and] at e;rw [kidsB,List.take_succ_eq_append_getElem hk,List.take_succ_eq_append_getElem (by omega),e]
 cases k with
 | zero=>simp [kidsB]
 | succ k =>
  have:(ks.take (k+1)).isEmpty=false:=by
   cases ks with
   | nil=>simp at hk
   | cons a r=>rfl
  rw [this];simp [kidsB]
theorem kidsB_list {ks:List JT} {k:Nat} (hk:k<ks.length):kidsB false [] ks (k+1)=kidsB false [] ks k++((if k=0 then [] else [44])++writeV ks[k]):=by
 have e:=qbb false (ks.take k) [] ks[k] [] true (fun h=>by cases h);simp only [Bool.false_eq_true,if_false,Bool.true_and,List.nil_append] at e;rw [kidsB,List.take_succ_eq_append_getElem hk,List.take_nil,e]
 cases k with
 | zero=>simp [kidsB]
 | succ k =>
  have:(ks.take (k+1)).isEmpty=false:=by
   cases ks with
   | nil=>simp at hk
   | cons a r=>rfl
  rw [this];simp [kidsB]
theorem itemsV_len (m:Bool):∀ (ks:List JT) (ns:List Bs) (f:Bool),ks.length≤(itemsV m ns ks f).length+1
 | [],_,_=>by simp [itemsV]
 | [k],_,_=>by simp
 | k :: k2 :: r,ns,f=>by
  have:=itemsV_len2 m (k2 :: r) ns.tail;rw [itemsV];simp only [List.length_append,List.length_cons] at this ⊢;omega
where
 itemsV_len2 (m:Bool):∀ (ks:List JT) (ns:List Bs),ks.length≤(itemsV m ns ks false).length
 | [],_=>by simp [itemsV]
 | k :: r,ns=>by
  have:=itemsV_len2 m r ns.tail;rw [itemsV];simp only [Bool.false_eq_true,if_false,List.length_append,List.length_cons,List.length_nil];omega
theorem wmap_any (d:Nat) (IH:WVal d) (v:JV) (hvk:v.k=5) (ns:List Bs) (ks:List JT) (kv:List JV) (B p:Nat) (c:Bs) (w0 w:World)
  (hnr:RdS w (fun b=>b<B) v.nA (rowsV sCell ns)) (hn:v.nn=ns.length) (hkn:v.kn=ks.length) (hkv:kv.length=ks.length) (hkr:RdS w (fun b=>b<B) v.kA (rowsV jvCells kv))
  (hkids:∀ i (h:i<ks.length) (h':i<kv.length),JRep w (fun b=>b<B) ks[i] kv[i]) (hright:∀ x ∈ ks,rightV d x=true) (hlen:ns.length=ks.length)
  (hb:WB w0 B p c w) (hl:c.length+((123 :: (itemsV true ns ks true++[125])):Bs).length≤1099511627776) :
  Calls Tryz.prog 69 #[.pointer (some ⟨p,0,none⟩),.agg (jvCells v)] w fun e w'=>e=.returned (.tuple #[])∧∃ c',Out c (123 :: (itemsV true ns ks true++[125])) c'∧WB w0 B p c' w':=by
 have hu:=Tryz.underlying44;obtain ⟨W0,hW0⟩:=eX (w.alloc (.cells (jvCells v) 44));have hb0:Below w.heap.size w W0:=by rw [hW0]; exact (Below.refl _ w).alloc (Nat.le_refl _) _
 obtain ⟨hBp,hpw⟩:=hb.1.lt;obtain ⟨G,hG⟩:=eX (w.heap.size);have HG:=zY (show p<G by omega);have hG0:W0.heap.size=G+1:=by rw [hW0,hG]; simp
 have HKB:=zY (show Blk W0 G 44 (jvCells v) by rw [hW0,hG]; exact Blk.new _ _ _);have HS:=zY (show BK B p w0 W0 from hb.2.trans (.all hb0 (by omega)));have HB:=zY (show WB W0 B p c W0 from ⟨hb.1.below hb0,BK.refl _ _ _⟩);have HKR:=zY (show Rd W0 B v.kA (rowsV jvCells kv) from (hkr.rd (fun _ _ h=>h)).below (hb0.mono (by omega)));have HNR:=zY (show Rd W0 B v.nA (rowsV sCell ns) from (hnr.rd (fun _ _ h=>h)).below (hb0.mono (by omega)));have HKD:=zY (show ∀ i (h:i<ks.length) (h':i<kv.length),JRep W0 (fun b=>b<B) ks[i] kv[i] from fun i h h'=>(hkids i h h').under (hb0.mono (by omega)));have HRI:=zY hright;have HL:=zY hl;have HLEN:=zY hlen;have HKV:=zY hkv;obtain ⟨n,hnn⟩:=eX (ks.length);have HN:=zY hnn;have HBP:=zY hBp;have HNL:=zY (show (v.nn:Int)=(ns.length:Int) by rw [hn])
 have HNS:=zY (show (n:Int)≤1099511627776 by
  have h1:=itemsV_len true ks ns true;have h2:=hl;simp at h2
  omega)
 have HW0:=zY hW0;have CB:=zY (fun (c:Bs) (x:UInt8) (u:World) (h:IsB u B 68 p c) (h2:c.length+1≤140737488355328)=>qb5 jwT B p c x u h h2);have CT:=zY (fun (s:ByteArray) (c:Bs) (u:World) (h:IsB u B 68 p c) (h2:c.length+(quote s.data.toList).length≤1099511627776)=>qcU s B p c u u ⟨h,BK.refl _ _ _⟩ h2);unfold byteV at CB;obtain ⟨vk,vn,vt,nA,nn,nc,kA,kn,kc⟩:=v;dsimp only at *;subst hvk;obtain rfl:kn=n:=by rw [hkn,hnn]
 have a0:W0.cell? ⟨G,0,none⟩=some (.int .i64 5):=HKB.out.cell 0;have a4:W0.cell? ⟨G,4,none⟩=some (.slice kA kn kc):=HKB.out.cell 4;clear hb hb0 hG0 hW0 hnr hkr hkids hright hl hlen hkv hnn hn hkn hBp hpw;rw [hG] at *;clear hG;go_enter Tryz.func69,Tryz.ntmps69
 go_upto_region 1 with (fail)
 rw [← HW0.out];go_wp2_with fail;have HC0:=HB.out.drew;clear a0 a4;refine qah (fun u=>WB W0 B p c u) (fun u=>WB W0 B p (c++[123]) u) [(0,some 10),(1,some 11),(2,some 12),(3,some 13),(4,some 14),(5,some 15)] (by kernel_rfl) (by kernel_rfl) (by decide) (by kernel_rfl) (fun _=>rfl) HC0 ?_;apply yN_
 ·apply dP [];exact fun _=>rfl;rfl;rintro vals - w1 hC1 E hE;simp only [sP] at hE ⊢;go_wp2;exact .mk (hE _ hC1)
 apply yN_
 ·apply dP [(0,some 10)];exact fun _=>rfl;rfl;intro vals vq w1 hC1 E hE;simp only [sP,vq] at hE ⊢;clear vq;go_wp2;exact .mk (hE _ hC1)
 apply yN_
 ·apply dP [(1,some 11)];exact fun _=>rfl;rfl;intro vals vq w1 hC1 E hE;simp only [sP,vq] at hE ⊢;clear vq;go_wp2;exact .mk (hE _ hC1)
 apply yN_
 ·apply dP [];exact fun _=>rfl;rfl;intro vals vq w1 hC1 E hE;clear vq;simp only [sP] at hE ⊢;go_wp2;exact .mk (hE _ hC1)
 apply yN_ (v:=.int .u8 123)
 ·apply dP [(3,some 13)];exact fun _=>rfl;rfl;intro vals vq w1 hC1 E hE;simp only [sP,vq] at hE ⊢;clear vq;go_wp2;exact .mk (hE _ hC1)
 apply yL_
 ·apply dP [(2,some 12),(4,some 14)];exact fun _=>rfl;rfl;intro vals vq w1 hC1 E hE;simp only [sP,vq] at hE ⊢;clear vq;go_wp2_with fail;refine qaa (CB.out c 123 _ hC1.1 (by have:=HL.out; simp at this; omega)) ?_;rintro e w2 ⟨rfl,hb2,hw2⟩;go_wp2_with fail;exact .mk (hE _ (hC1.next hb2 hw2))
 intro vals vq w1 hC1;simp only [sP,vq];clear vq;have HB1:=zY hC1;have hkb1:=hC1.2.blk HKB.out (by have:=HG.out; omega) (by decide);have a4:w1.cell? ⟨w.heap.size,4,none⟩=some (.slice kA kn kc):=hkb1.cell 4;clear HC0 hC1 hkb1;go_wp2_with fail
 go_loopw [19] (fun x wr=>∃ (i:Nat) (c':Bs),i≤kn∧x=.int .i64 (i:Int)∧Out (c++[123]) (kidsB true ns ks i) c'∧WB W0 B p c' wr) (fun x _=>kn - (intOf x).toNat)
 case atStart=>exact ⟨0,_,by omega,rfl,by simp [kidsB,itemsV]; exact Out.refl _,HB1.out⟩
 case round =>
  obtain ⟨i,c',hi,rfl,hout,hwr⟩:=hrel;have HO:=zY hout;have HWR:=zY hwr;clear hout hwr
  by_cases hlt:i<kn
  ·have hik:i<ks.length:=by rw [← HN.out]; exact hlt
   have hiv:i<kv.length:=by rw [HKV.out]; exact hik
   have hlt':(i:Int)<(kn:Int):=by omega
   have HLT:=zY hlt;obtain ⟨ad,hA,hadb,hcell⟩:=qaX (f:=jvCells) (m:=5) (fun _=>rfl) (by decide) HKR.out hiv;subst hA;obtain ⟨X,hX⟩:=eX (kv[i]);obtain ⟨J,hJ⟩:=eX (ks[i]);have HJX:=zY (show JRep W0 (fun b=>b<B) J X by rw [hX,hJ]; exact HKD.out i hik hiv);have HJR:=zY (show rightV d J=true by rw [hJ]; exact HRI.out _ (List.getElem_mem hik));have HST:=StepK.mk (show kidsB true ns ks (i+1)=kidsB true ns ks i++((if i=0 then [] else [44])++((quote (ns[i]'(by rw [HLEN.out]; exact hik))++[58])++writeV J)) by rw [hJ]; exact kidsB_map HLEN.out hik)
   have HLN:=zY (show (c++[123]).length+(kidsB true ns ks (i+1)).length≤1099511627776 by
    have h1:=qcm true ns ks (i+1);have h2:=HL.out;simp at h2 ⊢
    omega)
   rw [← hX] at hcell
   have HCE:=zY (show ∀ u,Below B W0 u→∀ j x,(jvCells X).toList[j]?=some x→u.cell? ((ad.add (i*5)).add j)=some x from fun u hu j x hx=>by
    rw [hu.cell (p:=(ad.add (i*5)).add j) (by rw [qaq,qaq]; exact hadb)];exact hcell j x (by simpa using hx))
   obtain ⟨ad2,hA2,hadb2,hcell2⟩:=qaX (f:=sCell) (m:=1) (fun _=>rfl) (by decide) HNR.out (show i<ns.length by rw [HLEN.out]; exact hik);subst hA2;obtain ⟨Sx,hSx⟩:=eX (ns[i]'(by rw [HLEN.out]; exact hik));rw [← hSx] at HST hcell2
   have HSC:=zY (show ∀ u,Below B W0 u→u.cell? (ad2.add i)=some (.string (bs Sx)) from fun u hu=>by
    rw [hu.cell (p:=ad2.add i) (by rw [qaq]; exact hadb2)];have h:=hcell2 0 _ rfl;rw [Nat.mul_one] at h;exact h)
   clear hSx hcell2;clear hX hJ hcell hik hiv
   go_upto_if 25 with (first
    | (refine qaD (r:=(jvCells X).toList) (HCE.out _ HWR.out.2.below) rfl rfl rfl hu rfl qbP ?_)
    | (refine qae (x:=.tmp 6) (cells:=jvCells X) (Blk.new _ _ _) rfl rfl rfl rfl qbP rfl (qai X) ?_; intro w2 hb2 hw2; have hk2:=qaN hw2; have HK2:=zY (Blk.keep9 hb2); have HW2:=zY (show WB W0 B p c' w2 from ⟨HWR.out.1.below hk2,HWR.out.2.trans (.all hk2 (by have:=HWR.out.1.lt; omega))⟩); have HSZ:=zY (show p<wr.heap.size from HWR.out.1.lt.2)))
   generalize hkb:wr.heap.size=kb at *
   go_cut [] (fun wx=>∃ c1:Bs,Out (c++[123]) (kidsB true ns ks i++(if i=0 then [] else [44])) c1∧WB W0 B p c1 wx∧Blk wx kb 44 (jvCells X))
   case first =>
    go_wp2_with fail
    ·have H0:=zY (show ¬ i=0 by omega);refine qaa (CB.out c' 44 _ HW2.out.1 (by have h1:=HO.out.2.1; have h2:=HLN.out; rw [HST.eq] at h2; simp at h1 h2; omega)) ?_;rintro e w3 ⟨rfl,hb3,hw3⟩;have HW3:=zY (HW2.out.next hb3 hw3);have HK3:=zY (hw3.blk HK2.out (by have:=HSZ.out; omega) (by decide));clear hb3 hw3;go_wp2_with fail
     go_meet
     exact ⟨_,by rw [if_neg H0.out]; exact HO.out.trans (Out.all _ _),HW3.out,HK3.out⟩
    ·have H0:=zY (show i=0 by omega)
     go_meet
     exact ⟨c',by rw [if_pos H0.out,List.append_nil]; exact HO.out,HW2.out,HK2.out⟩
   case rest =>
   obtain ⟨c1,hout1,hw3,hk3⟩:=hcut;have HO1:=zY hout1;have HW3:=zY hw3;have HK3:=zY hk3;have hkb3:=hw3.2.blk HKB.out (by have:=HG.out; omega) (by decide);have a0:wc.cell? ⟨w.heap.size,0,none⟩=some (.int .i64 5):=hkb3.cell 0
   have HT:=zY (show (c++[123]).length+((kidsB true ns ks i).length+(if i=0 then [] else [44]:Bs).length)+((quote Sx).length+1+(writeV J).length)≤1099511627776 by
    have h2:=HLN.out;rw [HST.eq] at h2;simp only [List.length_append,List.length_cons,List.length_nil] at h2 ⊢
    omega)
   have HT1:=zY (show c1.length≤(c++[123]).length+((kidsB true ns ks i).length+(if i=0 then [] else [44]:Bs).length) by
    have h1:=HO1.out.2.1;rw [app_len (kidsB true ns ks i)] at h1;exact h1)
   have a3:wc.cell? ⟨w.heap.size,3,none⟩=some (.slice (some ad2) nn nc):=hkb3.cell 3;have hsc:=HSC.out wc hw3.2.below;have hnl:=HNL.out;have hin:(i:Int)<(nn:Int):=by rw [hnl,HLEN.out,← HN.out]; exact hlt'
   clear hnl;go_wp2_with fail;refine qaa (CT.out _ c1 _ HW3.out.1 (by have h1:=HT.out; have h2:=HT1.out; rw [show (bs Sx).data.toList=Sx from rfl]; omega)) ?_;rintro e w4 ⟨rfl,hb4,hw4⟩;have HW4:=zY (show WB W0 B p (c1++quote Sx) w4 from HW3.out.next hb4 hw4);have HK4:=zY (hw4.blk HK3.out (by have:=HSZ.out; omega) (by decide));clear hb4 hw4;go_wp2_with fail;refine qaa (CB.out _ 58 _ HW4.out.1 (by have h1:=HT.out; have h2:=HT1.out; simp only [List.length_append] at h1 h2 ⊢; omega)) ?_;rintro e w5 ⟨rfl,hb5,hw5⟩;have HW5:=zY (HW4.out.next hb5 hw5);have HK5:=zY (hw5.blk HK4.out (by have:=HSZ.out; omega) (by decide));clear hb5 hw5;go_wp2_with (refine qad (x:=.tmp 6) (cs:=jvCells X) HK5.out rfl rfl rfl hu rfl qbP ?_);clear hout1 hw3 hk3 hkb3;refine qaa (IH J X B p (c1++quote Sx++[58]) W0 _ HJR.out (HJX.out.under HW5.out.2.below) HW5.out (by have h1:=HT.out; have h2:=HT1.out; simp only [List.length_append,List.length_cons,List.length_nil] at h1 h2 ⊢; omega)) ?_;rintro e w6 ⟨rfl,c4,ho4,hw6⟩;have HO4:=zY ho4;have HW6:=zY hw6;clear ho4 hw6;have hns:=HNS.out;have hlt9:=HLT.out;go_wp2_with fail
   go_roundw
   case rel=>exact ⟨i+1,c4,HLT.out,by go_num,by rw [HST.eq]; have h:=((HO1.out.trans (Out.all c1 (quote Sx))).trans (Out.all _ [58])).trans HO4.out; simpa only [List.append_assoc] using h,HW6.out⟩
   case measure=>have:=HLT.out; simp [intOf]; omega
  ·obtain rfl:i=kn:=by omega
   have HCL:=zY (show c'.length+1≤140737488355328 by
    have h1:=HO.out.2.1;have h2:=qcm true ns ks i;have h3:=HL.out;simp at h1 h3
    omega)
   have HC0:=HWR.out.drew;go_wp2_with fail;refine qah (fun u=>WB W0 B p c' u) (fun u=>WB W0 B p (c'++[125]) u) [(0,some 48),(1,some 49),(2,some 50),(3,some 51),(4,some 52),(5,some 53)] (by kernel_rfl) (by kernel_rfl) (by decide) (by kernel_rfl) (fun _=>rfl) HC0 ?_;apply yN_
   ·apply dP [];exact fun _=>rfl;rfl;rintro vals - w1 hC1 E hE;simp only [sP] at hE ⊢;go_wp2;exact .mk (hE _ hC1)
   apply yN_
   ·apply dP [(0,some 48)];exact fun _=>rfl;rfl;intro vals vq w1 hC1 E hE;simp only [sP,vq] at hE ⊢;clear vq;go_wp2;exact .mk (hE _ hC1)
   apply yN_
   ·apply dP [(1,some 49)];exact fun _=>rfl;rfl;intro vals vq w1 hC1 E hE;simp only [sP,vq] at hE ⊢;clear vq;go_wp2;exact .mk (hE _ hC1)
   apply yN_
   ·apply dP [];exact fun _=>rfl;rfl;intro vals vq w1 hC1 E hE;clear vq;simp only [sP] at hE ⊢;go_wp2;exact .mk (hE _ hC1)
   apply yN_ (v:=.int .u8 125)
   ·apply dP [(3,some 51)];exact fun _=>rfl;rfl;intro vals vq w1 hC1 E hE;simp only [sP,vq] at hE ⊢;clear vq;go_wp2;exact .mk (hE _ hC1)
   apply yL_
   ·apply dP [(2,some 50),(4,some 52)];exact fun _=>rfl;rfl;intro vals vq w1 hC1 E hE;simp only [sP,vq] at hE ⊢;clear vq;go_wp2_with fail;refine qaa (CB.out c' 125 _ hC1.1 HCL.out) ?_;rintro e w2 ⟨rfl,hb2,hw2⟩;go_wp2_with fail;exact .mk (hE _ (hC1.next hb2 hw2))
   intro vals vq w1 hC1;simp only [sP,vq];clear vq;have HR:=zY hC1;clear hC1 HC0;go_wp2_with fail
   go_end0
   refine ⟨rfl,_,?_,⟨HR.out.1,HS.out.trans HR.out.2⟩⟩
   have hall:kidsB true ns ks i=itemsV true ns ks true:=by
    rw [kidsB,HN.out,List.take_length];rw [← HLEN.out,List.take_length]
   have h:=((Out.all c [123]).trans HO.out).trans (Out.all c' [125]);rw [hall] at h
   simpa only [List.append_assoc,List.cons_append,List.nil_append] using h
theorem wlist_any (d:Nat) (IH:WVal d) (v:JV) (hvk:v.k=4) (ns:List Bs) (ks:List JT) (kv:List JV) (B p:Nat) (c:Bs) (w0 w:World)
  (hnr:RdS w (fun b=>b<B) v.nA (rowsV sCell ns)) (hn:v.nn=ns.length) (hkn:v.kn=ks.length) (hkv:kv.length=ks.length) (hkr:RdS w (fun b=>b<B) v.kA (rowsV jvCells kv))
  (hkids:∀ i (h:i<ks.length) (h':i<kv.length),JRep w (fun b=>b<B) ks[i] kv[i]) (hright:∀ x ∈ ks,rightV d x=true) (hlen:ns=[])
  (hb:WB w0 B p c w) (hl:c.length+((91 :: (itemsV false ns ks true++[93])):Bs).length≤1099511627776) :
  Calls Tryz.prog 69 #[.pointer (some ⟨p,0,none⟩),.agg (jvCells v)] w fun e w'=>e=.returned (.tuple #[])∧∃ c',Out c (91 :: (itemsV false ns ks true++[93])) c'∧WB w0 B p c' w':=by
 have hu:=Tryz.underlying44;obtain ⟨W0,hW0⟩:=eX (w.alloc (.cells (jvCells v) 44));have hb0:Below w.heap.size w W0:=by rw [hW0]; exact (Below.refl _ w).alloc (Nat.le_refl _) _
 obtain ⟨hBp,hpw⟩:=hb.1.lt;obtain ⟨G,hG⟩:=eX (w.heap.size);have HG:=zY (show p<G by omega);have hG0:W0.heap.size=G+1:=by rw [hW0,hG]; simp
 have HKB:=zY (show Blk W0 G 44 (jvCells v) by rw [hW0,hG]; exact Blk.new _ _ _);have HS:=zY (show BK B p w0 W0 from hb.2.trans (.all hb0 (by omega)));have HB:=zY (show WB W0 B p c W0 from ⟨hb.1.below hb0,BK.refl _ _ _⟩);have HKR:=zY (show Rd W0 B v.kA (rowsV jvCells kv) from (hkr.rd (fun _ _ h=>h)).below (hb0.mono (by omega)));have HNR:=zY (show Rd W0 B v.nA (rowsV sCell ns) from (hnr.rd (fun _ _ h=>h)).below (hb0.mono (by omega)));have HKD:=zY (show ∀ i (h:i<ks.length) (h':i<kv.length),JRep W0 (fun b=>b<B) ks[i] kv[i] from fun i h h'=>(hkids i h h').under (hb0.mono (by omega)));have HRI:=zY hright;have HL:=zY hl;have HLEN:=zY hlen;have HKV:=zY hkv;obtain ⟨n,hnn⟩:=eX (ks.length);have HN:=zY hnn;have HBP:=zY hBp;have HNL:=zY (show (v.nn:Int)=(ns.length:Int) by rw [hn])
 have HNS:=zY (show (n:Int)≤1099511627776 by
  have h1:=itemsV_len false ks ns true;have h2:=hl;simp at h2
  omega)
 have HW0:=zY hW0;have CB:=zY (fun (c:Bs) (x:UInt8) (u:World) (h:IsB u B 68 p c) (h2:c.length+1≤140737488355328)=>qb5 jwT B p c x u h h2);have CT:=zY (fun (s:ByteArray) (c:Bs) (u:World) (h:IsB u B 68 p c) (h2:c.length+(quote s.data.toList).length≤1099511627776)=>qcU s B p c u u ⟨h,BK.refl _ _ _⟩ h2);unfold byteV at CB;obtain ⟨vk,vn,vt,nA,nn,nc,kA,kn,kc⟩:=v;dsimp only at *;subst hvk;obtain rfl:kn=n:=by rw [hkn,hnn]
 have a0:W0.cell? ⟨G,0,none⟩=some (.int .i64 4):=HKB.out.cell 0;have a4:W0.cell? ⟨G,4,none⟩=some (.slice kA kn kc):=HKB.out.cell 4;clear hb hb0 hG0 hW0 hnr hkr hkids hright hl hlen hkv hnn hn hkn hBp hpw;rw [hG] at *;clear hG;go_enter Tryz.func69,Tryz.ntmps69
 go_upto_region 1 with (fail)
 rw [← HW0.out];go_wp2_with fail;have HC0:=HB.out.drew;clear a0 a4;refine qah (fun u=>WB W0 B p c u) (fun u=>WB W0 B p (c++[91]) u) [(0,some 10),(1,some 11),(2,some 12),(3,some 13),(4,some 14),(5,some 15)] (by kernel_rfl) (by kernel_rfl) (by decide) (by kernel_rfl) (fun _=>rfl) HC0 ?_;apply yN_
 ·apply dP [];exact fun _=>rfl;rfl;rintro vals - w1 hC1 E hE;simp only [sP] at hE ⊢;go_wp2;exact .mk (hE _ hC1)
 apply yN_
 ·apply dP [(0,some 10)];exact fun _=>rfl;rfl;intro vals vq w1 hC1 E hE;simp only [sP,vq] at hE ⊢;clear vq;go_wp2;exact .mk (hE _ hC1)
 apply yN_
 ·apply dP [(1,some 11)];exact fun _=>rfl;rfl;intro vals vq w1 hC1 E hE;simp only [sP,vq] at hE ⊢;clear vq;go_wp2;exact .mk (hE _ hC1)
 apply yN_
 ·apply dP [];exact fun _=>rfl;rfl;intro vals vq w1 hC1 E hE;clear vq;simp only [sP] at hE ⊢;go_wp2;exact .mk (hE _ hC1)
 apply yN_ (v:=.int .u8 91)
 ·apply dP [(3,some 13)];exact fun _=>rfl;rfl;intro vals vq w1 hC1 E hE;simp only [sP,vq] at hE ⊢;clear vq;go_wp2;exact .mk (hE _ hC1)
 apply yL_
 ·apply dP [(2,some 12),(4,some 14)];exact fun _=>rfl;rfl;intro vals vq w1 hC1 E hE;simp only [sP,vq] at hE ⊢;clear vq;go_wp2_with fail;refine qaa (CB.out c 91 _ hC1.1 (by have:=HL.out; simp at this; omega)) ?_;rintro e w2 ⟨rfl,hb2,hw2⟩;go_wp2_with fail;exact .mk (hE _ (hC1.next hb2 hw2))
 intro vals vq w1 hC1;simp only [sP,vq];clear vq;have HB1:=zY hC1;have hkb1:=hC1.2.blk HKB.out (by have:=HG.out; omega) (by decide);have a4:w1.cell? ⟨w.heap.size,4,none⟩=some (.slice kA kn kc):=hkb1.cell 4;clear HC0 hC1 hkb1;go_wp2_with fail
 go_loopw [19] (fun x wr=>∃ (i:Nat) (c':Bs),i≤kn∧x=.int .i64 (i:Int)∧Out (c++[91]) (kidsB false ns ks i) c'∧WB W0 B p c' wr) (fun x _=>kn - (intOf x).toNat)
 case atStart=>exact ⟨0,_,by omega,rfl,by simp [kidsB,itemsV]; exact Out.refl _,HB1.out⟩
 case round =>
  obtain ⟨i,c',hi,rfl,hout,hwr⟩:=hrel;have HO:=zY hout;have HWR:=zY hwr;clear hout hwr
  by_cases hlt:i<kn
  ·have hik:i<ks.length:=by rw [← HN.out]; exact hlt
   have hiv:i<kv.length:=by rw [HKV.out]; exact hik
   have hlt':(i:Int)<(kn:Int):=by omega
   have HLT:=zY hlt;obtain ⟨ad,hA,hadb,hcell⟩:=qaX (f:=jvCells) (m:=5) (fun _=>rfl) (by decide) HKR.out hiv;subst hA;obtain ⟨X,hX⟩:=eX (kv[i]);obtain ⟨J,hJ⟩:=eX (ks[i]);have HJX:=zY (show JRep W0 (fun b=>b<B) J X by rw [hX,hJ]; exact HKD.out i hik hiv);have HJR:=zY (show rightV d J=true by rw [hJ]; exact HRI.out _ (List.getElem_mem hik));have HST:=StepK.mk (show kidsB false ns ks (i+1)=kidsB false ns ks i++((if i=0 then [] else [44])++writeV J) by rw [hJ,HLEN.out]; exact kidsB_list hik)
   have HLN:=zY (show (c++[91]).length+(kidsB false ns ks (i+1)).length≤1099511627776 by
    have h1:=qcm false ns ks (i+1);have h2:=HL.out;simp at h2 ⊢
    omega)
   rw [← hX] at hcell
   have HCE:=zY (show ∀ u,Below B W0 u→∀ j x,(jvCells X).toList[j]?=some x→u.cell? ((ad.add (i*5)).add j)=some x from fun u hu j x hx=>by
    rw [hu.cell (p:=(ad.add (i*5)).add j) (by rw [qaq,qaq]; exact hadb)];exact hcell j x (by simpa using hx))
   clear hX hJ hcell hik hiv
   go_upto_if 25 with (first
    | (refine qaD (r:=(jvCells X).toList) (HCE.out _ HWR.out.2.below) rfl rfl rfl hu rfl qbP ?_)
    | (refine qae (x:=.tmp 6) (cells:=jvCells X) (Blk.new _ _ _) rfl rfl rfl rfl qbP rfl (qai X) ?_; intro w2 hb2 hw2; have hk2:=qaN hw2; have HK2:=zY (Blk.keep9 hb2); have HW2:=zY (show WB W0 B p c' w2 from ⟨HWR.out.1.below hk2,HWR.out.2.trans (.all hk2 (by have:=HWR.out.1.lt; omega))⟩); have HSZ:=zY (show p<wr.heap.size from HWR.out.1.lt.2)))
   generalize hkb:wr.heap.size=kb at *
   go_cut [] (fun wx=>∃ c1:Bs,Out (c++[91]) (kidsB false ns ks i++(if i=0 then [] else [44])) c1∧WB W0 B p c1 wx∧Blk wx kb 44 (jvCells X))
   case first =>
    go_wp2_with fail
    ·have H0:=zY (show ¬ i=0 by omega);refine qaa (CB.out c' 44 _ HW2.out.1 (by have h1:=HO.out.2.1; have h2:=HLN.out; rw [HST.eq] at h2; simp at h1 h2; omega)) ?_;rintro e w3 ⟨rfl,hb3,hw3⟩;have HW3:=zY (HW2.out.next hb3 hw3);have HK3:=zY (hw3.blk HK2.out (by have:=HSZ.out; omega) (by decide));clear hb3 hw3;go_wp2_with fail
     go_meet
     exact ⟨_,by rw [if_neg H0.out]; exact HO.out.trans (Out.all _ _),HW3.out,HK3.out⟩
    ·have H0:=zY (show i=0 by omega)
     go_meet
     exact ⟨c',by rw [if_pos H0.out,List.append_nil]; exact HO.out,HW2.out,HK2.out⟩
   case rest =>
   obtain ⟨c1,hout1,hw3,hk3⟩:=hcut;have HO1:=zY hout1;have HW3:=zY hw3;have HK3:=zY hk3;have hkb3:=hw3.2.blk HKB.out (by have:=HG.out; omega) (by decide);have a0:wc.cell? ⟨w.heap.size,0,none⟩=some (.int .i64 4):=hkb3.cell 0
   have HT:=zY (show (c++[91]).length+((kidsB false ns ks i).length+(if i=0 then [] else [44]:Bs).length)+((writeV J).length)≤1099511627776 by
    have h2:=HLN.out;rw [HST.eq] at h2;simp only [List.length_append,List.length_cons,List.length_nil] at h2 ⊢
    omega)
   have HT1:=zY (show c1.length≤(c++[91]).length+((kidsB false ns ks i).length+(if i=0 then [] else [44]:Bs).length) by
    have h1:=HO1.out.2.1;rw [app_len (kidsB false ns ks i)] at h1;exact h1)
   go_wp2_with (refine qad (x:=.tmp 6) (cs:=jvCells X) HK3.out rfl rfl rfl hu rfl qbP ?_);have HW5:=zY HW3.out;clear hout1 hw3 hk3 hkb3;refine qaa (IH J X B p c1 W0 _ HJR.out (HJX.out.under HW5.out.2.below) HW5.out (by have h1:=HT.out; have h2:=HT1.out; simp only [List.length_append,List.length_cons,List.length_nil] at h1 h2 ⊢; omega)) ?_;rintro e w6 ⟨rfl,c4,ho4,hw6⟩;have HO4:=zY ho4;have HW6:=zY hw6;clear ho4 hw6;have hns:=HNS.out;have hlt9:=HLT.out;go_wp2_with fail
   go_roundw
   case rel=>exact ⟨i+1,c4,HLT.out,by go_num,by rw [HST.eq]; have h:=HO1.out.trans HO4.out; simpa only [List.append_assoc] using h,HW6.out⟩
   case measure=>have:=HLT.out; simp [intOf]; omega
  ·obtain rfl:i=kn:=by omega
   have HCL:=zY (show c'.length+1≤140737488355328 by
    have h1:=HO.out.2.1;have h2:=qcm false ns ks i;have h3:=HL.out;simp at h1 h3
    omega)
   have HC0:=HWR.out.drew;go_wp2_with fail;refine qah (fun u=>WB W0 B p c' u) (fun u=>WB W0 B p (c'++[93]) u) [(0,some 48),(1,some 49),(2,some 50),(3,some 51),(4,some 52),(5,some 53)] (by kernel_rfl) (by kernel_rfl) (by decide) (by kernel_rfl) (fun _=>rfl) HC0 ?_;apply yN_
   ·apply dP [];exact fun _=>rfl;rfl;rintro vals - w1 hC1 E hE;simp only [sP] at hE ⊢;go_wp2;exact .mk (hE _ hC1)
   apply yN_
   ·apply dP [(0,some 48)];exact fun _=>rfl;rfl;intro vals vq w1 hC1 E hE;simp only [sP,vq] at hE ⊢;clear vq;go_wp2;exact .mk (hE _ hC1)
   apply yN_
   ·apply dP [(1,some 49)];exact fun _=>rfl;rfl;intro vals vq w1 hC1 E hE;simp only [sP,vq] at hE ⊢;clear vq;go_wp2;exact .mk (hE _ hC1)
   apply yN_
   ·apply dP [];exact fun _=>rfl;rfl;intro vals vq w1 hC1 E hE;clear vq;simp only [sP] at hE ⊢;go_wp2;exact .mk (hE _ hC1)
   apply yN_ (v:=.int .u8 93)
   ·apply dP [(3,some 51)];exact fun _=>rfl;rfl;intro vals vq w1 hC1 E hE;simp only [sP,vq] at hE ⊢;clear vq;go_wp2;exact .mk (hE _ hC1)
   apply yL_
   ·apply dP [(2,some 50),(4,some 52)];exact fun _=>rfl;rfl;intro vals vq w1 hC1 E hE;simp only [sP,vq] at hE ⊢;clear vq;go_wp2_with fail;refine qaa (CB.out c' 93 _ hC1.1 HCL.out) ?_;rintro e w2 ⟨rfl,hb2,hw2⟩;go_wp2_with fail;exact .mk (hE _ (hC1.next hb2 hw2))
   intro vals vq w1 hC1;simp only [sP,vq];clear vq;have HR:=zY hC1;clear hC1 HC0;go_wp2_with fail
   go_end0
   refine ⟨rfl,_,?_,⟨HR.out.1,HS.out.trans HR.out.2⟩⟩
   have hall:kidsB false ns ks i=itemsV false ns ks true:=by
    rw [kidsB,HN.out,List.take_length];rw [HLEN.out,List.take_nil]
   have h:=((Out.all c [91]).trans HO.out).trans (Out.all c' [93]);rw [hall] at h
   simpa only [List.append_assoc,List.cons_append,List.nil_append] using h
theorem wval_step (d:Nat) (IH:∀ d',d'<d→WVal d'):WVal d:=by
 intro j v B p c w0 w hr hj hb hl;have hu:=Tryz.underlying44;obtain ⟨ns,ks,kv,rfl,hn,_,hnr,hkn,_,hkv,hkr,hkids⟩:=hj.inv;obtain ⟨W0,hW0⟩:=eX (w.alloc (.cells (jvCells v) 44));have hb0:Below w.heap.size w W0:=by rw [hW0]; exact (Below.refl _ w).alloc (Nat.le_refl _) _
 obtain ⟨hBp,hpw⟩:=hb.1.lt;obtain ⟨G,hG⟩:=eX (w.heap.size);have HG:=zY (show p<G by omega);have HKB:=zY (show Blk W0 G 44 (jvCells v) by rw [hW0,hG]; exact Blk.new _ _ _);have HS:=zY (show BK B p w0 W0 from hb.2.trans (.all hb0 (by omega)));have HB:=zY (show WB W0 B p c W0 from ⟨hb.1.below hb0,BK.refl _ _ _⟩);have HW0:=zY hW0;have CL:=zY (fun (u:World) (h:IsB u B 68 p c)=>bld_len B p c u h);have CS:=zY (fun (x:ByteArray) (u:World) (h:IsB u B 68 p c) (h2:c.length+x.size≤140737488355328)=>bld_str jwT B p c x u h h2);have HL:=zY hl;have hfin:∀ x (w':World),WB W0 B p x w'→WB w0 B p x w':=fun x w' h=>⟨h.1,HS.out.trans h.2⟩;have HF:=zY hfin;rw [rightV] at hr;simp only [plainJ,Bool.and_eq_true,Bool.or_eq_true,Bool.not_eq_true',beq_iff_eq,decide_eq_true_eq,List.isEmpty_iff,bne_iff_ne] at hr;obtain ⟨⟨⟨⟨⟨⟨⟨⟨⟨⟨⟨hvn,hvk⟩,hvns⟩,hvt⟩,hd⟩,hk0⟩,hlen⟩,hot⟩,_⟩,hint⟩,_⟩,hks⟩:=hr;have HI:=zY hint;clear hint;have HKI:=zY (show ∀ i (h:i<ks.length) (h':i<kv.length),JRep W0 (fun b=>b<B) ks[i] kv[i] from fun i h h'=>(hkids i h h').under (hb0.mono (by omega)));have HNR:=zY (show RdS W0 (fun b=>b<B) v.nA (rowsV sCell ns) from hnr.heap fun b _ hb'=>hb0.block b (by omega));have HKR:=zY (show RdS W0 (fun b=>b<B) v.kA (rowsV jvCells kv) from hkr.heap fun b _ hb'=>hb0.block b (by omega));clear hW0 hb0 hb hl hfin hnr hkr hkids;obtain ⟨vk,vn,vt,nA,nn,nc,kA,kn,kc⟩:=v;dsimp only at *;subst hn hkn;have a0:W0.cell? ⟨G,0,none⟩=some (.int .i64 vk):=HKB.out.cell 0;have a1:W0.cell? ⟨G,1,none⟩=some (.int .i64 vn):=HKB.out.cell 1;have a2:W0.cell? ⟨G,2,none⟩=some (.string (bs vt)):=HKB.out.cell 2;rw [hG] at *;clear hG hBp hpw;go_enter Tryz.func35,Tryz.ntmps35
 go_upto_region 1 with (fail)
 rw [← HW0.out];go_wp2_with fail;refine qaa (CL.out _ HB.out.1) ?_;rintro e W1 ⟨rfl,rfl⟩
 by_cases hlong:2000<c.length
 ·have hc:(2000:Int)<(c.length:Int):=by omega
  go_wp2_with fail;refine bodyPost_ret (results_none rfl _ _ _) rfl ?_;exact ⟨rfl,c,Out.stop _ hlong,HF.out _ _ HB.out⟩
 ·have hc:¬ (2000:Int)<(c.length:Int):=by omega
  have HLG:=zY hlong;clear hlong;have hvk4:vk=0∨vk=1∨vk=2∨vk=3∨vk=4∨vk=5:=by omega
  rcases hvk4 with rfl | rfl | rfl | rfl | rfl | rfl
  ·go_wp2_with fail;refine qaa (CS.out _ _ HB.out.1 (by have:=HLG.out; simp [ByteArray.size]; omega)) ?_;rintro e w2 ⟨rfl,hb2,hw2⟩;have HB2:=zY (HB.out.next hb2 hw2);clear hb2 hw2;go_wp2_with fail
   go_end0
   exact ⟨rfl,_,Out.all _ _,HF.out _ _ HB2.out⟩
  ·have hvn':vn=0∨vn=1:=by
    simp at hvn;exact hvn
   clear hvn
   rcases hvn' with rfl | rfl
   ·clear hvk hvns hvt hd hk0 hlen hot hks hkv;have HGP:=zY (show w.heap.size≠p by have:=HG.out; omega);go_wp2_with fail;have HC0:BK B p W1 W1.drew:=HB.out.2.drew;have HI0:IsB W1.drew B 68 p c:=HB.out.1
    refine qap (fun u=>BK B p W1 u) (fun | false=>(fun u=>IsB u B 68 p c) | true=>(fun _=>True)) (fun | false,i=>i == 8 | true,_=>false)
     [fun z _=>z 0=.pointer (some ⟨p,0,none⟩),
      fun z _=>z 1=.pointer (some ⟨p,0,none⟩),
      fun z _=>z 2=.pointer (some ⟨p,0,none⟩),
      fun z u=>(fun v u=>∃ g,v=.slice (some ⟨g,0,none⟩) 2 2∧Blk u g 9 #[.string ⟨#[102,97,108,115,101]⟩,.string ⟨#[116,114,117,101]⟩]) (z 3) u,
      fun z _=>z 4=.pointer (some ⟨w.heap.size,1,none⟩),
      fun z _=>z 5=.int .i64 0,
      fun z u=>(fun v u=>∃ g,v=.pointer (some ⟨g,0,none⟩)∧Blk u g 9 #[.string ⟨#[102,97,108,115,101]⟩,.string ⟨#[116,114,117,101]⟩]) (z 6) u,
      fun z _=>z 7=.string ⟨#[102,97,108,115,101]⟩,
      fun z u=>IsB u B 68 p (c++[102,97,108,115,101])]
     [Eq,Eq,Eq,fun u u'=>Below u.heap.size u u',Eq,Eq,Eq,Eq,fun _ _=>True]
     (fun i k=>(i == 8 && k == 3) || (i == 8 && k == 6)) [(0,some 22),(1,some 23),(2,some 24),(3,some 25),(4,some 26),(5,some 27),(6,some 28),(7,some 29),(8,some 30)] (by kernel_rfl) (by kernel_rfl) rfl (fun _=>rfl) ?_ ?_ ?_ ?_ ?_ ?_
    ·exact HC0
    ·intro m; cases m; exact HI0; exact trivial
    ·intro m; cases m
     ·refine ⟨?_,?_,?_,.inr (fun _ _ h h0=>h0.below h),?_,?_,?_,?_,.inl rfl,trivial⟩ <;> exact .inr fun _ _ h h0=>h▸h0
     ·refine ⟨?_,?_,?_,?_,?_,?_,?_,?_,?_,trivial⟩ <;> first | exact .inr fun _ _ h h0=>h▸h0 | exact .inr fun _ _ _ h=>h
    ·refine ⟨⟨.inl rfl,?_,?_,?_,?_,?_,?_,?_,?_,trivial⟩,⟨?_,.inl rfl,?_,?_,?_,?_,?_,?_,?_,trivial⟩,⟨?_,?_,.inl rfl,?_,?_,?_,?_,?_,?_,trivial⟩,⟨?_,?_,?_,.inl rfl,?_,?_,?_,?_,?_,trivial⟩,⟨?_,?_,?_,?_,.inl rfl,?_,?_,?_,?_,trivial⟩,⟨?_,?_,?_,?_,?_,.inl rfl,?_,?_,?_,trivial⟩,⟨?_,?_,?_,?_,?_,?_,.inl rfl,?_,?_,trivial⟩,⟨?_,?_,?_,?_,?_,?_,?_,.inl rfl,?_,trivial⟩,⟨?_,?_,?_,.inr (.inl rfl),?_,?_,.inr (.inl rfl),?_,.inl rfl,trivial⟩,trivial⟩ <;> first | exact .inr (.inr (.inl rfl)) | exact .inr (.inr (.inr fun _ _ _ _ _ h=>h)) | exact .inr (.inr (.inr fun _ _ _ _ h h0=>by cases h; exact h0))
    ·refine ⟨?_,?_,?_,?_,?_,?_,?_,?_,?_,trivial⟩
     ·refine qab [] (fun _=>rfl) rfl ?_;intro w1 vals hC1 hi0 hf E hE;have hI1:(fun u=>IsB u B 68 p c) w1:=hi0 false rfl
      try dsimp only at hI1
      clear hi0;clear hf;simp only [sP] at hE ⊢;go_wp2;exact .mk (hE _ _ rfl hC1 rfl)
     ·refine qab [(0,some 22)] (fun _=>rfl) rfl ?_;intro w1 vals hC1 hi0 hf E hE;have hI1:(fun u=>IsB u B 68 p c) w1:=hi0 false rfl
      try dsimp only at hI1
      clear hi0;have f0:vals 0=_:=hf 0 rfl
      try dsimp only at f0
      clear hf;simp only [sP,f0] at hE ⊢;clear f0;go_wp2;exact .mk (hE _ _ rfl hC1 rfl)
     ·refine qab [(1,some 23)] (fun _=>rfl) rfl ?_;intro w1 vals hC1 hi0 hf E hE;have hI1:(fun u=>IsB u B 68 p c) w1:=hi0 false rfl
      try dsimp only at hI1
      clear hi0;have f1:vals 1=_:=hf 1 rfl
      try dsimp only at f1
      clear hf;simp only [sP,f1] at hE ⊢;clear f1;go_wp2;exact .mk (hE _ _ rfl hC1 rfl)
     ·refine qab [] (fun _=>rfl) rfl ?_;intro w1 vals hC1 hi0 hf E hE;have hI1:(fun u=>IsB u B 68 p c) w1:=hi0 false rfl
      try dsimp only at hI1
      clear hi0;clear hf;simp only [sP] at hE ⊢;go_wp2;exact .mk (hE _ _ ⟨_,rfl,Blk.new _ _ _⟩ (hC1.trans (.all ((Below.refl _ _).alloc (Nat.le_refl _) _) (by have:=hI1.lt; omega))) ((Below.refl _ _).alloc (Nat.le_refl _) _))
     ·refine qab [] (fun _=>rfl) rfl ?_;intro w1 vals hC1 hi0 hf E hE;clear hi0;clear hf;simp only [sP] at hE ⊢;go_wp2;exact .mk (hE _ _ rfl hC1 rfl)
     ·refine qab [(4,some 26)] (fun _=>rfl) rfl ?_;intro w1 vals hC1 hi0 hf E hE;have hI1:(fun u=>IsB u B 68 p c) w1:=hi0 false rfl
      try dsimp only at hI1
      clear hi0;have f4:vals 4=_:=hf 4 rfl
      try dsimp only at f4
      clear hf;have a9:w1.cell? ⟨w.heap.size,1,none⟩=some (.int .i64 0):=(hC1.blk HKB.out HGP.out (by decide)).cell 1;simp only [sP,f4] at hE ⊢;clear f4;go_wp2;exact .mk (hE _ _ rfl hC1 rfl)
     ·refine qab [(3,some 25),(5,some 27)] (fun _=>rfl) rfl ?_;intro w1 vals hC1 hi0 hf E hE;have hI1:(fun u=>IsB u B 68 p c) w1:=hi0 false rfl
      try dsimp only at hI1
      clear hi0;have f3:(fun v u=>∃ g,v=.slice (some ⟨g,0,none⟩) 2 2∧Blk u g 9 #[.string ⟨#[102,97,108,115,101]⟩,.string ⟨#[116,114,117,101]⟩]) (vals 3) w1:=hf 3 rfl;have f5:vals 5=_:=hf 5 rfl
      try dsimp only at f3 f5
      clear hf;obtain ⟨g3,hx3,hg3⟩:=f3;simp only [sP,f5,hx3] at hE ⊢;clear f5;clear hx3;go_wp2;exact .mk (hE _ _ ⟨g3,rfl,hg3⟩ hC1 rfl)
     ·refine qab [(6,some 28)] (fun _=>rfl) rfl ?_;intro w1 vals hC1 hi0 hf E hE;have hI1:(fun u=>IsB u B 68 p c) w1:=hi0 false rfl
      try dsimp only at hI1
      clear hi0;have f6:(fun v u=>∃ g,v=.pointer (some ⟨g,0,none⟩)∧Blk u g 9 #[.string ⟨#[102,97,108,115,101]⟩,.string ⟨#[116,114,117,101]⟩]) (vals 6) w1:=hf 6 rfl
      try dsimp only at f6
      clear hf;obtain ⟨g6,hx6,hg6⟩:=f6;have a9:=hg6.cell 0;simp only [sP,hx6] at hE ⊢;clear hx6;go_wp2;exact .mk (hE _ _ rfl hC1 rfl)
     ·refine qab [(2,some 24),(7,some 29)] (fun _=>rfl) rfl ?_;intro w1 vals hC1 hi0 hf E hE;have hI1:(fun u=>IsB u B 68 p c) w1:=hi0 false rfl
      try dsimp only at hI1
      clear hi0;have f2:vals 2=_:=hf 2 rfl;have f7:vals 7=_:=hf 7 rfl
      try dsimp only at f2 f7
      clear hf;simp only [sP,f2,f7] at hE ⊢;clear f2 f7;go_wp2_with fail;refine qaa (CS.out _ _ hI1 (by have:=HLG.out; simp [ByteArray.size]; omega)) ?_;rintro e w2 ⟨rfl,hb2,hw2⟩;go_wp2_with fail;exact .mk (hE _ _ hb2 (hC1.trans hw2) trivial)
    intro w1 vals hC1 hf;have f0:vals 0=_:=hf 0 (by decide) rfl;have f1:vals 1=_:=hf 1 (by decide) rfl;have f2:vals 2=_:=hf 2 (by decide) rfl;have f4:vals 4=_:=hf 4 (by decide) rfl;have f5:vals 5=_:=hf 5 (by decide) rfl;have f7:vals 7=_:=hf 7 (by decide) rfl;have f8:(fun z u=>IsB u B 68 p (c++[102,97,108,115,101])) vals w1:=hf 8 (by decide) rfl
    try dsimp only at f0 f1 f2 f4 f5 f7 f8
    clear hf;simp only [sP,f0,f1,f2,f4,f5,f7];clear f0 f1 f2 f4 f5 f7;generalize vals 3=x3 at *;generalize vals 6=x6 at *;generalize vals 8=x8 at *;have HR:=zY (show WB W1 B p (c++[102,97,108,115,101]) _ from ⟨f8,hC1⟩);clear HC0 HI0 hC1 f8;go_wp2_with fail
    go_end0
    exact ⟨rfl,_,by rw [writeV,if_neg (by decide),if_pos rfl]; exact Out.all _ _,HF.out _ _ HR.out⟩
   ·clear hvk hvns hvt hd hk0 hlen hot hks hkv;have HGP:=zY (show w.heap.size≠p by have:=HG.out; omega);go_wp2_with fail;have HC0:BK B p W1 W1.drew:=HB.out.2.drew;have HI0:IsB W1.drew B 68 p c:=HB.out.1
    refine qap (fun u=>BK B p W1 u) (fun | false=>(fun u=>IsB u B 68 p c) | true=>(fun _=>True)) (fun | false,i=>i == 8 | true,_=>false)
     [fun z _=>z 0=.pointer (some ⟨p,0,none⟩),
      fun z _=>z 1=.pointer (some ⟨p,0,none⟩),
      fun z _=>z 2=.pointer (some ⟨p,0,none⟩),
      fun z u=>(fun v u=>∃ g,v=.slice (some ⟨g,0,none⟩) 2 2∧Blk u g 9 #[.string ⟨#[102,97,108,115,101]⟩,.string ⟨#[116,114,117,101]⟩]) (z 3) u,
      fun z _=>z 4=.pointer (some ⟨w.heap.size,1,none⟩),
      fun z _=>z 5=.int .i64 1,
      fun z u=>(fun v u=>∃ g,v=.pointer (some ⟨g,1,none⟩)∧Blk u g 9 #[.string ⟨#[102,97,108,115,101]⟩,.string ⟨#[116,114,117,101]⟩]) (z 6) u,
      fun z _=>z 7=.string ⟨#[116,114,117,101]⟩,
      fun z u=>IsB u B 68 p (c++[116,114,117,101])]
     [Eq,Eq,Eq,fun u u'=>Below u.heap.size u u',Eq,Eq,Eq,Eq,fun _ _=>True]
     (fun i k=>(i == 8 && k == 3) || (i == 8 && k == 6)) [(0,some 22),(1,some 23),(2,some 24),(3,some 25),(4,some 26),(5,some 27),(6,some 28),(7,some 29),(8,some 30)] (by kernel_rfl) (by kernel_rfl) rfl (fun _=>rfl) ?_ ?_ ?_ ?_ ?_ ?_
    ·exact HC0
    ·intro m; cases m; exact HI0; exact trivial
    ·intro m; cases m
     ·refine ⟨?_,?_,?_,.inr (fun _ _ h h0=>h0.below h),?_,?_,?_,?_,.inl rfl,trivial⟩ <;> exact .inr fun _ _ h h0=>h▸h0
     ·refine ⟨?_,?_,?_,?_,?_,?_,?_,?_,?_,trivial⟩ <;> first | exact .inr fun _ _ h h0=>h▸h0 | exact .inr fun _ _ _ h=>h
    ·refine ⟨⟨.inl rfl,?_,?_,?_,?_,?_,?_,?_,?_,trivial⟩,⟨?_,.inl rfl,?_,?_,?_,?_,?_,?_,?_,trivial⟩,⟨?_,?_,.inl rfl,?_,?_,?_,?_,?_,?_,trivial⟩,⟨?_,?_,?_,.inl rfl,?_,?_,?_,?_,?_,trivial⟩,⟨?_,?_,?_,?_,.inl rfl,?_,?_,?_,?_,trivial⟩,⟨?_,?_,?_,?_,?_,.inl rfl,?_,?_,?_,trivial⟩,⟨?_,?_,?_,?_,?_,?_,.inl rfl,?_,?_,trivial⟩,⟨?_,?_,?_,?_,?_,?_,?_,.inl rfl,?_,trivial⟩,⟨?_,?_,?_,.inr (.inl rfl),?_,?_,.inr (.inl rfl),?_,.inl rfl,trivial⟩,trivial⟩ <;> first | exact .inr (.inr (.inl rfl)) | exact .inr (.inr (.inr fun _ _ _ _ _ h=>h)) | exact .inr (.inr (.inr fun _ _ _ _ h h0=>by cases h; exact h0))
    ·refine ⟨?_,?_,?_,?_,?_,?_,?_,?_,?_,trivial⟩
     ·refine qab [] (fun _=>rfl) rfl ?_;intro w1 vals hC1 hi0 hf E hE;have hI1:(fun u=>IsB u B 68 p c) w1:=hi0 false rfl
      try dsimp only at hI1
      clear hi0;clear hf;simp only [sP] at hE ⊢;go_wp2;exact .mk (hE _ _ rfl hC1 rfl)
     ·refine qab [(0,some 22)] (fun _=>rfl) rfl ?_;intro w1 vals hC1 hi0 hf E hE;have hI1:(fun u=>IsB u B 68 p c) w1:=hi0 false rfl
      try dsimp only at hI1
      clear hi0;have f0:vals 0=_:=hf 0 rfl
      try dsimp only at f0
      clear hf;simp only [sP,f0] at hE ⊢;clear f0;go_wp2;exact .mk (hE _ _ rfl hC1 rfl)
     ·refine qab [(1,some 23)] (fun _=>rfl) rfl ?_;intro w1 vals hC1 hi0 hf E hE;have hI1:(fun u=>IsB u B 68 p c) w1:=hi0 false rfl
      try dsimp only at hI1
      clear hi0;have f1:vals 1=_:=hf 1 rfl
      try dsimp only at f1
      clear hf;simp only [sP,f1] at hE ⊢;clear f1;go_wp2;exact .mk (hE _ _ rfl hC1 rfl)
     ·refine qab [] (fun _=>rfl) rfl ?_;intro w1 vals hC1 hi0 hf E hE;have hI1:(fun u=>IsB u B 68 p c) w1:=hi0 false rfl
      try dsimp only at hI1
      clear hi0;clear hf;simp only [sP] at hE ⊢;go_wp2;exact .mk (hE _ _ ⟨_,rfl,Blk.new _ _ _⟩ (hC1.trans (.all ((Below.refl _ _).alloc (Nat.le_refl _) _) (by have:=hI1.lt; omega))) ((Below.refl _ _).alloc (Nat.le_refl _) _))
     ·refine qab [] (fun _=>rfl) rfl ?_;intro w1 vals hC1 hi0 hf E hE;clear hi0;clear hf;simp only [sP] at hE ⊢;go_wp2;exact .mk (hE _ _ rfl hC1 rfl)
     ·refine qab [(4,some 26)] (fun _=>rfl) rfl ?_;intro w1 vals hC1 hi0 hf E hE;have hI1:(fun u=>IsB u B 68 p c) w1:=hi0 false rfl
      try dsimp only at hI1
      clear hi0;have f4:vals 4=_:=hf 4 rfl
      try dsimp only at f4
      clear hf;have a9:w1.cell? ⟨w.heap.size,1,none⟩=some (.int .i64 1):=(hC1.blk HKB.out HGP.out (by decide)).cell 1;simp only [sP,f4] at hE ⊢;clear f4;go_wp2;exact .mk (hE _ _ rfl hC1 rfl)
     ·refine qab [(3,some 25),(5,some 27)] (fun _=>rfl) rfl ?_;intro w1 vals hC1 hi0 hf E hE;have hI1:(fun u=>IsB u B 68 p c) w1:=hi0 false rfl
      try dsimp only at hI1
      clear hi0;have f3:(fun v u=>∃ g,v=.slice (some ⟨g,0,none⟩) 2 2∧Blk u g 9 #[.string ⟨#[102,97,108,115,101]⟩,.string ⟨#[116,114,117,101]⟩]) (vals 3) w1:=hf 3 rfl;have f5:vals 5=_:=hf 5 rfl
      try dsimp only at f3 f5
      clear hf;obtain ⟨g3,hx3,hg3⟩:=f3;simp only [sP,f5,hx3] at hE ⊢;clear f5;clear hx3;go_wp2;exact .mk (hE _ _ ⟨g3,rfl,hg3⟩ hC1 rfl)
     ·refine qab [(6,some 28)] (fun _=>rfl) rfl ?_;intro w1 vals hC1 hi0 hf E hE;have hI1:(fun u=>IsB u B 68 p c) w1:=hi0 false rfl
      try dsimp only at hI1
      clear hi0;have f6:(fun v u=>∃ g,v=.pointer (some ⟨g,1,none⟩)∧Blk u g 9 #[.string ⟨#[102,97,108,115,101]⟩,.string ⟨#[116,114,117,101]⟩]) (vals 6) w1:=hf 6 rfl
      try dsimp only at f6
      clear hf;obtain ⟨g6,hx6,hg6⟩:=f6;have a9:=hg6.cell 1;simp only [sP,hx6] at hE ⊢;clear hx6;go_wp2;exact .mk (hE _ _ rfl hC1 rfl)
     ·refine qab [(2,some 24),(7,some 29)] (fun _=>rfl) rfl ?_;intro w1 vals hC1 hi0 hf E hE;have hI1:(fun u=>IsB u B 68 p c) w1:=hi0 false rfl
      try dsimp only at hI1
      clear hi0;have f2:vals 2=_:=hf 2 rfl;have f7:vals 7=_:=hf 7 rfl
      try dsimp only at f2 f7
      clear hf;simp only [sP,f2,f7] at hE ⊢;clear f2 f7;go_wp2_with fail;refine qaa (CS.out _ _ hI1 (by have:=HLG.out; simp [ByteArray.size]; omega)) ?_;rintro e w2 ⟨rfl,hb2,hw2⟩;go_wp2_with fail;exact .mk (hE _ _ hb2 (hC1.trans hw2) trivial)
    intro w1 vals hC1 hf;have f0:vals 0=_:=hf 0 (by decide) rfl;have f1:vals 1=_:=hf 1 (by decide) rfl;have f2:vals 2=_:=hf 2 (by decide) rfl;have f4:vals 4=_:=hf 4 (by decide) rfl;have f5:vals 5=_:=hf 5 (by decide) rfl;have f7:vals 7=_:=hf 7 (by decide) rfl;have f8:(fun z u=>IsB u B 68 p (c++[116,114,117,101])) vals w1:=hf 8 (by decide) rfl
    try dsimp only at f0 f1 f2 f4 f5 f7 f8
    clear hf;simp only [sP,f0,f1,f2,f4,f5,f7];clear f0 f1 f2 f4 f5 f7;generalize vals 3=x3 at *;generalize vals 6=x6 at *;generalize vals 8=x8 at *;have HR:=zY (show WB W1 B p (c++[116,114,117,101]) _ from ⟨f8,hC1⟩);clear HC0 HI0 hC1 f8;go_wp2_with fail
    go_end0
    exact ⟨rfl,_,by rw [writeV,if_neg (by decide),if_pos rfl]; exact Out.all _ _,HF.out _ _ HR.out⟩
  ·go_wp2_with fail;refine qaa (wnum_any vn (by have:=HI.out; omega) (by have:=HI.out; omega) B p c W1 _ HB.out (by have h:=HL.out; rw [writeV,if_neg (by decide),if_neg (by decide),if_pos rfl] at h; exact h)) ?_;rintro e w2 ⟨rfl,hw2⟩;have HB2:=zY hw2;clear hw2;go_wp2_with fail
   go_end0
   exact ⟨rfl,_,by rw [writeV,if_neg (by decide),if_neg (by decide),if_pos rfl]; exact Out.all _ _,HF.out _ _ HB2.out⟩
  ·go_wp2_with fail;refine qaa (qcU (bs vt) B p c W1 _ HB.out (by have h:=HL.out; rw [writeV,if_neg (by decide),if_neg (by decide),if_neg (by decide),if_pos rfl] at h; exact h)) ?_;rintro e w2 ⟨rfl,hw2⟩;have HB2:=zY hw2;clear hw2;go_wp2_with fail
   go_end0
   exact ⟨rfl,_,by rw [writeV,if_neg (by decide),if_neg (by decide),if_neg (by decide),if_pos rfl]; exact Out.all _ _,HF.out _ _ HB2.out⟩
  ·have HD:=zY (show 0<d by simp at hd; omega)
   have HW:=zY (show writeV (.mk 4 vn vt ns ks)=91 :: (itemsV false ns ks true++[93]) by
    rw [writeV,if_neg (by decide),if_neg (by decide),if_neg (by decide),if_neg (by decide)]
    rfl)
   have hns:ns=[]:=by simpa using hvns
   have C:=zY (wlist_any (d - 1) (IH _ (by have:=HD.out; omega)) ⟨4,vn,vt,nA,ns.length,nc,kA,ks.length,kc⟩ rfl ns ks kv B p c W1 W1 HNR.out rfl rfl hkv HKR.out HKI.out ((qaS _ _).1 hks) hns HB.out (by rw [← HW.out]; exact HL.out));clear hvn hvk hvns hvt hd hk0 hlen hot hks hkv hns;go_wp2_with (refine qad (x:=.tmp 3) HKB.out rfl rfl rfl hu rfl qbP ?_);refine qaa C.out ?_;rintro e w2 ⟨rfl,c',ho,hw2⟩;have HO:=zY ho;have HB2:=zY hw2;clear hw2 ho;go_wp2_with fail
   go_end0
   exact ⟨rfl,_,by rw [HW.out]; exact HO.out,HF.out _ _ HB2.out⟩
  ·have HD:=zY (show 0<d by simp at hd; omega)
   have HW:=zY (show writeV (.mk 5 vn vt ns ks)=123 :: (itemsV true ns ks true++[125]) by
    rw [writeV,if_neg (by decide),if_neg (by decide),if_neg (by decide),if_neg (by decide)]
    rfl)
   have hlen':ns.length=ks.length:=by simpa using hlen
   have C:=zY (wmap_any (d - 1) (IH _ (by have:=HD.out; omega)) ⟨5,vn,vt,nA,ns.length,nc,kA,ks.length,kc⟩ rfl ns ks kv B p c W1 W1 HNR.out rfl rfl hkv HKR.out HKI.out ((qaS _ _).1 hks) hlen' HB.out (by rw [← HW.out]; exact HL.out));clear hvn hvk hvns hvt hd hk0 hlen hot hks hkv hlen';go_wp2_with (refine qad (x:=.tmp 3) HKB.out rfl rfl rfl hu rfl qbP ?_);refine qaa C.out ?_;rintro e w2 ⟨rfl,c',ho,hw2⟩;have HO:=zY ho;have HB2:=zY hw2;clear hw2 ho;go_wp2_with fail
   go_end0
   exact ⟨rfl,_,by rw [HW.out]; exact HO.out,HF.out _ _ HB2.out⟩
theorem wval_any:∀ d,WVal d:=fun d=>Nat.strongRecOn d fun d ih=>wval_step d ih
def wrE (j:JT):Bs × Int:=if rightV 6 j=false then ([],1) else if 2000<(writeV j).length then ([],4) else (writeV j,0)
theorem writeV_ne (j:JT) (h:rightV 6 j=true):writeV j≠[]:=by
 obtain ⟨c,l,h1,_⟩:=qbt j 6 h;rw [h1];simp
theorem jwrite_any (j:JT) (v:JV) (B:Nat) (w:World) (hs:smallJ j=true) (hj:JRep w (fun b=>b<B) j v) (hB:B≤w.heap.size) (hl:(writeV j).length≤1099511627776) :
  Calls Tryz.prog 17 #[.agg (jvCells v)] w fun e w'=>e=.returned (.tuple #[.string (bs (wrE j).1),.int .i64 (wrE j).2])∧Below w.heap.size w w':=by
 have hu:=Tryz.underlying44;obtain ⟨G,hG⟩:=eX (w.heap.size);obtain ⟨W0,hW0⟩:=eX (w.alloc (.cells (jvCells v) 44));have hb0:Below w.heap.size w W0:=by rw [hW0]; exact (Below.refl _ w).alloc (Nat.le_refl _) _
 have HB0:=zY hb0;have HKB:=zY (show Blk W0 G 44 (jvCells v) by rw [hW0,hG]; exact Blk.new _ _ _);have HJ:=zY (hj.under (hb0.mono hB));have HBB:=zY (show B≤W0.heap.size from Nat.le_trans hB hb0.size);have HL:=zY hl;have C:=zY (right_any 6 (by decide) j v B W0 hs HJ.out HBB.out);have HW0:=zY hW0;obtain ⟨R,hR⟩:=eX (rightV 6 j);rw [← hR] at C;have HR:=zY hR;clear hW0 hb0 hs hj hB hl hR;rw [hG] at *;clear hG;go_enter Tryz.func17,Tryz.ntmps17
 go_upto_region 1 with (fail)
 rw [← HW0.out];clear HW0;generalize Value.agg (jvCells v)=AV;go_wp2_with (refine qad (x:=.tmp 1) (cs:=jvCells v) HKB.out rfl rfl rfl hu rfl qcn ?_);refine qaa C.out ?_;rintro e w1 ⟨rfl,hb1⟩;have HB1:=zY hb1;clear hb1
 cases R with
 | false =>
  have HE:=zY (show wrE j=([],1) by rw [wrE,if_pos HR.out.symm]);go_wp2_with fail;go_ret2;exact ⟨by rw [HE.out]; rfl,HB0.out.trans (HB1.out.mono HB0.out.size)⟩
 | true =>
  have HK1:=zY (HKB.out.below HB1.out HKB.out.lt)
  go_upto_region 4 with (fail)
  obtain ⟨W2,hW2⟩:=eX (w1.alloc (.cells #[.pointer none,.slice none 0 0] 68));rw [← hW2];have hb2:Below w1.heap.size w1 W2:=by rw [hW2]; exact (Below.refl _ w1).alloc (Nat.le_refl _) _
  have HB2:=zY (HB1.out.trans (hb2.mono HB1.out.size));have HK2:=zY (show Blk W2 w.heap.size 44 (jvCells v) from HK1.out.below hb2 HK1.out.lt);have HS:=zY (show w1.heap.size<W2.heap.size by rw [hW2]; simp);have hj2:JRep W2 (fun b=>b<w1.heap.size) j v:=(HJ.out.under ((HB1.out.trans (hb2.mono HB1.out.size)).mono HBB.out)).imp (fun b _ h=>Nat.lt_of_lt_of_le h (Nat.le_trans HBB.out HB1.out.size));have hib:IsB W2 w1.heap.size 68 w1.heap.size []:=by rw [hW2]; exact IsB.new _ _ (Nat.le_refl _)
  have C2:=zY (wval_any 6 j v w1.heap.size w1.heap.size [] W2 W2 HR.out.symm hj2 ⟨hib,BK.refl _ _ _⟩ (by have:=HL.out; simp; omega));clear hW2 hb2 hj2 hib C;have HWP:=zY (show w.heap.size≤w1.heap.size from Nat.le_trans HB0.out.size HB1.out.size);generalize hp:w1.heap.size=p at *;go_wp2_with (refine qad (x:=.tmp 1) (cs:=jvCells v) HK2.out rfl rfl rfl hu rfl qcn ?_);refine qaa C2.out ?_;rintro e w3 ⟨rfl,c',hout,hw3⟩;have HO:=zY (Out.end_ hout);have HB3:=zY hw3.1;have HF:=zY (show Below w.heap.size w w3 from HB0.out.trans ((HB2.out.mono HB0.out.size).trans (hw3.2.below.mono HWP.out)));clear hout hw3;go_wp2_with fail;refine qaa (bld_len _ _ _ _ HB3.out) ?_;rintro e w4 ⟨rfl,rfl⟩
  by_cases hlong:2000<c'.length
  ·have hc:(2000:Int)<(c'.length:Int):=by omega
   have HE:=zY (show wrE j=([],4) by rw [wrE,if_neg (by rw [← HR.out]; decide),if_pos (HO.out.2 hlong)]);clear hlong;go_wp2_with fail;go_ret2;exact ⟨by rw [HE.out]; rfl,HF.out⟩
  ·have hc:¬ (2000:Int)<(c'.length:Int):=by omega
   have h1:=HO.out.1 (by omega);have HE:=zY (show wrE j=(writeV j,0) by rw [wrE,if_neg (by rw [← HR.out]; decide),if_neg (by omega)]);have HC:=zY h1.1;have HNE:=zY (show c'≠[] by rw [h1.1]; exact writeV_ne j HR.out.symm);clear hlong h1;go_wp2_with fail;refine qaa (qcC _ _ c' _ HB3.out HNE.out) ?_;rintro e w5 ⟨rfl,hb5⟩;have HB5:=zY hb5;clear hb5;go_wp2_with fail;go_ret2;exact ⟨by rw [HE.out,HC.out]; rfl,HF.out.trans (HB5.out.mono HWP.out)⟩
end Go.Proofs.YtlkikjeccamheaaGreatDoor.Js
namespace Go.Proofs.YtlkikjeccamheaaGreatDoor.Js
set_option linter.unusedSimpArgs false
set_option linter.unusedVariables false
set_option maxRecDepth 100000
set_option maxHeartbeats 4000000
def b64A:Bs:=[65,66,67,68,69,70,71,72,73,74,75,76,77,78,79,80,81,82,83,84,85,86,87,88,89,90,97,98,99,100,101,102,103,104,105,106,107,108,109,110,111,112,113,114,115,116,117,118,119,120,121,122,48,49,50,51,52,53,54,55,56,57,45,95]
def ltr (k:Nat):UInt8:=b64A.getD k 0
def plainC (c:UInt8):Bool:=32≤c && c≤126 && c != 34 && c != 92
theorem qck {a:Nat} (ha:a<64):plainC (ltr a)=true:=by
 have key:∀ x:Fin 64,plainC (ltr x.1)=true:=by decide +kernel
 exact key ⟨a,ha⟩
def encS:Nat→Nat→Bs→Bs
 | n,w,[]=>if n=0 then [] else [ltr (w*2^(6 - n))]
 | n,w,c :: r=>if n+2<6 then ltr ((w*256+c.toNat)/2^(n+2)) :: encS (n+2) ((w*256+c.toNat)%2^(n+2)) r
  else ltr ((w*256+c.toNat)/2^(n+2)) :: ltr ((w*256+c.toNat)%2^(n+2)/2^(n - 4)) :: encS (n - 4) ((w*256+c.toNat)%2^(n+2)%2^(n - 4)) r
def enc (b:Bs):Bs:=encS 0 0 b
theorem qci {n:Nat} (h:n<6):n=0∨n=1∨n=2∨n=3∨n=4∨n=5:=by omega
theorem ltA {n w:Nat} (hn:n<6) (hw:w<2^n):w*2^(6 - n)<64:=by
 rcases qci hn with rfl | rfl | rfl | rfl | rfl | rfl <;> simp at hw ⊢ <;> omega
theorem qcA:∀ (l:Bs) (n w:Nat),n<6→w<2^n→(encS n w l).all plainC=true
 | [],n,w,hn,hw=>by
  unfold encS
  split
  ·rfl
  ·have h:w*2^(6 - n)<64:=by
    rcases qci hn with rfl | rfl | rfl | rfl | rfl | rfl <;> simp at hw ⊢ <;> omega
   simp [qck h]
 | c :: r,n,w,hn,hw=>by
  have hc:c.toNat<256:=c.toNat_lt
  have h1:(w*256+c.toNat)/2^(n+2)<64:=by
   rcases qci hn with rfl | rfl | rfl | rfl | rfl | rfl <;> simp at hw ⊢ <;> omega
  unfold encS
  split
  ·rename_i h2
   have h3:=qcA r (n+2) ((w*256+c.toNat)%2^(n+2)) (by omega) (Nat.mod_lt _ (Nat.pow_pos (by omega)));simp [qck h1,h3]
  ·rename_i h2
   have h4:(w*256+c.toNat)%2^(n+2)/2^(n - 4)<64:=by
    rcases qci hn with rfl | rfl | rfl | rfl | rfl | rfl <;> simp at hw ⊢ <;> omega
   have h3:=qcA r (n - 4) ((w*256+c.toNat)%2^(n+2)%2^(n - 4)) (by omega) (Nat.mod_lt _ (Nat.pow_pos (by omega)));simp [qck h1,qck h4,h3]
theorem enc_plain (b:Bs):(enc b).all plainC=true:=qcA b 0 0 (by omega) (by simp)
theorem qcT:∀ (l:Bs) (n w:Nat),n<6→(encS n w l).length≤2*l.length+1
 | [],n,w,hn=>by unfold encS; split <;> simp
 | c :: r,n,w,hn=>by
  unfold encS
  split
  ·have:=qcT r (n+2) ((w*256+c.toNat)%2^(n+2)) (by omega);simp;omega
  ·have:=qcT r (n - 4) ((w*256+c.toNat)%2^(n+2)%2^(n - 4)) (by omega);simp;omega
structure BD where
 dom:Bs
 num:Int
 keys:List (Bs × Bs)
def keyJ (k:Bs × Bs):JT:=.mk 5 0 [] [[99,114,118],[107,105,100],[107,116,121],[120]] [jtext [69,100,50,53,53,49,57],jtext k.1,jtext [79,75,80],jtext (enc k.2)]
def bundleJ (b:BD):JT:=.mk 5 0 [] [[100,111,109,97,105,110],[107,101,121,115],[110,117,109,98,101,114]] [jtext b.dom,.mk 4 0 [] [] (b.keys.map keyJ),jint b.num]
theorem qb8 {s:Bs} (h:s.all plainC=true):quote s=34 :: (s++[34]):=by
 unfold quote
 congr 1
 congr 1
 induction s with
 | nil=>rfl
 | cons c r ih =>
  rw [List.all_cons,Bool.and_eq_true] at h;rw [List.flatMap_cons,ih h.2]
  have hc:quoteC c=[c]:=by
   have h1:=h.1;unfold plainC at h1;simp only [Bool.and_eq_true,decide_eq_true_eq,bne_iff_ne,ne_eq] at h1;unfold quoteC;rw [if_neg (by have:=h1.1.1.1; rw [UInt8.le_iff_toNat_le] at this; rw [UInt8.lt_iff_toNat_lt]; omega),if_neg (fun h=>h.elim h1.1.2 h1.2)]
  rw [hc];rfl
theorem qdj {s:Bs} (h:s.all plainC=true):okT s=true:=by
 unfold okT;rw [List.all_eq_true] at h ⊢;intro c hc;have:=h c hc;unfold plainC at this;simp only [Bool.and_eq_true,decide_eq_true_eq] at this
 simpa using this.1.1.2
structure PlainB (b:BD):Prop where
 dom:b.dom.all plainC=true
 dlen:b.dom.length≤16
 n0:0≤b.num
 n1:b.num≤1099511627776
 kn:b.keys.length≤8
 kid:∀ k ∈ b.keys,k.1.all plainC=true∧k.1.length≤8
 x:∀ k ∈ b.keys,k.2.length≤32
theorem keyJ_right {k:Bs × Bs} (h:k.1.all plainC=true) (d:Nat) (hd:0<d):rightV d (keyJ k)=true:=by
 have h1:=qdj h;have h2:=qdj (enc_plain k.2);obtain ⟨e,rfl⟩:∃ e,d=e+1:=⟨d - 1,by omega⟩;unfold okT at h1 h2;simp [keyJ,jtext,rightV,rightsV,plainJ,okT,distinct];simp at h1 h2;exact ⟨h1,h2⟩
theorem qct {b:BD} (h:PlainB b):rightV 6 (bundleJ b)=true:=by
 have h1:=qdj h.dom
 have h2:rightsV 4 (b.keys.map keyJ)=true:=(qaS _ _).2 fun x hx=>by
  obtain ⟨k,hk,rfl⟩:=List.mem_map.1 hx;exact keyJ_right (h.kid k hk).1 4 (by omega)
 have h3:=h.n0;have h4:=h.n1;simp [bundleJ,jtext,jint,rightV,rightsV,plainJ,h1,h2,okT,distinct];unfold okT at h1;simp at h1;exact ⟨h1,by omega,by omega⟩
theorem bundleJ_small {b:BD} (h:PlainB b):smallJ (bundleJ b)=true:=by
 have h2:smallsJ (b.keys.map keyJ)=true:=(qbo _).2 fun x hx=>by
  obtain ⟨k,hk,rfl⟩:=List.mem_map.1 hx;simp [keyJ,jtext,smallJ,smallsJ]
 have:=h.kn;simp [bundleJ,jtext,jint,smallJ,smallsJ,h2];omega
end Go.Proofs.YtlkikjeccamheaaGreatDoor.Js
namespace Go.Proofs.YtlkikjeccamheaaGreatDoor.Js
set_option linter.unusedSimpArgs false
set_option linter.unusedVariables false
set_option maxRecDepth 100000
set_option maxHeartbeats 4000000
open Go.RowKit
theorem qav:(Tryz.prog.info? 44).map (·.size)=some 5:=by kernel_rfl
def flatV (k n:Int) (t:Bs):JV:=⟨k,n,t,none,0,0,none,0,0⟩
theorem qdx (s:Bs) (w:World):Calls Tryz.prog 18 #[.string (bs s)] w fun e w'=>e=.returned (.agg (jvCells (flatV 3 0 s)))∧Below w.heap.size w w':=by
 have hu:=Tryz.underlying44;obtain ⟨G,hG⟩:=eX (w.heap.size);obtain ⟨W0,hW0⟩:∃ W0,W0=w.alloc (.cells #[.int .i64 0,.int .i64 0,.string ⟨#[]⟩,.slice none 0 0,.slice none 0 0] 44):=⟨_,rfl⟩;have HB0:=zY (show Below w.heap.size w W0 by rw [hW0]; exact (Below.refl _ w).alloc (Nat.le_refl _) _);have HK:=zY (show Blk W0 w.heap.size 44 (jvCells (flatV 0 0 [])) by rw [hW0]; exact Blk.new _ _ _);have HW0:=zY hW0
 have HF:=zY (fun (u:World) (hw:Wrote w.heap.size W0 u)=>show Below w.heap.size w u by
  rw [hW0] at hw;exact qaN hw)
 clear hW0 hG;go_enter Tryz.func18,Tryz.ntmps18
 go_upto_region 1 with (fail)
 rw [← HW0.out];go_wp2_with (refine qae (x:=.tmp 2) (cells:=jvCells (flatV 3 0 s)) HK.out rfl rfl rfl rfl qav rfl (qai _) ?_; intro w9 hb9 hw9);have HB9:=zY hb9;have HF9:=zY (HF.out _ hw9);refine bodyPost_ret (qau (P:=Tryz.prog) rfl rfl HB9.out hu rfl qav) rfl ?_;exact ⟨rfl,HF9.out⟩
def exD:Bs:=[97,46,111,114,103]
def exB:BD:=⟨exD,3,[]⟩
theorem exD_size:((bs exD).size:Int)≤100000000:=by decide +kernel
theorem exD_dom:domB (bs exD).data.toList=true:=by decide +kernel
theorem may0_any (D:ByteArray) (hd:domB D.data.toList=true) (hs:(D.size:Int)≤100000000) (w:World):Calls Tryz.prog 15 #[.agg #[.string D,.int .i64 3,.slice none 0 0]] w fun e w'=>e=.returned (.bool true)∧Below w.heap.size w w':=by
 obtain ⟨W0,hW0⟩:=eX (w.alloc (.cells #[.string D,.int .i64 3,.slice none 0 0] 24));have HB0:=zY (show Below w.heap.size w W0 by rw [hW0]; exact (Below.refl _ w).alloc (Nat.le_refl _) _);have HK:=zY (show Blk W0 w.heap.size 24 #[.string D,.int .i64 3,.slice none 0 0] by rw [hW0]; exact Blk.new _ _ _);have HW0:=zY hW0;have C:=zY (domain_any D hs W0);rw [hd] at C;have a0:W0.cell? ⟨w.heap.size,0,none⟩=some (.string D):=HK.out.cell 0;clear hW0 hd hs;go_enter Tryz.func15,Tryz.ntmps15
 go_upto_region 1 with (fail)
 rw [← HW0.out];go_wp2_with fail;refine qaa C.out ?_;rintro e u1 ⟨rfl,hb1⟩;have HK1:=zY (HK.out.below hb1 HK.out.lt);have HB1:=zY (HB0.out.trans (hb1.mono HB0.out.size));have a1:u1.cell? ⟨w.heap.size,1,none⟩=some (.int .i64 3):=HK1.out.cell 1;have a2:u1.cell? ⟨w.heap.size,2,none⟩=some (.slice none 0 0):=HK1.out.cell 2;clear a0 hb1;have hmm:=@run_makeMap Tryz.prog
 go_upto_region 4 with (fail)
 have HB2:=zY (HB1.out.alloc (by have:=HB0.out.size; have:=HB1.out.size; omega) (.map #[] 0));obtain ⟨W2,hW2⟩:=eX (u1.alloc (.map #[] 0));rw [← hW2] at HB2
 have b2:W2.cell? ⟨w.heap.size,2,none⟩=some (.slice none 0 0):=by
  rw [hW2];exact (HK1.out.alloc _).cell 2
 rw [← hW2];clear hW2 a1 a2 hmm;go_wp2_with fail
 go_loopw [30] (fun x wr=>x=.int .i64 0∧wr=W2) (fun x _=>0)
 case atStart=>exact ⟨rfl,rfl⟩
 case round =>
  obtain ⟨rfl,rfl⟩:=hrel;go_wp2_with fail;go_ret;exact ⟨rfl,HB2.out⟩
theorem exB_small:smallJ (bundleJ exB)=true:=by decide +kernel
theorem exB_len:(writeV (bundleJ exB)).length≤1099511627776:=by decide +kernel
def RowAt (u:World) (t:TypeId) (n:Nat) (xs:List Value) (v:Value):Prop:=∃ g,v=.slice (some ⟨g,0,none⟩) n n∧Blk u g t xs.toArray
theorem RowAt.step {u u':World} {t:TypeId} {n:Nat} {xs:List Value} {v:Value} (h:RowAt u t n xs v) (hb:Below u.heap.size u u'):RowAt u' t n xs v:=by
 obtain ⟨g,h1,h2⟩:=h;exact ⟨g,h1,h2.below hb h2.lt⟩
theorem rep_step {u u':World} {j:JT} {v:Value} (h:∃ jv,v=.agg (jvCells jv)∧JRep u (fun b=>b<u.heap.size) j jv) (hb:Below u.heap.size u u'):∃ jv,v=.agg (jvCells jv)∧JRep u' (fun b=>b<u'.heap.size) j jv:=by
 obtain ⟨jv,h1,h2⟩:=h;exact ⟨jv,h1,(h2.under hb).imp fun b _ h=>Nat.lt_of_lt_of_le h hb.size⟩
theorem bundle_rep {u:World} {gn gk:Nat} {tn tk:TypeId} (b:BD) (kv:JV) (hn:Blk u gn tn [Value.string (bs [100,111,109,97,105,110]),.string (bs [107,101,121,115]),.string (bs [110,117,109,98,101,114])].toArray)
  (hk:Blk u gk tk (rowsV jvCells [flatV 3 0 b.dom,kv,flatV 2 b.num []]).toArray) (hj:JRep u (fun x=>x<u.heap.size) (.mk 4 0 [] [] (b.keys.map keyJ)) kv) :
  JRep u (fun x=>x<u.heap.size) (bundleJ b) ⟨5,0,[],some ⟨gn,0,none⟩,3,3,some ⟨gk,0,none⟩,3,3⟩:=by
 have h1:Rd u u.heap.size (some ⟨gn,0,none⟩) (rowsV sCell [[100,111,109,97,105,110],[107,101,121,115],[110,117,109,98,101,114]]):=Rd.of_blk hn hn.lt;have h2:Rd u u.heap.size (some ⟨gk,0,none⟩) (rowsV jvCells [flatV 3 0 b.dom,kv,flatV 2 b.num []]):=Rd.of_blk hk hk.lt;refine JRep.mk (⟨5,0,[],some ⟨gn,0,none⟩,3,3,some ⟨gk,0,none⟩,3,3⟩:JV) [[100,111,109,97,105,110],[107,101,121,115],[110,117,109,98,101,114]] [jtext b.dom,.mk 4 0 [] [] (b.keys.map keyJ),jint b.num] [flatV 3 0 b.dom,kv,flatV 2 b.num []] rfl (Nat.le_refl _) (RdS.of_rd h1) rfl (Nat.le_refl _) rfl (RdS.of_rd h2) ?_;intro i h h'
 match i,h,h' with
 | 0,_,_=>exact JRep.flat _ _ _ _ _
 | 1,_,_=>exact hj
 | 2,_,_=>exact JRep.flat _ _ _ _ _
 | n+3,h,_=>exact absurd h (by simp)
theorem exB_right:(wrE (bundleJ exB))=([123,34,100,111,109,97,105,110,34,58,34,97,46,111,114,103,34,44,34,107,101,121,115,34,58,91,93,44,34,110,117,109,98,101,114,34,58,51,125],0):=by decide +kernel
theorem write0_any (w:World):Calls Tryz.prog 6 #[.agg #[.string (bs exD),.int .i64 3,.slice none 0 0]] w fun e w'=>e=.returned (.tuple #[.string (bs (wrE (bundleJ exB)).1),.int .i64 0])∧Below w.heap.size w w':=by
 have hu:=Tryz.underlying44;have hub:=Tryz.underlying24;have hbi:(Tryz.prog.info? 24).map (·.size)=some 3:=by kernel_rfl
 obtain ⟨W0,hW0⟩:=eX (w.alloc (.cells #[.string (bs exD),.int .i64 3,.slice none 0 0] 24));have HB0:=zY (show Below w.heap.size w W0 by rw [hW0]; exact (Below.refl _ w).alloc (Nat.le_refl _) _);have HK:=zY (show Blk W0 w.heap.size 24 #[.string (bs exD),.int .i64 3,.slice none 0 0] by rw [hW0]; exact Blk.new _ _ _);have HW0:=zY hW0;have C:=zY (may0_any (bs exD) exD_dom exD_size W0);clear hW0;go_enter Tryz.func6,Tryz.ntmps6
 go_upto_region 1 with (fail)
 rw [← HW0.out];go_wp2_with (refine qad (x:=.tmp 1) (cs:=#[.string (bs exD),.int .i64 3,.slice none 0 0]) HK.out rfl rfl rfl hub rfl hbi ?_);refine qaa C.out ?_;rintro e u1 ⟨rfl,hb1⟩;have HK1:=zY (HK.out.below hb1 HK.out.lt);have HB1:=zY (HB0.out.trans (hb1.mono HB0.out.size));have HS1:=zY (show w.heap.size<u1.heap.size from HK1.out.lt);clear hb1
 go_upto_region 4 with (first | (refine qae (cells:=jvCells (flatV 4 0 [])) (Blk.new _ _ _) rfl rfl rfl rfl qav rfl (qai _) ?_; intro w9 hb9 hw9))
 have HB9:=zY hb9;have HF9:=zY (HB1.out.trans ((qaN hw9).mono HB1.out.size));have HK9:=zY (HK1.out.below (qaN hw9) HK1.out.lt);have hs9:u1.heap.size<w9.heap.size:=hb9.lt;have HS9:=zY hs9;have b2:w9.cell? ⟨w.heap.size,2,none⟩=some (.slice none 0 0):=HK9.out.cell 2;clear hb9 hw9 hs9;go_wp2_with fail
 go_loopw [14] (fun x wr=>x=.int .i64 0∧wr=w9) (fun x _=>0)
 case atStart=>exact ⟨rfl,rfl⟩
 case round =>
  obtain ⟨rfl,rfl⟩:=hrel;have b0:wr.cell? ⟨w.heap.size,0,none⟩=some (.string (bs exD)):=HK9.out.cell 0;have b1:wr.cell? ⟨w.heap.size,1,none⟩=some (.int .i64 3):=HK9.out.cell 1;have HTX:=zY (qdx exD);have HWR:=zY (fun (u:World) (v:JV) (h:JRep u (fun b=>b<u.heap.size) (bundleJ exB) v)=>jwrite_any (bundleJ exB) v u.heap.size u exB_small h (Nat.le_refl _) exB_len);have HR:=zY exB_right;have HKJ:=zY HB9.out;go_wp2_with fail;have HC0:Below wr.heap.size wr wr.drew:=(Below.refl _ _).drew
  refine qap (fun u=>Below wr.heap.size wr u) (fun | false=>(fun _=>True) | true=>(fun _=>True)) (fun | false,_=>false | true,_=>false)
   [fun z u=>(fun v u=>RowAt u 9 3 [.string (bs [100,111,109,97,105,110]),.string (bs [107,101,121,115]),.string (bs [110,117,109,98,101,114])] v) (z 0) u,
    fun z _=>z 1=.pointer (some ⟨w.heap.size,0,none⟩),
    fun z _=>z 2=.string (bs exD),
    fun z _=>z 3=.agg (jvCells (flatV 3 0 exD)),
    fun z _=>z 4=.agg (jvCells (flatV 4 0 [])),
    fun z _=>z 5=.pointer (some ⟨w.heap.size,1,none⟩),
    fun z _=>z 6=.int .i64 3,
    fun z _=>z 7=.agg (jvCells (flatV 2 3 [])),
    fun z u=>(fun v u=>RowAt u 44 3 (rowsV jvCells [flatV 3 0 exD,flatV 4 0 [],flatV 2 3 []]) v) (z 8) u,
    fun z u=>(fun v u=>∃ jv,v=.agg (jvCells jv)∧JRep u (fun b=>b<u.heap.size) (bundleJ exB) jv) (z 9) u,
    fun z _=>z 10=.tuple #[.string (bs (wrE (bundleJ exB)).1),.int .i64 (wrE (bundleJ exB)).2],
    fun z _=>z 11=.string (bs (wrE (bundleJ exB)).1),
    fun z _=>z 12=.int .i64 (wrE (bundleJ exB)).2,
    fun z _=>z 13=.string (bs (wrE (bundleJ exB)).1),
    fun z _=>z 14=.int .i64 (wrE (bundleJ exB)).2]
   [fun u u'=>Below u.heap.size u u',Eq,Eq,fun u u'=>Below u.heap.size u u',Eq,Eq,Eq,Eq,fun u u'=>Below u.heap.size u u',Eq,fun u u'=>Below u.heap.size u u',Eq,Eq,Eq,Eq]
   (fun _ _=>false) [(0,some 26),(1,some 27),(2,some 28),(3,some 29),(4,some 30),(5,some 31),(6,some 32),(7,some 33),(8,some 34),(9,some 35),(10,some 36),(11,some 37),(12,some 38),(13,some 2),(14,some 3)] (by kernel_rfl) (by kernel_rfl) rfl (fun _=>rfl) ?_ ?_ ?_ ?_ ?_ ?_
  ·exact HC0
  ·intro m; cases m; exact trivial; exact trivial
  ·intro m; cases m
   ·refine ⟨?_,?_,?_,?_,?_,?_,?_,?_,?_,?_,?_,?_,?_,?_,?_,trivial⟩ <;> first | exact .inr fun _ _ h h0=>h▸h0 | exact .inr fun _ _ _ h=>h
   ·refine ⟨?_,?_,?_,?_,?_,?_,?_,?_,?_,?_,?_,?_,?_,?_,?_,trivial⟩ <;> first | exact .inr fun _ _ h h0=>h▸h0 | exact .inr fun _ _ _ h=>h
  ·refine ⟨⟨.inl rfl,?_,?_,?_,?_,?_,?_,?_,.inr (.inr (.inr (fun _ _ _ _ h h0=>h0.step h))),?_,?_,?_,?_,?_,?_,trivial⟩,⟨?_,.inl rfl,?_,?_,?_,?_,?_,?_,?_,?_,?_,?_,?_,?_,?_,trivial⟩,⟨?_,?_,.inl rfl,?_,?_,?_,?_,?_,?_,?_,?_,?_,?_,?_,?_,trivial⟩,⟨.inr (.inr (.inr (fun _ _ _ _ h h0=>h0.step h))),?_,?_,.inl rfl,?_,?_,?_,?_,?_,?_,?_,?_,?_,?_,?_,trivial⟩,⟨?_,?_,?_,?_,.inl rfl,?_,?_,?_,?_,?_,?_,?_,?_,?_,?_,trivial⟩,⟨?_,?_,?_,?_,?_,.inl rfl,?_,?_,?_,?_,?_,?_,?_,?_,?_,trivial⟩,⟨?_,?_,?_,?_,?_,?_,.inl rfl,?_,?_,?_,?_,?_,?_,?_,?_,trivial⟩,⟨?_,?_,?_,?_,?_,?_,?_,.inl rfl,?_,?_,?_,?_,?_,?_,?_,trivial⟩,⟨.inr (.inr (.inr (fun _ _ _ _ h h0=>h0.step h))),?_,?_,?_,?_,?_,?_,?_,.inl rfl,?_,?_,?_,?_,?_,?_,trivial⟩,⟨?_,?_,?_,?_,?_,?_,?_,?_,?_,.inl rfl,?_,?_,?_,?_,?_,trivial⟩,⟨.inr (.inr (.inr (fun _ _ _ _ h h0=>h0.step h))),?_,?_,?_,?_,?_,?_,?_,.inr (.inr (.inr (fun _ _ _ _ h h0=>h0.step h))),.inr (.inr (.inr (fun _ _ _ _ h h0=>rep_step h0 h))),.inl rfl,?_,?_,?_,?_,trivial⟩,⟨?_,?_,?_,?_,?_,?_,?_,?_,?_,?_,?_,.inl rfl,?_,?_,?_,trivial⟩,⟨?_,?_,?_,?_,?_,?_,?_,?_,?_,?_,?_,?_,.inl rfl,?_,?_,trivial⟩,⟨?_,?_,?_,?_,?_,?_,?_,?_,?_,?_,?_,?_,?_,.inl rfl,?_,trivial⟩,⟨?_,?_,?_,?_,?_,?_,?_,?_,?_,?_,?_,?_,?_,?_,.inl rfl,trivial⟩,trivial⟩ <;> first | exact .inr (.inr (.inl rfl)) | exact .inr (.inr (.inr fun _ _ _ _ _ h=>h)) | exact .inr (.inr (.inr fun _ _ _ _ h h0=>by cases h; exact h0))
  ·refine ⟨?_,?_,?_,?_,?_,?_,?_,?_,?_,?_,?_,?_,?_,?_,?_,trivial⟩
   ·refine qab [] (fun _=>rfl) rfl ?_;intro w1 vals hC1 hi0 hf E hE;clear hi0;clear hf;simp only [sP] at hE ⊢;go_wp2;exact .mk (hE _ _ ⟨_,rfl,Blk.new _ _ _⟩ (hC1.alloc hC1.size _) ((Below.refl _ _).alloc (Nat.le_refl _) _))
   ·refine qab [] (fun _=>rfl) rfl ?_;intro w1 vals hC1 hi0 hf E hE;clear hi0;clear hf;simp only [sP] at hE ⊢;go_wp2;exact .mk (hE _ _ rfl hC1 rfl)
   ·refine qab [(1,some 27)] (fun _=>rfl) rfl ?_;intro w1 vals hC1 hi0 hf E hE;clear hi0;have f1:vals 1=_:=hf 1 rfl
    try dsimp only at f1
    clear hf;simp only [sP,f1] at hE ⊢;clear f1;have d0:=(HK9.out.below hC1 HK9.out.lt).cell 0;simp only [List.getElem?_toArray,List.getElem?_cons_zero] at d0;go_wp2;exact .mk (hE _ _ rfl hC1 rfl)
   ·refine qab [(2,some 28)] (fun _=>rfl) rfl ?_;intro w1 vals hC1 hi0 hf E hE;clear hi0;have f2:vals 2=_:=hf 2 rfl
    try dsimp only at f2
    clear hf;simp only [sP,f2] at hE ⊢;clear f2;go_wp2_with fail;refine qaa (HTX.out _) ?_;rintro e w2 ⟨rfl,hb2⟩;go_wp2_with fail;exact .mk (hE _ _ rfl (hC1.trans (hb2.mono hC1.size)) hb2)
   ·refine qab [] (fun _=>rfl) rfl ?_;intro w1 vals hC1 hi0 hf E hE;clear hi0;clear hf;simp only [sP] at hE ⊢;refine qad (cs:=jvCells (flatV 4 0 [])) (HKJ.out.below hC1 HKJ.out.lt) rfl rfl rfl hu rfl qav ?_;go_wp2_with fail;exact .mk (hE _ _ rfl hC1 rfl)
   ·refine qab [] (fun _=>rfl) rfl ?_;intro w1 vals hC1 hi0 hf E hE;clear hi0;clear hf;simp only [sP] at hE ⊢;go_wp2;exact .mk (hE _ _ rfl hC1 rfl)
   ·refine qab [(5,some 31)] (fun _=>rfl) rfl ?_;intro w1 vals hC1 hi0 hf E hE;clear hi0;have f5:vals 5=_:=hf 5 rfl
    try dsimp only at f5
    clear hf;simp only [sP,f5] at hE ⊢;clear f5;have d0:=(HK9.out.below hC1 HK9.out.lt).cell 1;simp only [List.getElem?_toArray,List.getElem?_cons_zero,List.getElem?_cons_succ] at d0;go_wp2;exact .mk (hE _ _ rfl hC1 rfl)
   ·refine qab [(6,some 32)] (fun _=>rfl) rfl ?_;intro w1 vals hC1 hi0 hf E hE;clear hi0;have f6:vals 6=_:=hf 6 rfl
    try dsimp only at f6
    clear hf;simp only [sP,f6] at hE ⊢;clear f6;go_wp2;exact .mk (hE _ _ rfl hC1 rfl)
   ·refine qab [(3,some 29),(4,some 30),(7,some 33)] (fun _=>rfl) rfl ?_;intro w1 vals hC1 hi0 hf E hE;clear hi0;have f3:vals 3=_:=hf 3 rfl;have f4:vals 4=_:=hf 4 rfl;have f7:vals 7=_:=hf 7 rfl
    try dsimp only at f3 f4 f7
    clear hf;simp only [sP,f3,f4,f7] at hE ⊢;clear f3 f4 f7;unfold jvCells flatV;go_wp2;exact .mk (hE _ _ ⟨_,rfl,Blk.new _ _ _⟩ (hC1.alloc hC1.size _) ((Below.refl _ _).alloc (Nat.le_refl _) _))
   ·refine qab [(0,some 26),(8,some 34)] (fun _=>rfl) rfl ?_;intro w1 vals hC1 hi0 hf E hE;clear hi0;have f0:(fun v u=>RowAt u 9 3 [.string (bs [100,111,109,97,105,110]),.string (bs [107,101,121,115]),.string (bs [110,117,109,98,101,114])] v) (vals 0) w1:=hf 0 rfl;have f8:(fun v u=>RowAt u 44 3 (rowsV jvCells [flatV 3 0 exD,flatV 4 0 [],flatV 2 3 []]) v) (vals 8) w1:=hf 8 rfl
    try dsimp only at f0 f8
    clear hf;obtain ⟨g0,hx0,hg0⟩:=f0;obtain ⟨g8,hx8,hg8⟩:=f8;simp only [sP,hx0,hx8] at hE ⊢;clear hx0 hx8;go_wp2;exact .mk (hE _ _ ⟨_,rfl,bundle_rep exB (flatV 4 0 []) hg0 hg8 (JRep.flat _ _ _ _ _)⟩ hC1 rfl)
   ·refine qab [(9,some 35),(3,some 29)] (fun _=>rfl) rfl ?_;intro w1 vals hC1 hi0 hf E hE;clear hi0;have f3:vals 3=_:=hf 3 rfl;have f9:(fun v u=>∃ jv,v=.agg (jvCells jv)∧JRep u (fun b=>b<u.heap.size) (bundleJ exB) jv) (vals 9) w1:=hf 9 rfl
    try dsimp only at f3 f9
    clear hf;obtain ⟨jv,hx9,hj9⟩:=f9;simp only [sP,f3,hx9] at hE ⊢;clear f3;clear hx9;go_wp2_with fail;refine qaa (HWR.out _ _ hj9) ?_;rintro e w2 ⟨rfl,hb2⟩;go_wp2_with fail;exact .mk (hE _ _ rfl (hC1.trans (hb2.mono hC1.size)) hb2)
   ·refine qab [(10,some 36)] (fun _=>rfl) rfl ?_;intro w1 vals hC1 hi0 hf E hE;clear hi0;have f10:vals 10=_:=hf 10 rfl
    try dsimp only at f10
    clear hf;simp only [sP,f10] at hE ⊢;clear f10;go_wp2;exact .mk (hE _ _ rfl hC1 rfl)
   ·refine qab [(10,some 36)] (fun _=>rfl) rfl ?_;intro w1 vals hC1 hi0 hf E hE;clear hi0;have f10:vals 10=_:=hf 10 rfl
    try dsimp only at f10
    clear hf;simp only [sP,f10] at hE ⊢;clear f10;go_wp2;exact .mk (hE _ _ rfl hC1 rfl)
   ·refine qab [(11,some 37),(10,some 36),(0,some 26),(1,some 27),(2,some 28),(3,some 29),(4,some 30),(5,some 31),(6,some 32),(7,some 33),(8,some 34),(9,some 35),(10,some 36),(11,some 37),(12,some 38)] (fun _=>rfl) rfl ?_;intro w1 vals hC1 hi0 hf E hE;clear hi0;have f0:(fun v u=>RowAt u 9 3 [.string (bs [100,111,109,97,105,110]),.string (bs [107,101,121,115]),.string (bs [110,117,109,98,101,114])] v) (vals 0) w1:=hf 0 rfl;have f1:vals 1=_:=hf 1 rfl;have f2:vals 2=_:=hf 2 rfl;have f3:vals 3=_:=hf 3 rfl;have f4:vals 4=_:=hf 4 rfl;have f5:vals 5=_:=hf 5 rfl;have f6:vals 6=_:=hf 6 rfl;have f7:vals 7=_:=hf 7 rfl;have f8:(fun v u=>RowAt u 44 3 (rowsV jvCells [flatV 3 0 exD,flatV 4 0 [],flatV 2 3 []]) v) (vals 8) w1:=hf 8 rfl;have f9:(fun v u=>∃ jv,v=.agg (jvCells jv)∧JRep u (fun b=>b<u.heap.size) (bundleJ exB) jv) (vals 9) w1:=hf 9 rfl;have f10:vals 10=_:=hf 10 rfl;have f11:vals 11=_:=hf 11 rfl;have f12:vals 12=_:=hf 12 rfl
    try dsimp only at f0 f1 f2 f3 f4 f5 f6 f7 f8 f9 f10 f11 f12
    clear hf;simp only [sP,f1,f2,f3,f4,f5,f6,f7,f10,f11,f12] at hE ⊢;clear f1 f2 f3 f4 f5 f6 f7 f10 f11 f12;go_wp2;exact .mk (hE _ _ rfl hC1 rfl)
   ·refine qab [(12,some 38),(13,some 2),(0,some 26),(1,some 27),(2,some 28),(3,some 29),(4,some 30),(5,some 31),(6,some 32),(7,some 33),(8,some 34),(9,some 35),(10,some 36),(11,some 37),(12,some 38),(13,some 2)] (fun _=>rfl) rfl ?_;intro w1 vals hC1 hi0 hf E hE;clear hi0;have f0:(fun v u=>RowAt u 9 3 [.string (bs [100,111,109,97,105,110]),.string (bs [107,101,121,115]),.string (bs [110,117,109,98,101,114])] v) (vals 0) w1:=hf 0 rfl;have f1:vals 1=_:=hf 1 rfl;have f2:vals 2=_:=hf 2 rfl;have f3:vals 3=_:=hf 3 rfl;have f4:vals 4=_:=hf 4 rfl;have f5:vals 5=_:=hf 5 rfl;have f6:vals 6=_:=hf 6 rfl;have f7:vals 7=_:=hf 7 rfl;have f8:(fun v u=>RowAt u 44 3 (rowsV jvCells [flatV 3 0 exD,flatV 4 0 [],flatV 2 3 []]) v) (vals 8) w1:=hf 8 rfl;have f9:(fun v u=>∃ jv,v=.agg (jvCells jv)∧JRep u (fun b=>b<u.heap.size) (bundleJ exB) jv) (vals 9) w1:=hf 9 rfl;have f10:vals 10=_:=hf 10 rfl;have f11:vals 11=_:=hf 11 rfl;have f12:vals 12=_:=hf 12 rfl;have f13:vals 13=_:=hf 13 rfl
    try dsimp only at f0 f1 f2 f3 f4 f5 f6 f7 f8 f9 f10 f11 f12 f13
    clear hf;simp only [sP,f1,f2,f3,f4,f5,f6,f7,f10,f11,f12,f13] at hE ⊢;clear f1 f2 f3 f4 f5 f6 f7 f10 f11 f12 f13;go_wp2;exact .mk (hE _ _ rfl hC1 rfl)
  intro w1 vals hC1 hf;have f0:(fun v u=>RowAt u 9 3 [.string (bs [100,111,109,97,105,110]),.string (bs [107,101,121,115]),.string (bs [110,117,109,98,101,114])] v) (vals 0) w1:=hf 0 (by decide) rfl;have f1:vals 1=_:=hf 1 (by decide) rfl;have f2:vals 2=_:=hf 2 (by decide) rfl;have f3:vals 3=_:=hf 3 (by decide) rfl;have f4:vals 4=_:=hf 4 (by decide) rfl;have f5:vals 5=_:=hf 5 (by decide) rfl;have f6:vals 6=_:=hf 6 (by decide) rfl;have f7:vals 7=_:=hf 7 (by decide) rfl;have f8:(fun v u=>RowAt u 44 3 (rowsV jvCells [flatV 3 0 exD,flatV 4 0 [],flatV 2 3 []]) v) (vals 8) w1:=hf 8 (by decide) rfl;have f9:(fun v u=>∃ jv,v=.agg (jvCells jv)∧JRep u (fun b=>b<u.heap.size) (bundleJ exB) jv) (vals 9) w1:=hf 9 (by decide) rfl;have f10:vals 10=_:=hf 10 (by decide) rfl;have f11:vals 11=_:=hf 11 (by decide) rfl;have f12:vals 12=_:=hf 12 (by decide) rfl;have f13:vals 13=_:=hf 13 (by decide) rfl;have f14:vals 14=_:=hf 14 (by decide) rfl
  try dsimp only at f0 f1 f2 f3 f4 f5 f6 f7 f8 f9 f10 f11 f12 f13 f14
  clear hf;simp only [sP,f1,f2,f3,f4,f5,f6,f7,f10,f11,f12,f13,f14];clear f1 f2 f3 f4 f5 f6 f7 f10 f11 f12 f13 f14;generalize vals 0=x0 at *;generalize vals 8=x8 at *;generalize vals 9=x9 at *;have HC9:=zY hC1;rw [HR.out];go_wp2_with fail;go_ret2;exact ⟨rfl,HF9.out.trans (HC9.out.mono HF9.out.size)⟩
theorem jlives_any (w:World):Calls Tryz.prog 8 #[] w fun e w'=>e=.returned (.bool true)∧Below w.heap.size w w':=by
 have C:=zY (show Calls Tryz.prog 6 #[.agg #[.string ⟨#[97,46,111,114,103]⟩,.int .i64 3,.slice none 0 0]] w fun e w'=>e=.returned (.tuple #[.string ⟨#[123,34,100,111,109,97,105,110,34,58,34,97,46,111,114,103,34,44,34,107,101,121,115,34,58,91,93,44,34,110,117,109,98,101,114,34,58,51,125]⟩,.int .i64 0])∧Below w.heap.size w w' from by
  refine (write0_any w).mono ?_;rintro e w' ⟨rfl,hb⟩;rw [exB_right];exact ⟨rfl,hb⟩)
 go_enter Tryz.func8,Tryz.ntmps8;go_wp2_with fail;refine qaa C.out ?_;rintro e w2 ⟨rfl,hb2⟩;have HB:=zY hb2;clear hb2;go_wp2_with fail;go_ret;exact ⟨rfl,HB.out⟩
def posP (l:List Bs) (s:Bs) (z:Int):Prop:=(z=-1∧s ∉ l)∨∃ i:Nat,z=(i:Int)∧∃ h:i<l.length,l[i]=s∧s ∉ l.take i
theorem pos_any (l:List Bs) (s:Bs) (A:Option Addr) (c B:Nat) (w:World) (hr:Rd w B A (rowsV sCell l)) (hl:l.length≤1099511627776) :
  Calls Tryz.prog 42 #[.slice A l.length c,.string (bs s)] w fun e w'=>(∃ k:Int,e=.returned (.int .i64 k)∧posP l s k)∧w'=w:=by
 obtain ⟨n,hn⟩:=eX (l.length);have HN:=zY hn;have HR:=zY hr;have HL:=zY (show (n:Int)≤1099511627776 by omega);rw [← hn];clear hr hl hn;go_enter Tryz.func42,Tryz.ntmps42;go_wp2_with fail
 go_loop [8] (fun x=>∃ i:Nat,i≤n∧x=.int .i64 (i:Int)∧s ∉ l.take i) (fun x=>n - (intOf x).toNat)
 case atStart=>exact ⟨0,by omega,rfl,by simp⟩
 case round =>
  obtain ⟨i,hi,rfl,hok⟩:=hrel;have HOK:=zY hok;clear hok
  by_cases hlt:i<n
  ·have hil:i<l.length:=by rw [← HN.out]; exact hlt
   have hlt':(i:Int)<(n:Int):=by omega
   obtain ⟨ad,hA,hadb,hcell⟩:=qaX (f:=sCell) (m:=1) (fun _=>rfl) (by decide) HR.out hil;subst hA;obtain ⟨X,hX⟩:=eX (l[i]);rw [← hX] at hcell
   have hc0:w.cell? (ad.add i)=some (.string (bs X)):=by
    have h:=hcell 0 _ rfl;rw [Nat.mul_one] at h;exact h
   have HST:=zY (show s≠X→s ∉ l.take (i+1) from fun h=>by
    rw [List.take_succ_eq_append_getElem hil,← hX,List.mem_append];rintro (h1 | h1)
    ·exact HOK.out h1
    ·exact h (by simpa using h1))
   have HPX:=zY (show X=s→posP l s (i:Int) from fun h=>.inr ⟨i,rfl,hil,hX.symm.trans h,HOK.out⟩);have HLT:=zY hlt;clear hX hcell hadb hil;have hns:=HL.out
   by_cases hq:s=X
   ·subst hq;have HP:=zY (HPX.out rfl);clear HST;go_wp2_with fail;go_ret;exact ⟨⟨_,rfl,HP.out⟩,rfl⟩
   ·have hq':((bs s).toList == (bs X).toList)=false:=by rw [qas,qas]; simpa using hq
    have HQ:=zY hq;clear hq;go_wp2_with fail;exact ⟨⟨i+1,HLT.out,by go_num,HST.out HQ.out⟩,by have:=HLT.out; simp [intOf]; omega⟩
  ·obtain rfl:i=n:=by omega
   have HALL:=zY (show s ∉ l by
    have:=HOK.out
    rwa [HN.out,List.take_length] at this)
   go_wp2_with fail;go_ret;exact ⟨⟨_,rfl,.inl ⟨rfl,HALL.out⟩⟩,rfl⟩
def zJT:JT:=.mk 0 0 [] [] []
def atJ:List Bs→List JT→Bs→JT
 | n :: ns,k :: ks,x=>if n=x then k else atJ ns ks x
 | _,_,_=>zJT
def getJ:JT→Bs→JT
 | .mk k _ _ ns ks,x=>if k=5 then atJ ns ks x else zJT
theorem atJ_no:∀ (ns:List Bs) (ks:List JT) (x:Bs),x ∉ ns→atJ ns ks x=zJT
 | [],_,_,_=>by cases ‹List JT› <;> rfl
 | n :: ns,[],x,_=>rfl
 | n :: ns,k :: ks,x,h=>by
  rw [atJ,if_neg (fun e=>h (by rw [← e]; exact List.mem_cons_self)),atJ_no ns ks x (fun e=>h (List.mem_cons_of_mem _ e))]
theorem atJ_hit:∀ (i:Nat) (ns:List Bs) (ks:List JT) (x:Bs) (h:i<ns.length),ns[i]=x→x ∉ ns.take i→atJ ns ks x=if h2:i<ks.length then ks[i] else zJT
 | 0,n :: ns,[],x,h,h1,h2=>rfl
 | 0,n :: ns,k :: ks,x,h,h1,h2=>by
  have e:n=x:=h1;rw [atJ,if_pos e];rfl
 | i+1,n :: ns,[],x,h,h1,h2=>rfl
 | i+1,n :: ns,k :: ks,x,h,h1,h2=>by
  rw [List.take_succ_cons] at h2;rw [atJ,if_neg (fun e=>h2 (by rw [e]; exact List.mem_cons_self)),atJ_hit i ns ks x (by simpa using h) h1 (fun e=>h2 (List.mem_cons_of_mem _ e))];simp
theorem zrep (u:World) (S:Nat→Prop):JRep u S zJT zJV:=JRep.flat u S 0 0 []
theorem get_any (j:JT) (v:JV) (x:Bs) (S:Nat→Prop) (w:World) (hj:JRep w S j v) (hn:v.nn≤1000000) (hk:v.kn≤1000000) :
  Calls Tryz.prog 21 #[.agg (jvCells v),.string (bs x)] w fun e w'=>∃ (v':JV) (b:Bool),e=.returned (.tuple #[.agg (jvCells v'),.bool b])∧JRep w' S (getJ j x) v'∧Below w.heap.size w w':=by
 have hu:=Tryz.underlying44;obtain ⟨ns,ks,kv,rfl,h1,h1c,hrn,h2,h2c,hkv,hrk,hkids⟩:=hj.inv;obtain ⟨W1,hW1⟩:=eX ((w.alloc (.cells (jvCells v) 44)).alloc (.cells (jvCells zJV) 44));have hb1:Below w.heap.size w W1:=by rw [hW1]; exact ((Below.refl _ w).alloc (Nat.le_refl _) _).alloc (by simp) _
 have HB1:=zY hb1;have HK1:=zY (show Blk W1 w.heap.size 44 (jvCells v) by rw [hW1]; exact (Blk.new _ _ _).alloc _);have HZ1:=zY (show Blk W1 (w.heap.size+1) 44 (jvCells zJV) by rw [hW1]; have:=Blk.new (w.alloc (.cells (jvCells v) 44)) 44 (jvCells zJV); simpa using this);have HW1:=zY hW1;have hrd1:Rd W1 W1.heap.size v.nA (rowsV sCell ns):=(hrn.rd (B:=w.heap.size) fun b hb _=>hb).below hb1 |>.mono hb1.size;have CP:=zY (pos_any ns x v.nA v.nc W1.heap.size W1 hrd1 (by omega));have HKN:=zY (fun (u:World) (h:Below w.heap.size w u)=>show ∀ (i:Nat) (hi:i<ks.length) (hi':i<kv.length),JRep u S ks[i] kv[i] from fun i hi hi'=>(hkids i hi hi').heap fun b hb _=>h.block b hb);have HRK:=zY (hrk.heap (w':=W1) fun b hb _=>hb1.block b hb);have HEQ:=zY (show getJ (.mk v.k v.n v.t ns ks) x=if v.k=5 then atJ ns ks x else zJT from rfl);obtain ⟨GJ,hGJ⟩:=eX (getJ (.mk v.k v.n v.t ns ks) x);rw [← hGJ] at HEQ ⊢;have a0:W1.cell? ⟨w.heap.size,0,none⟩=some (.int .i64 v.k):=HK1.out.cell 0;have a3:W1.cell? ⟨w.heap.size,3,none⟩=some (.slice v.nA v.nn v.nc):=HK1.out.cell 3;have a4:W1.cell? ⟨w.heap.size,4,none⟩=some (.slice v.kA v.kn v.kc):=HK1.out.cell 4;rw [← h1] at CP;obtain ⟨kn,hkn⟩:=eX (v.kn);obtain ⟨kk,hkk⟩:=eX (v.k);rw [← hkn] at a4 h2 hk;rw [← hkk] at a0 HEQ;have HKV:=zY hkv;have H2:=zY h2;have hk9:(kn:Int)≤1000000:=by omega
 have HR0:=zY (Below.refl W1.heap.size W1);clear hW1 hb1 hj hrn hrk hkids hGJ hrd1 hkn hkk h1 h1c h2c hn hk h2 hkv;go_enter Tryz.func21,Tryz.ntmps21
 go_upto_region 1 with (fail)
 rw [show ((w.alloc (.cells (jvCells v) 44)).alloc (.cells #[.int .i64 0,.int .i64 0,.string ⟨#[]⟩,.slice none 0 0,.slice none 0 0] 44))=W1 from HW1.out.symm];generalize Value.agg (jvCells v)=AV;go_wp2_with fail;refine qaa CP.out ?_;rintro e W1 ⟨⟨z,rfl,hz⟩,rfl⟩
 by_cases h5:kk=5
 ·have h5':(kk != 5)=false:=by simpa using h5
  have HG5:=zY (show GJ=atJ ns ks x by rw [HEQ.out,if_pos h5]);clear h5
  rcases hz with ⟨rfl,hno⟩ | ⟨i,rfl,hi,hni,hnt⟩
  ·have HGZ:=zY (show GJ=zJT by rw [HG5.out]; exact atJ_no ns ks x hno);clear hno a3 a4;go_wp2_with (refine qae (x:=.tmp 4) (cells:=jvCells zJV) HZ1.out rfl rfl rfl rfl qav rfl (qai _) ?_; intro w5 hb5 hw5);refine bodyPost_ret (qax (P:=Tryz.prog) rfl rfl hb5 hu rfl qav) rfl ?_;exact ⟨zJV,false,rfl,by rw [HGZ.out]; exact zrep _ _,hw5.below HB1.out (by omega) HB1.out.size⟩
  ·have HAT:=zY (atJ_hit i ns ks x hi hni hnt);clear hi hni hnt;have hi0:¬ (i:Int)<0:=by omega
   by_cases hik:i<kn
   ·have hikl:i<ks.length:=by rw [← H2.out]; exact hik
    have hikv:i<kv.length:=by rw [HKV.out]; exact hikl
    have hik':¬ (kn:Int)≤(i:Int):=by omega
    have hik2:(i:Int)<(kn:Int):=by omega
    obtain ⟨ad,hA,-,hcell⟩:=qaX (f:=jvCells) (m:=5) (fun _=>rfl) (by decide) (HRK.out.rd (B:=W1.heap.size) fun b hb _=>hb) hikv;have HGX:=zY (show GJ=ks[i] by rw [HG5.out,HAT.out,dif_pos hikl]);have HJR:=zY (fun (u:World) (h:Below w.heap.size w u)=>show JRep u S ks[i] kv[i] from HKN.out u h i hikl hikv);obtain ⟨Y,hY⟩:=eX (kv[i]);obtain ⟨KX,hKX⟩:=eX (ks[i]);rw [← hY] at hcell HJR;rw [← hKX] at HGX HJR;have HCL:=zY (show ∀ j u,(jvCells Y).toList[j]?=some u→W1.cell? ((ad.add (i*5)).add j)=some u from fun j u hu=>hcell j u (by simpa using hu));rw [hA] at a4;clear hcell hY hKX hikl hikv hik hA
    go_wp2_with (first
     | refine qaD (r:=(jvCells Y).toList) HCL.out rfl rfl rfl hu rfl qav ?_
     | (refine qae (x:=.tmp 4) (cells:=jvCells Y) HZ1.out rfl rfl rfl rfl qav rfl (qai _) ?_; intro w5 hb5 hw5))
    refine bodyPost_ret (qax (P:=Tryz.prog) rfl rfl hb5 hu rfl qav) rfl ?_;exact ⟨Y,true,rfl,by rw [HGX.out]; exact HJR.out w5 (hw5.below HB1.out (by omega) HB1.out.size),hw5.below HB1.out (by omega) HB1.out.size⟩
   ·have hik':(kn:Int)≤(i:Int):=by omega
    have HGZ:=zY (show GJ=zJT by rw [HG5.out,HAT.out,dif_neg (by have:=H2.out; omega)]);clear hik a3;go_wp2_with (refine qae (x:=.tmp 4) (cells:=jvCells zJV) HZ1.out rfl rfl rfl rfl qav rfl (qai _) ?_; intro w5 hb5 hw5);refine bodyPost_ret (qax (P:=Tryz.prog) rfl rfl hb5 hu rfl qav) rfl ?_;exact ⟨zJV,false,rfl,by rw [HGZ.out]; exact zrep _ _,hw5.below HB1.out (by omega) HB1.out.size⟩
 ·have h5':(kk != 5)=true:=by simpa using h5
  have HGZ:=zY (show GJ=zJT by rw [HEQ.out,if_neg h5]);clear h5 hz a3 a4;go_wp2_with (refine qae (x:=.tmp 4) (cells:=jvCells zJV) HZ1.out rfl rfl rfl rfl qav rfl (qai _) ?_; intro w5 hb5 hw5);refine bodyPost_ret (qax (P:=Tryz.prog) rfl rfl hb5 hu rfl qav) rfl ?_;exact ⟨zJV,false,rfl,by rw [HGZ.out]; exact zrep _ _,hw5.below HB1.out (by omega) HB1.out.size⟩
theorem slidx_any (s:ByteArray) (c:Int) (w:World) :
  Calls Tryz.prog 74 #[.string s,.int .u8 c] w fun e w'=>e=.returned (.int .i64 (Lib.indexByte s.data.toList c.toNat.toUInt8))∧w'=w:=by
 go_enter Tryz.func74,Tryz.ntmps74;go_wp2;rw [run_callFunc_extern Tryz.func105 (by kernel_rfl) (by kernel_rfl) (by kernel_rfl) (e:=Extern.BytealgIndexByte.indexByte) (by kernel_rfl),Lib.run_indexByteString];simp only [Result.andThen];rw [Oper.upon_value];go_wp2;go_ret;exact ⟨rfl,rfl⟩
theorem idxb_any (s:ByteArray) (c:Int) (w:World) :
  Calls Tryz.prog 43 #[.string s,.int .u8 c] w fun e w'=>e=.returned (.int .i64 (Lib.indexByte s.data.toList c.toNat.toUInt8))∧w'=w:=by
 have C:=zY (slidx_any s c w);go_enter Tryz.func43,Tryz.ntmps43;go_wp2_with fail;refine qaa C.out ?_;rintro e w1 ⟨rfl,rfl⟩;go_wp2_with fail;go_ret;exact ⟨rfl,rfl⟩
def rdCells (s:ByteArray) (a d e:Int):Array Value:=#[.string s,.int .i64 a,.int .i64 d,.int .i64 e]
def RD (w:World) (r:Nat) (s:ByteArray) (a:Nat) (d e:Int):Prop:=Blk w r 76 (rdCells s a d e)
def RG (r:Nat) (w w':World):Prop:=w.grownBy w' (some r)
theorem RG.refl (r:Nat) (w:World):RG r w w:=World.grownBy.refl _ _
theorem RG.trans {r:Nat} {a b c:World} (h:RG r a b) (h':RG r b c):RG r a c:=World.grownBy.trans h h'
theorem RG.wrote {r:Nat} {a b:World} (h:Wrote r a b):RG r a b:=h.grown
theorem RG.drewN {r:Nat} {a b:World} (h:RG r a b) (n:Nat):RG r a (b.drewN n):=grown_drewN h n
theorem RD.cells {w:World} {r:Nat} {s:ByteArray} {a:Nat} {d e:Int} (h:RD w r s a d e) :
  w.cell? ⟨r,0,none⟩=some (.string s)∧w.cell? ⟨r,1,none⟩=some (.int .i64 (a:Int))∧w.cell? ⟨r,2,none⟩=some (.int .i64 d)∧w.cell? ⟨r,3,none⟩=some (.int .i64 e) :=
 ⟨Blk.cell h 0,Blk.cell h 1,Blk.cell h 2,Blk.cell h 3⟩
theorem qbd (c:Int) (s:ByteArray) (r a:Nat) (d e:Int) (w:World) (h:RD w r s a d e) :
  Calls Tryz.prog 41 #[.pointer (some ⟨r,0,none⟩),.int .i64 c] w fun x w'=>x=.returned (.tuple #[])∧RD w' r s a d (if e=0 then c else e)∧RG r w w':=by
 obtain ⟨c0,c1,c2,c3⟩:=h.cells;have H:=zY h;clear h c0 c1 c2
 by_cases he:e=0
 ·subst he;go_enter Tryz.func41,Tryz.ntmps41;go_wp2_with (refine qag (x:=.tmp 12) (i:=3) H.out rfl rfl rfl rfl (by kernel_rfl) (by simp [rdCells]) rfl ?_; intro w1 hb1 hw1)
  go_end0
  exact ⟨rfl,hb1,.wrote hw1⟩
 ·have he':(e == 0)=false:=by simpa using he
  have HE:=zY he;clear he;go_enter Tryz.func41,Tryz.ntmps41;go_wp2_with fail
  go_end0
  first
   | exact ⟨rfl,H.out,RG.refl _ _⟩
   | exact ⟨rfl,by rw [if_neg HE.out]; exact H.out,RG.refl _ _⟩
def lookE (s:ByteArray) (a:Nat) (e:Int):UInt8:=if e=0 then look (s.data.toList.drop a) else 0
theorem look_at {s:ByteArray} {a:Nat} (h:a<s.size):look (s.data.toList.drop a)=s[a]:=by
 have h1:a<s.data.toList.length:=h;rw [List.drop_eq_getElem_cons h1];rfl
theorem look_off {s:ByteArray} {a:Nat} (h:¬ a<s.size):look (s.data.toList.drop a)=0:=by
 rw [List.drop_eq_nil_of_le (by show s.size≤a; omega)];rfl
theorem qbD (s:ByteArray) (r a:Nat) (d e:Int) (w:World) (h:RD w r s a d e) :
  Calls Tryz.prog 72 #[.pointer (some ⟨r,0,none⟩)] w fun x w'=>x=.returned (byteV (lookE s a e))∧RD w' r s a d e∧RG r w w':=by
 obtain ⟨c0,c1,c2,c3⟩:=h.cells;have H:=zY h;clear h c2
 by_cases he:e=0
 ·subst he
  by_cases hl:a<s.size
  ·have hl':(a:Int)<(s.size:Int):=by omega
   have HV:=zY (show byteV (lookE s a 0)=.int .u8 ((s[a].toNat:Nat):Int) by rw [lookE,if_pos rfl,look_at hl]; rfl);go_enter Tryz.func72,Tryz.ntmps72;go_wp2_with fail
   go_quiet (fail)
   go_wp2_with fail
   go_quiet (fail)
   go_wp2_with fail;go_ret;exact ⟨by rw [HV.out]; rfl,H.out,by first | exact (RG.refl r w).drewN _ | exact ((RG.refl r w).drewN _).drewN _⟩
  ·have hl':¬ (a:Int)<(s.size:Int):=by omega
   have HV:=zY (show byteV (lookE s a 0)=.int .u8 0 by rw [lookE,if_pos rfl,look_off hl]; rfl);go_enter Tryz.func72,Tryz.ntmps72;go_wp2_with fail
   go_quiet (fail)
   go_wp2_with fail;go_ret;exact ⟨by rw [HV.out]; rfl,H.out,by first | exact (RG.refl r w).drewN _ | exact ((RG.refl r w).drewN _).drewN _⟩
 ·have he':(e == 0)=false:=by simpa using he
  have he2:(e != 0)=true:=by simpa using he
  have HV:=zY (show byteV (lookE s a e)=.int .u8 0 by rw [lookE,if_neg he]; rfl);clear he;go_enter Tryz.func72,Tryz.ntmps72;go_wp2_with fail
  go_quiet (fail)
  go_wp2_with fail;go_ret;exact ⟨by rw [HV.out]; rfl,H.out,by first | exact (RG.refl r w).drewN _ | exact ((RG.refl r w).drewN _).drewN _⟩
theorem blank_idx (c:UInt8):decide (0≤Lib.indexByte [32,9,10,13] c)=isBl c:=by
 have key:∀ k:Fin 256,decide (0≤Lib.indexByte [32,9,10,13] (UInt8.ofNat k.1))=isBl (UInt8.ofNat k.1):=by decide +kernel
 have:=key ⟨c.toNat,c.toNat_lt⟩
 simpa using this
theorem skip_at {s:ByteArray} {a:Nat} (h:a<s.size):skip (s.data.toList.drop a)=if isBl s[a] then skip (s.data.toList.drop (a+1)) else s.data.toList.drop a:=by
 have h1:a<s.data.toList.length:=h;rw [List.drop_eq_getElem_cons h1,skip];rfl
theorem skip_off {s:ByteArray} {a:Nat} (h:¬ a<s.size):skip (s.data.toList.drop a)=s.data.toList.drop a:=by
 rw [List.drop_eq_nil_of_le (by show s.size≤a; omega)];rfl
theorem qbB (s:ByteArray) (hs:(s.size:Int)≤1000000) (r a:Nat) (d e:Int) (w:World) (h:RD w r s a d e) (ha:(a:Int)≤2000000) :
  Calls Tryz.prog 70 #[.pointer (some ⟨r,0,none⟩)] w fun x w'=>x=.returned (.tuple #[])∧∃ a',a≤a'∧(a'≤a∨a'≤s.size)∧s.data.toList.drop a'=skip (s.data.toList.drop a)∧RD w' r s a' d e∧RG r w w':=by
 have CI:=zY (fun (c:Int) (u:World)=>idxb_any ⟨#[32,9,10,13]⟩ c u);have H:=zY h;have HA:=zY ha;clear h ha;go_enter Tryz.func70,Tryz.ntmps70;go_wp2_with fail
 go_loopg [] (s.size - a) (fun gk wr=>∃ a',a≤a'∧(a'≤a∨a'≤s.size)∧s.size - a'=gk∧skip (s.data.toList.drop a')=skip (s.data.toList.drop a)∧RD wr r s a' d e∧RG r w wr)
 case atStart=>exact ⟨a,Nat.le_refl _,.inl (Nat.le_refl _),rfl,rfl,H.out,RG.refl _ _⟩
 case round =>
  obtain ⟨b,hb1,hb2,hb3,hb4,hrd,hrg⟩:=hrel;obtain ⟨c0,c1,c2,c3⟩:=hrd.cells;have HRD:=zY hrd;have HRG:=zY hrg;have H4:=zY hb4;clear hrd hrg hb4 c2 c3
  by_cases hl:b<s.size
  ·have hl':(b:Int)<(s.size:Int):=by omega
   obtain ⟨c,hc⟩:=eX (s[b]);have HSK:=zY (skip_at hl);rw [← hc] at HSK;obtain ⟨k,hk⟩:=eX (Lib.indexByte [32,9,10,13] c);have HK:=zY (show decide (0≤k)=isBl c by rw [hk,blank_idx])
   have HC:=zY (fun u=>show Calls Tryz.prog 43 #[.string ⟨#[32,9,10,13]⟩,.int .u8 ((s[b].toNat:Nat):Int)] u fun x w'=>x=.returned (.int .i64 k)∧w'=u by
    have h:=CI.out ((s[b].toNat:Nat):Int) u;rw [show ((s[b].toNat:Nat):Int).toNat.toUInt8=c by rw [hc]; simp] at h;rw [hk];exact h)
   clear hc hk;go_wp2_with fail
   go_quiet (refine Calls.quiet_of_same (HC.out _))
   have HD:=zY (show RD (wr.drewN nq) r s b d e∧RG r w (wr.drewN nq) from ⟨HRD.out,HRG.out.drewN nq⟩);have HBL:∀ q,isBl c=q→decide (0≤k)=q:=fun q h=>by rw [HK.out,h]
   cases hq:isBl c with
   | true =>
    have hk1:=HBL true hq;have hk2:0≤k:=of_decide_eq_true hk1;clear hk1 HBL;go_wp2_with (refine qag (x:=.tmp 31) (i:=1) HD.out.1 rfl rfl rfl rfl (by kernel_rfl) (by simp [rdCells]) rfl ?_; intro w5 hb5 hw5)
    go_roundg (gk - 1)
    case measure=>omega
    case rel=>exact ⟨b+1,by omega,.inr (by omega),by omega,by rw [← H4.out,HSK.out,hq]; rfl,hb5,HD.out.2.trans (.wrote hw5)⟩
   | false =>
    have hk1:=HBL false hq;have hk2:¬ 0≤k:=of_decide_eq_false hk1;clear hk1 HBL;go_wp2_with fail
    go_end0
    exact ⟨rfl,b,hb1,hb2,by rw [← H4.out,HSK.out,hq]; rfl,HD.out.1,HD.out.2⟩
  ·have hl':¬ (b:Int)<(s.size:Int):=by omega
   have HSK:=zY (skip_off hl);go_wp2_with fail
   go_quiet (fail)
   have HD:=zY (show RD (wr.drewN nq) r s b d e∧RG r w (wr.drewN nq) from ⟨HRD.out,HRG.out.drewN nq⟩);go_wp2_with fail
   go_end0
   exact ⟨rfl,b,hb1,hb2,by rw [← H4.out,HSK.out],HD.out.1,HD.out.2⟩
structure At (s:ByteArray) (a a':Nat) (rest:Bs):Prop where
 le:a≤a'
 top:a'≤a∨a'≤s.size
 rest:s.data.toList.drop a'=rest
theorem At.trans {s:ByteArray} {a b c:Nat} {x y:Bs} (h:At s a b x) (h':At s b c y):At s a c y :=
 ⟨Nat.le_trans h.le h'.le,by have:=h.top; have:=h'.top; have:=h.le; have:=h'.le; omega,h'.rest⟩
theorem At.big {s:ByteArray} {a a':Nat} {x:Bs} (h:At s a a' x) (hs:(s.size:Int)≤1000000) (ha:(a:Int)≤1500000):(a':Int)≤1500000:=by
 have:=h.top;omega
theorem lookE_skip {s:ByteArray} {a:Nat} {e:Int} {x:Bs} (h:s.data.toList.drop a=x):lookE s a e=if e=0 then look x else 0:=by rw [lookE,h]
theorem qcb {s:ByteArray} {a:Nat} (h:look (s.data.toList.drop a)≠0):a<s.size:=by
 refine Classical.byContradiction fun hn=>h ?_;exact look_off hn
theorem qbg (L:Bs) (a:Nat):L.drop (a+1)=(L.drop a).tail:=by simp
def signB (c:UInt8) (e:Int) (r:Bs):Bool:=decide (e=0) && (signP c r).1
def signR (c:UInt8) (e:Int) (r:Bs):Bs:=if signB c e r then (signP c r).2 else skip r
theorem sign_any (c:UInt8) (hc0:c≠0) (s:ByteArray) (hs:(s.size:Int)≤1000000) (r a:Nat) (d e:Int) (w:World) (h:RD w r s a d e) (ha:(a:Int)≤1500000) :
  Calls Tryz.prog 123 #[.pointer (some ⟨r,0,none⟩),byteV c] w fun x w'=>x=.returned (.bool (signB c e (s.data.toList.drop a)))∧∃ a',At s a a' (signR c e (s.data.toList.drop a))∧RD w' r s a' d e∧RG r w w':=by
 have HA:=zY ha;have HS:=zY hs;have CB:=zY (qbB s hs r a d e w h (by omega));obtain ⟨X,hX⟩:=eX (s.data.toList.drop a);rw [← hX] at CB ⊢;clear h ha hs hX;unfold byteV;go_enter Tryz.func123,Tryz.ntmps123;go_wp2_with fail;refine qaa CB.out ?_;rintro y w1 ⟨rfl,a1,h1,h2,h3,hrd,hrg⟩;have HAT:=zY (show At s a a1 (skip X) from ⟨h1,h2,h3⟩);have HRG:=zY hrg;have CL:=zY (qbD s r a1 d e w1 hrd);clear h1 h2 h3 hrd hrg;go_wp2_with fail;refine qaa CL.out ?_;rintro y w2 ⟨rfl,hrd,hrg⟩;have HRG2:=zY (HRG.out.trans hrg);have HRD2:=zY hrd;have hlk:lookE s a1 e=if e=0 then look (skip X) else 0:=lookE_skip HAT.out.rest
 by_cases hq:lookE s a1 e=c
 ·have he:e=0:=Classical.byContradiction fun hn=>hc0 (by rw [← hq,hlk,if_neg hn]);subst he;rw [if_pos rfl] at hlk;have hl:look (skip X)=c:=by rw [← hlk,hq]
  have HB:=zY (show signB c 0 X=true by simp [signB,signP,hl]);have HR:=zY (show signR c 0 X=skip (skip X).tail by rw [signR,if_pos HB.out,signP,if_pos hl]);have HLT:=zY (show a1<s.size from qcb (by rw [HAT.out.rest,hl]; exact hc0));have hbig:(a1:Int)≤1500000:=HAT.out.big HS.out HA.out;have CB2:=zY (fun u (h:RD u r s (a1+1) d 0)=>qbB s HS.out r (a1+1) d 0 u h (by omega));obtain ⟨c0,c1,-,-⟩:=HRD2.out.cells;rw [hq];unfold byteV;clear hq hl hlk hrd hrg;go_wp2_with (refine qag (x:=.tmp 17) (i:=1) HRD2.out rfl rfl rfl rfl (by kernel_rfl) (by simp [rdCells]) rfl ?_; intro w5 hb5 hw5);have HRD5:=zY (show RD w5 r s (a1+1) d 0 from hb5);have HRG5:=zY (HRG2.out.trans (.wrote hw5));clear hb5 hw5 c0 c1;refine qaa (CB2.out _ HRD5.out) ?_;rintro y w6 ⟨rfl,a2,h1,h2,h3,hrd,hrg⟩;have HRG6:=zY (HRG5.out.trans hrg);have HRD6:=zY hrd
  have HAT6:=zY (show At s a a2 (skip (skip X).tail) from by
   have k1:=HAT.out.le;have k2:=HAT.out.top;have k3:=HLT.out;refine ⟨by omega,.inr (by omega),?_⟩;rw [h3,qbg,HAT.out.rest])
  clear h1 h2 h3 hrd hrg hbig;go_wp2_with fail;go_ret;exact ⟨by rw [HB.out]; rfl,a2,by rw [HR.out]; exact HAT6.out,HRD6.out,HRG6.out⟩
 ·have hne:(((lookE s a1 e).toNat:Nat):Int)≠((c.toNat:Nat):Int):=fun h=>hq (UInt8.toNat.inj (by omega));have hbn:((((lookE s a1 e).toNat:Nat):Int) == ((c.toNat:Nat):Int))=false:=by simpa using hne
  have HB:=zY (show signB c e X=false by
   unfold signB
   by_cases he:e=0
   ·rw [if_pos he] at hlk;rw [hlk] at hq;simp [he,signP,hq]
   ·simp [he])
  have HR:=zY (show signR c e X=skip X by rw [signR,HB.out]; rfl);unfold byteV;generalize (((lookE s a1 e).toNat:Nat):Int)=z1 at *;generalize ((c.toNat:Nat):Int)=z2 at *;have hbn2:(z1 != z2)=true:=by simpa using hne
  clear hq hlk hrd hrg hne;go_wp2_with fail;go_ret;exact ⟨by rw [HB.out]; rfl,a1,by rw [HR.out]; exact HAT.out,HRD2.out,HRG2.out⟩
def mustE (c:UInt8) (e:Int) (r:Bs):Int:=if e=0 then (if (signP c r).1 then 0 else 13) else e
theorem must_any (c:UInt8) (hc0:c≠0) (s:ByteArray) (hs:(s.size:Int)≤1000000) (r a:Nat) (d e:Int) (w:World) (h:RD w r s a d e) (ha:(a:Int)≤1500000) :
  Calls Tryz.prog 124 #[.pointer (some ⟨r,0,none⟩),byteV c] w fun x w'=>x=.returned (.tuple #[])∧∃ a',At s a a' (signR c e (s.data.toList.drop a))∧RD w' r s a' d (mustE c e (s.data.toList.drop a))∧RG r w w':=by
 have C:=zY (sign_any c hc0 s hs r a d e w h ha);obtain ⟨X,hX⟩:=eX (s.data.toList.drop a);rw [← hX] at C ⊢;clear h ha hs hX hc0;unfold byteV at C ⊢;obtain ⟨b,hb⟩:=eX (signB c e X);rw [← hb] at C;have HB:=zY hb;clear hb;go_enter Tryz.func124,Tryz.ntmps124;go_wp2_with fail;refine qaa C.out ?_;rintro y w1 ⟨rfl,a1,hat,hrd,hrg⟩;have HAT:=zY hat;have HRD:=zY hrd;have HRG:=zY hrg;clear hat hrd hrg
 cases b with
 | true =>
  have HE:=zY (show mustE c e X=e by
   have:=HB.out;unfold signB at this;unfold mustE
   by_cases he:e=0
   ·simp [he] at this;simp [he,← this]
   ·simp [he])
  go_wp2_with fail
  go_end0
  exact ⟨rfl,a1,HAT.out,by rw [HE.out]; exact HRD.out,HRG.out⟩
 | false =>
  have HE:=zY (show mustE c e X=if e=0 then 13 else e by
   have:=HB.out;unfold signB at this;unfold mustE
   by_cases he:e=0
   ·simp [he] at this;simp [he,← this]
   ·simp [he])
  have CF:=zY (qbd 13 s r a1 d e w1 HRD.out);go_wp2_with fail;refine qaa CF.out ?_;rintro y w2 ⟨rfl,hrd,hrg⟩;have HRD2:=zY hrd;have HRG2:=zY (HRG.out.trans hrg);clear hrd hrg;go_wp2_with fail
  go_end0
  exact ⟨rfl,a1,HAT.out,by rw [HE.out]; exact HRD2.out,HRG2.out⟩
theorem qao:(Tryz.prog.info? 44).map (·.size)=some 5:=by kernel_rfl
theorem hasp_any (s p:ByteArray) (w:World) :
  Calls Tryz.prog 120 #[.string s,.string p] w fun e w'=>e=.returned (.bool (p.data.toList.isPrefixOf s.data.toList))∧w'=w:=by
 show Calls Tryz.prog 120 #[.string s,.string p] w fun e w'=>e=.returned (.bool (Lib.hasPrefix s.data.toList p.data.toList))∧w'=w;rw [← Lib.hasPrefix_of_take,← Lib.size_eq,← Lib.size_eq];go_enter Tryz.func120,Tryz.ntmps120;go_wp2
 ·rename_i h
  go_ret;refine ⟨?_,rfl⟩;show Ending.returned (Value.bool ((s.extract 0 p.size).toList == p.toList))=_;rw [Lib.extract_toList,Lib.toList_data];simp [h]
 ·rename_i h
  go_ret;refine ⟨?_,rfl⟩;show Ending.returned (Value.bool false)=_;simp [h]
theorem extract_rest (s:ByteArray) (a:Nat):(s.extract a s.size).data.toList=s.data.toList.drop a:=by
 rw [Lib.extract_data,List.take_of_length_le];rw [List.length_drop];exact Nat.le_refl _
theorem RG.wrote_new {r g:Nat} {a b c:World} (h:RG r a b) (hw:Wrote g b c) (hg:a.heap.size≤g):RG r a c :=
 ⟨hw.grown.os.trans h.os,hw.grown.tape.trans h.tape,hw.grown.output.trans h.output,Nat.le_trans h.size hw.grown.size,fun k hk hne=>(hw.grown.block k (Nat.lt_of_lt_of_le hk h.size) (by intro e; injection e with e; omega)).trans (h.block k hk hne)⟩
theorem RG.below {r:Nat} {a b:World} (h:Below a.heap.size a b):RG r a b:=qa0 h _
theorem RD.grow {w w':World} {r:Nat} {s:ByteArray} {a:Nat} {d e:Int} (h:RD w r s a d e) (hb:Below w.heap.size w w'):RD w' r s a d e:=Blk.below h hb (Blk.lt h)
theorem word_any (W:Bs) (hW:W.length≤10) (v:JV) (s:ByteArray) (hs:(s.size:Int)≤1000000) (r a:Nat) (d:Int) (w:World) (h:RD w r s a d 0) (ha:a≤s.size) :
  Calls Tryz.prog 99 #[.pointer (some ⟨r,0,none⟩),.string (bs W),.agg (jvCells v)] w fun x w'=>x=.returned (.agg (jvCells (if W.isPrefixOf (s.data.toList.drop a) then v else zJV))) ∧
   RD w' r s (if W.isPrefixOf (s.data.toList.drop a) then a+W.length else a) d (if W.isPrefixOf (s.data.toList.drop a) then 0 else 13)∧RG r w w':=by
 have hu:=Tryz.underlying44;obtain ⟨W0,hW0⟩:=eX ((w.alloc (.cells (jvCells v) 44)).alloc (.cells (jvCells zJV) 44));have hb0:Below w.heap.size w W0:=by rw [hW0]; exact ((Below.refl _ w).alloc (Nat.le_refl _) _).alloc (by simp) _
 obtain ⟨G,hG⟩:=eX (w.heap.size);have HKB:=zY (show Blk W0 G 44 (jvCells v) by rw [hW0,hG]; exact (Blk.new _ _ _).alloc _)
 have HKZ:=zY (show Blk W0 (G+1) 44 (jvCells zJV) by
  have:=Blk.new (w.alloc (.cells (jvCells v) 44)) 44 (jvCells zJV);rw [hW0,hG]
  simpa using this)
 have HRD:=zY (h.grow hb0);have HRG:=zY (show RG r w W0 from .below hb0);have HRL:=zY (show r<G by rw [hG]; exact Blk.lt h);have HW0:=zY hW0;obtain ⟨p,hp⟩:=eX (W.isPrefixOf (s.data.toList.drop a))
 have HC:=zY (fun u=>show Calls Tryz.prog 120 #[.string (s.extract a s.size),.string (bs W)] u fun x w'=>x=.returned (.bool p)∧w'=u by
  have:=hasp_any (s.extract a s.size) (bs W) u;rw [extract_rest,show (bs W).data.toList=W from rfl,← hp] at this;exact this)
 rw [← hp];have ha':(a:Int)≤(s.size:Int):=by omega
 have hwl:((bs W).size:Int)≤10:=by rw [qaB]; omega
 have HWL:=zY (qaB W);obtain ⟨c0,c1,-,-⟩:=HRD.out.cells;clear hW0 hb0 h hp hW ha;rw [hG] at *;clear hG;go_enter Tryz.func99,Tryz.ntmps99
 go_upto_region 1 with (fail)
 have HW0':_=W0:=HW0.out.symm;rw [show ((w.alloc (.cells (jvCells v) 44)).alloc (.cells #[.int .i64 0,.int .i64 0,.string ⟨#[]⟩,.slice none 0 0,.slice none 0 0] 44))=W0 from HW0'];clear HW0' HW0
 go_quiet (refine Calls.quiet_of_same (HC.out _))
 have HD:=zY (show RD (W0.drewN nq) r s a d 0 from HRD.out);have HG2:=zY (HRG.out.drewN nq);have HK2:=zY (show Blk (W0.drewN nq) w.heap.size 44 (jvCells v) from HKB.out);have HZ2:=zY (show Blk (W0.drewN nq) (w.heap.size+1) 44 (jvCells zJV) from HKZ.out);generalize W0.drewN nq=W1 at *;clear c0 c1 HKB HKZ HRD HRG HC
 cases p with
 | false =>
  have CF:=zY (qbd 13 s r a d 0 W1 HD.out);go_wp2_with fail;refine qaa CF.out ?_;rintro y w2 ⟨rfl,hrd,hrg⟩;have HRD2:=zY (show RD w2 r s a d 13 from hrd);have HRG2:=zY (HG2.out.trans hrg);have HZ3:=zY (show Blk w2 (w.heap.size+1) 44 (jvCells zJV) from (World.grownBy.block hrg _ HZ2.out.lt (by have:=HRL.out; intro h; injection h with h; omega)).trans HZ2.out);clear hrd hrg;go_wp2_with (refine qae (x:=.tmp 6) (cells:=jvCells zJV) HZ3.out rfl rfl rfl rfl qao rfl (qai _) ?_; intro w3 hb3 hw3);have HB3:=zY hb3;have HRD3:=zY (show RD w3 r s a d 13 from hw3.blk HRD2.out (by have:=HRL.out; omega));have HRG3:=zY (show RG r w w3 from HRG2.out.wrote_new hw3 (by omega));refine bodyPost_ret (qau (P:=Tryz.prog) rfl rfl HB3.out hu rfl qao) rfl ?_;exact ⟨rfl,HRD3.out,HRG3.out⟩
 | true =>
  obtain ⟨c0,c1,-,-⟩:=HD.out.cells
  go_wp2_with (first
   | (refine qag (x:=.tmp 30) (i:=1) HD.out rfl rfl rfl rfl (by kernel_rfl) (by simp [rdCells]) rfl ?_; intro w3 hb3 hw3; have HK3:=zY (hw3.blk HK2.out (by have:=HRL.out; omega)); have HZ3:=zY (hw3.blk HZ2.out (by have:=HRL.out; omega)); have HRD3:=zY hb3; have HW3:=zY hw3; clear hb3 hw3 c0 c1)
   | (refine qad (x:=.tmp 5) (cs:=jvCells v) HK3.out rfl rfl rfl hu rfl qao ?_)
   | (refine qae (x:=.tmp 6) (cells:=jvCells v) HZ3.out rfl rfl rfl rfl qao rfl (qai _) ?_; intro w4 hb4 hw4; have HB4:=zY hb4; have HW4:=zY hw4; clear hb4 hw4))
  refine bodyPost_ret (qau (P:=Tryz.prog) rfl rfl HB4.out hu rfl qao) rfl ?_;refine ⟨rfl,HW4.out.blk ?_ (by have:=HRL.out; omega),(HG2.out.trans (.wrote HW3.out)).wrote_new HW4.out (by omega)⟩;have h:=HRD3.out;rw [HWL.out] at h;exact h
def hexI (c:UInt8):Int:=Lib.indexByte [48,49,50,51,52,53,54,55,56,57,97,98,99,100,101,102] (low c)
theorem hexI_eq (c:UInt8):hexI c=(match hexv (low c) with | some v=>(v:Int) | none=>-1):=by
 have key:∀ k:Fin 256,hexI (UInt8.ofNat k.1)=(match hexv (low (UInt8.ofNat k.1)) with | some v=>(v:Int) | none=>-1):=by decide +kernel
 have:=key ⟨c.toNat,c.toNat_lt⟩
 simpa using this
theorem hexI_range (c:UInt8):-1≤hexI c∧hexI c≤15:=by
 have key:∀ k:Fin 256,-1≤hexI (UInt8.ofNat k.1)∧hexI (UInt8.ofNat k.1)≤15:=by decide +kernel
 have:=key ⟨c.toNat,c.toNat_lt⟩
 simpa using this
def hexBad (x y:Int):Bool:=decide (x<0) || decide (y<0) || decide (126<16*x+y)
theorem hexP_no (c d:UInt8) (h:hexBad (hexI c) (hexI d)=true):hexP 48 48 c d=none:=by
 rw [hexI_eq,hexI_eq] at h;unfold hexP;rw [if_pos ⟨rfl,rfl⟩]
 cases hc:hexv (low c) with
 | none=>rfl
 | some x =>
  cases hd:hexv (low d) with
  | none=>rfl
  | some y =>
   simp only [hc,hd,hexBad,Bool.or_eq_true,decide_eq_true_eq] at h;simp only [];rw [if_neg (by omega)]
theorem hexP_yes (c d:UInt8) (h:hexBad (hexI c) (hexI d)=false):0≤hexI c∧0≤hexI d∧16*hexI c+hexI d≤126∧hexP 48 48 c d=some (UInt8.ofNat (16*hexI c+hexI d).toNat):=by
 rw [hexI_eq,hexI_eq] at h ⊢;unfold hexP;rw [if_pos ⟨rfl,rfl⟩]
 cases hc:hexv (low c) with
 | none=>simp [hc,hexBad] at h
 | some x =>
  cases hd:hexv (low d) with
  | none=>simp [hd,hexBad] at h
  | some y =>
   simp only [hc,hd,hexBad,Bool.or_eq_false_iff,decide_eq_false_iff_not] at h;simp only [];rw [if_pos (by omega)];refine ⟨by omega,by omega,by omega,?_⟩
   congr 2
theorem escP_un {L T:Bs} (hT:T=L.tail.take 4) (h:esc (look L)=none) (hb:¬ (look L=117∧T.length=4∧T.take 2=[48,48])):escP L=none:=by
 cases L with
 | nil=>rfl
 | cons d r =>
  simp only [look] at h hb;simp only [List.tail_cons] at hT;simp only [escP,h]
  by_cases hd:d=117
  ·rw [if_pos hd]
   match r,hT with
   | [],_=>rfl
   | [_],_=>rfl
   | [_,_],_=>rfl
   | [_,_,_],_=>rfl
   | a0 :: a1 :: a2 :: a3 :: r2,hT =>
    have:¬ (a0=48∧a1=48):=fun ⟨h0,h1⟩=>hb ⟨hd,by rw [hT]; simp,by rw [hT,h0,h1]; rfl⟩;simp only [hexP,if_neg this]
  ·rw [if_neg hd]
theorem escP_u {L T:Bs} {c d:UInt8} (hT:T=L.tail.take 4) (h:esc (look L)=none) (h1:look L=117) (h4:T=[48,48,c,d]) :
  escP L=match hexP 48 48 c d with | some b=>some (b,L.drop 5) | none=>none:=by
 cases L with
 | nil=>rw [hT] at h4; simp at h4
 | cons x r =>
  simp only [look] at h h1;simp only [List.tail_cons] at hT;rw [hT] at h4;simp only [escP,h];rw [if_pos h1]
  match r,h4 with
  | [],h4=>simp at h4
  | [_],h4=>simp at h4
  | [_,_],h4=>simp at h4
  | [_,_,_],h4=>simp at h4
  | a0 :: a1 :: a2 :: a3 :: r2,h4 =>
   simp only [List.take_succ_cons,List.take_zero,List.cons.injEq,and_true] at h4;obtain ⟨rfl,rfl,rfl,rfl⟩:=h4;show (match hexP 48 48 a2 a3 with | some b=>some (b,r2) | none=>none)=_;simp only [List.drop_succ_cons,List.drop_zero]
theorem escP_esc {L:Bs} {b:UInt8} (h:esc (look L)=some b):escP L=some (b,L.tail):=by
 cases L with
 | nil=>simp [look,esc] at h
 | cons d r =>
  simp only [look] at h;simp only [escP,h,List.tail_cons]
theorem esc_low {c b:UInt8} (h:esc c=some b):c≠0:=fun h0=>by rw [h0] at h; simp [esc] at h
def escE:Option (UInt8 × Bs)→Int
 | none=>13
 | some _=>0
def escV:Option (UInt8 × Bs)→UInt8
 | none=>0
 | some (b,_)=>b
end Go.Proofs.YtlkikjeccamheaaGreatDoor.Js
namespace Go.Proofs.YtlkikjeccamheaaGreatDoor
set_option linter.unusedSimpArgs false
set_option linter.unusedVariables false
set_option maxRecDepth 100000
set_option maxHeartbeats 4000000
open Go.RowKit
def MapB (w:World) (g:Nat) (es:Array MapEntry):Prop:=w.heap[g]?=some (.map es es.size)
theorem MapB.lt {w:World} {g:Nat} {es:Array MapEntry} (h:MapB w g es):g<w.heap.size:=(Array.getElem?_eq_some_iff.1 h).1
theorem MapB.new (w:World):MapB (w.alloc (.map #[] 0)) w.heap.size #[]:=heap_alloc_new w _
section
variable {P:Program} {w:World} {ops:Array Oper} {rest:List Oper} {o:Oper} {a:Act} {Q:Exit→Act→World→Prop}
theorem run_insert8 {t k e:TypeId} {g:Nat} {es:Array MapEntry} {x:Int} {v:Value} (ht:P.underlying t=some (.map k e)) (hk:P.underlying k=some (.int .u8)) (hm:MapB w g es) (hf:Instr.findNow (.int .u8) (.int .u8 x) es.toList 0=some none) :
  ∃ w',(Instr.mapUpdate t (.map (some g)) (.int .u8 x) v).run P w=.ok () w'∧MapB w' g (es.push ⟨.int .u8 x,v,es.size⟩)∧w.grownBy w' (some g):=by
 unfold MapB at hm;have hlt:g<w.heap.size:=(Array.getElem?_eq_some_iff.1 hm).1;have hc:(Instr.checkKey false 10000 k (.int .u8 x)).run P w=.ok () w:=MapKept.run_checkKey (k:=.int .u8 x) hk (by simp [MapKept.IsKey]) false 9999;refine ⟨{ w with heap:=w.heap.setIfInBounds g (.map (es.push ⟨.int .u8 x,v,es.size⟩) (es.size+1)) },?_,?_,?_⟩
 ·simp [Instr.mapUpdate,run_underlying ht,MapKept.run_getObj_map hm,hc,MapKept.run_findKey hk hf,MapKept.run_setObj_map _ hm,Result.andThen]
 ·unfold MapB;simp [hlt]
 ·refine ⟨rfl,rfl,rfl,by simp,fun i hi hne=>?_⟩;have:g≠i:=fun h=>hne (by rw [h]);simp [this]
theorem qat {t k e:TypeId} {g:Nat} {es:Array MapEntry} {x:Int} {v:Value} {om ok ov:Operand} (ht:P.underlying t=some (.map k e)) (hk:P.underlying k=some (.int .u8)) (hgd:o.guard=none) (ho:o.op=.insert t om ok ov)
  (hom:a.eval om=.map (some g)) (hok:a.eval ok=.int .u8 x) (hov:a.eval ov=v) (hm:MapB w g es) (hf:Instr.findNow (.int .u8) (.int .u8 x) es.toList 0=some none)
  (h:∀ w',MapB w' g (es.push ⟨.int .u8 x,v,es.size⟩)→w.grownBy w' (some g)→wpList P ops Q rest (a.put o.dst undef) w'):wpList P ops Q (o :: rest) a w:=by
 refine wpList_plain hgd fun K hK=>?_;obtain ⟨w',hr,h1,h2⟩:=run_insert8 (P:=P) (v:=v) ht hk hm hf;unfold Oper.wp;simp [execOp,ho,hom,hok,hov,hr,Result.andThen];exact hK _ _ (h w' h1 h2)
def found8 (z:Value):Option (Nat × Value)→Value × Bool
 | some (_,v)=>(v,true)
 | none=>(z,false)
theorem qc9 {t k e:TypeId} {g:Nat} {es:Array MapEntry} {x:Int} {z:Value} {r:Option (Nat × Value)} (c:Bool) (ht:P.underlying t=some (.map k e)) (hk:P.underlying k=some (.int .u8)) (hm:MapB w g es) (hf:Instr.findNow (.int .u8) (.int .u8 x) es.toList 0=some r)
  (hz:(zeroValue e).run P w=.ok z w):(Instr.lookup t (.map (some g)) (.int .u8 x) c).run P w=.ok (if c then .tuple #[(found8 z r).1,.bool (found8 z r).2] else (found8 z r).1) w:=by
 unfold MapB at hm;have hc:(Instr.checkKey es.isEmpty 10000 k (.int .u8 x)).run P w=.ok () w:=MapKept.run_checkKey (k:=.int .u8 x) hk (by simp [MapKept.IsKey]) _ 9999
 cases r with
 | none=>cases c <;> simp [Instr.lookup,run_underlying ht,MapKept.run_getObj_map hm,hc,MapKept.run_findKey hk hf,hz,Result.andThen,found8]
 | some p=>cases c <;> simp [Instr.lookup,run_underlying ht,MapKept.run_getObj_map hm,hc,MapKept.run_findKey hk hf,Result.andThen,found8]
end
end Go.Proofs.YtlkikjeccamheaaGreatDoor
namespace Go.Proofs.YtlkikjeccamheaaGreatDoor.Js
set_option linter.unusedSimpArgs false
set_option linter.unusedVariables false
set_option maxRecDepth 100000
set_option maxHeartbeats 4000000
open Go.RowKit
def mE (k v:Int) (b:Nat):MapEntry:=⟨.int .u8 k,.int .u8 v,b⟩
def signsE:Array MapEntry:=#[mE 34 34 0,mE 92 92 1,mE 47 47 2,mE 98 8 3,mE 102 12 4,mE 110 10 5,mE 114 13 6,mE 116 9 7]
theorem signs_any (w:World):Calls Tryz.prog 133 #[] w fun x w'=>x=.returned (.map (some w.heap.size))∧MapB w' w.heap.size signsE∧Below w.heap.size w w':=by
 have ht:=Tryz.underlying167;have hk:=Tryz.underlying5;have hmm:=@run_makeMap Tryz.prog;have HB:=zY ((Below.refl w.heap.size w).alloc (Nat.le_refl _) (.map #[] 0));have M0:=zY (MapB.new w);go_enter Tryz.func133,Tryz.ntmps133
 go_wp2_with (first
  | (refine qat (x:=34) ht hk rfl rfl rfl rfl rfl M0.out rfl ?_; intro w1 m1 g1; have M1:=zY m1; have G1:=zY (HB.out.grown g1 HB.out.size (by intro k h; injection h with h; omega)); clear m1 g1)
  | (refine qat (x:=92) ht hk rfl rfl rfl rfl rfl M1.out rfl ?_; intro w2 m2 g2; have M2:=zY m2; have G2:=zY (G1.out.grown g2 G1.out.size (by intro k h; injection h with h; omega)); clear m2 g2)
  | (refine qat (x:=47) ht hk rfl rfl rfl rfl rfl M2.out rfl ?_; intro w3 m3 g3; have M3:=zY m3; have G3:=zY (G2.out.grown g3 G2.out.size (by intro k h; injection h with h; omega)); clear m3 g3)
  | (refine qat (x:=98) ht hk rfl rfl rfl rfl rfl M3.out rfl ?_; intro w4 m4 g4; have M4:=zY m4; have G4:=zY (G3.out.grown g4 G3.out.size (by intro k h; injection h with h; omega)); clear m4 g4)
  | (refine qat (x:=102) ht hk rfl rfl rfl rfl rfl M4.out rfl ?_; intro w5 m5 g5; have M5:=zY m5; have G5:=zY (G4.out.grown g5 G4.out.size (by intro k h; injection h with h; omega)); clear m5 g5)
  | (refine qat (x:=110) ht hk rfl rfl rfl rfl rfl M5.out rfl ?_; intro w6 m6 g6; have M6:=zY m6; have G6:=zY (G5.out.grown g6 G5.out.size (by intro k h; injection h with h; omega)); clear m6 g6)
  | (refine qat (x:=114) ht hk rfl rfl rfl rfl rfl M6.out rfl ?_; intro w7 m7 g7; have M7:=zY m7; have G7:=zY (G6.out.grown g7 G6.out.size (by intro k h; injection h with h; omega)); clear m7 g7)
  | (refine qat (x:=116) ht hk rfl rfl rfl rfl rfl M7.out rfl ?_; intro w8 m8 g8; have M8:=zY m8; have G8:=zY (G7.out.grown g8 G7.out.size (by intro k h; injection h with h; omega)); clear m8 g8))
 go_ret;exact ⟨rfl,M8.out,G8.out⟩
theorem signs_found (c:UInt8):∃ r,Instr.findNow (.int .u8) (.int .u8 ((c.toNat:Nat):Int)) signsE.toList 0=some r ∧
  found8 (.int .u8 0) r=(match esc c with | some b=>(byteV b,true) | none=>(.int .u8 0,false)):=by
 have hne:∀ k:UInt8,c≠k→(((c.toNat:Nat):Int) == ((k.toNat:Nat):Int))=false:=fun k h=>by
  simp only [beq_eq_false_iff_ne,ne_eq];intro h2;exact h (UInt8.toNat.inj (by omega))
 by_cases h1:c=34
 ·subst h1; exact ⟨_,rfl,rfl⟩
 by_cases h2:c=92
 ·subst h2; exact ⟨_,rfl,rfl⟩
 by_cases h3:c=47
 ·subst h3; exact ⟨_,rfl,rfl⟩
 by_cases h4:c=98
 ·subst h4; exact ⟨_,rfl,rfl⟩
 by_cases h5:c=102
 ·subst h5; exact ⟨_,rfl,rfl⟩
 by_cases h6:c=110
 ·subst h6; exact ⟨_,rfl,rfl⟩
 by_cases h7:c=114
 ·subst h7; exact ⟨_,rfl,rfl⟩
 by_cases h8:c=116
 ·subst h8; exact ⟨_,rfl,rfl⟩
 refine ⟨none,?_,?_⟩
 ·have e1:=hne _ h1; have e2:=hne _ h2; have e3:=hne _ h3; have e4:=hne _ h4; have e5:=hne _ h5; have e6:=hne _ h6; have e7:=hne _ h7; have e8:=hne _ h8;simp only [signsE,mE,Instr.findNow,Instr.sameNow,if_true];rw [show ((34:UInt8).toNat:Int)=34 from rfl] at e1;rw [show ((92:UInt8).toNat:Int)=92 from rfl] at e2;rw [show ((47:UInt8).toNat:Int)=47 from rfl] at e3;rw [show ((98:UInt8).toNat:Int)=98 from rfl] at e4;rw [show ((102:UInt8).toNat:Int)=102 from rfl] at e5;rw [show ((110:UInt8).toNat:Int)=110 from rfl] at e6;rw [show ((114:UInt8).toNat:Int)=114 from rfl] at e7;rw [show ((116:UInt8).toNat:Int)=116 from rfl] at e8;simp only [e1,e2,e3,e4,e5,e6,e7,e8]
 ·have:esc c=none:=by simp [esc,h1,h2,h3,h4,h5,h6,h7,h8]
  rw [this];rfl
theorem lower_any (c:UInt8) (w:World):Calls Tryz.prog 134 #[byteV c] w fun x w'=>x=.returned (byteV (low c))∧w'=w:=by
 unfold byteV;obtain ⟨z,hz⟩:∃ z:Int,z=((c.toNat:Nat):Int):=⟨_,rfl⟩
 have HV:=zY (show (((low c).toNat:Nat):Int)=if 65≤z∧z≤70 then z+32 else z by
  unfold low
  by_cases h:65≤c∧c≤70
  ·have h1:65≤c.toNat∧c.toNat≤70:=by simpa [UInt8.le_iff_toNat_le] using h
   rw [if_pos h,if_pos (by omega),UInt8.toNat_add,hz];show (((c.toNat+32)%256:Nat):Int)=_;omega
  ·have h1:¬ (65≤c.toNat∧c.toNat≤70):=by simpa [UInt8.le_iff_toNat_le] using h
   rw [if_neg h,if_neg (by omega),hz])
 have h0:0≤z:=by omega
 have h255:z<256:=by have:=c.toNat_lt; omega
 rw [← hz,HV.out];clear hz
 by_cases h1:65≤z
 ·by_cases h2:z≤70
  ·go_enter Tryz.func134,Tryz.ntmps134;go_wp2_with fail;go_ret;exact ⟨by first | rfl | (rw [if_pos ⟨h1,h2⟩]; rfl) | (simp [h1,h2]; omega),rfl⟩
  ·go_enter Tryz.func134,Tryz.ntmps134;go_wp2_with fail;go_ret;exact ⟨by first | rfl | (rw [if_neg (fun h=>h2 h.2)]; rfl) | (simp [h1,h2]; omega),rfl⟩
 ·go_enter Tryz.func134,Tryz.ntmps134;go_wp2_with fail;go_ret;exact ⟨by first | rfl | (rw [if_neg (fun h=>h1 h.1)]; rfl) | (simp [h1]; omega),rfl⟩
theorem min_runI (x y k:Int) (h:k=if x≤y then x else y) (ts:Array TypeId) (t:TypeId) (u:World):(Builtin.min_ ts t #[.int .i64 x,.int .i64 y]).run Tryz.prog u=.ok (.int .i64 k) u:=by
 by_cases h1:x≤y
 ·rw [if_pos h1] at h;subst h;have h3:¬ y<k:=by omega
  simp [Builtin.min_,Builtin.min2,List.foldlM]
  try omega
 ·rw [if_neg h1] at h;subst h;have h3:k<x:=by omega
  simp [Builtin.min_,Builtin.min2,List.foldlM]
  try omega
theorem escape_any (s:ByteArray) (hs:(s.size:Int)≤1000000) (r a:Nat) (d:Int) (w:World) (h:RD w r s a d 0) (ha:a≤s.size) :
  Calls Tryz.prog 121 #[.pointer (some ⟨r,0,none⟩)] w fun x w'=>x=.returned (byteV (escV (escP (s.data.toList.drop a))))∧∃ a':Nat,(a':Int)≤(s.size:Int)+5 ∧
   (∀ b r',escP (s.data.toList.drop a)=some (b,r')→At s a a' r') ∧
   RD w' r s a' d (escE (escP (s.data.toList.drop a)))∧RG r w w':=by
 obtain ⟨X,hX⟩:=eX (s.data.toList.drop a);have HX:=zY hX;have HA:=zY ha;have ht:=Tryz.underlying167;have hk:=Tryz.underlying5;rw [← hX];have HRD0:=zY h;have CK:=zY (fun (u:World) (h:RD u r s a d 0)=>qbD s r a d 0 u h);have CF:=zY (fun (b:Nat) (u:World) (h:RD u r s b d 0)=>qbd 13 s r b d 0 u h);have CS:=zY (fun (u:World)=>signs_any u);have CL:=zY (fun (c:UInt8) (u:World)=>lower_any c u);have CI:=zY (fun (c:Int) (u:World)=>idxb_any ⟨#[48,49,50,51,52,53,54,55,56,57,97,98,99,100,101,102]⟩ c u);have ha':(a:Int)≤(s.size:Int):=by omega
 clear h hX ha;go_enter Tryz.func121,Tryz.ntmps121;go_wp2_with fail;refine qaa (CK.out _ HRD0.out) ?_;rintro y w1 ⟨rfl,hrd,hrg⟩;have HRD1:=zY hrd;have HRG1:=zY hrg;have HLK:=zY (show lookE s a 0=look X by rw [lookE,if_pos rfl,HX.out]);obtain ⟨c0,c1,-,-⟩:=hrd.cells;rw [HLK.out];clear hrd hrg;obtain ⟨c,hc⟩:=eX (look X);rw [← hc];have HC:=zY hc;obtain ⟨b,hb⟩:=eX (a+1);have HB:=zY hb;have hbI:(a:Int)+1=(b:Int):=by omega
 have HBI:=zY hbI;clear hc hb hbI;go_wp2_with (refine qag (x:=.tmp 17) (i:=1) HRD1.out rfl rfl rfl rfl (by kernel_rfl) (by simp [rdCells]) rfl ?_; intro w2 hb2 hw2)
 have HRD2:=zY (show RD w2 r s b d 0 from by
  show Blk w2 r _ #[.string s,.int .i64 ((b:Nat):Int),.int .i64 d,.int .i64 0];rw [← HBI.out];exact hb2)
 have HRG2:=zY (HRG1.out.trans (.wrote hw2));clear hb2 hw2 c0 c1 ha';refine qaa (CS.out _) ?_;rintro y w3 ⟨rfl,hm,hbl⟩;have HRD3:=zY (HRD2.out.grow hbl);have HRG3:=zY (HRG2.out.trans (.below hbl));obtain ⟨res,hf1,hf2⟩:=signs_found c;have hz:(zeroValue 5).run Tryz.prog w3=.ok (.int .u8 0) w3:=by first | rfl | (simp; done) | kernel_rfl
 have hlk:=qc9 (P:=Tryz.prog) (w:=w3) true ht hk hm hf1 hz;rw [if_pos rfl,hf2] at hlk;clear hbl hm hf1 hf2 hz;unfold byteV at hlk ⊢;obtain ⟨z,hzz⟩:∃ z:Int,z=((c.toNat:Nat):Int):=⟨_,rfl⟩;rw [← hzz] at hlk ⊢;have HZ:=zY hzz;clear hzz
 cases hesc:esc c with
 | some b1 =>
  have HE:=zY (show escP X=some (b1,X.tail) from escP_esc (by rw [← HC.out]; exact hesc));have HLT:=zY (show a<s.size from qcb (by rw [← HX.out,← HC.out]; exact esc_low hesc));rw [hesc] at hlk;simp only [] at hlk;clear hesc;go_wp2_with fail;go_ret;rw [HE.out];refine ⟨rfl,b,by have:=HLT.out; have:=HB.out; omega,fun x r' h=>?_,HRD3.out,HRG3.out⟩
  injection h with h
  injection h with h1 h2
  subst h2;exact ⟨by have:=HB.out; omega,.inr (by have:=HLT.out; have:=HB.out; omega),by rw [HB.out,qbg,← HX.out]⟩
 | none =>
  have HEN:=zY (show esc (look X)=none by rw [← HC.out]; exact hesc);rw [hesc] at hlk;simp only [] at hlk;clear hesc
  go_upto_region 6 with (fail)
  clear hlk;obtain ⟨c0,c1,-,-⟩:=HRD3.out.cells;obtain ⟨lo,hlo⟩:∃ lo:Nat,lo=min b s.size:=⟨_,rfl⟩;obtain ⟨hi,hhi⟩:∃ hi:Nat,hi=min (b+4) s.size:=⟨_,rfl⟩;have hb6:(b:Int)≤1000001:=by have:=HB.out; have:=HA.out; omega
  have hw4:wrap64 ((b:Int)+4)=(b:Int)+4:=by unfold wrap64; omega
  have hm1:=min_runI (b:Int) (s.size:Int) (lo:Int) (by rw [hlo]; split <;> omega);have hm2:=min_runI ((b:Int)+4) (s.size:Int) (hi:Int) (by rw [hhi]; split <;> omega);have hl1:(lo:Int)≤(hi:Int):=by omega
  have hl2:(hi:Int)≤(s.size:Int):=by omega
  have HLO:=zY hlo;have HHI:=zY hhi;clear hlo hhi hb6
  go_quiet (fail)
  have HTD:=zY (show (s.extract lo hi).data.toList=X.tail.take 4 by
   rw [Lib.extract_data,HX.out,← qbg,← HB.out,HLO.out,HHI.out];have h5:s.data.toList.length=s.size:=rfl
   by_cases h:b≤s.size
   ·rw [Nat.min_eq_left h]
    by_cases h4:b+4≤s.size
    ·rw [Nat.min_eq_left h4,show b+4 - b=4 by omega]
    ·rw [Nat.min_eq_right (by omega),List.take_of_length_le (by simp <;> omega),List.take_of_length_le (by simp <;> omega)]
   ·rw [Nat.min_eq_right (by omega),Nat.min_eq_right (by omega),show s.data.toList.drop b=[] from List.drop_eq_nil_of_le (by show s.size≤b; omega)]
    simp)
  have HRD4:=zY (show RD (w3.drewN nq) r s b d 0 from HRD3.out);have HRG4:=zY (HRG3.out.drewN nq);generalize s.extract lo hi=T at *;generalize w3.drewN nq=w4 at *;clear hm1 hm2 hl1 hl2 c0 c1;obtain ⟨c0,c1,-,-⟩:=HRD4.out.cells;obtain ⟨TT,hTT⟩:=eX (T.data.toList);have HTT:=zY hTT;have HTX:=zY (show TT=X.tail.take 4 by rw [hTT,HTD.out]);have HTS:=zY (show T.size=TT.length by rw [hTT]; rfl);clear hTT
  go_upto_region 8 with (refine qag (x:=.tmp 58) (i:=1) HRD4.out rfl rfl rfl rfl (by kernel_rfl) (by simp [rdCells]) rfl ?_; intro w5 hb5 hw5)
  have HRD5:=zY (show RD w5 r s (b+4) d 0 from by
   show Blk w5 r _ #[.string s,.int .i64 ((b+4:Nat):Int),.int .i64 d,.int .i64 0];have e:((b+4:Nat):Int)=(b:Int)+4:=by omega
   rw [e];simp only [hw4] at hb5;exact hb5)
  have HRG5:=zY (HRG4.out.trans (.wrote hw5));clear hb5 hw5 c0 c1 hw4;obtain ⟨bad,hbad⟩:=eX (!(decide (look X=117) && decide (TT.length=4) && decide (TT.take 2=[48,48])));have HBAD:=zY hbad;clear hbad;dsimp only [Act.put]
  by_cases h1:look X=117
  case neg =>
   have HN:=zY (show escP X=none from escP_un HTX.out HEN.out (fun h=>h1 h.1))
   have hqz:(z == 117)=false:=by
    rw [HZ.out,HC.out];simp only [beq_eq_false_iff_ne,ne_eq];intro h;exact h1 (UInt8.toNat.inj (by show (look X).toNat=117; omega))
   have hqz2:(z != 117)=true:=by rw [bne,hqz]; rfl
   clear h1;go_wp2_with fail;refine qaa (CF.out _ _ HRD5.out) ?_;rintro y w6 ⟨rfl,hrd,hrg⟩;have HRD6:=zY (show RD w6 r s (b+4) d 13 from hrd);have HRG6:=zY (HRG5.out.trans hrg);clear hrd hrg;go_wp2_with fail;go_ret;rw [HN.out];refine ⟨rfl,b+4,by have:=HA.out; have:=HB.out; omega,fun x r' h=>?_,HRD6.out,HRG6.out⟩
   cases h
  case pos =>
  have hz:z=117:=by rw [HZ.out,HC.out,h1]; rfl
  subst hz;have H1:=zY h1;have hle4:TT.length≤4:=by rw [HTX.out,List.length_take]; exact Nat.min_le_left _ _
  clear h1
  by_cases h2:TT.length=4
  case neg =>
   have HN:=zY (show escP X=none from escP_un HTX.out HEN.out (fun h=>h2 h.2.1));have ht4:(T.size:Int)<4:=by rw [HTS.out]; omega
   clear h2 hle4;go_wp2_with fail;refine qaa (CF.out _ _ HRD5.out) ?_;rintro y w6 ⟨rfl,hrd,hrg⟩;have HRD6:=zY (show RD w6 r s (b+4) d 13 from hrd);have HRG6:=zY (HRG5.out.trans hrg);clear hrd hrg;go_wp2_with fail;go_ret;rw [HN.out];refine ⟨rfl,b+4,by have:=HA.out; have:=HB.out; omega,fun x r' h=>?_,HRD6.out,HRG6.out⟩
   cases h
  case pos =>
  have ht4:(4:Int)=(T.size:Int):=by rw [HTS.out]; omega
  have hts:¬ (T.size:Int)<4:=by omega
  have ht2:(2:Int)≤(T.size:Int):=by omega
  obtain ⟨q3,hq⟩:=eX (((T.extract 0 2).toList == [48,48]))
  have HQ:=zY (show q3=decide (TT.take 2=[48,48]) by
   rw [hq,Lib.toList_data,Lib.extract_data,← HTT.out,Bool.eq_iff_iff,beq_iff_eq,decide_eq_true_iff]
   simp)
  have H2:=zY h2;replace hq:=hq.symm;clear h2 hle4 ht4
  cases q3 with
  | false =>
   have HN:=zY (show escP X=none from escP_un HTX.out HEN.out (fun h=>by
    have:=HQ.out;rw [h.2.2] at this;simp at this))
   go_wp2_with fail;refine qaa (CF.out _ _ HRD5.out) ?_;rintro y w6 ⟨rfl,hrd,hrg⟩;have HRD6:=zY (show RD w6 r s (b+4) d 13 from hrd);have HRG6:=zY (HRG5.out.trans hrg);clear hrd hrg;go_wp2_with fail;go_ret;rw [HN.out];refine ⟨rfl,b+4,by have:=HA.out; have:=HB.out; omega,fun x r' h=>?_,HRD6.out,HRG6.out⟩
   cases h
  | true =>
   obtain ⟨x,y,hxy⟩:∃ x y,TT=[48,48,x,y]:=by
    have h1:=HQ.out;have h2:=H2.out;rw [eq_comm,decide_eq_true_iff] at h1
    match TT,h2,h1 with
    | [a0,a1,a2,a3],_,h1 =>
     simp only [List.take_succ_cons,List.take_zero,List.cons.injEq,and_true] at h1;obtain ⟨rfl,rfl⟩:=h1;exact ⟨_,_,rfl⟩
   have hs4:T.size=4:=by rw [HTS.out,hxy]; rfl
   have HEU:=zY (escP_u HTX.out HEN.out H1.out hxy);have h2s:2<T.size:=by omega
   have h3s:3<T.size:=by omega
   have hg2:T[2]'h2s=x:=by
    have h1:T.data.toList[2]?=some x:=by rw [← HTT.out,hxy]; rfl
    have h0:2<T.data.toList.length:=by show 2<T.size; omega
    rw [List.getElem?_eq_getElem h0] at h1
    injection h1
   have hg3:T[3]'h3s=y:=by
    have h1:T.data.toList[3]?=some y:=by rw [← HTT.out,hxy]; rfl
    have h0:3<T.data.toList.length:=by show 3<T.size; omega
    rw [List.getElem?_eq_getElem h0] at h1
    injection h1
   obtain ⟨zx,hzx⟩:∃ zx:Int,(((T[2]'h2s).toNat:Nat):Int)=zx:=⟨_,rfl⟩;obtain ⟨zy,hzy⟩:∃ zy:Int,(((T[3]'h3s).toNat:Nat):Int)=zy:=⟨_,rfl⟩;obtain ⟨lx,hlx⟩:∃ lx:Int,lx=(((low x).toNat:Nat):Int):=⟨_,rfl⟩;obtain ⟨ly,hly⟩:∃ ly:Int,ly=(((low y).toNat:Nat):Int):=⟨_,rfl⟩;obtain ⟨ix,hix⟩:=eX (hexI x);obtain ⟨iy,hiy⟩:=eX (hexI y)
   have KX:=zY (fun (u:World)=>show Calls Tryz.prog 134 #[.int .u8 zx] u fun e w'=>e=.returned (.int .u8 lx)∧w'=u by
    have h:=CL.out x u;unfold byteV at h;rw [← hzx,hg2,hlx]; exact h)
   have KY:=zY (fun (u:World)=>show Calls Tryz.prog 134 #[.int .u8 zy] u fun e w'=>e=.returned (.int .u8 ly)∧w'=u by
    have h:=CL.out y u;unfold byteV at h;rw [← hzy,hg3,hly]; exact h)
   have NX:=zY (fun (u:World)=>show Calls Tryz.prog 43 #[.string ⟨#[48,49,50,51,52,53,54,55,56,57,97,98,99,100,101,102]⟩,.int .u8 lx] u fun e w'=>e=.returned (.int .i64 ix)∧w'=u by
    have h:=CI.out lx u;have e:lx.toNat.toUInt8=low x:=by rw [hlx,Int.toNat_natCast]; simp
    rw [e] at h;rw [hix]; exact h)
   have NY:=zY (fun (u:World)=>show Calls Tryz.prog 43 #[.string ⟨#[48,49,50,51,52,53,54,55,56,57,97,98,99,100,101,102]⟩,.int .u8 ly] u fun e w'=>e=.returned (.int .i64 iy)∧w'=u by
    have h:=CI.out ly u;have e:ly.toNat.toUInt8=low y:=by rw [hly,Int.toNat_natCast]; simp
    rw [e] at h;rw [hiy]; exact h)
   have HXR:=zY (show -1≤ix∧ix≤15 by rw [hix]; exact hexI_range x);have HYR:=zY (show -1≤iy∧iy≤15 by rw [hiy]; exact hexI_range y);have HIX:=zY hix;have HIY:=zY hiy;have ht3:(3:Int)<(T.size:Int):=by omega
   have ht22:(2:Int)<(T.size:Int):=by omega
   clear hs4 hg2 hg3 hlx hly hix hiy hxy;go_wp2_with fail;refine qaa (KX.out _) ?_;rintro e w6 ⟨rfl,rfl⟩;go_wp2_with fail;refine qaa (NX.out _) ?_;rintro e w6 ⟨rfl,rfl⟩;go_wp2_with fail;refine qaa (KY.out _) ?_;rintro e w6 ⟨rfl,rfl⟩;go_wp2_with fail;refine qaa (NY.out _) ?_;rintro e w6 ⟨rfl,rfl⟩;obtain ⟨hx1,hx2⟩:=HXR.out;obtain ⟨hy1,hy2⟩:=HYR.out
   cases hbx:hexBad ix iy with
   | true =>
    have HN:=zY (show escP X=none by rw [HEU.out,hexP_no x y (by rw [← HIX.out,← HIY.out]; exact hbx)])
    have hor:ix<0∨(¬ ix<0∧iy<0)∨(¬ ix<0∧¬ iy<0∧126<16*ix+iy):=by
     simp only [hexBad,Bool.or_eq_true,decide_eq_true_eq] at hbx;omega
    clear hbx
    rcases hor with h1 | ⟨h1,h2⟩ | ⟨h1,h2,h3⟩
    ·skip
     go_wp2_with fail;refine qaa (CF.out _ _ HRD5.out) ?_;rintro y w6 ⟨rfl,hrd,hrg⟩;have HRD6:=zY (show RD w6 r s (b+4) d 13 from hrd);have HRG6:=zY (HRG5.out.trans hrg);clear hrd hrg;go_wp2_with fail;go_ret;rw [HN.out];refine ⟨rfl,b+4,by have:=HA.out; have:=HB.out; omega,fun x r' h=>?_,HRD6.out,HRG6.out⟩
     cases h
    ·skip
     go_wp2_with fail;refine qaa (CF.out _ _ HRD5.out) ?_;rintro y w6 ⟨rfl,hrd,hrg⟩;have HRD6:=zY (show RD w6 r s (b+4) d 13 from hrd);have HRG6:=zY (HRG5.out.trans hrg);clear hrd hrg;go_wp2_with fail;go_ret;rw [HN.out];refine ⟨rfl,b+4,by have:=HA.out; have:=HB.out; omega,fun x r' h=>?_,HRD6.out,HRG6.out⟩
     cases h
    ·skip
     go_wp2_with fail;refine qaa (CF.out _ _ HRD5.out) ?_;rintro y w6 ⟨rfl,hrd,hrg⟩;have HRD6:=zY (show RD w6 r s (b+4) d 13 from hrd);have HRG6:=zY (HRG5.out.trans hrg);clear hrd hrg;go_wp2_with fail;go_ret;rw [HN.out];refine ⟨rfl,b+4,by have:=HA.out; have:=HB.out; omega,fun x r' h=>?_,HRD6.out,HRG6.out⟩
     cases h
   | false =>
    obtain ⟨hp1,hp2,hp3,hp4⟩:=hexP_yes x y (by rw [← HIX.out,← HIY.out]; exact hbx);have HE:=zY (show escP X=some (UInt8.ofNat (16*ix+iy).toNat,X.drop 5) by rw [HEU.out,hp4,HIX.out,HIY.out]);rw [← HIX.out] at hp1 hp3;rw [← HIY.out] at hp2 hp3;have h1:¬ ix<0:=by omega
    have h2:¬ iy<0:=by omega
    have h3:¬ 126<16*ix+iy:=by omega
    clear hbx hp4
    have hle:a+5≤s.size:=by
     have h4:=H2.out;rw [HTX.out,List.length_take,List.length_tail,HX.out,List.length_drop] at h4;have h5:s.data.toList.length=s.size:=rfl;omega
    have HLE:=zY hle
    have hv:(16*ix+iy)=(((UInt8.ofNat (16*ix+iy).toNat).toNat:Nat):Int):=by
     rw [UInt8.toNat_ofNat'];omega
    have HV:=zY hv;clear hv hle;go_wp2_with fail;go_ret;rw [HE.out];refine ⟨?_,b+4,by have:=HLE.out; have:=HB.out; omega,fun c1 r' h=>?_,HRD5.out,HRG5.out⟩
    ·show Ending.returned (Value.int IntKind.u8 (16*ix+iy))=.returned (.int .u8 (((UInt8.ofNat (16*ix+iy).toNat).toNat:Nat):Int));rw [← HV.out]
    ·injection h with h
     injection h with h1 h2
     subst h2;have hb5:b+4=a+5:=by have:=HB.out; omega
     exact ⟨by omega,.inr (by have:=HLE.out; omega),by rw [hb5,HX.out,List.drop_drop]⟩
def textS:Option (Bs × Bs)→Bs
 | none=>[]
 | some (t,_)=>t
def textE:Option (Bs × Bs)→Int
 | none=>13
 | some _=>0
theorem strA_bad {n:Nat} {acc rest:Bs} (h:look rest<32∨126<look rest):strA n acc rest=none:=by
 cases n with
 | zero=>rfl
 | succ n =>
  cases rest with
  | nil=>rfl
  | cons c r=>simp only [look] at h; rw [strA,if_pos h]
theorem strA_end {n:Nat} {acc r:Bs}:strA (n+1) acc (34 :: r)=some (acc,r):=by
 rw [strA,if_neg (by decide),if_pos rfl]
theorem strA_esc {n:Nat} {acc r:Bs}:strA (n+1) acc (92 :: r)=(match escP r with | some (b,r')=>strA n (acc++[b]) r' | none=>none):=by
 rw [strA,if_neg (by decide),if_neg (by decide),if_pos rfl]
 all_goals (rcases escP r with _ | ⟨b,r'⟩ <;> rfl)
theorem strA_one {n:Nat} {acc r:Bs} {c:UInt8} (h1:¬ (c<32∨126<c)) (h2:c≠34) (h3:c≠92):strA (n+1) acc (c :: r)=strA n (acc++[c]) r:=by
 rw [strA,if_neg h1,if_neg h2,if_neg h3]
def TxK (s:ByteArray) (X:Bs) (a:Nat) (acc:Bs) (a1:Nat) (e1:Int) (gk:Nat):Prop :=
 (e1=0∧a1≤s.size∧a<a1∧acc.length≤a1∧gk=s.size - a1+1∧∃ n,(s.data.toList.drop a1).length<n∧strA n acc (s.data.toList.drop a1)=textP X) ∨
 (e1=13∧textP X=none∧(a1:Int)≤(s.size:Int)+5∧gk=0)
theorem text_any (s:ByteArray) (hs:(s.size:Int)≤1000000) (r a:Nat) (d:Int) (w:World) (h:RD w r s a d 0) (ha:a≤s.size) :
  Calls Tryz.prog 103 #[.pointer (some ⟨r,0,none⟩)] w fun x w'=>x=.returned (.string (bs (textS (textP (s.data.toList.drop a)))))∧∃ a':Nat,(a':Int)≤(s.size:Int)+5 ∧
   (∀ t r',textP (s.data.toList.drop a)=some (t,r')→At s a a' r') ∧
   RD w' r s a' d (textE (textP (s.data.toList.drop a)))∧RG r w w':=by
 obtain ⟨X,hX⟩:=eX (s.data.toList.drop a);have HX:=zY hX;have HA:=zY ha;rw [← hX];have HRD0:=zY h;have HRL:=zY (show r<w.heap.size from Blk.lt h);have CK:=zY (fun (b:Nat) (e:Int) (u:World) (h:RD u r s b d e)=>qbD s r b d e u h);have CF:=zY (fun (b:Nat) (e:Int) (u:World) (h:RD u r s b d e)=>qbd 13 s r b d e u h);have CE:=zY (fun (b:Nat) (u:World) (h:RD u r s b d 0) (hb:b≤s.size)=>escape_any s hs r b d u h hb);have ha':(a:Int)≤(s.size:Int):=by omega
 clear h hX ha;go_enter Tryz.func103,Tryz.ntmps103;go_wp2_with fail;refine qaa (CK.out a 0 _ HRD0.out) ?_;rintro y w1 ⟨rfl,hrd,hrg⟩;have HRD1:=zY hrd;have HRG1:=zY hrg;have HLK:=zY (show lookE s a 0=look X by rw [lookE,if_pos rfl,HX.out]);obtain ⟨c0,c1,-,-⟩:=hrd.cells;rw [HLK.out];clear hrd hrg;unfold byteV;obtain ⟨z,hz⟩:∃ z:Int,z=(((look X).toNat:Nat):Int):=⟨_,rfl⟩;rw [← hz]
 by_cases h34:look X=34
 case neg =>
  have hzn:(z == 34)=false:=by
   rw [hz,beq_eq_false_iff_ne];intro h;exact h34 (UInt8.toNat.inj (by show (look X).toNat=34; omega))
  have hzn2:(z != 34)=true:=by rw [bne,hzn]; rfl
  have HN:=zY (show textP X=none by rw [textP,if_neg h34]);clear hz h34;go_wp2_with fail;refine qaa (CF.out _ _ _ HRD1.out) ?_;rintro y w6 ⟨rfl,hrd,hrg⟩;have HRD6:=zY (show RD w6 r s a d 13 from hrd);have HRG6:=zY (HRG1.out.trans hrg);clear hrd hrg;go_wp2_with fail;go_ret;rw [HN.out];refine ⟨rfl,a,by have:=HA.out; omega,fun x r' h=>?_,HRD6.out,HRG6.out⟩
  cases h
 case pos =>
 have hz34:z=34:=by rw [hz,h34]; rfl
 have HLT:=zY (show a<s.size from qcb (by rw [← HX.out,h34]; decide));have HXT:=zY (show textP X=strA X.length [] X.tail by rw [textP,if_pos h34]);subst hz34;clear hz h34;obtain ⟨b,hb⟩:=eX (a+1);have HB:=zY hb;have HBI:=zY (show (a:Int)+1=(b:Int) by omega);clear hb;go_wp2_with (refine qag (x:=.tmp 16) (i:=1) HRD1.out rfl rfl rfl rfl (by kernel_rfl) (by simp [rdCells]) rfl ?_; intro w2 hb2 hw2)
 have HRD2:=zY (show RD w2 r s b d 0 from by
  show Blk w2 r _ #[.string s,.int .i64 ((b:Nat):Int),.int .i64 d,.int .i64 0];rw [← HBI.out];exact hb2)
 have HRG2:=zY (HRG1.out.trans (.wrote hw2));clear hb2 hw2 c0 c1
 go_loopg [3,4] (s.size - b+1) (fun gk x c wr=>∃ (acc:Bs) (A:Option Addr) (cp a1:Nat) (e1:Int),x=.slice A acc.length cp∧OwnX wr w.heap.size 5 1 (.slice A acc.length cp) acc.length (bytesV acc) ∧
  TxK s X a acc a1 e1 gk∧RD wr r s a1 d e1∧RG r w wr)
 case atStart =>
  refine ⟨[],none,0,b,0,rfl,OwnX.nil _ _ _ _,.inl ⟨rfl,by have:=HB.out; have:=HLT.out; omega,by have:=HB.out; omega,Nat.zero_le _,rfl,X.length,?_,?_⟩,HRD2.out,HRG2.out⟩
  ·rw [HB.out,HX.out,List.length_drop,List.length_drop];have h5:s.data.toList.length=s.size:=rfl;have:=HLT.out;omega
  ·rw [HB.out,qbg,← HX.out,HXT.out]
 case round =>
  obtain ⟨acc,A,cp,a1,e1,rfl,hown,hk,hrd,hrg⟩:=hrel;have HOWN3:=zY hown;have HRD3:=zY hrd;have HRG3:=zY hrg;clear hown hrd hrg
  rcases hk with ⟨rfl,h1,h2,h3,h4,n,hn1,hn2⟩ | ⟨rfl,hn,hle,hg0⟩
  case inr =>
   have HN:=zY hn;have HLE:=zY hle;clear hn hle hg0;go_wp2_with fail;refine qaa (CK.out a1 13 _ HRD3.out) ?_;rintro y w4 ⟨rfl,hrd,hrg⟩;have HRD4:=zY hrd;have HRG4:=zY (HRG3.out.trans hrg);clear hrd hrg;rw [show byteV (lookE s a1 13)=.int .u8 0 from rfl];go_wp2_with fail;refine qaa (CF.out _ _ _ HRD4.out) ?_;rintro y w6 ⟨rfl,hrd,hrg⟩;have HRD6:=zY (show RD w6 r s a1 d 13 from hrd);have HRG6:=zY (HRG4.out.trans hrg);clear hrd hrg;go_wp2_with fail;go_ret;rw [HN.out];refine ⟨rfl,a1,by have:=HLE.out; omega,fun x r' h=>?_,HRD6.out,HRG6.out⟩
   cases h
  case inl =>
   obtain ⟨rest,hrest⟩:=eX (s.data.toList.drop a1);rw [← hrest] at hn1 hn2;have HRE:=zY hrest;have HN1:=zY hn1;have HN2:=zY hn2;have HA1:=zY h1;have HA2:=zY h2;have HGK:=zY h4;have HLE:=zY (show (a1:Int)≤(s.size:Int)+5 by omega);have hacc:(acc.length:Int)≤1000000:=by omega
   have HACC:=zY h3;have ha1:(a1:Int)≤(s.size:Int):=by omega
   clear hrest hn1 hn2 h1 h2 h3 h4;go_wp2_with fail;refine qaa (CK.out a1 0 _ HRD3.out) ?_;rintro y w4 ⟨rfl,hrd,hrg⟩;have HRD4:=zY hrd;have HRG4:=zY (HRG3.out.trans hrg);have HOWN4:=zY (HOWN3.out.kept hrg (.inr (by intro h; have:=(HOWN3.out.lt r h).1; have:=HRL.out; omega)));have HLC:=zY (show lookE s a1 0=look rest by rw [lookE,if_pos rfl,HRE.out]);clear hrd hrg;rw [HLC.out];obtain ⟨c,hc⟩:=eX (look rest);rw [← hc];have HC:=zY hc;unfold byteV;obtain ⟨z,hz⟩:∃ z:Int,z=((c.toNat:Nat):Int):=⟨_,rfl⟩;rw [← hz];have HZ:=zY hz
   by_cases hbad:c<32∨126<c
   case pos =>
    have HN:=zY (show textP X=none by rw [← HN2.out]; exact strA_bad (by rw [← HC.out]; exact hbad))
    have hor:z<32∨(¬ z<32∧126<z):=by
     rw [UInt8.lt_iff_toNat_lt,UInt8.lt_iff_toNat_lt] at hbad;rw [show (32:UInt8).toNat=32 from rfl,show (126:UInt8).toNat=126 from rfl] at hbad;omega
    clear hbad hc hz
    rcases hor with h1 | ⟨h1,h2⟩
    ·skip
     go_wp2_with fail;refine qaa (CF.out _ _ _ HRD4.out) ?_;rintro y w6 ⟨rfl,hrd,hrg⟩;have HRD6:=zY (show RD w6 r s a1 d 13 from hrd);have HRG6:=zY (HRG4.out.trans hrg);clear hrd hrg;go_wp2_with fail;go_ret;rw [HN.out];refine ⟨rfl,a1,by have:=HLE.out; omega,fun x r' h=>?_,HRD6.out,HRG6.out⟩
     cases h
    ·skip
     go_wp2_with fail;refine qaa (CF.out _ _ _ HRD4.out) ?_;rintro y w6 ⟨rfl,hrd,hrg⟩;have HRD6:=zY (show RD w6 r s a1 d 13 from hrd);have HRG6:=zY (HRG4.out.trans hrg);clear hrd hrg;go_wp2_with fail;go_ret;rw [HN.out];refine ⟨rfl,a1,by have:=HLE.out; omega,fun x r' h=>?_,HRD6.out,HRG6.out⟩
     cases h
   case neg =>
   have hz2:¬ z<32∧¬ 126<z:=by
    rw [UInt8.lt_iff_toNat_lt,UInt8.lt_iff_toNat_lt] at hbad;rw [show (32:UInt8).toNat=32 from rfl,show (126:UInt8).toNat=126 from rfl] at hbad;omega
   obtain ⟨hz1,hz2⟩:=hz2;have HBAD:=zY hbad
   have HLT1:=zY (show a1<s.size from qcb (by
    rw [← HRE.out,← HC.out];intro h0;rw [h0] at hbad;exact hbad (.inl (by decide))))
   obtain ⟨tl,htl⟩:=eX (rest.tail);have HTL:=zY htl
   have HRT:=zY (show rest=c :: tl by
    have h1:=HC.out;rw [htl]
    cases hr:rest with
    | nil =>
     exact absurd (.inl (by rw [h1,hr]; decide)) hbad
    | cons x l=>rw [h1,hr]; rfl)
   obtain ⟨m,hm⟩:∃ m,n=m+1:=⟨n - 1,by have:=HN1.out; omega⟩;have HM:=zY hm;obtain ⟨b1,hb1⟩:=eX (a1+1);have HB1:=zY hb1;have HBI1:=zY (show (a1:Int)+1=(b1:Int) by omega);have HDB:=zY (show s.data.toList.drop b1=tl by rw [hb1,qbg,← HRE.out,htl]);obtain ⟨c0,c1,-,-⟩:=HRD4.out.cells;clear hbad hc hz htl hm hb1
   by_cases h34:c=34
   ·have hz34:z=34:=by rw [HZ.out,h34]; rfl
    have HT:=zY (show textP X=some (acc,tl) by rw [← HN2.out,HRT.out,HM.out,h34,strA_end]);subst hz34;clear h34 hz1 hz2
    go_upto_region 12 with (refine qag (x:=.tmp 37) (i:=1) HRD4.out rfl rfl rfl rfl (by kernel_rfl) (by simp [rdCells]) rfl ?_; intro w5 hb5 hw5)
    have HOWN5:=zY (HOWN4.out.kept hw5.grown (.inr (by intro h; have:=(HOWN4.out.lt r h).1; have:=HRL.out; omega)));have hrw:=Rd.of_own HOWN5.out (Nat.le_refl _);have hrun:=qbY (P:=Tryz.prog) Tryz.underlying40 Tryz.underlying5 Tryz.underlying9 hrw cp
    have HRD5:=zY (show RD w5 r s b1 d 0 from by
     show Blk w5 r _ #[.string s,.int .i64 ((b1:Nat):Int),.int .i64 d,.int .i64 0];rw [← HBI1.out];exact hb5)
    have HRG5:=zY (HRG4.out.trans (.wrote hw5));clear hrw hb5 hw5 c0 c1;go_wp2_with fail;go_ret;rw [HT.out];refine ⟨rfl,b1,by have:=HB1.out; omega,fun x r' h=>?_,HRD5.out,HRG5.out⟩
    injection h with h
    injection h with h1 h2
    subst h2;exact ⟨by have:=HB1.out; have:=HA2.out; omega,.inr (by have:=HB1.out; have:=HLT1.out; omega),HDB.out⟩
   ·have hz34:(z == 34)=false:=by
     rw [HZ.out,beq_eq_false_iff_ne];intro h;exact h34 (UInt8.toNat.inj (by show c.toNat=34; omega))
    by_cases h92:c=92
    ·have hz92:z=92:=by rw [HZ.out,h92]; rfl
     have HS:=zY (show (match escP tl with | some (b,r')=>strA m (acc++[b]) r' | none=>none)=textP X by rw [← HN2.out,HRT.out,HM.out,h92,strA_esc]);subst hz92;clear h34 h92 hz1 hz2 hz34;go_wp2_with (refine qag (x:=.tmp 46) (i:=1) HRD4.out rfl rfl rfl rfl (by kernel_rfl) (by simp [rdCells]) rfl ?_; intro w5 hb5 hw5)
     have HRD5:=zY (show RD w5 r s b1 d 0 from by
      show Blk w5 r _ #[.string s,.int .i64 ((b1:Nat):Int),.int .i64 d,.int .i64 0];rw [← HBI1.out];exact hb5)
     have HRG5:=zY (HRG4.out.trans (.wrote hw5));have HOWN5:=zY (HOWN4.out.kept hw5.grown (.inr (by intro h; have:=(HOWN4.out.lt r h).1; have:=HRL.out; omega)));clear hb5 hw5 c0 c1;refine qaa (CE.out b1 _ HRD5.out (by have:=HB1.out; have:=HLT1.out; omega)) ?_;rintro y w6 ⟨rfl,a2,ha2,hat,hrd,hrg⟩;have HRG6:=zY (HRG5.out.trans hrg);have HOWN6:=zY (HOWN5.out.kept hrg (.inr (by intro h; have:=(HOWN5.out.lt r h).1; have:=HRL.out; omega)));rw [HDB.out] at hat hrd ⊢;have HRD6:=zY hrd;have HAT:=zY hat;have HA22:=zY ha2;clear hrd hrg hat ha2;obtain ⟨cb,hcb⟩:=eX (escV (escP tl));rw [← hcb];have HCB:=zY hcb;clear hcb;unfold byteV;obtain ⟨zb,hzb⟩:∃ zb:Int,zb=((cb.toNat:Nat):Int):=⟨_,rfl⟩;rw [← hzb];have HZB:=zY hzb;clear hzb;go_wp2_with (refine qal sl_u8 rfl rfl HOWN6.out rfl rfl rfl rfl (by unfold maxLen; omega) (by omega) HRG6.out.size ?_; intro A2 cp2 w7 ho7 hg7 hn7)
     have HOWN7:=zY (show OwnX w7 w.heap.size 5 1 (.slice A2 (acc++[cb]).length cp2) (acc++[cb]).length (bytesV (acc++[cb])) by
      rw [qaE,List.length_append];rw [show bytesV [cb]=[Value.int .u8 zb] by rw [HZB.out]; rfl];exact ho7)
     have HRD7:=zY (show RD w7 r s a2 d (escE (escP tl)) from (hg7.block r (Blk.lt HRD6.out) (by intro h; have:=(HOWN6.out.lt r h.symm).1; have:=HRL.out; omega)).trans HRD6.out);have HRG7:=zY (HRG6.out.andThen hg7 (fun j hj=>.inl (HOWN6.out.lt j hj).1));clear ho7 hg7 hn7;go_wp2_with fail
     cases hes:escP tl with
     | none =>
      have HN:=zY (show textP X=none by rw [← HS.out,hes]);have HR8:=zY (show RD w7 r s a2 d 13 by have h:=HRD7.out; rw [hes] at h; exact h);clear hes
      go_roundg 0
      case measure=>have:=HGK.out; omega
      case rel=>exact ⟨acc++[cb],A2,cp2,a2,13,by rw [List.length_append]; rfl,HOWN7.out,.inr ⟨rfl,HN.out,HA22.out,rfl⟩,HR8.out,HRG7.out⟩
     | some p =>
      obtain ⟨pb,pr⟩:=p;have HAT2:=zY (HAT.out pb pr hes);have HSS:=zY (show strA m (acc++[cb]) pr=textP X by rw [← HS.out,HCB.out,hes]; rfl);have HLN:=zY (escP_len hes);have HR8:=zY (show RD w7 r s a2 d 0 by have h:=HRD7.out; rw [hes] at h; exact h);clear hes
      go_roundg (s.size - a2+1)
      case measure=>have:=HGK.out; have:=HAT2.out.le; have:=HAT2.out.top; have:=HB1.out; have:=HLT1.out; omega
      case rel =>
       have hl:=HAT2.out.le;have ht:=HAT2.out.top;have hb:=HB1.out;have hlt:=HLT1.out;refine ⟨acc++[cb],A2,cp2,a2,0,by rw [List.length_append]; rfl,HOWN7.out,.inl ⟨rfl,by omega,by have:=HA2.out; omega,?_,rfl,m,?_,?_⟩,HR8.out,HRG7.out⟩
       ·rw [List.length_append];have:=HACC.out;simp;omega
       ·rw [HAT2.out.rest];have h1:=HN1.out;have h2:=HLN.out;rw [HRT.out,HM.out] at h1;simp at h1;omega
       ·rw [HAT2.out.rest,HSS.out]
    ·have hz92:(z == 92)=false:=by
      rw [HZ.out,beq_eq_false_iff_ne];intro h;exact h92 (UInt8.toNat.inj (by show c.toNat=92; omega))
     have HSS:=zY (show strA m (acc++[c]) tl=textP X by rw [← HN2.out,HRT.out,HM.out,strA_one HBAD.out h34 h92]);clear h34 h92
     go_wp2_with (first
      | (refine qag (x:=.tmp 46) (i:=1) HRD4.out rfl rfl rfl rfl (by kernel_rfl) (by simp [rdCells]) rfl ?_; intro w5 hb5 hw5; have HOWN5:=zY (HOWN4.out.kept hw5.grown (.inr (by intro h; have:=(HOWN4.out.lt r h).1; have:=HRL.out; omega))); have HRG5:=zY (HRG4.out.trans (.wrote hw5)))
      | (refine qal sl_u8 rfl rfl HOWN5.out rfl rfl rfl rfl (by unfold maxLen; omega) (by omega) HRG5.out.size ?_; intro A2 cp2 w7 ho7 hg7 hn7))
     have HRD5:=zY (show RD w5 r s b1 d 0 from by
      show Blk w5 r _ #[.string s,.int .i64 ((b1:Nat):Int),.int .i64 d,.int .i64 0];rw [← HBI1.out];exact hb5)
     have HOWN7:=zY (show OwnX w7 w.heap.size 5 1 (.slice A2 (acc++[c]).length cp2) (acc++[c]).length (bytesV (acc++[c])) by
      rw [qaE,List.length_append];rw [show bytesV [c]=[Value.int .u8 z] by rw [HZ.out]; rfl];exact ho7)
     have HRD7:=zY (show RD w7 r s b1 d 0 from (hg7.block r (Blk.lt HRD5.out) (by intro h; have:=(HOWN5.out.lt r h.symm).1; have:=HRL.out; omega)).trans HRD5.out);have HRG7:=zY (HRG5.out.andThen hg7 (fun j hj=>.inl (HOWN5.out.lt j hj).1));clear ho7 hg7 hn7;go_wp2_with fail
     go_roundg (s.size - b1+1)
     case measure=>have:=HGK.out; have:=HB1.out; have:=HLT1.out; omega
     case rel =>
      have hb:=HB1.out;have hlt:=HLT1.out;refine ⟨acc++[c],A2,cp2,b1,0,by rw [List.length_append]; rfl,HOWN7.out,.inl ⟨rfl,by omega,by have:=HA2.out; omega,?_,rfl,m,?_,?_⟩,HRD7.out,HRG7.out⟩
      ·rw [List.length_append];have:=HACC.out;simp;omega
      ·rw [HDB.out];have h1:=HN1.out;rw [HRT.out,HM.out] at h1;simp at h1;omega
      ·rw [HDB.out,HSS.out]
structure DigK (X tk rest:Bs) (k:Nat):Prop where
 len:tk.length=k
 k17:k≤17
 eq:takeD 17 X=(tk++(takeD (17 - k) rest).1,(takeD (17 - k) rest).2)
 app:X=tk++rest
 lt:decV 0 tk<10^k
theorem DigK.start (X:Bs):DigK X [] X 0:=⟨rfl,by decide,by simp,rfl,by simp [decV]⟩
theorem isDig_val {c:UInt8} (h:isDig c=true):48≤c.toNat∧c.toNat≤57:=by
 unfold isDig at h;simp only [Bool.and_eq_true,decide_eq_true_eq,UInt8.le_iff_toNat_le] at h;exact h
theorem DigK.next {X tk rest:Bs} {k:Nat} {c:UInt8} (h:DigK X tk (c :: rest) k) (hc:isDig c=true) (hk:k<17):DigK X (tk++[c]) rest (k+1):=by
 have h1:=h.eq;obtain ⟨m,hm⟩:∃ m,17 - k=m+1:=⟨16 - k,by omega⟩;rw [hm,takeD,if_pos hc] at h1;have h2:=isDig_val hc;have h3:=h.lt;refine ⟨by simp [h.len],by omega,?_,by rw [h.app]; simp,?_⟩
 ·rw [h1,show 17 - (k+1)=m by omega];simp
 ·rw [qdD,Nat.pow_succ];omega
theorem DigK.stop {X tk rest:Bs} {k:Nat} (h:DigK X tk rest k) (hs:isDig (look rest)=false∨k=17):takeD 17 X=(tk,rest):=by
 rw [h.eq]
 have:takeD (17 - k) rest=([],rest):=by
  rcases hs with hs | hs
  ·cases rest with
   | nil=>cases 17 - k <;> rfl
   | cons c r =>
    have hc:isDig c=false:=hs
    cases hq:17 - k with
    | zero=>rfl
    | succ m=>simp [takeD,hc]
  ·rw [hs];rfl
 rw [this];simp
def numV:Option (Int × Bs)→JV
 | none=>zJV
 | some (n,_)=>⟨2,n,[],none,0,0,none,0,0⟩
def numE:Option (Int × Bs)→Int
 | none=>13
 | some _=>0
theorem number_any (s:ByteArray) (hs:(s.size:Int)≤1000000) (r a:Nat) (d:Int) (w:World) (h:RD w r s a d 0) (ha:a≤s.size) :
  Calls Tryz.prog 73 #[.pointer (some ⟨r,0,none⟩)] w fun x w'=>x=.returned (.agg (jvCells (numV (numP (s.data.toList.drop a)))))∧∃ a',At s a a' (digP (s.data.toList.drop a)).2 ∧
   RD w' r s a' d (numE (numP (s.data.toList.drop a)))∧RG r w w':=by
 have hu:=Tryz.underlying44;obtain ⟨W0,hW0⟩:=eX (w.alloc (.cells (jvCells zJV) 44));have hb0:Below w.heap.size w W0:=by rw [hW0]; exact (Below.refl _ w).alloc (Nat.le_refl _) _
 obtain ⟨G,hG⟩:=eX (w.heap.size);have HKZ:=zY (show Blk W0 G 44 (jvCells zJV) by rw [hW0,hG]; exact Blk.new _ _ _);have HRD:=zY (h.grow hb0);have HRG:=zY (show RG r w W0 from .below hb0);have HRL:=zY (show r<G by rw [hG]; exact Blk.lt h);have HW0:=zY hW0;obtain ⟨X,hX⟩:=eX (s.data.toList.drop a);have HX:=zY hX;have HA:=zY ha;have ha':(a:Int)≤(s.size:Int):=by omega
 rw [← hX];have CL:=zY (fun (b:Nat) (u:World) (h:RD u r s b d 0)=>qbD s r b d 0 u h);clear hW0 hb0 h hX ha;rw [hG] at *;clear hG;go_enter Tryz.func73,Tryz.ntmps73
 go_upto_region 1 with (fail)
 rw [show (w.alloc (.cells #[.int .i64 0,.int .i64 0,.string ⟨#[]⟩,.slice none 0 0,.slice none 0 0] 44))=W0 from HW0.out.symm];clear HW0;obtain ⟨c0,c1,-,-⟩:=HRD.out.cells;go_wp2_with fail;refine qaa (CL.out a _ HRD.out) ?_;rintro y w1 ⟨rfl,hrd,hrg⟩;have HRD1:=zY hrd;have HZ1:=zY (show Blk w1 w.heap.size 44 (jvCells zJV) from (World.grownBy.block hrg _ HKZ.out.lt (by have:=HRL.out; intro h; injection h with h; omega)).trans HKZ.out);have HRG1:=zY (HRG.out.trans hrg);clear hrd hrg c0 c1;obtain ⟨neg,hneg⟩:=eX (negP X);have hlk:lookE s a 0=look X:=by rw [lookE,if_pos rfl,HX.out]
 have hnz:((((lookE s a 0).toNat:Nat):Int) == 45)=neg:=by
  rw [hneg,hlk,negP,Bool.eq_iff_iff,beq_iff_eq,beq_iff_eq]
  constructor
  ·intro h; exact UInt8.toNat.inj (by show (look X).toNat=45; omega)
  ·intro h; rw [h]; rfl
 unfold byteV;generalize (((lookE s a 0).toNat:Nat):Int)=z at *;have HNG:=zY hneg;obtain ⟨f,hf⟩:=eX ((if neg then a+1 else a));have HF:=zY hf
 have HLT:=zY (show neg=true→a<s.size from fun h=>qcb (by
  rw [h] at hneg;have:look X=45:=by simpa [negP] using hneg.symm
  rw [← HX.out,this]
  decide))
 clear hneg hlk hf
 go_upto_if 14 with (fail)
 go_cut [] (fun wx=>RD wx r s f d 0∧Blk wx w.heap.size 44 (jvCells zJV)∧RG r w wx)
 case first =>
  obtain ⟨c0,c1,-,-⟩:=HRD1.out.cells
  cases neg with
  | true =>
   go_wp2_with (refine qag (x:=.tmp 21) (i:=1) HRD1.out rfl rfl rfl rfl (by kernel_rfl) (by simp [rdCells]) rfl ?_; intro w3 hb3 hw3)
   go_meet
   exact ⟨by rw [HF.out]; exact hb3,hw3.blk HZ1.out (by have:=HRL.out; omega),HRG1.out.trans (.wrote hw3)⟩
  | false =>
   go_wp2_with fail
   go_meet
   exact ⟨by rw [HF.out]; exact HRD1.out,HZ1.out,HRG1.out⟩
 case rest =>
 obtain ⟨hrd,hz,hrg⟩:=hcut;have HRD2:=zY hrd;have HZ2:=zY hz;have HRG2:=zY hrg;obtain ⟨X1,hX1⟩:=eX ((if neg then X.tail else X));have HX1:=zY hX1
 have HXF:=zY (show s.data.toList.drop f=X1 by
  rw [HF.out,hX1]
  cases neg with
  | true=>simp only [if_true]; rw [qbg,HX.out]
  | false=>simp only [Bool.false_eq_true,if_false]; rw [HX.out])
 have HFS:=zY (show a≤f∧f≤s.size by
  have h1:=HF.out;have h2:=HA.out
  cases neg with
  | true=>simp only [if_true] at h1; have:=HLT.out rfl; omega
  | false=>simp only [Bool.false_eq_true,if_false] at h1; omega)
 have hf9:(f:Int)≤1000000:=by have:=HFS.out; omega
 obtain ⟨c0,c1,-,-⟩:=hrd.cells;clear hrd hz hrg hX1 hnz;go_wp2_with fail;refine qaa (CL.out f _ HRD2.out) ?_;rintro y w3 ⟨rfl,hrd,hrg⟩;have HRD3:=zY hrd;have HZ3:=zY (show Blk w3 w.heap.size 44 (jvCells zJV) from (World.grownBy.block hrg _ HZ2.out.lt (by have:=HRL.out; intro h; injection h with h; omega)).trans HZ2.out);have HRG3:=zY (HRG2.out.trans hrg);have HV3:=zY (show lookE s f 0=look X1 by rw [lookE,if_pos rfl,HXF.out]);clear hrd hrg c0 c1;go_wp2_with fail
 go_loopg [5,6] 17 (fun gk x c wr=>∃ (k:Nat) (tk rest:Bs),DigK X1 tk rest k∧gk+k=17∧x=.int .i64 ((decV 0 tk:Nat):Int)∧c=byteV (look rest)∧s.data.toList.drop (f+k)=rest∧RD wr r s (f+k) d 0∧Blk wr w.heap.size 44 (jvCells zJV)∧RG r w wr)
 case atStart=>exact ⟨0,[],X1,DigK.start _,rfl,rfl,by rw [HV3.out],HXF.out,HRD3.out,HZ3.out,HRG3.out⟩
 case round =>
  obtain ⟨k,tk,rest,hdk,hgk,rfl,rfl,hrest,hrd,hz,hrg⟩:=hrel;obtain ⟨c0,c1,-,-⟩:=hrd.cells;have HDK:=zY hdk;have HRE:=zY hrest;have HRD4:=zY hrd;have HZ4:=zY hz;have HRG4:=zY hrg;have hk17:(k:Int)≤17:=by have:=hdk.k17; omega
  clear hdk hrest hrd hz hrg;obtain ⟨c,hc⟩:=eX (look rest);rw [← hc];have HC:=zY hc;obtain ⟨z2,hz2⟩:∃ z2:Int,z2=((c.toNat:Nat):Int):=⟨_,rfl⟩;have HZ:=zY hz2
  have HDG:=zY (show isDig c=(decide (48≤z2) && decide (z2≤57)) by
   rw [hz2,isDig,Bool.eq_iff_iff];simp only [Bool.and_eq_true,decide_eq_true_eq,UInt8.le_iff_toNat_le];show (48≤c.toNat∧c.toNat≤57)↔_
   omega)
  unfold byteV;rw [← hz2];have hfk:((f+k:Nat):Int)=(f:Int)+(k:Int):=by omega
  clear hc hz2
  go_upto_region 7 with (fail)
  go_cut [42] (fun x wx=>x=.bool (decide (48≤z2) && decide (z2≤57) && decide ((k:Int)≤16))∧wx=wr)
  case first =>
   go_wp2_with fail
   all_goals (go_meet; exact ⟨by first | rfl | (simp; done) | (simp_all; done) | grind,rfl⟩)
  case rest =>
  obtain ⟨rfl,rfl⟩:=hcut;rw [← HDG.out]
  have hdc:isDig c=true→48≤z2∧z2≤57:=fun h=>by
   rw [HDG.out] at h;simp only [Bool.and_eq_true,decide_eq_true_eq] at h;exact h
  have HDC:=zY hdc;clear hdc
  by_cases hgo:isDig c=true∧k≤16
  ·obtain ⟨hg1,hg2⟩:=hgo;obtain ⟨h48,h57⟩:=HDC.out hg1
   have hrt:rest=c :: rest.tail:=by
    cases rest with
    | nil =>
     have:c=0:=HC.out;rw [this] at hg1;exact absurd hg1 (by decide)
    | cons x l=>rw [HC.out]; rfl
   obtain ⟨tl,htl⟩:=eX (rest.tail);rw [← htl] at hrt;have HNX:=zY (show DigK X1 (tk++[c]) tl (k+1) from DigK.next (by rw [← hrt]; exact HDK.out) hg1 (by omega))
   have HRT:=zY (show s.data.toList.drop (f+(k+1))=tl by
    rw [← Nat.add_assoc,qbg,HRE.out,htl])
   have HFK:=zY (show f+k<s.size from qcb (by
    rw [HRE.out,← HC.out];intro h0;rw [h0] at hg1;exact absurd hg1 (by decide)))
   obtain ⟨n,hn⟩:=eX (decV 0 tk)
   have HNV:=zY (show ((decV 0 (tk++[c]):Nat):Int)=10*(n:Int)+(z2 - 48) by
    rw [qdD,← hn,HZ.out];have:=(isDig_val hg1).1
    omega)
   have hn9:(n:Int)<10000000000000000:=by
    have h1:=HDK.out.lt;have h2:10^k≤10^16:=Nat.pow_le_pow_right (by decide) hg2;rw [← hn] at h1;omega
   have hw1:wrap64 (10*(n:Int))=10*(n:Int):=by unfold wrap64; omega
   have hw2:wrap64 (10*(n:Int)+(z2 - 48))=10*(n:Int)+(z2 - 48):=by unfold wrap64; omega
   clear hn9;rw [← hn,hg1,show decide ((k:Int)≤16)=true by simp; omega];have HGK:=zY hg2;clear hg1 hg2 hrt htl hn;go_wp2_with (refine qag (x:=.tmp 57) (i:=1) HRD4.out rfl rfl rfl rfl (by kernel_rfl) (by simp [rdCells]) rfl ?_; intro w5 hb5 hw5)
   have HRD5:=zY (show RD w5 r s (f+(k+1)) d 0 from by
    show Blk w5 r _ #[.string s,.int .i64 ((f+(k+1):Nat):Int),.int .i64 d,.int .i64 0];have e:((f+(k+1):Nat):Int)=(f:Int)+(k:Int)+1:=by omega
    rw [e];have h:=hb5;simp only [hfk] at h;exact h)
   have HZ5:=zY (hw5.blk HZ4.out (by have:=HRL.out; omega));have HRG5:=zY (HRG4.out.trans (.wrote hw5));clear hb5 hw5;refine qaa (CL.out _ _ HRD5.out) ?_;rintro y w6 ⟨rfl,hrd,hrg⟩;have HRD6:=zY hrd;have HZ6:=zY (show Blk w6 w.heap.size 44 (jvCells zJV) from (World.grownBy.block hrg _ HZ5.out.lt (by have:=HRL.out; intro h; injection h with h; omega)).trans HZ5.out);have HRG6:=zY (HRG5.out.trans hrg);have HV6:=zY (show lookE s (f+(k+1)) 0=look tl by rw [lookE,if_pos rfl,HRT.out]);clear hrd hrg;go_wp2_with fail
   go_roundg (gk - 1)
   case measure=>have:=HGK.out; omega
   case rel=>exact ⟨k+1,tk++[c],tl,HNX.out,by have:=HGK.out; omega,by rw [HNV.out],by rw [HV6.out],HRT.out,HRD6.out,HZ6.out,HRG6.out⟩
  ·have HST:=zY (show takeD 17 X1=(tk,rest) from HDK.out.stop (by
    by_cases h:isDig c=true
    ·exact .inr (by have:=HDK.out.k17; have:¬ k≤16:=fun h'=>hgo ⟨h,h'⟩; omega)
    ·exact .inl (by rw [← HC.out]; simpa using h)))
   have hb:(isDig c && decide ((k:Int)≤16))=false:=by
    cases hq:isDig c with
    | false=>rfl
    | true =>
     have:¬ k≤16:=fun h'=>hgo ⟨hq,h'⟩;simp;omega
   rw [hb]
   have HLE:=zY (show f+k≤s.size from by
    have h1:=congrArg List.length HRE.out;have h2:=congrArg List.length HXF.out;have h3:=congrArg List.length HDK.out.app;have h4:=HDK.out.len;have h5:s.data.toList.length=s.size:=rfl;simp only [List.length_drop,List.length_append] at h1 h2 h3;have h6:=HFS.out
    omega)
   have hle:(f:Int)+(k:Int)≤(s.size:Int):=by have:=HLE.out; omega
   clear hb hgo;go_wp2_with fail
   go_quiet (fail)
   have HDX:=zY (show digP X=(tk,rest) by rw [digP,← HNG.out,← HX1.out,HST.out])
   have HEX:=zY (show (s.extract f (f+k)).data.toList=tk by
    rw [Lib.extract_data,HXF.out,HDK.out.app,show f+k - f=k by omega,← HDK.out.len,List.take_left])
   generalize hT:s.extract f (f+k)=T at *;have HTS:=zY (show T.data.toList=tk from HEX.out);have HRD7:=zY (show RD (wc.drewN nq) r s (f+k) d 0 from HRD4.out);have HZ7:=zY (show Blk (wc.drewN nq) w.heap.size 44 (jvCells zJV) from HZ4.out);have HRG7:=zY (HRG4.out.drewN nq);generalize wc.drewN nq=W7 at *
   go_upto_region 12 with (fail)
   obtain ⟨n,hn⟩:=eX (decV 0 tk);rw [← hn];have HNN:=zY hn;have HTL:=zY (show T.toList=tk by rw [Lib.toList_data,HTS.out]);have HTZ:=zY (show T.size=tk.length by rw [← HTS.out]; rfl)
   have haf:decide ((a:Int)<(f:Int))=neg:=by
    rw [HF.out]
    cases neg <;> simp
    omega
   have HAF:=zY haf;clear hn haf c0 c1
   go_cut [88] (fun x wx=>x=.bool (badN neg tk)∧wx=W7)
   case first =>
    cases tk with
    | nil =>
     have h0:(T.toList == [])=true:=by rw [HTL.out]; rfl
     go_wp2_with fail
     all_goals (go_meet; exact ⟨by simp [badN],rfl⟩)
    | cons y l =>
     have h0:(T.toList == [])=false:=by rw [HTL.out]; rfl
     have hz:0<T.size:=by rw [HTZ.out]; simp
     have hz':(0:Int)<(T.size:Int):=by omega
     have hy:T[0]=y:=by
      have:T.data.toList[0]?=some y:=by rw [HTS.out]; rfl
      have h2:T.data.toList[0]'hz=y:=by
       rw [List.getElem?_eq_getElem hz] at this
       injection this
      exact h2
     obtain ⟨q,hq⟩:∃ q:Int,((T[0].toNat:Nat):Int)=q:=⟨_,rfl⟩
     have HQ:=zY (show (look (y :: l) == 48)=(q == 48) by
      rw [← hq,hy,Bool.eq_iff_iff,beq_iff_eq,beq_iff_eq]
      constructor
      ·intro h; rw [show y=48 from h]; rfl
      ·intro h; exact UInt8.toNat.inj (by show y.toNat=48; omega))
     have HS1:=zY (show decide (1<(y :: l).length)=decide ((1:Int)<(T.size:Int)) by rw [HTZ.out,Bool.eq_iff_iff]; simp; omega)
     have HB:=zY (show badN neg (y :: l)=((q == 48 && (decide ((1:Int)<(T.size:Int)) || decide ((a:Int)<(f:Int)))) || decide ((1000000000000000:Int)<(n:Int))) by
      have hd:decide (1000000000000000<n)=decide ((1000000000000000:Int)<(n:Int)):=by rw [Bool.eq_iff_iff,decide_eq_true_iff,decide_eq_true_iff]; omega
      rw [badN,HQ.out,HS1.out,← HAF.out,← HNN.out,hd]
      rfl)
     clear hy;go_wp2_with fail
     all_goals (go_meet; exact ⟨by rw [HB.out]; first | rfl | (simp; done) | (simp_all; done) | grind,rfl⟩)
   case rest =>
   obtain ⟨rfl,rfl⟩:=hcut
   have HNP:=zY (show numP X=if badN neg tk=true then none else some ((if neg=true then -(n:Int) else (n:Int)),rest) by
    rw [numP,← HNG.out,HDX.out,← HNN.out])
   have HAT:=zY (show At s a (f+k) (digP X).2 from ⟨by have:=HFS.out; omega,.inr (by have:=HLE.out; omega),by rw [HDX.out]; exact HRE.out⟩)
   cases hbad:badN neg tk with
   | true =>
    have HN0:=zY (show numP X=none by rw [HNP.out,hbad]; rfl);clear HNP hbad;have CF:=zY (qbd 13 s r (f+k) d 0 _ HRD7.out);go_wp2_with fail;refine qaa CF.out ?_;rintro y w8 ⟨rfl,hrd,hrg⟩;have HRD8:=zY (show RD w8 r s (f+k) d 13 from hrd);have HZ8:=zY (show Blk w8 w.heap.size 44 (jvCells zJV) from (World.grownBy.block hrg _ HZ7.out.lt (by have:=HRL.out; intro h; injection h with h; omega)).trans HZ7.out);have HRG8:=zY (HRG7.out.trans hrg);clear hrd hrg;go_wp2_with (refine qae (x:=.tmp 2) (cells:=jvCells zJV) HZ8.out rfl rfl rfl rfl qao rfl (qai _) ?_; intro w9 hb9 hw9);have HB9:=zY hb9;refine bodyPost_ret (qau (P:=Tryz.prog) rfl rfl HB9.out hu rfl qao) rfl ?_;rw [HN0.out];exact ⟨rfl,f+k,HAT.out,hw9.blk HRD8.out (by have:=HRL.out; omega),HRG8.out.wrote_new hw9 (Nat.le_refl _)⟩
   | false =>
    have HN0:=zY (show numP X=some ((if neg=true then -(n:Int) else (n:Int)),rest) by rw [HNP.out,hbad]; rfl)
    have hn15:n≤1000000000000000:=by
     unfold badN at hbad;simp only [Bool.or_eq_false_iff,decide_eq_false_iff_not] at hbad;have:=hbad.2;rw [← HNN.out] at this;omega
    have hw:wrap64 (-(n:Int))=-(n:Int):=by unfold wrap64; omega
    clear HNP hbad hn15
    go_upto_region 15 with (fail)
    go_upto_if 94 with (fail)
    go_cut [5] (fun x wx=>x=.int .i64 (if decide ((a:Int)<(f:Int))=true then -(n:Int) else (n:Int))∧wx=wc)
    case first =>
     go_wp2_with fail
     all_goals (go_meet; exact ⟨by first | rfl | (simp; done) | (simp_all; done) | grind,rfl⟩)
    case rest =>
    obtain ⟨rfl,rfl⟩:=hcut;rw [HAF.out];generalize (if neg=true then -(n:Int) else (n:Int))=m at *;go_wp2_with (refine qae (x:=.tmp 2) (cells:=jvCells ⟨2,m,[],none,0,0,none,0,0⟩) HZ7.out rfl rfl rfl rfl qao rfl (qai _) ?_; intro w9 hb9 hw9);have HB9:=zY hb9;refine bodyPost_ret (qau (P:=Tryz.prog) rfl rfl HB9.out hu rfl qao) rfl ?_;rw [HN0.out];exact ⟨rfl,f+k,HAT.out,hw9.blk HRD7.out (by have:=HRL.out; omega),HRG7.out.wrote_new hw9 (Nat.le_refl _)⟩
def nulJ:JV:=zJV
def truJ:JV:=⟨1,1,[],none,0,0,none,0,0⟩
def falJ:JV:=⟨1,0,[],none,0,0,none,0,0⟩
def wJ (p:Bool) (v:JV):JV:=if p then v else zJV
def wA (p:Bool) (a n:Nat):Nat:=if p then a+n else a
def wE (p:Bool):Int:=if p then 0 else 13
theorem take1_any (s:ByteArray) (hs:(s.size:Int)≤1000000) (r a:Nat) (d:Int) (w:World) (h:RD w r s a d 0) (ha:a≤s.size) :
  Calls Tryz.prog 98 #[.pointer (some ⟨r,0,none⟩)] w fun x w'=>x=.returned (.agg (jvCells (wJ (List.isPrefixOf [110,117,108,108] (s.data.toList.drop a)) nulJ))) ∧
   RD w' r s (wA (List.isPrefixOf [110,117,108,108] (s.data.toList.drop a)) a 4) d (wE (List.isPrefixOf [110,117,108,108] (s.data.toList.drop a)))∧RG r w w':=by
 have hu:=Tryz.underlying44;obtain ⟨W0,hW0⟩:=eX (w.alloc (.cells (jvCells zJV) 44));have hb0:Below w.heap.size w W0:=by rw [hW0]; exact (Below.refl _ w).alloc (Nat.le_refl _) _
 obtain ⟨G,hG⟩:=eX (w.heap.size);have HKZ:=zY (show Blk W0 G 44 (jvCells zJV) by rw [hW0,hG]; exact Blk.new _ _ _);have HRD:=zY (h.grow hb0);have HRG:=zY (show RG r w W0 from .below hb0);have HRL:=zY (show r<G by rw [hG]; exact Blk.lt h);have HW0:=zY hW0
 have CW:=zY (show Calls Tryz.prog 99 #[.pointer (some ⟨r,0,none⟩),.string (bs [110,117,108,108]),.agg (jvCells nulJ)] W0 fun x w'=>x=.returned (.agg (jvCells (wJ (List.isPrefixOf [110,117,108,108] (s.data.toList.drop a)) nulJ))) ∧
   RD w' r s (wA (List.isPrefixOf [110,117,108,108] (s.data.toList.drop a)) a 4) d (wE (List.isPrefixOf [110,117,108,108] (s.data.toList.drop a)))∧RG r W0 w' from word_any [110,117,108,108] (by decide) nulJ s hs r a d W0 HRD.out ha)
 obtain ⟨pre,hpre⟩:=eX (List.isPrefixOf [110,117,108,108] (s.data.toList.drop a));rw [← hpre] at CW ⊢;clear hW0 hb0 h ha hpre;rw [hG] at *;clear hG;go_enter Tryz.func98,Tryz.ntmps98
 go_upto_region 1 with (fail)
 rw [show (w.alloc (.cells #[.int .i64 0,.int .i64 0,.string ⟨#[]⟩,.slice none 0 0,.slice none 0 0] 44))=W0 from HW0.out.symm];clear HW0;go_wp2_with fail;refine qaa CW.out ?_;rintro y w1 ⟨rfl,hrd,hrg⟩;have HRD1:=zY hrd;have HZ1:=zY (show Blk w1 w.heap.size 44 (jvCells zJV) from (World.grownBy.block hrg _ HKZ.out.lt (by have:=HRL.out; intro h; injection h with h; omega)).trans HKZ.out);have HRG1:=zY (HRG.out.trans hrg);clear hrd hrg;go_wp2_with (refine qae (x:=.tmp 2) (cells:=jvCells (wJ pre nulJ)) HZ1.out rfl rfl rfl rfl qao rfl (qai _) ?_; intro w9 hb9 hw9);have HB9:=zY hb9;refine bodyPost_ret (qau (P:=Tryz.prog) rfl rfl HB9.out hu rfl qao) rfl ?_;exact ⟨rfl,hw9.blk HRD1.out (by have:=HRL.out; omega),HRG1.out.wrote_new hw9 (Nat.le_refl _)⟩
theorem take2_any (s:ByteArray) (hs:(s.size:Int)≤1000000) (r a:Nat) (d:Int) (w:World) (h:RD w r s a d 0) (ha:a≤s.size) :
  Calls Tryz.prog 100 #[.pointer (some ⟨r,0,none⟩)] w fun x w'=>x=.returned (.agg (jvCells (wJ (List.isPrefixOf [116,114,117,101] (s.data.toList.drop a)) truJ))) ∧
   RD w' r s (wA (List.isPrefixOf [116,114,117,101] (s.data.toList.drop a)) a 4) d (wE (List.isPrefixOf [116,114,117,101] (s.data.toList.drop a)))∧RG r w w':=by
 have hu:=Tryz.underlying44;obtain ⟨W0,hW0⟩:=eX (w.alloc (.cells (jvCells zJV) 44));have hb0:Below w.heap.size w W0:=by rw [hW0]; exact (Below.refl _ w).alloc (Nat.le_refl _) _
 obtain ⟨G,hG⟩:=eX (w.heap.size);have HKZ:=zY (show Blk W0 G 44 (jvCells zJV) by rw [hW0,hG]; exact Blk.new _ _ _);have HRD:=zY (h.grow hb0);have HRG:=zY (show RG r w W0 from .below hb0);have HRL:=zY (show r<G by rw [hG]; exact Blk.lt h);have HW0:=zY hW0
 have CW:=zY (show Calls Tryz.prog 99 #[.pointer (some ⟨r,0,none⟩),.string (bs [116,114,117,101]),.agg (jvCells truJ)] W0 fun x w'=>x=.returned (.agg (jvCells (wJ (List.isPrefixOf [116,114,117,101] (s.data.toList.drop a)) truJ))) ∧
   RD w' r s (wA (List.isPrefixOf [116,114,117,101] (s.data.toList.drop a)) a 4) d (wE (List.isPrefixOf [116,114,117,101] (s.data.toList.drop a)))∧RG r W0 w' from word_any [116,114,117,101] (by decide) truJ s hs r a d W0 HRD.out ha)
 obtain ⟨pre,hpre⟩:=eX (List.isPrefixOf [116,114,117,101] (s.data.toList.drop a));rw [← hpre] at CW ⊢;clear hW0 hb0 h ha hpre;rw [hG] at *;clear hG;go_enter Tryz.func100,Tryz.ntmps100
 go_upto_region 1 with (fail)
 rw [show (w.alloc (.cells #[.int .i64 0,.int .i64 0,.string ⟨#[]⟩,.slice none 0 0,.slice none 0 0] 44))=W0 from HW0.out.symm];clear HW0;go_wp2_with fail;refine qaa CW.out ?_;rintro y w1 ⟨rfl,hrd,hrg⟩;have HRD1:=zY hrd;have HZ1:=zY (show Blk w1 w.heap.size 44 (jvCells zJV) from (World.grownBy.block hrg _ HKZ.out.lt (by have:=HRL.out; intro h; injection h with h; omega)).trans HKZ.out);have HRG1:=zY (HRG.out.trans hrg);clear hrd hrg;go_wp2_with (refine qae (x:=.tmp 2) (cells:=jvCells (wJ pre truJ)) HZ1.out rfl rfl rfl rfl qao rfl (qai _) ?_; intro w9 hb9 hw9);have HB9:=zY hb9;refine bodyPost_ret (qau (P:=Tryz.prog) rfl rfl HB9.out hu rfl qao) rfl ?_;exact ⟨rfl,hw9.blk HRD1.out (by have:=HRL.out; omega),HRG1.out.wrote_new hw9 (Nat.le_refl _)⟩
theorem take3_any (s:ByteArray) (hs:(s.size:Int)≤1000000) (r a:Nat) (d:Int) (w:World) (h:RD w r s a d 0) (ha:a≤s.size) :
  Calls Tryz.prog 101 #[.pointer (some ⟨r,0,none⟩)] w fun x w'=>x=.returned (.agg (jvCells (wJ (List.isPrefixOf [102,97,108,115,101] (s.data.toList.drop a)) falJ))) ∧
   RD w' r s (wA (List.isPrefixOf [102,97,108,115,101] (s.data.toList.drop a)) a 5) d (wE (List.isPrefixOf [102,97,108,115,101] (s.data.toList.drop a)))∧RG r w w':=by
 have hu:=Tryz.underlying44;obtain ⟨W0,hW0⟩:=eX (w.alloc (.cells (jvCells zJV) 44));have hb0:Below w.heap.size w W0:=by rw [hW0]; exact (Below.refl _ w).alloc (Nat.le_refl _) _
 obtain ⟨G,hG⟩:=eX (w.heap.size);have HKZ:=zY (show Blk W0 G 44 (jvCells zJV) by rw [hW0,hG]; exact Blk.new _ _ _);have HRD:=zY (h.grow hb0);have HRG:=zY (show RG r w W0 from .below hb0);have HRL:=zY (show r<G by rw [hG]; exact Blk.lt h);have HW0:=zY hW0
 have CW:=zY (show Calls Tryz.prog 99 #[.pointer (some ⟨r,0,none⟩),.string (bs [102,97,108,115,101]),.agg (jvCells falJ)] W0 fun x w'=>x=.returned (.agg (jvCells (wJ (List.isPrefixOf [102,97,108,115,101] (s.data.toList.drop a)) falJ))) ∧
   RD w' r s (wA (List.isPrefixOf [102,97,108,115,101] (s.data.toList.drop a)) a 5) d (wE (List.isPrefixOf [102,97,108,115,101] (s.data.toList.drop a)))∧RG r W0 w' from word_any [102,97,108,115,101] (by decide) falJ s hs r a d W0 HRD.out ha)
 obtain ⟨pre,hpre⟩:=eX (List.isPrefixOf [102,97,108,115,101] (s.data.toList.drop a));rw [← hpre] at CW ⊢;clear hW0 hb0 h ha hpre;rw [hG] at *;clear hG;go_enter Tryz.func101,Tryz.ntmps101
 go_upto_region 1 with (fail)
 rw [show (w.alloc (.cells #[.int .i64 0,.int .i64 0,.string ⟨#[]⟩,.slice none 0 0,.slice none 0 0] 44))=W0 from HW0.out.symm];clear HW0;go_wp2_with fail;refine qaa CW.out ?_;rintro y w1 ⟨rfl,hrd,hrg⟩;have HRD1:=zY hrd;have HZ1:=zY (show Blk w1 w.heap.size 44 (jvCells zJV) from (World.grownBy.block hrg _ HKZ.out.lt (by have:=HRL.out; intro h; injection h with h; omega)).trans HKZ.out);have HRG1:=zY (HRG.out.trans hrg);clear hrd hrg;go_wp2_with (refine qae (x:=.tmp 2) (cells:=jvCells (wJ pre falJ)) HZ1.out rfl rfl rfl rfl qao rfl (qai _) ?_; intro w9 hb9 hw9);have HB9:=zY hb9;refine bodyPost_ret (qau (P:=Tryz.prog) rfl rfl HB9.out hu rfl qao) rfl ?_;exact ⟨rfl,hw9.blk HRD1.out (by have:=HRL.out; omega),HRG1.out.wrote_new hw9 (Nat.le_refl _)⟩
def mF (k:Int) (f:Nat) (b:Nat):MapEntry:=⟨.int .u8 k,.func (.func f) #[] #[],b⟩
def takersE:Array MapEntry:=#[mF 110 98 0,mF 116 100 1,mF 102 101 2,mF 34 102 3,mF 91 104 4,mF 123 104 5]
theorem takers_any (w:World):Calls Tryz.prog 71 #[] w fun x w'=>x=.returned (.map (some w.heap.size))∧MapB w' w.heap.size takersE∧Below w.heap.size w w':=by
 have ht:=Tryz.underlying114;have hk:=Tryz.underlying5;have hmm:=@run_makeMap Tryz.prog;have HB:=zY ((Below.refl w.heap.size w).alloc (Nat.le_refl _) (.map #[] 0));have M0:=zY (MapB.new w);go_enter Tryz.func71,Tryz.ntmps71
 go_wp2_with (first
  | (refine qat (x:=110) ht hk rfl rfl rfl rfl rfl M0.out rfl ?_; intro w1 m1 g1; have M1:=zY m1; have G1:=zY (HB.out.grown g1 HB.out.size (by intro k h; injection h with h; omega)); clear m1 g1)
  | (refine qat (x:=116) ht hk rfl rfl rfl rfl rfl M1.out rfl ?_; intro w2 m2 g2; have M2:=zY m2; have G2:=zY (G1.out.grown g2 G1.out.size (by intro k h; injection h with h; omega)); clear m2 g2)
  | (refine qat (x:=102) ht hk rfl rfl rfl rfl rfl M2.out rfl ?_; intro w3 m3 g3; have M3:=zY m3; have G3:=zY (G2.out.grown g3 G2.out.size (by intro k h; injection h with h; omega)); clear m3 g3)
  | (refine qat (x:=34) ht hk rfl rfl rfl rfl rfl M3.out rfl ?_; intro w4 m4 g4; have M4:=zY m4; have G4:=zY (G3.out.grown g4 G3.out.size (by intro k h; injection h with h; omega)); clear m4 g4)
  | (refine qat (x:=91) ht hk rfl rfl rfl rfl rfl M4.out rfl ?_; intro w5 m5 g5; have M5:=zY m5; have G5:=zY (G4.out.grown g5 G4.out.size (by intro k h; injection h with h; omega)); clear m5 g5)
  | (refine qat (x:=123) ht hk rfl rfl rfl rfl rfl M5.out rfl ?_; intro w6 m6 g6; have M6:=zY m6; have G6:=zY (G5.out.grown g6 G5.out.size (by intro k h; injection h with h; omega)); clear m6 g6))
 go_ret;exact ⟨rfl,M6.out,G6.out⟩
def txJ (o:Option (Bs × Bs)):JV:=⟨3,0,textS o,none,0,0,none,0,0⟩
theorem take4_any (s:ByteArray) (hs:(s.size:Int)≤1000000) (r a:Nat) (d:Int) (w:World) (h:RD w r s a d 0) (ha:a≤s.size) :
  Calls Tryz.prog 102 #[.pointer (some ⟨r,0,none⟩)] w fun x w'=>x=.returned (.agg (jvCells (txJ (textP (s.data.toList.drop a)))))∧∃ a':Nat,(a':Int)≤(s.size:Int)+5 ∧
   (∀ t r',textP (s.data.toList.drop a)=some (t,r')→At s a a' r') ∧
   RD w' r s a' d (textE (textP (s.data.toList.drop a)))∧RG r w w':=by
 have hu:=Tryz.underlying44;obtain ⟨W0,hW0⟩:=eX (w.alloc (.cells (jvCells zJV) 44));have hb0:Below w.heap.size w W0:=by rw [hW0]; exact (Below.refl _ w).alloc (Nat.le_refl _) _
 obtain ⟨G,hG⟩:=eX (w.heap.size);have HKZ:=zY (show Blk W0 G 44 (jvCells zJV) by rw [hW0,hG]; exact Blk.new _ _ _);have HRD:=zY (h.grow hb0);have HRG:=zY (show RG r w W0 from .below hb0);have HRL:=zY (show r<G by rw [hG]; exact Blk.lt h);have HW0:=zY hW0;have CW:=zY (text_any s hs r a d W0 HRD.out ha);obtain ⟨o,ho⟩:=eX (textP (s.data.toList.drop a));rw [← ho] at CW ⊢;clear hW0 hb0 h ha ho;rw [hG] at *;clear hG;go_enter Tryz.func102,Tryz.ntmps102
 go_upto_region 1 with (fail)
 rw [show (w.alloc (.cells #[.int .i64 0,.int .i64 0,.string ⟨#[]⟩,.slice none 0 0,.slice none 0 0] 44))=W0 from HW0.out.symm];clear HW0;go_wp2_with fail;refine qaa CW.out ?_;rintro y w1 ⟨rfl,a',ha',hat,hrd,hrg⟩;have HA':=zY ha';have HAT:=zY hat;have HRD1:=zY hrd;have HZ1:=zY (show Blk w1 w.heap.size 44 (jvCells zJV) from (World.grownBy.block hrg _ HKZ.out.lt (by have:=HRL.out; intro h; injection h with h; omega)).trans HKZ.out);have HRG1:=zY (HRG.out.trans hrg);clear hrd hrg hat ha';go_wp2_with (refine qae (x:=.tmp 2) (cells:=jvCells (txJ o)) HZ1.out rfl rfl rfl rfl qao rfl (qai _) ?_; intro w9 hb9 hw9);have HB9:=zY hb9;refine bodyPost_ret (qau (P:=Tryz.prog) rfl rfl HB9.out hu rfl qao) rfl ?_;exact ⟨rfl,a',HA'.out,HAT.out,hw9.blk HRD1.out (by have:=HRL.out; omega),HRG1.out.wrote_new hw9 (Nat.le_refl _)⟩
def nameE (ns:List Bs) (o:Option (Bs × Bs)):Int:=match o with
 | none=>13
 | some (t,r1)=>if t ∈ ns then 8 else mustE 58 0 r1
theorem name_any (ns:List Bs) (A:Option Addr) (c base:Nat) (s:ByteArray) (hs:(s.size:Int)≤1000000) (r a:Nat) (d:Int) (w:World) (h:RD w r s a d 0) (ha:a≤s.size) (hrb:r<base)
  (hn:OwnX w base 9 1 (.slice A ns.length c) ns.length (rowsV sCell ns)) (hl:ns.length≤1099511627776) :
  Calls Tryz.prog 125 #[.pointer (some ⟨r,0,none⟩),.slice A ns.length c] w fun x w'=>x=.returned (.string (bs (textS (textP (s.data.toList.drop a)))))∧∃ a1 a':Nat,(a1:Int)≤(s.size:Int)+5 ∧
   (∀ t r',textP (s.data.toList.drop a)=some (t,r')→At s a a1 r')∧(∃ e1,At s a1 a' (signR 58 e1 (s.data.toList.drop a1))∧(nameE ns (textP (s.data.toList.drop a))=0→e1=0)) ∧
   RD w' r s a' d (nameE ns (textP (s.data.toList.drop a)))∧RG r w w':=by
 have CW:=zY (text_any s hs r a d w h ha);have HN:=zY hn;have HRB:=zY hrb;have CH:=zY (fun (t:Bs) (u:World) (hr:Rd u u.heap.size A (rowsV sCell ns))=>has_any ns t A c u.heap.size u hr hl);have CM:=zY (fun (b:Nat) (e:Int) (u:World) (h:RD u r s b d e) (hb:(b:Int)≤1500000)=>must_any 58 (by decide) s hs r b d e u h hb);have CF:=zY (fun (b:Nat) (u:World) (h:RD u r s b d 0)=>qbd 8 s r b d 0 u h);obtain ⟨o,ho⟩:=eX (textP (s.data.toList.drop a));rw [← ho] at CW ⊢;clear h ha hn hrb hl ho;go_enter Tryz.func125,Tryz.ntmps125;go_wp2_with fail;refine qaa CW.out ?_;rintro y w1 ⟨rfl,a1,ha1,hat,hrd,hrg⟩;have HA1:=zY ha1;have HAT:=zY hat;have HRD1:=zY hrd;have HRG1:=zY hrg;have HN1:=zY (HN.out.kept hrg (.inr (by intro h; have:=(HN.out.lt r h).1; have:=HRB.out; omega)));clear hrg hat
 cases o with
 | none =>
  have HR1:=zY (show RD w1 r s a1 d 13 from HRD1.out);obtain ⟨-,-,-,c3⟩:=HR1.out.cells;clear hrd ha1;go_wp2_with fail;refine qaa (CM.out a1 13 _ HR1.out (by have:=HA1.out; omega)) ?_;rintro y w2 ⟨rfl,a2,hat2,hrd2,hrg2⟩;have HAT2:=zY hat2;have HRD2:=zY hrd2;have HRG2:=zY (HRG1.out.trans hrg2);clear hat2 hrd2 hrg2 c3;go_wp2_with fail;go_ret;exact ⟨rfl,a1,a2,HA1.out,HAT.out,⟨13,HAT2.out,fun h=>by cases h⟩,HRD2.out,HRG2.out⟩
 | some p =>
  obtain ⟨t,r1⟩:=p;have HR1:=zY (show RD w1 r s a1 d 0 from HRD1.out);obtain ⟨-,-,-,c3⟩:=HR1.out.cells;clear hrd ha1;go_wp2_with fail;refine qaa (CH.out t _ (Rd.of_own HN1.out (Nat.le_refl _))) ?_;rintro y w2 ⟨rfl,rfl⟩
  by_cases ht:t ∈ ns
  ·rw [decide_eq_true ht];have HE:=zY (show nameE ns (some (t,r1))=8 by unfold nameE; exact if_pos ht);clear ht;go_wp2_with fail;refine qaa (CF.out a1 _ HR1.out) ?_;rintro y w3 ⟨rfl,hrd3,hrg3⟩;have HR2:=zY (show RD w3 r s a1 d 8 from hrd3);have HRG3:=zY (HRG1.out.trans hrg3);clear hrd3 hrg3 c3;go_wp2_with fail;refine qaa (CM.out a1 8 _ HR2.out (by have:=HA1.out; omega)) ?_;rintro y w4 ⟨rfl,a2,hat2,hrd2,hrg2⟩;have HAT2:=zY hat2;have HRD2:=zY hrd2;have HRG2:=zY (HRG3.out.trans hrg2);clear hat2 hrd2 hrg2;go_wp2_with fail;go_ret;rw [HE.out];exact ⟨rfl,a1,a2,HA1.out,HAT.out,⟨8,HAT2.out,fun h=>by cases h⟩,HRD2.out,HRG2.out⟩
  ·rw [decide_eq_false ht];have HX:=zY (show s.data.toList.drop a1=r1 from (HAT.out t r1 rfl).rest);have HE:=zY (show nameE ns (some (t,r1))=mustE 58 0 (s.data.toList.drop a1) by rw [HX.out]; unfold nameE; exact if_neg ht);have HR2:=zY HR1.out;have HRG3:=zY HRG1.out;clear ht c3;go_wp2_with fail;refine qaa (CM.out a1 0 _ HR2.out (by have:=HA1.out; omega)) ?_;rintro y w4 ⟨rfl,a2,hat2,hrd2,hrg2⟩;have HAT2:=zY hat2;have HRD2:=zY hrd2;have HRG2:=zY (HRG3.out.trans hrg2);clear hat2 hrd2 hrg2;go_wp2_with fail;go_ret;rw [HE.out];exact ⟨rfl,a1,a2,HA1.out,HAT.out,⟨0,HAT2.out,fun _=>rfl⟩,HRD2.out,HRG2.out⟩
def errE {α:Type}:Except Int α→Int
 | .error x=>x
 | .ok _=>0
def errP {α:Type} (e:Int) (p:Except Int α):Int:=if e=0 then errE p else e
theorem errP_ne {α:Type} {e:Int} (h:e≠0) (p:Except Int α):errP e p=e:=by rw [errP,if_neg h]
theorem errP_z {α:Type} (p:Except Int α):errP 0 p=errE p:=by rw [errP,if_pos rfl]
theorem lookE_ne {s:ByteArray} {a:Nat} {e:Int} (h:e≠0):lookE s a e=0:=by rw [lookE,if_neg h]
theorem text_bad (s:ByteArray) (r a:Nat) (d e:Int) (he:e≠0) (w:World) (h:RD w r s a d e) :
  Calls Tryz.prog 103 #[.pointer (some ⟨r,0,none⟩)] w fun x w'=>x=.returned (.string (bs []))∧RD w' r s a d e∧RG r w w':=by
 have CK:=zY (qbD s r a d e w h);have CF:=zY (fun (u:World) (h:RD u r s a d e)=>qbd 13 s r a d e u h);have HL:=zY (lookE_ne (s:=s) (a:=a) he);have HE:=zY he;clear h he;go_enter Tryz.func103,Tryz.ntmps103;go_wp2_with fail;refine qaa CK.out ?_;rintro y w1 ⟨rfl,hrd,hrg⟩;have HRD1:=zY hrd;have HRG1:=zY hrg;rw [HL.out,show byteV 0=Value.int .u8 0 from rfl];clear hrd hrg;go_wp2_with fail;refine qaa (CF.out _ HRD1.out) ?_;rintro y w2 ⟨rfl,hrd,hrg⟩;have HRD2:=zY (show RD w2 r s a d e by rw [if_neg HE.out] at hrd; exact hrd);have HRG2:=zY (HRG1.out.trans hrg);clear hrd hrg;go_wp2_with fail;go_ret;exact ⟨rfl,HRD2.out,HRG2.out⟩
theorem name_bad (A:Option Addr) (n c:Nat) (s:ByteArray) (hs:(s.size:Int)≤1000000) (r a:Nat) (d e:Int) (he:e≠0) (w:World) (h:RD w r s a d e) (ha:(a:Int)≤1500000) :
  Calls Tryz.prog 125 #[.pointer (some ⟨r,0,none⟩),.slice A n c] w fun x w'=>x=.returned (.string (bs []))∧∃ a':Nat,(a':Int)≤1500000∧RD w' r s a' d e∧RG r w w':=by
 have CW:=zY (text_bad s r a d e he w h);have CM:=zY (fun (u:World) (h:RD u r s a d e)=>must_any 58 (by decide) s hs r a d e u h ha);have HE:=zY he;have HA:=zY ha;have HS:=zY hs;have he':(e == 0)=false:=by simpa using he
 clear h ha hs he;go_enter Tryz.func125,Tryz.ntmps125;go_wp2_with fail;refine qaa CW.out ?_;rintro y w1 ⟨rfl,hrd,hrg⟩;have HRD1:=zY hrd;have HRG1:=zY hrg;obtain ⟨-,-,-,c3⟩:=hrd.cells;clear hrd hrg;go_wp2_with fail;refine qaa (CM.out _ HRD1.out) ?_;rintro y w2 ⟨rfl,a2,hat2,hrd2,hrg2⟩;have HAT2:=zY hat2;have HRD2:=zY (show RD w2 r s a2 d e by unfold mustE at hrd2; rw [if_neg HE.out] at hrd2; exact hrd2);have HRG2:=zY (HRG1.out.trans hrg2);clear hat2 hrd2 hrg2 c3;go_wp2_with fail;go_ret;exact ⟨rfl,a2,HAT2.out.big HS.out HA.out,HRD2.out,HRG2.out⟩
theorem value_bad (s:ByteArray) (r a:Nat) (d e:Int) (he:e≠0) (w:World) (h:RD w r s a d e) :
  Calls Tryz.prog 40 #[.pointer (some ⟨r,0,none⟩)] w fun x w'=>x=.returned (.agg (jvCells zJV))∧RD w' r s a d e∧RG r w w':=by
 have hu:=Tryz.underlying44;obtain ⟨W0,hW0⟩:=eX (w.alloc (.cells (jvCells zJV) 44));have hb0:Below w.heap.size w W0:=by rw [hW0]; exact (Below.refl _ w).alloc (Nat.le_refl _) _
 obtain ⟨G,hG⟩:=eX (w.heap.size);have HKZ:=zY (show Blk W0 G 44 (jvCells zJV) by rw [hW0,hG]; exact Blk.new _ _ _);have HRD:=zY (h.grow hb0);have HRG:=zY (show RG r w W0 from .below hb0);have HRL:=zY (show r<G by rw [hG]; exact Blk.lt h);have HW0:=zY hW0;have he':(e != 0)=true:=by simpa using he
 obtain ⟨-,-,-,c3⟩:=(h.grow hb0).cells;clear hW0 hb0 h he;rw [hG] at *;clear hG;go_enter Tryz.func40,Tryz.ntmps40
 go_upto_region 1 with (fail)
 rw [show (w.alloc (.cells #[.int .i64 0,.int .i64 0,.string ⟨#[]⟩,.slice none 0 0,.slice none 0 0] 44))=W0 from HW0.out.symm];clear HW0;go_wp2_with (refine qae (x:=.tmp 2) (cells:=jvCells zJV) HKZ.out rfl rfl rfl rfl qao rfl (qai _) ?_; intro w9 hb9 hw9);have HB9:=zY hb9;refine bodyPost_ret (qau (P:=Tryz.prog) rfl rfl HB9.out hu rfl qao) rfl ?_;exact ⟨rfl,hw9.blk HRD.out (by have:=HRL.out; omega),HRG.out.wrote_new hw9 (Nat.le_refl _)⟩
theorem must_all (c:UInt8) (hc0:c≠0) (s:ByteArray) (hs:(s.size:Int)≤1000000) (r a:Nat) (d:Int) (w:World) (h:RD w r s a d 0) (ha:(a:Int)≤1500000) :
  Calls Tryz.prog 124 #[.pointer (some ⟨r,0,none⟩),byteV c] w fun x w'=>x=.returned (.tuple #[])∧∃ a':Nat,(a':Int)≤1500000∧RD w' r s a' d (errE (mustP c (s.data.toList.drop a)))∧RG r w w' ∧
   ∀ r1,mustP c (s.data.toList.drop a)=.ok r1→At s a a' r1:=by
 refine (must_any c hc0 s hs r a d 0 w h ha).mono ?_;rintro x w' ⟨rfl,a',hat,hrd,hrg⟩
 have e1:mustE c 0 (s.data.toList.drop a)=errE (mustP c (s.data.toList.drop a)):=by
  unfold mustE mustP signP;rw [if_pos rfl]
  split <;> simp_all [errE]
 rw [e1] at hrd;refine ⟨rfl,a',hat.big hs ha,hrd,hrg,fun r1 h1=>?_⟩
 have e2:signR c 0 (s.data.toList.drop a)=r1:=by
  unfold mustP at h1;unfold signR signB signP
  split at h1
  ·rename_i hl
   injection h1 with h1
   simp [hl,h1]
  ·cases h1
 rw [e2] at hat;exact hat
theorem name_all (ns:List Bs) (A:Option Addr) (c base:Nat) (s:ByteArray) (hs:(s.size:Int)≤1000000) (r a:Nat) (d e:Int) (w:World) (h:RD w r s a d e) (ha:(a:Int)≤1500000) (ha0:e=0→a≤s.size) (hrb:r<base)
  (hn:OwnX w base 9 1 (.slice A ns.length c) ns.length (rowsV sCell ns)) (hl:ns.length≤1099511627776) :
  Calls Tryz.prog 125 #[.pointer (some ⟨r,0,none⟩),.slice A ns.length c] w fun x w'=>∃ t:Bs,x=.returned (.string (bs t))∧∃ a':Nat,(a':Int)≤1500000 ∧
   RD w' r s a' d (errP e (nameP ns (s.data.toList.drop a)))∧RG r w w'∧(e=0→∀ ns' r1,nameP ns (s.data.toList.drop a)=.ok (ns',r1)→ns'=ns++[t]∧At s a a' r1):=by
 by_cases he:e=0
 ·subst he;refine (name_any ns A c base s hs r a d w h (ha0 rfl) hrb hn hl).mono ?_;rintro x w' ⟨rfl,a1,a2,ha1,hat1,⟨e1,hat2,he1⟩,hrd,hrg⟩
  have e2:nameE ns (textP (s.data.toList.drop a))=errP 0 (nameP ns (s.data.toList.drop a)):=by
   rw [errP_z];unfold nameE nameP
   cases hq:textP (s.data.toList.drop a) with
   | none=>rfl
   | some p =>
    obtain ⟨t,r0⟩:=p;dsimp only
    by_cases hm:t ∈ ns
    ·rw [if_pos hm,if_pos hm];rfl
    ·rw [if_neg hm,if_neg hm];unfold mustE mustP signP;rw [if_pos rfl]
     by_cases hl:look (skip r0)=58 <;> simp [hl,errE]
  rw [e2] at hrd;refine ⟨_,rfl,a2,hat2.big hs (by omega),hrd,hrg,fun _ ns' r1 h1=>?_⟩;rw [e2,h1] at he1;have hz:e1=0:=he1 rfl;subst hz;unfold nameP at h1
  split at h1
  ·cases h1
  ·rename_i t r0 ht
   have hat0:=hat1 t r0 ht;rw [hat0.rest] at hat2
   split at h1
   ·cases h1
   ·split at h1
    ·cases h1
    ·rename_i r2 hm
     injection h1 with h1
     injection h1 with h1 h2
     subst h1 h2;rw [ht];refine ⟨rfl,hat0.trans ?_⟩
     have e3:signR 58 0 r0=r2:=by
      unfold mustP at hm;unfold signR signB signP
      split at hm
      ·rename_i hl
       injection hm with hm
       simp [hl,hm]
      ·cases hm
     rw [e3] at hat2;exact hat2
 ·refine (name_bad A ns.length c s hs r a d e he w h ha).mono ?_;rintro x w' ⟨rfl,a2,ha2,hrd,hrg⟩;exact ⟨[],rfl,a2,ha2,by rw [errP_ne he]; exact hrd,hrg,fun h0=>absurd h0 he⟩
def VRd (d:Nat):Prop:=∀ (s:ByteArray) (hs:(s.size:Int)≤1000000) (r a:Nat) (D:Int) (hD:D+(d:Int)=6) (h0:0≤D) (w:World) (h:RD w r s a D 0) (ha:a≤s.size),
 Calls Tryz.prog 40 #[.pointer (some ⟨r,0,none⟩)] w fun x w'=>∃ v:JV,x=.returned (.agg (jvCells v))∧∃ a':Nat,(a':Int)≤1500000 ∧
  RD w' r s a' D (errE (valueP d (s.data.toList.drop a)))∧RG r w w'∧∀ j r1,valueP d (s.data.toList.drop a)=.ok (j,r1)→At s a a' r1∧JRep w' (fun b=>w.heap.size≤b) j v
theorem value_all (d:Nat) (IH:VRd d) (s:ByteArray) (hs:(s.size:Int)≤1000000) (r a:Nat) (D e:Int) (hD:D+(d:Int)=6) (h0:0≤D) (w:World) (h:RD w r s a D e) (ha:(a:Int)≤1500000) (ha0:e=0→a≤s.size) :
 Calls Tryz.prog 40 #[.pointer (some ⟨r,0,none⟩)] w fun x w'=>∃ v:JV,x=.returned (.agg (jvCells v))∧∃ a':Nat,(a':Int)≤1500000 ∧
  RD w' r s a' D (errP e (valueP d (s.data.toList.drop a)))∧RG r w w'∧(e=0→∀ j r1,valueP d (s.data.toList.drop a)=.ok (j,r1)→At s a a' r1∧JRep w' (fun b=>w.heap.size≤b) j v):=by
 by_cases he:e=0
 ·subst he;refine (IH s hs r a D hD h0 w h (ha0 rfl)).mono ?_;rintro x w' ⟨v,rfl,a1,ha1,hrd,hrg,hok⟩;exact ⟨v,rfl,a1,ha1,by rw [errP_z]; exact hrd,hrg,fun _=>hok⟩
 ·refine (value_bad s r a D e he w h).mono ?_;rintro x w' ⟨rfl,hrd,hrg⟩;exact ⟨zJV,rfl,a,ha,by rw [errP_ne he]; exact hrd,hrg,fun h0=>absurd h0 he⟩
end Go.Proofs.YtlkikjeccamheaaGreatDoor.Js
namespace Go.Proofs.YtlkikjeccamheaaGreatDoor
set_option linter.unusedSimpArgs false
set_option linter.unusedVariables false
set_option maxRecDepth 100000
set_option maxHeartbeats 4000000
open Go.RowKit
def OwnR (w:World) (base:Nat) (e:TypeId) (size:Nat) (A:Option Addr) (c:Nat) (n:Nat) (xs:List Value):Prop:=w.ownsRow base e size (.slice A n c) n xs
section
variable {w w':World} {base:Nat} {e:TypeId} {size:Nat} {A:Option Addr} {c n:Nat} {xs:List Value}
theorem OwnR.x (h:OwnR w base e size A c n xs):OwnX w base e size (.slice A n c) n xs:=.of h
theorem OwnR.nil (w:World) (base:Nat) (e:TypeId) (size:Nat):OwnR w base e size none 0 0 []:=⟨by simp,.inl ⟨rfl,rfl⟩⟩
theorem OwnR.cap (h:OwnR w base e size A c n xs):n≤c:=by
 rcases h.2 with ⟨h1,h2⟩ | ⟨g,cap,cur,h1,h2,h3,h4,h5,h6,h7⟩
 ·omega
 ·injection h1 with e1 e2 e3
  omega
theorem OwnR.lt (h:OwnR w base e size A c n xs):∀ k,(Value.slice A n c).ownBlock=some k→base≤k∧k<w.heap.size:=h.x.lt
theorem OwnR.mono {base':Nat} (h:OwnR w base e size A c n xs) (hb:base'≤base):OwnR w base' e size A c n xs:=by
 refine ⟨h.1,?_⟩
 rcases h.2 with h0 | ⟨g,cap,cur,h1,h2,h3⟩
 ·exact .inl h0
 ·exact .inr ⟨g,cap,cur,h1,by omega,h3⟩
theorem OwnR.heap (h:OwnR w base e size A c n xs) (hk:∀ k cs,w.heap[k]?=some (.cells cs e (0,0))→base≤k→w'.heap[k]?=some (.cells cs e (0,0))):OwnR w' base e size A c n xs:=by
 refine ⟨h.1,?_⟩
 rcases h.2 with h0 | ⟨g,cap,cur,h1,h2,h3,h4⟩
 ·exact .inl h0
 ·exact .inr ⟨g,cap,cur,h1,h2,hk _ _ h3 h2,h4⟩
theorem OwnR.keep {f:TypeId} (h:OwnR w base e size A c n xs) (hk:KeepBut f w w') (ht:e≠f):OwnR w' base e size A c n xs:=h.heap fun k cs h1 _=>qcq hk ht h1
theorem OwnR.alloc (h:OwnR w base e size A c n xs) (o:Obj):OwnR (w.alloc o) base e size A c n xs:=h.heap fun k cs h1 _=>(Below.heap_alloc w o k (Array.getElem?_eq_some_iff.1 h1).1).trans h1
theorem OwnR.below (h:OwnR w base e size A c n xs) (hb:Below w.heap.size w w'):OwnR w' base e size A c n xs:=h.heap fun k cs h1 _=>(hb.block k (Array.getElem?_eq_some_iff.1 h1).1).trans h1
theorem OwnR.row (h:OwnR w base e size A c n xs):Row w w.heap.size e A xs:=.of_own h.x
end
theorem KeepBut.refl (e:TypeId) (w:World):KeepBut e w w:=⟨Nat.le_refl _,fun _ _ _ _ _ h=>h⟩
theorem KeepBut.trans {e:TypeId} {a b c:World} (h:KeepBut e a b) (h':KeepBut e b c):KeepBut e a c:=⟨Nat.le_trans h.1 h'.1,fun k cs t fz ht hk=>h'.2 k cs t fz ht (h.2 k cs t fz ht hk)⟩
section
variable {P:Program}
theorem qcH {w:World} {t ty e:TypeId} {size bytes:Nat} (T:SlT P t e size bytes) {base n c:Nat} {A:Option Addr} {xs:List Value} (hown:OwnR w base e size A c n xs)
  {Ad:Option Addr} {m cx:Nat} {news:List Value} (hl:news.length=m*size) (hnews:∀ j u,news[j]?=some u→∃ ad,Ad=some ad∧w.cell? (ad.add j)=some u) (h1:∀ u ∈ news,u.oneCell'=true)
  (h63:n+m≤maxLen) (hbytes:(n+m)*bytes≤140737488355328) (hbase:base≤w.heap.size) :
  ∃ A' c' w',(Builtin.append_ #[t,t] ty #[.slice A n c,.slice Ad m cx]).run P w=.ok (.slice A' (n+m) c') w'∧OwnR w' base e size A' c' (n+m) (xs++news)∧w.grownBy w' (Value.slice A n c).ownBlock∧Next w (.slice A n c) (.slice A' (n+m) c'):=by
 obtain ⟨i,z,hi,hz,hsz,hby,hzs⟩:=T.info
 by_cases hm:m=0
 ·subst hm;have hnn:news=[]:=List.eq_nil_of_length_eq_zero (by simpa using hl);subst hnn;have hcap:=hown.cap;refine ⟨A,c,w,?_,by simpa using hown,World.grownBy.refl _ _,.inl rfl⟩
  rcases hown.2 with ⟨h1,h2⟩ | ⟨g,cap,cur,h1,h2,h3,h4,h5,h6,h7⟩
  ·injection h1 with e1 e2 e3
   subst e1 e2 e3
   cases Ad <;> simp [Builtin.append_,run_underlying T.und,sizeOf,typeInfo,hi,Builtin.lenOf,Builtin.firstCells,loadCells,loadCellsFrom]
  ·injection h1 with e1 e2 e3
   subst e1 e3
   cases Ad <;> simp [Builtin.append_,run_underlying T.und,sizeOf,typeInfo,hi,Builtin.lenOf,Builtin.firstCells,loadCells,loadCellsFrom,hcap,storeCells]
 ·have hpos:0<news.length:=by rw [hl]; exact Nat.mul_pos (by omega) T.pos
  obtain ⟨ad,rfl,_⟩:=hnews 0 _ (List.getElem?_eq_getElem hpos)
  have hcells:∀ j u,news[j]?=some u→w.cell? (ad.add j)=some u:=fun j u hu=>by
   obtain ⟨ad',he,hc⟩:=hnews j u hu
   injection he with he
   subst he;exact hc
  obtain ⟨v',w',hr,h2,h3,_,h5⟩:=run_append_own_at (P:=P) w base t ty e i z size bytes T.und hi hz hsz hby hzs T.pos (.slice A n c) n xs hown ad m cx news hl hcells h1 h63 hbytes hbase
  have hn:Next w (.slice A n c) v':=by
   rcases h5 with h5 | h5
   ·exact .inl h5
   ·exact .inr fun k hk=>by rw [h5] at hk; simp at hk; omega
  have hv:∃ A' c',v'=.slice A' (n+m) c':=by
   rcases h2.2 with ⟨_,h0⟩ | ⟨g,cap,cur,rfl,_⟩
   ·omega
   ·exact ⟨_,_,rfl⟩
  obtain ⟨A',c',rfl⟩:=hv;exact ⟨A',c',w',hr,h2,h3,hn⟩
theorem qa8 {w:World} {ops:Array Oper} {rest:List Oper} {o:Oper} {a:Act} {Q:Exit→Act→World→Prop} {sl x:Operand} {t e:TypeId} {size bytes:Nat} (T:SlT P t e size bytes)
  (hgd:o.guard=none) (ho:o.op=.call { callee:=.builtin .append,args:=#[sl,x],argTypes:=#[t,t] })
  {base n c B:Nat} {A:Option Addr} {xs:List Value} {Ad:Option Addr} {m cx:Nat} {news:List Value} (hown:OwnR w base e size A c n xs) (hs:a.eval sl=.slice A n c) (hx:a.eval x=.slice Ad m cx)
  (hl:news.length=m*size) (hr:Rd w B Ad news) (h1:∀ u ∈ news,u.oneCell'=true)
  (h63:n+m≤maxLen) (hbytes:(n+m)*bytes≤140737488355328) (hbase:base≤w.heap.size)
  (h:∀ A' c' w',OwnR w' base e size A' c' (n+m) (xs++news)→w.grownBy w' (Value.slice A n c).ownBlock→Next w (.slice A n c) (.slice A' (n+m) c')→wpList P ops Q rest (a.put o.dst (.slice A' (n+m) c')) w') :
  wpList P ops Q (o :: rest) a w:=by
 obtain ⟨A',c',w',hrun,h2,h3,h4⟩:=qcH (ty:=o.type) (cx:=cx) T hown hl (fun j u hu=>by
  obtain ⟨ad,h1,_,h3⟩:=hr j u hu;exact ⟨ad,h1,h3⟩) h1 h63 hbytes hbase
 refine qaG (R:=fun v' w1=>v'=.slice A' (n+m) c'∧w1=w') hgd ho hs hx ⟨_,_,hrun,rfl,rfl⟩ ?_;rintro v' w1 ⟨rfl,rfl⟩;exact h _ _ _ h2 h3 h4
theorem qaU {w0:World} {ys:List Value} {ops:Array Oper} {rest:List Oper} {o:Oper} {a:Act} {Q:Exit→Act→World→Prop} {s x:Operand} {t e:TypeId} {size bytes:Nat} (T:SlT P t e size bytes)
  (hgd:o.guard=none) (ho:o.op=.call { callee:=.builtin .append,args:=#[s,x],argTypes:=#[t,t] })
  {base n c ad:Nat} {A:Option Addr} {xs:List Value} (hown:OwnR w0 base e size A c n xs) (hs:a.eval s=.slice A n c) (hx:a.eval x=.slice (some ⟨ad,0,none⟩) 1 1) (had:ad=w0.heap.size) (hm:ys.length=size)
  (hy:∀ u ∈ ys,u.oneCell'=true)
  (h63:n+1≤maxLen) (hbytes:(n+1)*bytes≤140737488355328) (hbase:base≤w0.heap.size)
  (h:∀ A' c' w',OwnR w' base e size A' c' (n+1) (xs++ys)→w0.grownBy w' (Value.slice A n c).ownBlock→Next w0 (.slice A n c) (.slice A' (n+1) c')→wpList P ops Q rest (a.put o.dst (.slice A' (n+1) c')) w') :
  wpList P ops Q (o :: rest) a (w0.alloc (.cells ys.toArray e)):=by
 subst had
 obtain ⟨A',c',w',hrun,h2,h3,h4⟩:=qcH (ty:=o.type) (cx:=1) (Ad:=some ⟨w0.heap.size,0,none⟩) T (hown.alloc (.cells ys.toArray e)) (news:=ys) (m:=1) (by omega) (fun j u hu=>⟨_,rfl,by
  have hadd:(⟨w0.heap.size,0,none⟩:Addr).add j=⟨w0.heap.size,j,none⟩:=by unfold Addr.add; split <;> simp_all
  rw [hadd,cell_of_row _ _ _ _ _ (0,0) (heap_alloc_new w0 _)]
  simpa using hu⟩) hy h63 hbytes (by simp; omega)
 refine qaG (R:=fun v' w1=>v'=.slice A' (n+1) c'∧w1=w') hgd ho hs hx ⟨_,_,hrun,rfl,rfl⟩ ?_;rintro v' w1 ⟨rfl,rfl⟩;exact h _ _ _ h2 ((World.grownBy_alloc w0 _ _).trans h3) (h4.back (by simp))
end
end Go.Proofs.YtlkikjeccamheaaGreatDoor
namespace Go.Proofs.YtlkikjeccamheaaGreatDoor.Js
set_option linter.unusedSimpArgs false
set_option linter.unusedVariables false
set_option maxRecDepth 100000
set_option maxHeartbeats 4000000
open Go.RowKit
theorem sl_strz:SlT Tryz.prog 41 9 1 16:=SlT.mk1 (z:=.string ⟨#[]⟩) Tryz.underlying41 (by kernel_rfl) rfl (by decide)
theorem sl_jsons:SlT Tryz.prog 42 44 5 80:=SlT.mk1 (z:=.agg #[.int .i64 0,.int .i64 0,.string ⟨#[]⟩,.slice none 0 0,.slice none 0 0]) Tryz.underlying42 (by kernel_rfl) rfl (by decide)
theorem ownR_blk {w:World} {base:Nat} {e:TypeId} {size:Nat} {A:Option Addr} {c n:Nat} {xs:List Value} (h:OwnR w base e size A c n xs) {g:Nat} (hg:(Value.slice A n c).ownBlock=some g):∃ cs,w.heap[g]?=some (.cells cs e (0,0)):=by
 rcases h.2 with ⟨h1,h2⟩ | ⟨g',cap,cur,h1,h2,h3,h4⟩
 ·injection h1 with e1
  subst e1;simp [Value.ownBlock] at hg
 ·injection h1 with e1
  subst e1;simp [Value.ownBlock] at hg;subst hg;exact ⟨_,h3⟩
theorem ownR_rds {w:World} {base:Nat} {e:TypeId} {size:Nat} {A:Option Addr} {c n:Nat} {xs:List Value} (h:OwnR w base e size A c n xs):RdS w (fun b=>base≤b) A xs:=fun i u hu=>by
 obtain ⟨ad,h1,h2,h3⟩:=Rd.of_own h.x (Nat.le_refl _) i u hu;refine ⟨ad,h1,?_,h3⟩;exact (h.lt ad.block (by rw [h1]; rfl)).1
def KS (G:Nat) (X Y:Value) (b:Nat):Prop:=G+3≤b∧X.ownBlock≠some b∧Y.ownBlock≠some b
structure LsM (w0:World) (G r:Nat) (s:ByteArray) (D1:Int) (T:JV) (u:World) (a1:Nat) (e1:Int):Prop where
 low:r<G
 wg:w0.heap.size=G
 box:Blk u G 74 #[.pointer (some ⟨r,0,none⟩)]
 res:Blk u (G+1) 44 (jvCells zJV)
 tree:Blk u (G+2) 44 (jvCells T)
 rd:RD u r s a1 D1 e1
 rg:RG r w0 u
structure Ls (w0:World) (G r:Nat) (s:ByteArray) (D1:Int) (T:JV) (A1:Option Addr) (c1:Nat) (ns:List Bs) (A2:Option Addr) (c2:Nat) (ks:List JT) (u:World) (a1:Nat) (e1:Int):Prop where
 m:LsM w0 G r s D1 T u a1 e1
 names:OwnR u (G+3) 9 1 A1 c1 ns.length (rowsV sCell ns)
 kids:∃ kv:List JV,kv.length=ks.length∧OwnR u (G+3) 44 5 A2 c2 ks.length (rowsV jvCells kv) ∧
  ∀ i (h:i<ks.length) (h':i<kv.length),JRep u (KS G (.slice A1 ns.length c1) (.slice A2 ks.length c2)) ks[i] kv[i]
section
variable {w0:World} {G r:Nat} {s:ByteArray} {D1:Int} {T:JV} {A1:Option Addr} {c1:Nat} {ns:List Bs} {A2:Option Addr} {c2:Nat} {ks:List JT} {u u':World} {a1 a':Nat} {e1 e':Int}
theorem LsM.step {D2:Int} (h:LsM w0 G r s D1 T u a1 e1) (hg:RG r u u') (hr:RD u' r s a' D2 e'):LsM w0 G r s D2 T u' a' e' :=
 ⟨h.low,h.wg,h.box.grown hg (by have:=h.low; intro h; injection h with h; omega),h.res.grown hg (by have:=h.low; intro h; injection h with h; omega),h.tree.grown hg (by have:=h.low; intro h; injection h with h; omega),hr,h.rg.trans hg⟩
theorem LsM.new (h:LsM w0 G r s D1 T u a1 e1) (hb:Below u.heap.size u u'):LsM w0 G r s D1 T u' a1 e1:=h.step (.below hb) (h.rd.grow hb)
theorem LsM.drew (h:LsM w0 G r s D1 T u a1 e1):LsM w0 G r s D1 T u.drew a1 e1:=⟨h.low,h.wg,h.box,h.res,h.tree,h.rd,grown_drew h.rg⟩
theorem LsM.size (h:LsM w0 G r s D1 T u a1 e1):G+3≤u.heap.size:=h.tree.lt
theorem LsM.grown {g:Option Nat} (h:LsM w0 G r s D1 T u a1 e1) (hg:u.grownBy u' g) (hb:∀ k,g=some k→G+3≤k):LsM w0 G r s D1 T u' a1 e1:=by
 have hne:∀ k,k<G+3→some k≠g:=fun k hk he=>by have:=hb k he.symm; omega
 have hl:=h.low;exact ⟨h.low,h.wg,h.box.grown hg (hne _ (by omega)),h.res.grown hg (hne _ (by omega)),h.tree.grown hg (hne _ (by omega)),Blk.grown h.rd hg (hne _ (by omega)),h.rg.andThen hg (fun j hj=>.inl (by have:=hb j hj; rw [h.wg]; omega))⟩
theorem LsM.put {T':JV} (h:LsM w0 G r s D1 T u a1 e1) (hw:Wrote (G+2) u u') (ht:Blk u' (G+2) 44 (jvCells T')):LsM w0 G r s D1 T' u' a1 e1 :=
 ⟨h.low,h.wg,hw.blk h.box (by omega),hw.blk h.res (by omega),ht,hw.blk h.rd (by have:=h.low; omega),h.rg.wrote_new hw (by rw [h.wg]; omega)⟩
theorem KS.le {X Y:Value} {b:Nat} (h:KS G X Y b):G+3≤b:=h.1
theorem Ls.heap (h:Ls w0 G r s D1 T A1 c1 ns A2 c2 ks u a1 e1) (hm:LsM w0 G r s D1 T u' a' e') (hk:∀ b,b<u.heap.size→G+3≤b→u'.heap[b]?=u.heap[b]?):Ls w0 G r s D1 T A1 c1 ns A2 c2 ks u' a' e':=by
 obtain ⟨kv,h1,h2,h3⟩:=h.kids;have hlt:∀ {k cs t},u.heap[k]?=some (.cells cs t (0,0))→k<u.heap.size:=fun hq=>(Array.getElem?_eq_some_iff.1 hq).1;exact ⟨hm,h.names.heap fun k cs hq hl=>(hk k (hlt hq) hl).trans hq,kv,h1,h2.heap fun k cs hq hl=>(hk k (hlt hq) hl).trans hq,fun i hi hi'=>(h3 i hi hi').heap fun b hb hs=>hk b hb hs.le⟩
theorem Ls.step (h:Ls w0 G r s D1 T A1 c1 ns A2 c2 ks u a1 e1) (hg:RG r u u') (hr:RD u' r s a' D1 e'):Ls w0 G r s D1 T A1 c1 ns A2 c2 ks u' a' e' :=
 h.heap (h.m.step hg hr) fun b hb hl=>hg.block b hb (by have:=h.m.low; intro h; injection h with h; omega)
theorem Ls.new (h:Ls w0 G r s D1 T A1 c1 ns A2 c2 ks u a1 e1) (hb:Below u.heap.size u u'):Ls w0 G r s D1 T A1 c1 ns A2 c2 ks u' a1 e1:=h.step (.below hb) (h.m.rd.grow hb)
theorem Ls.drew (h:Ls w0 G r s D1 T A1 c1 ns A2 c2 ks u a1 e1):Ls w0 G r s D1 T A1 c1 ns A2 c2 ks u.drew a1 e1:=h.heap h.m.drew fun b _ _=>rfl
theorem Ls.put {T':JV} (h:Ls w0 G r s D1 T A1 c1 ns A2 c2 ks u a1 e1) (hw:Wrote (G+2) u u') (ht:Blk u' (G+2) 44 (jvCells T')):Ls w0 G r s D1 T' A1 c1 ns A2 c2 ks u' a1 e1:=by
 obtain ⟨kv,h1,h2,h3⟩:=h.kids;have hk:∀ b,b<u.heap.size→G+3≤b→u'.heap[b]?=u.heap[b]?:=fun b hb hl=>hw.grown.block b hb (by intro h; injection h with h; omega);have hlt:∀ {k cs t},u.heap[k]?=some (.cells cs t (0,0))→k<u.heap.size:=fun hq=>(Array.getElem?_eq_some_iff.1 hq).1;exact ⟨h.m.put hw ht,h.names.heap fun k cs hq hl=>(hk k (hlt hq) hl).trans hq,kv,h1,h2.heap fun k cs hq hl=>(hk k (hlt hq) hl).trans hq,fun i hi hi'=>(h3 i hi hi').heap fun b hb hs=>hk b hb hs.le⟩
theorem Ls.name {t:Bs} {A':Option Addr} {c':Nat} (h:Ls w0 G r s D1 T A1 c1 ns A2 c2 ks u a1 e1) (ho:OwnR u' (G+3) 9 1 A' c' (ns.length+1) (rowsV sCell ns++[.string (bs t)])) (hg:u.grownBy u' (Value.slice A1 ns.length c1).ownBlock)
  (hn:Next u (.slice A1 ns.length c1) (.slice A' (ns.length+1) c')):Ls w0 G r s D1 T A' c' (ns++[t]) A2 c2 ks u' a1 e1:=by
 obtain ⟨kv,h1,h2,h3⟩:=h.kids;refine ⟨h.m.grown hg (fun k hk=>(h.names.lt k hk).1),by rw [qbf,qbM,List.length_append]; exact ho,kv,h1,h2.heap fun k cs hq hl=>?_,fun i hi hi'=>?_⟩
 ·refine (hg.block k (Array.getElem?_eq_some_iff.1 hq).1 fun he=>?_).trans hq;obtain ⟨cs',hq'⟩:=ownR_blk h.names he.symm;rw [hq] at hq'
  injection hq' with hq'
  injection hq' with _ ht
  exact absurd ht (by decide)
 ·have h5:JRep u (fun b=>KS G (.slice A1 ns.length c1) (.slice A2 ks.length c2) b∧KS G (.slice A' (ns++[t]).length c') (.slice A2 ks.length c2) b) ks[i] kv[i]:=(h3 i hi hi').imp fun b hb hs=>⟨hs,hs.1,fun he=>by
   rw [List.length_append] at he
   rcases hn with hn | hn
   ·exact hs.2.1 (hn.symm.trans he)
   ·have:=hn b he
    omega,hs.2.2⟩
  exact (h5.grown hg (fun b hb he=>hb.1.2.1 he.symm)).imp fun b _ hs=>hs.2
theorem Ls.kid {k:JT} {v:JV} {A':Option Addr} {c':Nat} (h:Ls w0 G r s D1 T A1 c1 ns A2 c2 ks u a1 e1) (hv:JRep u (KS G (.slice A1 ns.length c1) (.slice A2 ks.length c2)) k v)
  {kv:List JV} (h1:kv.length=ks.length) (h2:OwnR u (G+3) 44 5 A2 c2 ks.length (rowsV jvCells kv)) (h3:∀ i (h:i<ks.length) (h':i<kv.length),JRep u (KS G (.slice A1 ns.length c1) (.slice A2 ks.length c2)) ks[i] kv[i])
  (ho:OwnR u' (G+3) 44 5 A' c' (ks.length+1) (rowsV jvCells kv++(jvCells v).toList)) (hg:u.grownBy u' (Value.slice A2 ks.length c2).ownBlock)
  (hn:Next u (.slice A2 ks.length c2) (.slice A' (ks.length+1) c')):Ls w0 G r s D1 T A1 c1 ns A' c' (ks++[k]) u' a1 e1:=by
 have hS:∀ b,b<u.heap.size→KS G (.slice A1 ns.length c1) (.slice A2 ks.length c2) b→KS G (.slice A1 ns.length c1) (.slice A2 ks.length c2) b∧KS G (.slice A1 ns.length c1) (.slice A' (ks++[k]).length c') b:=fun b hb hs=>⟨hs,hs.1,hs.2.1,fun he=>by
   rw [List.length_append] at he
   rcases hn with hn | hn
   ·exact hs.2.2 (hn.symm.trans he)
   ·have:=hn b he
    omega⟩
 have hstep:∀ j x,JRep u (KS G (.slice A1 ns.length c1) (.slice A2 ks.length c2)) j x→JRep u' (KS G (.slice A1 ns.length c1) (.slice A' (ks++[k]).length c')) j x:=fun j x hj =>
  ((hj.imp hS).grown hg (fun b hb he=>hb.1.2.2 he.symm)).imp fun b _ hs=>hs.2
 refine ⟨h.m.grown hg (fun k hk=>(h2.lt k hk).1),h.names.heap fun k cs hq hl=>?_,kv++[v],by simp [h1],by rw [qbf,qbM,List.length_append]; exact ho,fun i hi hi'=>?_⟩
 ·refine (hg.block k (Array.getElem?_eq_some_iff.1 hq).1 fun he=>?_).trans hq;obtain ⟨cs',hq'⟩:=ownR_blk h2 he.symm;rw [hq] at hq'
  injection hq' with hq'
  injection hq' with _ ht
  exact absurd ht (by decide)
 ·by_cases hl:i<ks.length
  ·rw [List.getElem_append_left hl,List.getElem_append_left (by omega)];exact hstep _ _ (h3 i hl (by omega))
  ·have e1:i=ks.length:=by simp at hi; omega
   subst e1;rw [List.getElem_append_right (Nat.le_refl _),List.getElem_append_right (by omega)];simp only [Nat.sub_self,h1,List.getElem_cons_zero];exact hstep _ _ hv
theorem Ls.rep {kk:Int} (h:Ls w0 G r s D1 T A1 c1 ns A2 c2 ks u a1 e1):JRep u (fun b=>G+3≤b) (.mk kk 0 [] ns ks) ⟨kk,0,[],A1,ns.length,c1,A2,ks.length,c2⟩:=by
 obtain ⟨kv,h1,h2,h3⟩:=h.kids
 exact .mk ⟨kk,0,[],A1,ns.length,c1,A2,ks.length,c2⟩ ns ks kv rfl h.names.cap (ownR_rds h.names) rfl h2.cap h1 (ownR_rds h2)
  (fun i hi hi'=>(h3 i hi hi').imp fun b _ hs=>hs.le)
theorem LsM.start (h:LsM w0 G r s D1 T u a1 e1):Ls w0 G r s D1 T none 0 [] none 0 [] u a1 e1:=⟨h,OwnR.nil _ _ _ _,[],rfl,OwnR.nil _ _ _ _,fun i hi _=>by simp at hi⟩
theorem Ls.fresh (h:Ls w0 G r s D1 T A1 c1 ns A2 c2 ks u a1 e1) {j:JT} {v:JV} (hj:JRep u' (fun b=>u.heap.size≤b) j v):JRep u' (KS G (.slice A1 ns.length c1) (.slice A2 ks.length c2)) j v:=by
 obtain ⟨kv,h1,h2,h3⟩:=h.kids;have hs:=h.m.size;exact hj.imp fun b _ hb=>⟨by omega,fun he=>by have:=(h.names.lt b he).2; omega,fun he=>by have:=(h2.lt b he).2; omega⟩
end
def kindV (m:Bool):Int:=if m then 5 else 4
def treeV (m:Bool) (A1:Option Addr) (n1 c1:Nat) (A2:Option Addr) (n2 c2:Nat):JV:=⟨kindV m,0,[],A1,n1,c1,A2,n2,c2⟩
def isMap (X:Bs):Bool:=look X == 123
theorem sign_parts (c:UInt8) (r:Bs):signB c 0 r=(signP c r).1∧signR c 0 r=(signP c r).2:=by
 unfold signR signB signP
 by_cases h:look (skip r)=c <;> simp [h]
def lres (m:Bool):Except Int (List Bs × List JT × Bs)→Except Int (JT × Bs)
 | .error e=>.error e
 | .ok (ns,ks,r)=>.ok (.mk (kindV m) 0 [] ns ks,r)
theorem qb2 (val:Bs→Except Int (JT × Bs)) (r:Bs):listP val r=lres (isMap r) (listL val (isMap r) r.length [] [] (skip r.tail)):=by
 unfold listP lres isMap kindV
 cases h:listL val (look r == 123) r.length [] [] (skip r.tail) with
 | error e=>rfl
 | ok x=>rfl
def nameK (m:Bool) (ns:List Bs):Except Int Bs→Except Int (List Bs × Bs)
 | .error e=>.error e
 | .ok r2=>keyP m ns r2
def kidK (val:Bs→Except Int (JT × Bs)):Except Int (List Bs × Bs)→Except Int (List Bs × JT × Bs)
 | .error e=>.error e
 | .ok (ns,r3)=>match val r3 with
  | .error e=>.error e
  | .ok (k,r4)=>.ok (ns,k,r4)
def moreK (val:Bs→Except Int (JT × Bs)) (m:Bool) (n:Nat) (ks:List JT):Except Int (List Bs × JT × Bs)→Except Int (List Bs × List JT × Bs)
 | .error e=>.error e
 | .ok (ns,k,r4)=>listL val m n ns (ks++[k]) r4
theorem qcl {val:Bs→Except Int (JT × Bs)} {m:Bool} {n:Nat} {ns:List Bs} {ks:List JT} {r r1:Bs} (h:signP (endC m) r=(true,r1)):listL val m (n+1) ns ks r=.ok (ns,ks,r1):=by
 rw [listL,h]
theorem qb3 {val:Bs→Except Int (JT × Bs)} {m:Bool} {n:Nat} {ns:List Bs} {ks:List JT} {r r1:Bs} (h:signP (endC m) r=(false,r1)):listL val m (n+1) ns ks r=moreK val m n ks (kidK val (nameK m ns (commaP ks.isEmpty r1))):=by
 rw [listL,h];dsimp only;unfold moreK kidK nameK
 cases commaP ks.isEmpty r1 with
 | error e=>rfl
 | ok r2 =>
  dsimp only
  cases keyP m ns r2 with
  | error e=>rfl
  | ok x =>
   dsimp only
   cases val x.2 with
   | error e=>rfl
   | ok y=>rfl
theorem mustP_err {c:UInt8} {r:Bs} {e:Int} (h:mustP c r=.error e):e≠0:=by
 unfold mustP at h
 split at h
 ·cases h
 ·injection h with h
  omega
theorem qcB {b:Bool} {r:Bs} {e:Int} (h:commaP b r=.error e):e≠0:=by
 unfold commaP at h
 split at h
 ·cases h
 ·exact mustP_err h
theorem nameP_err {ns:List Bs} {r:Bs} {e:Int} (h:nameP ns r=.error e):e≠0:=by
 unfold nameP at h
 split at h
 ·injection h with h; omega
 ·split at h
  ·injection h with h; omega
  ·split at h
   ·rename_i hm
    injection h with h
    subst h;exact mustP_err hm
   ·cases h
theorem qdn {m:Bool} {ns:List Bs} {b:Bool} {r:Bs} {e:Int} (h:nameK m ns (commaP b r)=.error e):e≠0:=by
 unfold nameK at h
 split at h
 ·rename_i hc
  injection h with h
  subst h;exact qcB hc
 ·unfold keyP at h
  split at h
  ·exact nameP_err h
  ·cases h
theorem kidK_err {val:Bs→Except Int (JT × Bs)} (hv:∀ {r e},val r=.error e→e≠0) {m:Bool} {ns:List Bs} {b:Bool} {r:Bs} {e:Int} (h:kidK val (nameK m ns (commaP b r))=.error e):e≠0:=by
 unfold kidK at h
 split at h
 ·rename_i hc
  injection h with h
  subst h;exact qdn hc
 ·split at h
  ·rename_i hc
   injection h with h
   subst h;exact hv hc
  ·cases h
theorem listL_err {val:Bs→Except Int (JT × Bs)} (hv:∀ {r e},val r=.error e→e≠0) {m:Bool}:∀ (n:Nat) {ns:List Bs} {ks:List JT} {r:Bs} {e:Int},listL val m n ns ks r=.error e→e≠0
 | 0,ns,ks,r,e,h=>by
  rw [listL] at h
  injection h with h
  omega
 | n+1,ns,ks,r,e,h=>by
  rcases hs:signP (endC m) r with ⟨b,r1⟩
  cases b with
  | true =>
   rw [qcl hs] at h
   cases h
  | false =>
   rw [qb3 hs] at h;unfold moreK at h
   split at h
   ·rename_i hc
    injection h with h
    subst h;exact kidK_err hv hc
   ·exact listL_err hv n h
theorem lpOf_err {val:Bs→Except Int (JT × Bs)} (hv:∀ {r e},val r=.error e→e≠0) {r:Bs} {e:Int} (h:listP val r=.error e):e≠0:=by
 rw [qb2] at h;unfold lres at h
 split at h
 ·rename_i hc
  injection h with h
  subst h;exact listL_err hv _ hc
 ·cases h
theorem rawP_err {lp:Bs→Except Int (JT × Bs)} (hl:∀ {r e},lp r=.error e→e≠0) {r:Bs} {e:Int} (h:rawP lp r=.error e):e≠0:=by
 have hw:∀ {w r v},wordR w r v=.error e→e≠0:=by
  intro w r v h;unfold wordR at h
  split at h
  ·injection h with h; omega
  ·cases h
 have ho:∀ {α:Type} {x:Option (α × Bs)} {f:α→JT},optR x f=.error e→e≠0:=by
  intro α x f h;unfold optR at h
  split at h
  ·injection h with h; omega
  ·cases h
 unfold rawP at h
 split at h
 ·exact hw h
 split at h
 ·exact hw h
 split at h
 ·exact hw h
 split at h
 ·exact ho h
 split at h
 ·exact hl h
 ·exact ho h
theorem skipR_err {x:Except Int (JT × Bs)} {e:Int} (h:skipR x=.error e):x=.error e:=by
 unfold skipR at h
 split at h
 ·injection h with h
  subst h;rfl
 ·cases h
theorem qbz:∀ (d:Nat) {r:Bs} {e:Int},valueP d r=.error e→e≠0
 | 0,r,e,h=>rawP_err (by intro r e h; injection h with h; omega) (skipR_err h)
 | d+1,r,e,h=>rawP_err (fun h=>lpOf_err (fun h=>qbz d h) h) (skipR_err h)
def NmQ (s:ByteArray) (a4:Nat) (e4:Int) (ns:List Bs) (t:Bs) (a5:Nat) (e5:Int):Prop :=
 (a5:Int)≤1500000∧e5=errP e4 (nameP ns (s.data.toList.drop a4))∧(e4=0→∀ ns' r1,nameP ns (s.data.toList.drop a4)=.ok (ns',r1)→ns'=ns++[t]∧At s a4 a5 r1)
def VlQ (s:ByteArray) (a3:Nat) (E4:Except Int (List Bs × JT × Bs)) (ns:List Bs) (a6:Nat) (e6:Int):Prop :=
 (a6:Int)≤1500000∧e6=errE E4∧∀ ns' k r4,E4=.ok (ns',k,r4)→ns'=ns∧At s a3 a6 r4
theorem nmq_done {s:ByteArray} {a3 a4 a5:Nat} {e4 e5:Int} {ns:List Bs} {t r1:Bs} {b:Bool} (h:NmQ s a4 e4 ns t a5 e5) (he:e4=errE (commaP b r1)) (hat:∀ r2,commaP b r1=.ok r2→At s a3 a4 r2) :
  e5=errE (nameK true ns (commaP b r1))∧∀ x r3,nameK true ns (commaP b r1)=.ok (x,r3)→x=ns++[t]∧At s a3 a5 r3:=by
 obtain ⟨h1,h2,h3⟩:=h
 cases hc:commaP b r1 with
 | error e =>
  rw [hc] at he;have h0:=qcB hc;rw [errP_ne (by rw [he]; exact h0)] at h2;exact ⟨by rw [h2,he]; rfl,fun x r3 h=>by cases h⟩
 | ok r2 =>
  rw [hc] at he;have he0:e4=0:=he;have ha:=hat r2 hc;subst he0;rw [errP_z,ha.rest] at h2;refine ⟨h2,fun x r3 hx=>?_⟩;have h5:=h3 rfl x r3 (by rw [ha.rest]; exact hx);exact ⟨h5.1,ha.trans h5.2⟩
theorem vlq_of {d:Nat} {s:ByteArray} {a3 a5 a6:Nat} {ns':List Bs} {e5:Int} {K3:Except Int (List Bs × Bs)} (hK:∀ e,K3=.error e→e≠0) (he:e5=errE K3) (hat:∀ x r3,K3=.ok (x,r3)→x=ns'∧At s a3 a5 r3)
  {P:JT→Prop} (ha:(a6:Int)≤1500000) (hok:e5=0→∀ j r1,valueP d (s.data.toList.drop a5)=.ok (j,r1)→At s a5 a6 r1∧P j) :
  VlQ s a3 (kidK (valueP d) K3) ns' a6 (errP e5 (valueP d (s.data.toList.drop a5)))∧∀ x k r4,kidK (valueP d) K3=.ok (x,k,r4)→P k:=by
 cases hc:K3 with
 | error e =>
  rw [hc] at he;have h0:=hK e hc;rw [errP_ne (by rw [he]; exact h0)];exact ⟨⟨ha,by rw [he]; rfl,fun x k r4 h=>by cases h⟩,fun x k r4 h=>by cases h⟩
 | ok y =>
  obtain ⟨x,r3⟩:=y;rw [hc] at he;have he0:e5=0:=he;obtain ⟨rfl,h2⟩:=hat x r3 hc;subst he0;rw [errP_z,h2.rest];rw [h2.rest] at hok;unfold kidK;dsimp only
  cases hv:valueP d r3 with
  | error e=>exact ⟨⟨ha,rfl,fun x k r4 h=>by cases h⟩,fun x k r4 h=>by cases h⟩
  | ok z =>
   obtain ⟨k,r4⟩:=z;obtain ⟨h5,h6⟩:=hok rfl k r4 hv;refine ⟨⟨ha,rfl,fun x' k' r4' h=>?_⟩,fun x' k' r4' h=>?_⟩
   ·injection h with h
    injection h with h1 h
    injection h with h3 h4
    subst h1 h3 h4;exact ⟨rfl,h2.trans h5⟩
   ·injection h with h
    injection h with h1 h
    injection h with h3 h4
    subst h1 h3 h4;exact h6
theorem kidK_len {d:Nat} {m b:Bool} {ns x:List Bs} {k:JT} {r1 r4:Bs} (h:kidK (valueP d) (nameK m ns (commaP b r1))=.ok (x,k,r4)):r4.length<r1.length∧x.length≤ns.length+1:=by
 unfold kidK at h
 split at h
 ·cases h
 ·rename_i ns' r3 hn
  have hx:ns'=x∧valueP d r3=.ok (k,r4):=by
   split at h
   ·cases h
   ·rename_i hv
    injection h with h
    injection h with h1 h
    injection h with h2 h3
    subst h1 h2 h3;exact ⟨rfl,hv⟩
  obtain ⟨rfl,hv⟩:=hx;have l4:=valueP_len d hv;unfold nameK at hn
  split at hn
  ·cases hn
  ·rename_i r2 hc
   have l2:r2.length≤r1.length:=by
    unfold commaP at hc
    split at hc
    ·injection hc with hc; subst hc; exact Nat.le_refl _
    ·exact qbN hc
   unfold keyP at hn
   split at hn
   ·have l3:=qdm hn;refine ⟨by omega,?_⟩;unfold nameP at hn
    split at hn
    ·cases hn
    ·split at hn
     ·cases hn
     ·split at hn
      ·cases hn
      ·injection hn with hn
       injection hn with hn _
       subst hn;simp
   ·injection hn with hn
    injection hn with h1 h2
    subst h1 h2;exact ⟨by omega,by omega⟩
end Go.Proofs.YtlkikjeccamheaaGreatDoor.Js
namespace Go.Proofs.YtlkikjeccamheaaGreatDoor.Js
set_option linter.unusedSimpArgs false
set_option linter.unusedVariables false
set_option maxRecDepth 100000
set_option maxHeartbeats 4000000
theorem qdp {d:Nat} {m:Bool} (hv:∀ {r v r'},valueP d r=.ok (v,r')→r.length≤4096→smallJ v=true):∀ (n:Nat) {ns ns':List Bs} {ks ks':List JT} {r r':Bs},listL (valueP d) m n ns ks r=.ok (ns',ks',r')→r.length≤4096→(∀ k ∈ ks,smallJ k=true) →
  ks'.length+r'.length≤ks.length+r.length∧ns'.length+r'.length≤ns.length+r.length∧∀ k ∈ ks',smallJ k=true
 | 0,ns,ns',ks,ks',r,r',h,hr,hk=>by rw [listL] at h; cases h
 | n+1,ns,ns',ks,ks',r,r',h,hr,hk=>by
  have hl:=qbJ (endC m) r
  rcases hs:signP (endC m) r with ⟨b,r1⟩
  rw [hs] at hl;dsimp only at hl
  cases b with
  | true =>
   rw [qcl hs] at h
   injection h with h
   injection h with h1 h
   injection h with h2 h3
   subst h1 h2 h3;exact ⟨by omega,by omega,hk⟩
  | false =>
   rw [qb3 hs] at h;unfold moreK at h
   split at h
   ·cases h
   ·rename_i x k r4 hc
    obtain ⟨h1,h2⟩:=kidK_len hc
    have hk4:smallJ k=true:=by
     unfold kidK at hc
     split at hc
     ·cases hc
     ·rename_i y r3 hn
      split at hc
      ·cases hc
      ·rename_i k' r4' hv'
       injection hc with hc
       injection hc with e1 hc
       injection hc with e2 e3
       subst e1 e2 e3;refine hv hv' ?_;unfold nameK at hn
       split at hn
       ·cases hn
       ·rename_i r2 hcm
        have l2:r2.length≤r1.length:=by
         unfold commaP at hcm
         split at hcm
         ·injection hcm with hcm; subst hcm; exact Nat.le_refl _
         ·exact qbN hcm
        unfold keyP at hn
        split at hn
        ·have:=qdm hn;omega
        ·injection hn with hn
         injection hn with e1 e2
         subst e2;omega
    obtain ⟨h3,h4,h5⟩:=qdp hv n h (by omega) (fun q hq=>by
     rcases List.mem_append.1 hq with hq | hq
     ·exact hk q hq
     ·rw [List.mem_singleton] at hq;subst hq;exact hk4)
    rw [List.length_append] at h3;simp only [List.length_cons,List.length_nil] at h3;exact ⟨by omega,by omega,h5⟩
theorem rawP_small {lp:Bs→Except Int (JT × Bs)} (hl:∀ {r v r'},lp r=.ok (v,r')→r.length≤4096→smallJ v=true) {r:Bs} {v:JT} {r':Bs} (h:rawP lp r=.ok (v,r')) (hr:r.length≤4096):smallJ v=true:=by
 have hf:∀ k n t,smallJ (.mk k n t [] [])=true:=fun k n t=>by simp [smallJ,smallsJ]
 have hw:∀ {w:Bs} {k n t},wordR w r (.mk k n t [] [])=.ok (v,r')→smallJ v=true:=by
  intro w k n t h;unfold wordR at h
  split at h
  ·cases h
  ·injection h with h
   injection h with h1 h2
   subst h1;exact hf _ _ _
 unfold rawP at h
 split at h
 ·exact hw h
 split at h
 ·exact hw h
 split at h
 ·exact hw h
 split at h
 ·unfold optR at h
  split at h
  ·cases h
  ·injection h with h
   injection h with h1 h2
   subst h1;exact hf _ _ _
 split at h
 ·exact hl h hr
 ·unfold optR at h
  split at h
  ·cases h
  ·injection h with h
   injection h with h1 h2
   subst h1;exact hf _ _ _
theorem qcF:∀ (d:Nat) {r:Bs} {v:JT} {r':Bs},valueP d r=.ok (v,r')→r.length≤4096→smallJ v=true
 | 0,r,v,r',h,hr=>by
  obtain ⟨r0,h1,-⟩:=qbv h;exact rawP_small (lp:=fun _=>.error 9) (fun h=>by cases h) h1 (Nat.le_trans (qaJ r) hr)
 | d+1,r,v,r',h,hr=>by
  obtain ⟨r0,h1,-⟩:=qbv h;refine rawP_small (lp:=listP (valueP d)) (fun {r v r'} h hr=>?_) h1 (Nat.le_trans (qaJ r) hr);rw [qb2] at h;unfold lres at h
  split at h
  ·cases h
  ·rename_i ns ks r2 hc
   injection h with h
   injection h with h1 h2
   subst h1;have hs:=qaJ r.tail;simp only [List.length_tail] at hs;obtain ⟨h3,h4,h5⟩:=qdp (fun h hr=>qcF d h hr) _ hc (by omega) (fun k hk=>by cases hk);simp only [List.length_nil] at h3 h4;rw [smallJ];simp only [Bool.and_eq_true,decide_eq_true_eq];exact ⟨⟨by omega,by omega⟩,(qbo _).2 h5⟩
theorem readP_small {s:Bs} {j:JT} (h:readP s=.ok j):smallJ j=true:=by
 unfold readP at h
 split at h
 ·cases h
 ·split at h
  ·cases h
  ·rename_i hv
   injection h with h
   subst h;exact qcF 6 hv (by omega)
  ·cases h
def textJ:JT→Bs | .mk _ _ t _ _=>t
def numJ:JT→Int | .mk _ n _ _ _=>n
def kidsJ:JT→List JT | .mk _ _ _ _ ks=>ks
theorem quote_ge (s:Bs):s.length≤(quote s).length:=by
 have h:∀ l:Bs,l.length≤(l.flatMap quoteC).length:=by
  intro l
  induction l with
  | nil=>simp
  | cons c r ih =>
   have h1:1≤(quoteC c).length:=by
    unfold quoteC
    split
    ·simp
    ·split <;> simp
   rw [List.flatMap_cons,List.length_append,List.length_cons];omega
 have:=h s;unfold quote;simp only [List.length_cons,List.length_append,List.length_nil];omega
theorem items_kid (m:Bool):∀ (ks:List JT) (ns:List Bs) (f:Bool) (x:JT),x ∈ ks→(writeV x).length≤(itemsV m ns ks f).length
 | k :: r,ns,f,x,h=>by
  rw [itemsV];simp only [List.length_append]
  rcases List.mem_cons.1 h with rfl | h
  ·omega
  ·have:=items_kid m r ns.tail false x h;omega
structure OkJ (M:Nat) (j:JT):Prop where
 right:∃ d,rightV d j=true
 len:(writeV j).length≤M
 small:smallJ j=true
theorem OkJ.zero {M:Nat} (h:4≤M):OkJ M zJT:=⟨⟨0,by decide⟩,h,by decide⟩
theorem OkJ.kid {M:Nat} {j x:JT} (h:OkJ M j) (hx:x ∈ kidsJ j):OkJ M x:=by
 obtain ⟨k,n,t,ns,ks⟩:=j;obtain ⟨⟨d,hr⟩,hl,hs⟩:=h;unfold rightV at hr;unfold smallJ at hs;simp only [Bool.and_eq_true,decide_eq_true_eq] at hr hs;have hkr:=(qaS _ _).1 hr.2 x hx;have hks:=(qbo _).1 hs.2 x hx
 have hne:ks.isEmpty=false:=by
  cases hks':ks with
  | nil=>rw [hks'] at hx; cases hx
  | cons a r=>rfl
 have hp:=hr.1.1.1.1.1.1.1.1;unfold plainJ at hp;rw [hne] at hp;simp only [Bool.and_eq_true,Bool.or_eq_true,beq_iff_eq,Bool.false_eq_true,false_or] at hp;have hk:k=4∨k=5:=hp.1.1.2;refine ⟨⟨_,hkr⟩,?_,hks⟩;have:=items_kid (k == 5) ks ns true x hx;unfold writeV at hl
 rcases hk with rfl | rfl <;> simp at hl this <;> omega
theorem OkJ.text {M:Nat} {j:JT} (h:OkJ M j):(textJ j).length≤M:=by
 obtain ⟨k,n,t,ns,ks⟩:=j;obtain ⟨⟨d,hr⟩,hl,hs⟩:=h;unfold rightV at hr;simp only [Bool.and_eq_true,decide_eq_true_eq] at hr;have hp:=hr.1.1.1.1.1.1.1.1;unfold plainJ at hp;simp only [Bool.and_eq_true,Bool.or_eq_true,beq_iff_eq] at hp;show t.length≤M
 rcases hp.2 with h0 | rfl
 ·have:t=[]:=by simpa using h0
  rw [this];exact Nat.zero_le _
 ·have:=quote_ge t;unfold writeV at hl;simp at hl;omega
theorem atJ_mem:∀ (ns:List Bs) (ks:List JT) (x:Bs),atJ ns ks x=zJT∨atJ ns ks x ∈ ks
 | [],_,_=>.inl (by cases ‹List JT› <;> rfl)
 | n :: ns,[],x=>.inl rfl
 | n :: ns,k :: ks,x=>by
  unfold atJ
  split
  ·exact .inr List.mem_cons_self
  ·rcases atJ_mem ns ks x with h | h
   ·exact .inl h
   ·exact .inr (List.mem_cons_of_mem _ h)
theorem OkJ.get {M:Nat} {j:JT} (h:OkJ M j) (h4:4≤M) (x:Bs):OkJ M (getJ j x):=by
 obtain ⟨k,n,t,ns,ks⟩:=j;show OkJ M (if k=5 then atJ ns ks x else zJT)
 by_cases hk:k=5
 ·rw [if_pos hk]
  rcases atJ_mem ns ks x with e | e
  ·rw [e]; exact .zero h4
  ·exact h.kid e
 ·rw [if_neg hk];exact .zero h4
theorem OkJ.counts {M:Nat} {j:JT} (h:OkJ M j):(kidsJ j).length≤4096:=by
 obtain ⟨k,n,t,ns,ks⟩:=j;have hs:=h.small;unfold smallJ at hs;simp only [Bool.and_eq_true,decide_eq_true_eq] at hs;exact hs.1.2
theorem OkJ.num {M:Nat} {j:JT} (h:OkJ M j):-1000000000000000≤numJ j∧numJ j≤1000000000000000:=by
 obtain ⟨k,n,t,ns,ks⟩:=j;obtain ⟨⟨d,hr⟩,hl,hs⟩:=h;unfold rightV at hr;simp only [Bool.and_eq_true,decide_eq_true_eq] at hr;have hp:=hr.1.1.1.1.1.1.1.1;have hq:=hr.1.1.2;unfold plainJ at hp;simp only [Bool.and_eq_true,Bool.or_eq_true,beq_iff_eq,decide_eq_true_eq,bne_iff_ne,ne_eq] at hp hq;show -1000000000000000≤n∧n≤1000000000000000
 rcases hp.1.1.1 with (h0 | h0) | h0
 ·omega
 ·rcases hq with h1 | h1
  ·exact absurd h0 h1
  ·exact h1
 ·omega
theorem qcQ {w:World} {S:Nat→Prop} {j:JT} {v:JV} (h:JRep w S j v):textJ j=v.t∧numJ j=v.n:=by
 obtain ⟨ns,ks,kv,rfl,_⟩:=h.inv;exact ⟨rfl,rfl⟩
theorem qbZ {w:World} {S:Nat→Prop} {j:JT} {v:JV} {M:Nat} (h:JRep w S j v) (ho:OkJ M j):v.nn≤1000000∧v.kn≤1000000:=by
 obtain ⟨ns,ks,kv,rfl,h1,_,_,h2,_⟩:=h.inv;have hs:=ho.small;unfold smallJ at hs;simp only [Bool.and_eq_true,decide_eq_true_eq] at hs;omega
def idx64 (c:UInt8):Int:=Lib.indexByte b64A c
theorem idx_ltr {k:Nat} (h:k<64):idx64 (ltr k)=(k:Int):=by
 have key:∀ x:Fin 64,idx64 (ltr x.1)=(x.1:Int):=by decide +kernel
 exact key ⟨k,h⟩
theorem ltr_idx {c:UInt8} (h:0≤idx64 c):ltr (idx64 c).toNat=c∧(idx64 c).toNat<64:=by
 have key:∀ x:Fin 256,0≤idx64 (UInt8.ofNat x.1)→ltr (idx64 (UInt8.ofNat x.1)).toNat=UInt8.ofNat x.1∧(idx64 (UInt8.ofNat x.1)).toNat<64:=by decide +kernel
 have:=key ⟨c.toNat,c.toNat_lt⟩
 simpa using this (by simpa using h)
def decS:Nat→Nat→Bs→Option Bs
 | n,w,[]=>if 6≤n∨w≠0 then none else some []
 | n,w,c :: r=>if idx64 c<0 then none
  else if n+6<8 then decS (n+6) (w*64+(idx64 c).toNat) r
  else (decS (n - 2) ((w*64+(idx64 c).toNat)%2^(n - 2)) r).map (UInt8.ofNat ((w*64+(idx64 c).toNat)/2^(n - 2)) :: ·)
def dec (s:Bs):Option Bs:=decS 0 0 s
theorem decS_low {n w k:Nat} {r:Bs} (hk:k<64) (hn:n+6<8):decS n w (ltr k :: r)=decS (n+6) (w*64+k) r:=by
 rw [decS,idx_ltr hk,if_neg (by omega),if_pos hn];rfl
theorem qcs {n w k:Nat} {r:Bs} (hk:k<64) (hn:¬ n+6<8):decS n w (ltr k :: r)=(decS (n - 2) ((w*64+k)%2^(n - 2)) r).map (UInt8.ofNat ((w*64+k)/2^(n - 2)) :: ·):=by
 rw [decS,idx_ltr hk,if_neg (by omega),if_neg hn];rfl
theorem ofNat_eq {c:UInt8} {n:Nat} (h:n=c.toNat):UInt8.ofNat n=c:=by
 rw [h];simp
theorem dec_all:∀ l:Bs,decS 0 0 (encS 0 0 l)=some l∧(∀ (c:UInt8) (hi lo:Nat),hi<64→lo<4→c.toNat=hi*4+lo→decS 6 hi (encS 2 lo l)=some (c :: l))∧(∀ (c:UInt8) (hi lo:Nat),hi<16→lo<16→c.toNat=hi*16+lo→decS 4 hi (encS 4 lo l)=some (c :: l))
 | []=>by
  refine ⟨by simp [encS,decS],fun c hi lo h1 h2 h3=>?_,fun c hi lo h1 h2 h3=>?_⟩
  ·rw [encS,if_neg (by omega),qcs (by simp; omega) (by omega)];have e1:(hi*64+lo*2^(6 - 2))%2^(6 - 2)=0:=by simp; omega
   have e2:(hi*64+lo*2^(6 - 2))/2^(6 - 2)=c.toNat:=by simp; omega
   rw [e1,e2];simp [decS]
  ·rw [encS,if_neg (by omega),qcs (by simp; omega) (by omega)];have e1:(hi*64+lo*2^(6 - 4))%2^(4 - 2)=0:=by simp; omega
   have e2:(hi*64+lo*2^(6 - 4))/2^(4 - 2)=c.toNat:=by simp; omega
   rw [e1,e2];simp [decS]
 | d :: r=>by
  obtain ⟨i0,i2,i4⟩:=dec_all r;have hd:=d.toNat_lt;refine ⟨?_,fun c hi lo h1 h2 h3=>?_,fun c hi lo h1 h2 h3=>?_⟩
  ·rw [encS,if_pos (by omega),decS_low (by simp; omega) (by omega)];have e:=i2 d (d.toNat/4) (d.toNat%4) (by omega) (by omega) (by omega);rw [← e];simp
  ·rw [encS,if_pos (by omega),qcs (by simp; omega) (by omega)];have e:=i4 d (d.toNat/16) (d.toNat%16) (by omega) (by omega) (by omega);have e1:(hi*64+(lo*256+d.toNat)/2^(2+2))%2^(6 - 2)=d.toNat/16:=by simp; omega
   have e2:(hi*64+(lo*256+d.toNat)/2^(2+2))/2^(6 - 2)=c.toNat:=by simp; omega
   have e3:(lo*256+d.toNat)%2^(2+2)=d.toNat%16:=by simp; omega
   rw [e1,e2,e3,show 6 - 2=4 from rfl,show 2+2=4 from rfl,e,ofNat_eq rfl];rfl
  ·rw [encS,if_neg (by omega),qcs (by simp; omega) (by omega)];have e1:(hi*64+(lo*256+d.toNat)/2^(4+2))%2^(4 - 2)=d.toNat/64:=by simp; omega
   have e2:(hi*64+(lo*256+d.toNat)/2^(4+2))/2^(4 - 2)=c.toNat:=by simp; omega
   have e3:(lo*256+d.toNat)%2^(4+2)/2^(4 - 4)=d.toNat%64:=by simp; omega
   have e4:(lo*256+d.toNat)%2^(4+2)%2^(4 - 4)=0:=by simp; omega
   have e5:d.toNat/64*64+d.toNat%64=d.toNat:=by omega
   have e6:d.toNat%2^(2 - 2)=0:=by simp [Nat.mod_one]
   have e7:d.toNat/2^(2 - 2)=d.toNat:=by simp
   rw [e1,e2,e3,e4,show 4 - 2=2 from rfl,show 4 - 4=0 from rfl,qcs (by omega) (by omega),e5,e6,e7,show 2 - 2=0 from rfl,i0,ofNat_eq rfl,ofNat_eq rfl];rfl
theorem dec_enc (l:Bs):dec (enc l)=some l:=(dec_all l).1
end Go.Proofs.YtlkikjeccamheaaGreatDoor.Js
namespace Go.Proofs.YtlkikjeccamheaaGreatDoor.Js
set_option linter.unusedSimpArgs false
set_option linter.unusedVariables false
set_option maxRecDepth 100000
set_option maxHeartbeats 4000000
open Go.RowKit
def encT (m V:Nat) (r:Bs):Bs :=
 if 12≤m then ltr (V/2^(m - 6)) :: ltr (V%2^(m - 6)/2^(m - 12)) :: encS (m - 12) (V%2^(m - 6)%2^(m - 12)) r
 else if 6≤m then ltr (V/2^(m - 6)) :: encS (m - 6) (V%2^(m - 6)) r
 else encS m V r
theorem encS_step {m w:Nat} {c:UInt8} {r:Bs} (hm:m=0∨m=2∨m=4):encS m w (c :: r)=encT (m+8) (w*256+c.toNat) r:=by
 rcases hm with rfl | rfl | rfl <;> rfl
theorem bldT_ok:BT 66:=⟨by kernel_rfl,by decide⟩
def b64B:ByteArray:=⟨#[65,66,67,68,69,70,71,72,73,74,75,76,77,78,79,80,81,82,83,84,85,86,87,88,89,90,97,98,99,100,101,102,103,104,105,106,107,108,109,110,111,112,113,114,115,116,117,118,119,120,121,122,48,49,50,51,52,53,54,55,56,57,45,95]⟩
theorem b64B_at:∀ z:Fin 64,b64B[z.1]'(by have:=z.2; exact this)=ltr z.1:=by decide +kernel
theorem ltr_at (z:Nat) (h:z<64):Value.int .u8 (((b64B[z]'h).toNat:Nat):Int)=byteV (ltr z):=by
 rw [b64B_at ⟨z,h⟩];rfl
theorem or_low:∀ (a:Fin 16) (x:Fin 256),bits .or .i64 ((a.1*256:Nat):Int) ((x.1:Nat):Int)=((a.1*256+x.1:Nat):Int):=by decide +kernel
theorem and_63:∀ (a b:Fin 64),bits .and .i64 ((a.1*64+b.1:Nat):Int) 63=((b.1:Nat):Int):=by decide +kernel
theorem and_low2 {m V:Nat} (hm:m=6∨m=8∨m=10∨m=12) (hV:V<2^m):bits .and .i64 (V:Int) (((2^(m - 6):Nat):Int) - 1)=((V%2^(m - 6):Nat):Int):=by
 have k1:∀ a:Fin 64,bits .and .i64 ((a.1:Nat):Int) 0=0:=by decide +kernel
 have k4:∀ (a:Fin 64) (b:Fin 4),bits .and .i64 ((a.1*4+b.1:Nat):Int) 3=((b.1:Nat):Int):=by decide +kernel
 have k16:∀ (a:Fin 64) (b:Fin 16),bits .and .i64 ((a.1*16+b.1:Nat):Int) 15=((b.1:Nat):Int):=by decide +kernel
 rcases hm with rfl | rfl | rfl | rfl
 ·have h:=k1 ⟨V,by simpa using hV⟩
  simpa [Nat.mod_one] using h
 ·have h:=k4 ⟨V/4,by simp at hV; omega⟩ ⟨V%4,Nat.mod_lt _ (by omega)⟩;rw [show V/4*4+V%4=V by omega] at h
  simpa using h
 ·have h:=k16 ⟨V/16,by simp at hV; omega⟩ ⟨V%16,Nat.mod_lt _ (by omega)⟩;rw [show V/16*16+V%16=V by omega] at h
  simpa using h
 ·have h:=and_63 ⟨V/64,by simp at hV; omega⟩ ⟨V%64,Nat.mod_lt _ (by omega)⟩;rw [show V/64*64+V%64=V by omega] at h
  simpa using h
theorem encT_step {m V:Nat} {r:Bs} (hm:m=6∨m=8∨m=10∨m=12):encT m V r=ltr (V/2^(m - 6)) :: encT (m - 6) (V%2^(m - 6)) r:=by
 rcases hm with rfl | rfl | rfl | rfl <;> rfl
theorem encT_low {m V:Nat} {r:Bs} (hm:m<6):encT m V r=encS m V r:=by
 unfold encT;rw [if_neg (by omega),if_neg (by omega)]
theorem enc_ne {b:Bs} (h:0<b.length):enc b≠[]:=by
 cases b with
 | nil=>simp at h
 | cons c r=>unfold enc encS; simp
theorem pow_small {m:Nat} (hm:m=6∨m=8∨m=10∨m=12):2^(m - 6)≤64:=by
 rcases hm with rfl | rfl | rfl | rfl <;> decide
theorem encode_any (b:Bs) (hl:b.length≤1000) (hb0:0<b.length) (A:Option Addr) (c:Nat) (w:World) (hr:Rd w w.heap.size A (bytesV b)) (hc:b.length≤c) :
  Calls Tryz.prog 33 #[.slice A b.length c] w fun e w'=>e=.returned (.string (bs (enc b)))∧Below w.heap.size w w':=by
 obtain ⟨n,hn⟩:=eX (b.length);obtain ⟨W0,hW0⟩:=eX (w.alloc (.cells #[.pointer none,.slice none 0 0] 66));have HB0:=zY (show Below w.heap.size w W0 by rw [hW0]; exact (Below.refl _ w).alloc (Nat.le_refl _) _);have HI0:=zY (show IsB W0 w.heap.size 66 w.heap.size [] by rw [hW0]; exact IsB.new _ _ (Nat.le_refl _));have HK0:=zY (BK.refl w.heap.size w.heap.size W0);have HW0:=zY hW0;have HR:=zY (hr.below HB0.out);have HN:=zY hn;have hn1:(n:Int)≤1000:=by omega
 rw [← hn];have HNE:=zY (enc_ne hb0);clear hW0 hr hn hl hc hb0;go_enter Tryz.func33,Tryz.ntmps33
 go_upto_region 2 with (fail)
 rw [← HW0.out];go_wp2_with fail
 go_loopw [4,5,10] (fun x y z wr=>∃ (k wv m:Nat) (L:Bs),k≤n∧z=.int .i64 (k:Int)∧x=.int .i64 (wv:Int)∧y=.int .i64 (m:Int)∧(m=0∨m=2∨m=4)∧wv<2^m∧L++encS m wv (b.drop k)=enc b∧6*L.length+m=8*k ∧
  IsB wr w.heap.size 66 w.heap.size L∧BK w.heap.size w.heap.size W0 wr) (fun _ _ z _=>n - (intOf z).toNat)
 case atStart=>exact ⟨0,0,0,[],Nat.zero_le _,rfl,rfl,rfl,.inl rfl,by simp,by simp [enc],rfl,HI0.out,HK0.out⟩
 case round =>
  obtain ⟨k,wv,m,L,hk,rfl,rfl,rfl,hm,hwv,henc,hL,hib,hbk⟩:=hrel
  by_cases hlt:k<n
  ·have hlt':(k:Int)<(n:Int):=by omega
   have hkl:k<b.length:=by rw [← HN.out]; exact hlt
   have HIB:=zY hib;have HBK:=zY hbk;have HEN:=zY henc;have HM:=zY hm;have HWV:=zY hwv;have HL:=zY hL;have hbw:Below w.heap.size W0 wr:=hbk.below;obtain ⟨ad,hA,had,hcell⟩:=(HR.out.below hbw).at_ (k:=k) (by rw [qak]; exact hkl);subst hA;obtain ⟨x,hx⟩:=eX ((b[k]'hkl).toNat)
   have hbv:(bytesV b)[k]'(by rw [qak]; exact hkl)=.int .u8 (x:Int):=by
    rw [hx]; simp [bytesV,byteV]
   rw [hbv] at hcell;clear hbv hib hbk henc hm hwv hbw;have hm4:(m:Int)≤4:=by rcases HM.out with h | h | h <;> omega
   have hw16:wv<16:=Nat.lt_of_lt_of_le HWV.out (by rcases HM.out with h | h | h <;> subst h <;> decide);have hxl:x<256:=by rw [hx]; exact UInt8.toNat_lt _
   have hor:bits .or .i64 ((wv:Int)*256) (x:Int)=((wv*256+x:Nat):Int):=by have:=or_low ⟨wv,hw16⟩ ⟨x,hxl⟩; simpa using this
   have hwz:(wv:Int)<16:=by omega
   have hxz:(x:Int)<256:=by omega
   obtain ⟨V,hV⟩:=eX (wv*256+x);rw [← hV] at hor
   have HT:=zY (show L++encT (m+8) V (b.drop (k+1))=enc b by
    have h:=HEN.out;rw [List.drop_eq_getElem_cons hkl,encS_step HM.out,← hx,← hV] at h;exact h)
   have HVL:=zY (show V<2^(m+8) by
    have h1:=HWV.out;rw [hV,Nat.pow_add];have:(2:Nat)^8=256:=rfl;rw [this];have:(wv+1)*256≤2^m*256:=Nat.mul_le_mul_right _ h1
    omega)
   clear hx hV;have hcell':wr.cell? (ad.add k)=some (.int .u8 (x:Int)):=hcell;clear hcell
   go_upto_region 7 with (fail)
   go_loopw [4,5] (fun x y wr2=>∃ (V2 m2:Nat) (L2:Bs),x=.int .i64 (V2:Int)∧y=.int .i64 (m2:Int)∧(m2=0∨m2=2∨m2=4∨m2=6∨m2=8∨m2=10∨m2=12)∧V2<2^m2∧L2++encT m2 V2 (b.drop (k+1))=enc b∧6*L2.length+m2=8*(k+1) ∧
    IsB wr2 w.heap.size 66 w.heap.size L2∧BK w.heap.size w.heap.size W0 wr2) (fun _ y _=>(intOf y).toNat)
   case atStart=>exact ⟨V,m+8,L,rfl,by go_num,by rcases HM.out with h | h | h <;> omega,HVL.out,HT.out,by have:=HL.out; omega,HIB.out,HBK.out⟩
   case round =>
    obtain ⟨V2,m2,L2,rfl,rfl,hm2,hV2,hT2,hL2,hib2,hbk2⟩:=hrel
    by_cases h6:6≤m2
    ·have h6':(6:Int)≤(m2:Int):=by omega
     have hm2':m2=6∨m2=8∨m2=10∨m2=12:=by omega
     obtain ⟨P,hP⟩:=eX (2^(m2 - 6));have hPi:(2:Int)^(m2 - 6)=(P:Int):=by rw [hP]; simp
     have hP1:1≤P:=by rw [hP]; exact Nat.pow_pos (by omega)
     have hP64:P≤64:=by rw [hP]; exact pow_small hm2'
     have hst:=encT_step (V:=V2) (r:=b.drop (k+1)) hm2';have hlow:=and_low2 hm2' hV2;obtain ⟨z,hz⟩:=eX (V2/2^(m2 - 6));obtain ⟨y,hy⟩:=eX (V2%2^(m2 - 6));have hyl:y<2^(m2 - 6):=by rw [hy]; exact Nat.mod_lt _ (Nat.pow_pos (by omega))
     have hz64:z<64:=by
      rw [hz,Nat.div_lt_iff_lt_mul (Nat.pow_pos (by omega))];have:(2:Nat)^6*2^(m2 - 6)=2^m2:=by rw [← Nat.pow_add]; congr 1; omega
      have h64:(2:Nat)^6=64:=rfl;omega
     rw [← hz,← hy] at hst;rw [← hy,← hP] at hlow;have hzi:((V2:Int)/(P:Int))=(z:Int):=by rw [hz,hP]; simp
     have hand:bits .and .i64 (z:Int) 63=(z:Int):=by
      have:=and_63 0 ⟨z,hz64⟩
      simpa using this
     have hz1:(z:Int)<64:=by omega
     have hpl:(P:Int)≤64:=by omega
     have hp1:1≤(P:Int):=by omega
     have hm12:(m2:Int)≤12:=by omega
     have HT2:=zY (show (L2++[ltr z])++encT (m2 - 6) y (b.drop (k+1))=enc b by rw [List.append_assoc]; rw [hst] at hT2; exact hT2);have HYL:=zY hyl;have HM6:=zY hm2';have HL2:=zY hL2;clear hst hy hyl hP hm2 hm2' hT2 hL2 hV2 hP1 hP64;have HZ:=zY hz;clear hz;have HIB2:=zY hib2;have HBK2:=zY hbk2;go_wp2_with fail;have hls:L2.length+1≤140737488355328:=by have:=HL2.out; omega
     have hq:=qb5 bldT_ok _ _ L2 (ltr z) _ HIB2.out hls;rw [← ltr_at z hz64] at hq;refine qaa hq ?_;rintro e w3 ⟨rfl,hib3,hbk3⟩;have HIB3:=zY hib3;have HBK3:=zY (HBK2.out.trans hbk3);clear hib3 hbk3 hq
     go_upto_region 10 with (fail)
     go_wp2_with fail;have h6n:=HM6.out;have hlen:=HL2.out;exact ⟨⟨y,m2 - 6,L2++[ltr z],rfl,by rw [show ((m2 - 6:Nat):Int)=(m2:Int) - 6 by omega],by omega,HYL.out,HT2.out,by rw [List.length_append]; simp; omega,HIB3.out,HBK3.out⟩,by simp only [intOf]; omega⟩
    ·have h6':¬ (6:Int)≤(m2:Int):=by omega
     have HM6:=zY (show m2=0∨m2=2∨m2=4 by omega);have HT2:=zY (show L2++encS m2 V2 (b.drop (k+1))=enc b by rw [← encT_low (by omega)]; exact hT2);have HL2:=zY hL2;have HV2:=zY hV2;have HIB2:=zY hib2;have HBK2:=zY hbk2;have HLT:=zY hlt;clear hm2 hV2 hT2 hL2 hib2 hbk2 h6;go_wp2_with fail;exact ⟨⟨k+1,V2,m2,L2,HLT.out,by go_num,rfl,rfl,HM6.out,HV2.out,HT2.out,HL2.out,HIB2.out,HBK2.out⟩,by have:=HLT.out; simp [intOf]; omega⟩
  ·obtain rfl:k=n:=by omega
   rw [List.drop_of_length_le (by rw [← HN.out]; exact Nat.le_refl _)] at henc
   by_cases h0:m=0
   ·subst h0;have HE:=zY (show L=enc b by rw [← henc]; simp [encS]);have hLne:L≠[]:=by rw [HE.out]; exact HNE.out
    have HS:=zY (qcC _ _ L wr hib hLne);have HBK:=zY hbk;clear hib hbk henc hm hwv hL hLne;go_wp2_with fail;refine qaa HS.out ?_;rintro e w4 ⟨rfl,hb4⟩;have HB4:=zY hb4;clear hb4;go_wp2_with fail;go_ret;exact ⟨by rw [HE.out]; rfl,HB0.out.trans ((HBK.out.below).trans HB4.out)⟩
   ·have hm':m=2∨m=4:=by omega
    obtain ⟨z,hz⟩:=eX (wv*2^(6 - m));have hz64:z<64:=by rw [hz]; exact ltA (by omega) hwv
    have HE:=zY (show L++[ltr z]=enc b by rw [← henc,encS,if_neg h0,hz]);have hzi:(wv:Int)*2^(6 - m)=(z:Int):=by rw [hz]; simp
    have hz1:(z:Int)<64:=by omega
    have hm0:0<(m:Int):=by omega
    have hm6:(m:Int)≤4:=by omega
    have HIB:=zY hib;have HBK:=zY hbk;have HL:=zY hL;clear hib hbk henc hm hm' hwv hL hz
    go_upto_region 13 with (fail)
    go_wp2_with fail;have hq:=qb5 bldT_ok _ _ L (ltr z) _ HIB.out (by have:=HL.out; omega);rw [← ltr_at z hz64] at hq;refine qaa hq ?_;rintro e w3 ⟨rfl,hib3,hbk3⟩;have HBK3:=zY (HBK.out.trans hbk3);have hLne:L++[ltr z]≠[]:=by simp
    have HS:=zY (qcC _ _ (L++[ltr z]) w3 hib3 hLne);clear hib3 hbk3 hq hLne
    go_upto_region 14 with (fail)
    go_wp2_with fail;refine qaa HS.out ?_;rintro e w4 ⟨rfl,hb4⟩;have HB4:=zY hb4;clear hb4;go_wp2_with fail;go_ret;exact ⟨by rw [HE.out]; rfl,HB0.out.trans ((HBK3.out.below).trans HB4.out)⟩
def decB (s:Bs):Bs:=(dec s).getD []
def decE (s:Bs):Int:=if (dec s).isSome then 0 else 13
def DecTo (s L:Bs) (m wv k:Nat):Prop:=dec s=(decS m wv (s.drop k)).map (L++·)
theorem DecTo.start (s:Bs):DecTo s [] 0 0 0:=by
 unfold DecTo dec;simp
theorem DecTo.bad {s L:Bs} {m wv k:Nat} (h:DecTo s L m wv k) (hk:k<s.length) (hb:idx64 s[k]<0):dec s=none:=by
 unfold DecTo at h;rw [h,List.drop_eq_getElem_cons hk,decS,if_pos hb];rfl
theorem DecTo.low {s L:Bs} {m wv k j:Nat} (h:DecTo s L m wv k) (hk:k<s.length) (hj:idx64 s[k]=(j:Int)) (hm:m+6<8):DecTo s L (m+6) (wv*64+j) (k+1):=by
 unfold DecTo at h ⊢;rw [h,List.drop_eq_getElem_cons hk,decS,hj,if_neg (by omega),if_pos hm];rfl
theorem DecTo.out {s L:Bs} {m wv k j:Nat} {z y:Nat} (h:DecTo s L m wv k) (hk:k<s.length) (hj:idx64 s[k]=(j:Int)) (hm:¬ m+6<8) (hz:z=(wv*64+j)/2^(m - 2)) (hy:y=(wv*64+j)%2^(m - 2)):DecTo s (L++[UInt8.ofNat z]) (m - 2) y (k+1):=by
 unfold DecTo at h ⊢;rw [h,List.drop_eq_getElem_cons hk,decS,hj,if_neg (by omega),if_neg hm,hy,hz];show Option.map _ (Option.map _ (decS (m - 2) ((wv*64+(j:Int).toNat)%2^(m - 2)) _))=_;rw [Option.map_map]
 congr 1
 funext r
 simp
theorem DecTo.fin {s L:Bs} {m wv k:Nat} (h:DecTo s L m wv k) (hk:k=s.length):dec s=if 6≤m∨wv≠0 then none else some L:=by
 unfold DecTo at h;rw [h,hk,List.drop_length,decS]
 split <;> simp
theorem or_low6:∀ (a:Fin 64) (x:Fin 64),bits .or .i64 ((a.1*64:Nat):Int) ((x.1:Nat):Int)=((a.1*64+x.1:Nat):Int):=by decide +kernel
theorem and_low8 {m V:Nat} (hm:m=2∨m=4∨m=6) (hV:V<2^(m+6)):bits .and .i64 (V:Int) (((2^(m - 2):Nat):Int) - 1)=((V%2^(m - 2):Nat):Int):=by
 have k1:∀ a:Fin 256,bits .and .i64 ((a.1:Nat):Int) 0=0:=by decide +kernel
 have k4:∀ (a:Fin 256) (b:Fin 4),bits .and .i64 ((a.1*4+b.1:Nat):Int) 3=((b.1:Nat):Int):=by decide +kernel
 have k16:∀ (a:Fin 256) (b:Fin 16),bits .and .i64 ((a.1*16+b.1:Nat):Int) 15=((b.1:Nat):Int):=by decide +kernel
 rcases hm with rfl | rfl | rfl
 ·have h:=k1 ⟨V,by simpa using hV⟩
  simpa [Nat.mod_one] using h
 ·have h:=k4 ⟨V/4,by simp at hV; omega⟩ ⟨V%4,Nat.mod_lt _ (by omega)⟩;rw [show V/4*4+V%4=V by omega] at h
  simpa using h
 ·have h:=k16 ⟨V/16,by simp at hV; omega⟩ ⟨V%16,Nat.mod_lt _ (by omega)⟩;rw [show V/16*16+V%16=V by omega] at h
  simpa using h
theorem ltr_idx2 {c:UInt8} (h:0≤idx64 c):∃ j:Nat,idx64 c=(j:Int)∧j<64:=⟨(idx64 c).toNat,by omega,(ltr_idx h).2⟩
theorem byte_back {x:UInt8}:((x.toNat:Nat):Int).toNat.toUInt8=x:=by
 show Nat.toUInt8 x.toNat=x;simp
theorem pow_small8 {m:Nat} (hm:m=2∨m=4∨m=6):2^(m - 2)≤16:=by
 rcases hm with rfl | rfl | rfl <;> decide
theorem pow_split8 {m:Nat} (hm:m=2∨m=4∨m=6):2^(m+6)=256*2^(m - 2):=by
 rcases hm with rfl | rfl | rfl <;> decide
theorem sl_u88:SlT Tryz.prog 40 5 1 1:=SlT.mk1 (z:=.int .u8 0) Tryz.underlying40 (by kernel_rfl) rfl (by decide)
theorem decode_any (s:Bs) (hl:s.length≤100000) (w:World) :
  Calls Tryz.prog 24 #[.string (bs s)] w fun e w'=>∃ A c,e=.returned (.tuple #[.slice A (decB s).length c,.int .i64 (decE s)])∧(decB s).length≤c∧Rd w' w'.heap.size A (bytesV (decB s))∧Below w.heap.size w w':=by
 obtain ⟨n,hn⟩:=eX (s.length);have hsz:((bs s).size:Int)=(n:Int):=by rw [qaB,hn]
 have HSZ:=zY hsz;have HN:=zY hn;have hn1:(n:Int)≤100000:=by omega
 have HIX:=zY (fun (x:UInt8) (u:World)=>show Calls Tryz.prog 43 #[.string ⟨#[65,66,67,68,69,70,71,72,73,74,75,76,77,78,79,80,81,82,83,84,85,86,87,88,89,90,97,98,99,100,101,102,103,104,105,106,107,108,109,110,111,112,113,114,115,116,117,118,119,120,121,122,48,49,50,51,52,53,54,55,56,57,45,95]⟩,.int .u8 ((x.toNat:Nat):Int)] u fun e w'=>e=.returned (.int .i64 (idx64 x))∧w'=u by
  have h:=idxb_any ⟨#[65,66,67,68,69,70,71,72,73,74,75,76,77,78,79,80,81,82,83,84,85,86,87,88,89,90,97,98,99,100,101,102,103,104,105,106,107,108,109,110,111,112,113,114,115,116,117,118,119,120,121,122,48,49,50,51,52,53,54,55,56,57,45,95]⟩ ((x.toNat:Nat):Int) u;rw [byte_back] at h;exact h)
 have HR0:=zY (Below.refl w.heap.size w);clear hn hl;go_enter Tryz.func24,Tryz.ntmps24;go_wp2_with fail
 go_loopw [4,5,6,11] (fun o x y z wr=>∃ (k m wv:Nat) (L:Bs) (A1:Option Addr) (c1:Nat),k≤n∧z=.int .i64 (k:Int)∧y=.int .i64 (m:Int)∧x=.int .i64 (wv:Int)∧o=.slice A1 L.length c1∧(m=0∨m=2∨m=4∨m=6)∧wv<2^m∧DecTo s L m wv k∧L.length≤k ∧
  OwnR wr w.heap.size 5 1 A1 c1 L.length (bytesV L)∧Below w.heap.size w wr) (fun _ _ _ z _=>n - (intOf z).toNat)
 case atStart=>exact ⟨0,0,0,[],none,0,Nat.zero_le _,rfl,rfl,rfl,rfl,.inl rfl,by decide,DecTo.start s,Nat.le_refl _,OwnR.nil _ _ _ _,HR0.out⟩
 case round =>
  obtain ⟨k,m,wv,L,A1,c1,hk,rfl,rfl,rfl,rfl,hm,hwv,hto,hLk,hown,hbel⟩:=hrel;have HTO:=zY hto;have HOW:=zY hown;have HBE:=zY hbel;have HWV:=zY hwv;have HMM:=zY hm;have HLK:=zY hLk;have hm6:(m:Int)≤6:=by omega
  have hwv64:wv<64:=Nat.lt_of_lt_of_le hwv (by rcases hm with rfl | rfl | rfl | rfl <;> decide);clear hto hown hbel hwv hLk hm
  by_cases hlt:k<n
  ·have hks:k<s.length:=by rw [← HN.out]; exact hlt
   have hkb:k<(bs s).size:=by have:=HSZ.out; omega
   have hlt':(k:Int)<(n:Int):=by omega
   obtain ⟨x,hx⟩:∃ x:UInt8,x=s[k]:=⟨_,rfl⟩;have hxv:(((bs s)[k]'hkb).toNat:Int)=((x.toNat:Nat):Int):=by rw [hx]; rfl
   have CI:=zY (HIX.out x);have HXX:=zY (show ∃ h:k<s.length,s[k]=x from ⟨hks,hx.symm⟩);have HLT:=zY hlt;have hxl:(x.toNat:Int)<256:=by have:=x.toNat_lt; omega
   clear hx hlt hks;go_wp2_with fail;refine qaa (CI.out _) ?_;rintro e w2 ⟨rfl,rfl⟩
   by_cases hneg:idx64 x<0
   ·have HDN:=zY (show dec s=none by
     obtain ⟨h,he⟩:=HXX.out;exact HTO.out.bad h (by rw [he]; exact hneg))
    have HPO:=zY (show decB s=[]∧decE s=13 by rw [decB,decE,HDN.out]; exact ⟨rfl,rfl⟩);go_wp2_with fail;go_ret2;exact ⟨none,0,by rw [HPO.out.1,HPO.out.2]; rfl,by rw [HPO.out.1]; exact Nat.le_refl _,by rw [HPO.out.1]; exact Rd.nil _ _ _,HBE.out⟩
   ·obtain ⟨j,hj,hj64⟩:=ltr_idx2 (c:=x) (by omega);have hor:bits .or .i64 ((wv:Int)*64) (j:Int)=((wv*64+j:Nat):Int):=by have:=or_low6 ⟨wv,hwv64⟩ ⟨j,hj64⟩; simpa using this
    have hwz:(wv:Int)<64:=by omega
    have hjz:(j:Int)<64:=by omega
    have hj0:¬ (j:Int)<0:=by omega
    rw [hj];obtain ⟨V,hV⟩:=eX (wv*64+j);rw [← hV] at hor;have HVE:=zY hV;have HJE:=zY hj;have HJ6:=zY hj64;clear hneg hj hV hwv64 hj64
    by_cases hm2:m+6<8
    ·have hge:¬ (8:Int)≤(m:Int)+6:=by omega
     have HM0:=zY (show m=0 by have:=HMM.out; omega)
     have HTN:=zY (show DecTo s L (m+6) V (k+1) by
      obtain ⟨h,he⟩:=HXX.out;rw [HVE.out];exact HTO.out.low h (by rw [he]; exact HJE.out) hm2)
     have HVL:=zY (show V<2^(m+6) by
      have h0:=HM0.out;have h1:=HWV.out;have h2:=HJ6.out;have h3:=HVE.out;rw [h0] at h1 ⊢;simp at h1;rw [h3,h1]
      simpa using h2)
     clear hm2;go_wp2_with fail;exact ⟨⟨k+1,m+6,V,L,A1,c1,HLT.out,by go_num,by go_num,rfl,rfl,by have:=HM0.out; omega,HVL.out,HTN.out,Nat.le_succ_of_le HLK.out,HOW.out,HBE.out⟩,by have:=HLT.out; simp [intOf]; omega⟩
    ·have hge:(8:Int)≤(m:Int)+6:=by omega
     have hm3:m=2∨m=4∨m=6:=by have:=HMM.out; omega
     obtain ⟨M,hM⟩:=eX (m - 2);have hMi:(m:Int)+6 - 8=(M:Int):=by omega
     have hM4:(M:Int)≤4:=by omega
     obtain ⟨P,hP⟩:=eX (2^M);have hPi:(2:Int)^M=(P:Int):=by rw [hP]; simp
     have hP1:1≤P:=by rw [hP]; exact Nat.pow_pos (by omega)
     have hP16:P≤16:=by rw [hP,hM]; exact pow_small8 hm3
     have hVlt:V<2^(m+6):=by
      rw [HVE.out,Nat.pow_add];have h1:=HWV.out;have h2:=HJ6.out;have:(wv+1)*2^6≤2^m*2^6:=Nat.mul_le_mul_right _ h1;omega
     have hlow:=and_low8 hm3 hVlt;obtain ⟨z,hz⟩:=eX (V/2^(m - 2));obtain ⟨y,hy⟩:=eX (V%2^(m - 2));have hyl:y<2^(m - 2):=by rw [hy]; exact Nat.mod_lt _ (Nat.pow_pos (by omega))
     have hz256:z<256:=by
      rw [hz,Nat.div_lt_iff_lt_mul (Nat.pow_pos (by omega)),← pow_split8 hm3];exact hVlt
     have HTN:=zY (show DecTo s (L++[UInt8.ofNat z]) (m - 2) y (k+1) by
      obtain ⟨h,he⟩:=HXX.out;exact HTO.out.out h (by rw [he]; exact HJE.out) hm2 (by rw [hz,HVE.out]) (by rw [hy,HVE.out]))
     rw [← hy,← hM,← hP] at hlow;have hzi:((V:Int)/(P:Int))=(z:Int):=by rw [hz,hP,hM]; simp
     have hz1:(z:Int)<256:=by omega
     have hzm:(z:Int)%256=(z:Int):=by omega
     have hpl:(P:Int)≤16:=by omega
     have hp1:1≤(P:Int):=by omega
     have hVz:(V:Int)<4096:=by
      have h1:=HVE.out;have h2:=HJ6.out;omega
     have HYL:=zY hyl;have HM3:=zY (show M=m - 2∧(m=2∨m=4∨m=6) from ⟨hM,hm3⟩);have HZB:=zY (show [Value.int .u8 (z:Int)]=bytesV [UInt8.ofNat z] by simp [bytesV,byteV]; omega);have hLL:(L.length:Int)≤100000:=by have:=HLK.out; have:=HLT.out; omega
     have hLN:=zY (Nat.le_refl L.length);clear hy hyl hz hP hM hm3 hVlt hP1 hP16 hz256 hm2;go_wp2_with (refine qaU (ys:=[.int .u8 (z:Int)]) sl_u88 rfl rfl HOW.out rfl rfl rfl rfl (by simp [Value.oneCell']) (by unfold maxLen; omega) (by omega) HBE.out.size ?_; intro A5 c5 w5 ho hg hn5);have HO5:=zY (show OwnR w5 w.heap.size 5 1 A5 c5 (L++[UInt8.ofNat z]).length (bytesV (L++[UInt8.ofNat z])) by rw [List.length_append,qaE,← HZB.out]; exact ho);have HB5:=zY (HBE.out.grown hg HBE.out.size (fun k hk=>(HOW.out.lt k hk).1));clear ho hg hn5;have hM:=HM3.out;exact ⟨⟨k+1,M,y,L++[UInt8.ofNat z],A5,c5,HLT.out,by go_num,rfl,rfl,by rw [List.length_append]; rfl,by omega,by rw [hM.1]; exact HYL.out,by rw [hM.1]; exact HTN.out,by rw [List.length_append]; exact Nat.succ_le_succ HLK.out,HO5.out,HB5.out⟩,by have:=HLT.out; simp [intOf]; omega⟩
  ·obtain rfl:k=n:=by omega
   have hfin:=HTO.out.fin HN.out
   by_cases h6:6≤m
   ·have h6':(6:Int)≤(m:Int):=by omega
    have HPO:=zY (show decB s=[]∧decE s=13 by rw [decB,decE,hfin,if_pos (.inl h6)]; exact ⟨rfl,rfl⟩);clear hfin h6;go_wp2_with fail;go_ret2;exact ⟨none,0,by rw [HPO.out.1,HPO.out.2]; rfl,by rw [HPO.out.1]; exact Nat.le_refl _,by rw [HPO.out.1]; exact Rd.nil _ _ _,HBE.out⟩
   ·have h6':¬ (6:Int)≤(m:Int):=by omega
    by_cases hw0:wv=0
    ·subst hw0;have HPO:=zY (show decB s=L∧decE s=0 by rw [decB,decE,hfin,if_neg (by omega)]; exact ⟨rfl,rfl⟩);clear hfin h6 hwv64;go_wp2_with fail;go_ret2;exact ⟨A1,c1,by rw [HPO.out.1,HPO.out.2]; rfl,by rw [HPO.out.1]; exact HOW.out.cap,by rw [HPO.out.1]; exact HOW.out.row.rd,HBE.out⟩
    ·have hw0':((wv:Int) == 0)=false:=by simp; exact hw0
     have HPO:=zY (show decB s=[]∧decE s=13 by rw [decB,decE,hfin,if_pos (.inr hw0)]; exact ⟨rfl,rfl⟩);clear hfin h6 hwv64 hw0;go_wp2_with fail;go_ret2;exact ⟨none,0,by rw [HPO.out.1,HPO.out.2]; rfl,by rw [HPO.out.1]; exact Nat.le_refl _,by rw [HPO.out.1]; exact Rd.nil _ _ _,HBE.out⟩
end Go.Proofs.YtlkikjeccamheaaGreatDoor.Js
namespace Go.Proofs.YtlkikjeccamheaaGreatDoor
set_option linter.unusedSimpArgs false
set_option linter.unusedVariables false
set_option maxRecDepth 100000
set_option maxHeartbeats 4000000
open Go.RowKit
theorem own_lt {w:World} {base e size n:Nat} {v:Value} {xs:List Value} (h:w.ownsRow base e size v n xs):∀ k,v.ownBlock=some k→base≤k∧k<w.heap.size:=(OwnX.of h).lt
theorem own_mono {w:World} {base base' e size n:Nat} {v:Value} {xs:List Value} (h:w.ownsRow base e size v n xs) (hb:base'≤base):w.ownsRow base' e size v n xs :=
 ⟨h.1,h.2.elim .inl fun ⟨g,cap,cur,hv,hg,r⟩=>.inr ⟨g,cap,cur,hv,Nat.le_trans hb hg,r⟩⟩
theorem own_cap {w:World} {base e size n c:Nat} {A:Option Addr} {xs:List Value} (h:OwnX w base e size (.slice A n c) n xs):n≤c∧c≤9223372036854775807:=by
 rcases h.2 with ⟨hv,hn⟩ | ⟨g,cap,cur,fz,hv,_,_,hnc,hcm,_⟩
 ·injection hv with _ _ h3; omega
 ·injection hv with _ _ h3; unfold maxLen at hcm; omega
section
variable {P:Program}
theorem qbu {w0:World} {y:Value} {ops:Array Oper} {rest:List Oper} {o:Oper} {a:Act} {Q:Exit→Act→World→Prop} {s x:Operand} {t e:TypeId} {bytes:Nat} (T:SlT P t e 1 bytes)
  (hgd:o.guard=none) (ho:o.op=.call { callee:=.builtin .append,args:=#[s,x],argTypes:=#[t,t] })
  {base n:Nat} {v:Value} {xs:List Value} {ad:Nat} (hown:w0.ownsRow base e 1 v n xs) (hs:a.eval s=v) (hx:a.eval x=.slice (some ⟨ad,0,none⟩) 1 1) (had:ad=w0.heap.size)
  (hy:y.oneCell'=true)
  (h63:n+1≤maxLen) (hbytes:(n+1)*bytes≤140737488355328) (hbase:base≤w0.heap.size)
  (h:∀ A c w',w'.ownsRow base e 1 (.slice A (n+1) c) (n+1) (xs++[y])→w0.grownBy w' v.ownBlock→wpList P ops Q rest (a.put o.dst (.slice A (n+1) c)) w') :
  wpList P ops Q (o :: rest) a (w0.alloc (.cells #[y] e)):=by
 subst had;obtain ⟨i,z,hi,hz,hsz,hby,hzs⟩:=T.info
 obtain ⟨v',w',hr,h2,h3,_,_⟩:=run_append_own_at (P:=P) (w0.alloc (.cells #[y] e)) base t o.type e i z 1 bytes T.und hi hz hsz hby hzs (by omega) v n xs (hown.alloc _) ⟨w0.heap.size,0,none⟩ 1 1 [y] rfl (fun j u hu=>cell_one_new _ _ _ j u hu)
  (by intro u hu; simp at hu; subst hu; exact hy) h63 hbytes (by simp; omega)
 have hv:∃ A c,v'=.slice A (n+1) c:=by
  rcases h2.2 with ⟨_,h0⟩ | ⟨g,cap,cur,rfl,_⟩
  ·omega
  ·exact ⟨_,_,rfl⟩
 obtain ⟨A,c,rfl⟩:=hv;refine qaG (R:=fun v' w1=>v'=.slice A (n+1) c∧w1=w') hgd ho hs hx ⟨_,_,hr,rfl,rfl⟩ ?_;rintro v' w1 ⟨rfl,rfl⟩;exact h _ _ _ h2 ((World.grownBy_alloc w0 _ _).trans h3)
end
end Go.Proofs.YtlkikjeccamheaaGreatDoor
namespace Go.Proofs.YtlkikjeccamheaaGreatDoor.Js
set_option linter.unusedSimpArgs false
set_option linter.unusedVariables false
set_option maxRecDepth 100000
set_option maxHeartbeats 4000000
open Go.RowKit
def kCell (k:Bs × Bs):Array Value:=#[.string (bs k.1),.string (bs k.2)]
theorem qdw (k:Bs × Bs):(kCell k).all (·.oneCell')=true:=by simp [kCell,Value.oneCell']
theorem qbq:(Tryz.prog.info? 38).map (·.size)=some 2:=by kernel_rfl
end Go.Proofs.YtlkikjeccamheaaGreatDoor.Js
namespace Go.Proofs.YtlkikjeccamheaaGreatDoor.Sh
set_option linter.unusedSimpArgs false
set_option linter.unusedVariables false
set_option maxRecDepth 100000
set_option maxHeartbeats 4000000
open Go.RowKit
def f64C:Array Value:=#[.int .i64 64,.int .i64 80,.int .i64 28,.int .i64 34,.int .i64 39,.int .i64 14,.int .i64 18,.int .i64 41,.int .i64 1,.int .i64 8,.int .i64 7,.int .i64 19,.int .i64 61,.int .i64 6]
def f32C:Array Value:=#[.int .i64 32,.int .i64 64,.int .i64 2,.int .i64 13,.int .i64 22,.int .i64 6,.int .i64 11,.int .i64 25,.int .i64 7,.int .i64 18,.int .i64 3,.int .i64 17,.int .i64 19,.int .i64 10]
theorem below_new (w:World) (o:Obj):Below w.heap.size w (w.alloc o):=(Below.refl _ _).alloc (Nat.le_refl _) _
theorem qa5 (x n:Nat) (w:World) (hx:x<18446744073709551616) (hn:n<32) :
  Calls Tryz.prog 138 #[.agg f32C,.int .u64 x,.int .i64 n] w fun e w'=>e=.returned (.int .u64 (turnedN 32 x n:Nat))∧Below w.heap.size w w':=by
 have c0:=(Blk.new w 136 f32C).cell 0;simp only [f32C,List.getElem?_toArray,List.getElem?_cons_zero] at c0;have hnn:(0:Int)≤(32:Int) - (n:Int):=by omega
 have hn1:(n:Int)<32:=by omega
 have hx1:(x:Int)<18446744073709551616:=by omega
 have HX:=zY hx;clear hx;rw [f32C];go_enter Tryz.func138,Tryz.ntmps138;go_wp2
 go_quiet (fail)
 go_wp2;go_ret;refine ⟨qaY ?_,qbU (below_new _ _) _⟩;exact rot_walk32' x n
theorem qaW:(Tryz.prog.info? 136).map (·.size)=some 14:=by kernel_rfl
theorem qcu (x p q c:Nat) (shift:Bool) (w:World) (hx:x<18446744073709551616) (hp:p<32) (hq:q<32) (hc:c<32) :
  Calls Tryz.prog 131 #[.agg f32C,.int .u64 x,.agg #[.int .i64 p,.int .i64 q,.int .i64 c],.bool shift] w fun e w'=>e=.returned (.int .u64 (allN 32 x p q c shift:Nat))∧Below w.heap.size w w':=by
 obtain ⟨W0,hW0⟩:=eX (((w.alloc (.cells f32C 136)).alloc (.cells #[.int .i64 p,.int .i64 q,.int .i64 c] 132)));have hb:Below w.heap.size w W0:=by rw [hW0]; exact (below_new _ _).alloc (by simp) _
 have hb4:Blk W0 w.heap.size 136 f32C:=by rw [hW0]; exact (Blk.new _ _ _).alloc _
 have hb6:Blk W0 (w.heap.size+1) 132 #[.int .i64 p,.int .i64 q,.int .i64 c]:=by
  have:=Blk.new (w.alloc (.cells f32C 136)) 132 #[.int .i64 p,.int .i64 q,.int .i64 c];rw [hW0]; simpa using this
 have hl4:=hb4.lt;have hl6:=hb6.lt;have HB:=zY hb;have H4:=zY hb4;have H6:=zY hb6;have HW:=zY hW0;have hu:=Tryz.underlying136;have hx1:(x:Int)<18446744073709551616:=by omega
 have HX:=zY hx;have hc1:(c:Int)<32:=by omega
 obtain ⟨L,hL⟩:∃ L:Nat,L=lastN 32 x c shift:=⟨_,rfl⟩;have HL:=zY hL;have c2:=hb6.cell 2;simp at c2;have hb40:=hb4;have c20:=c2;rw [hW0] at hb40 c20;have hHC:∀ (f:List Value),f=f:=fun _=>rfl;clear hb hb4 hb6 hW0 hx hL hHC
 cases shift with
 | false =>
  go_enter Tryz.func131,Tryz.ntmps131;go_wp2_with (refine qad (x:=.tmp 4) hb40 rfl rfl rfl hu rfl qaW ?_);rw [← HW.out];clear hb40 c20;refine qaa (qa5 x c W0 HX.out hc) ?_;rintro e w1 ⟨rfl,hb1⟩;rw [show turnedN 32 x c=L from HL.out.symm];have g4:=H4.out.below hb1 hl4;have g6:=H6.out.below hb1 hl6;have hBw:=HB.out.trans (hb1.mono HB.out.size);have h14:=g4.lt;have h16:=g6.lt;have G4:=zY g4;have G6:=zY g6;have HBw:=zY hBw;clear g4 g6 hBw hb1 c2;go_wp2_with fail;have HC0:Below w1.heap.size w1 w1.drew:=(Below.refl _ _).drew;refine qah (fun u=>Below w1.heap.size w1 u) (fun u=>Below w1.heap.size w1 u) [(0,some 20),(1,some 21),(2,some 22),(3,some 23),(4,some 24),(5,some 25),(6,some 26),(7,some 27),(8,some 28),(9,some 29),(10,some 30),(11,some 31),(12,some 32),(13,some 8)] (by kernel_rfl) (by kernel_rfl) (by decide) (by kernel_rfl) (fun _=>rfl) HC0 ?_;apply yN_
  ·apply dP [];exact fun _=>rfl;rfl;rintro vals - w1 hC1 E hE;simp only [sP] at hE ⊢;refine qad (G4.out.below hC1 h14) rfl rfl rfl hu rfl qaW ?_;go_wp2_with fail;exact .mk (hE _ hC1)
  apply yN_
  ·apply dP [];exact fun _=>rfl;rfl;rintro vals ⟨-,-⟩ w1 hC1 E hE;simp only [sP] at hE ⊢;go_wp2;exact .mk (hE _ hC1)
  apply yN_
  ·apply dP [];exact fun _=>rfl;rfl;intro vals vq w1 hC1 E hE;clear vq;simp only [sP] at hE ⊢;go_wp2;exact .mk (hE _ hC1)
  apply yN_
  ·apply dP [(2,some 22)];exact fun _=>rfl;rfl;intro vals vq w1 hC1 E hE;have d0:=(G6.out.below hC1 h16).cell 0;simp at d0;simp only [sP,vq] at hE ⊢;clear vq;go_wp2;exact .mk (hE _ hC1)
  apply yN_
  ·apply dP [(0,some 20),(1,some 21),(3,some 23)];exact fun _=>rfl;rfl;intro vals vq w1 hC1 E hE;simp only [sP,vq] at hE ⊢;clear vq;go_wp2_with fail;refine qaa (qa5 x p _ HX.out hp) ?_;rintro e w2 ⟨rfl,hb2⟩;go_wp2_with fail;exact .mk (hE _ (hC1.trans (hb2.mono hC1.size)))
  apply yN_
  ·apply dP [];exact fun _=>rfl;rfl;intro vals vq w1 hC1 E hE;clear vq;simp only [sP] at hE ⊢;refine qad (G4.out.below hC1 h14) rfl rfl rfl hu rfl qaW ?_;go_wp2_with fail;exact .mk (hE _ hC1)
  apply yN_
  ·apply dP [];exact fun _=>rfl;rfl;intro vals vq w1 hC1 E hE;clear vq;simp only [sP] at hE ⊢;go_wp2;exact .mk (hE _ hC1)
  apply yN_
  ·apply dP [];exact fun _=>rfl;rfl;intro vals vq w1 hC1 E hE;clear vq;simp only [sP] at hE ⊢;go_wp2;exact .mk (hE _ hC1)
  apply yN_
  ·apply dP [(7,some 27)];exact fun _=>rfl;rfl;intro vals vq w1 hC1 E hE;have d0:=(G6.out.below hC1 h16).cell 1;simp at d0;simp only [sP,vq] at hE ⊢;clear vq;go_wp2;exact .mk (hE _ hC1)
  apply yN_
  ·apply dP [(5,some 25),(6,some 26),(8,some 28),(4,some 24)];exact fun _=>rfl;rfl;intro vals vq w1 hC1 E hE;simp only [sP,vq] at hE ⊢;clear vq;go_wp2_with fail;refine qaa (qa5 x q _ HX.out hq) ?_;rintro e w2 ⟨rfl,hb2⟩;go_wp2_with fail;exact .mk (hE _ (hC1.trans (hb2.mono hC1.size)))
  apply yN_
  ·apply dP [(4,some 24),(9,some 29)];exact fun _=>rfl;rfl;intro vals vq w1 hC1 E hE;simp only [sP,vq] at hE ⊢;clear vq;go_wp2;exact .mk (hE _ hC1)
  apply yN_
  ·apply dP [];exact fun _=>rfl;rfl;intro vals vq w1 hC1 E hE;clear vq;simp only [sP] at hE ⊢;go_wp2;exact .mk (hE _ hC1)
  apply yN_
  ·apply dP [(10,some 30),(11,some 31)];exact fun _=>rfl;rfl;intro vals vq w1 hC1 E hE;simp only [sP,vq] at hE ⊢;clear vq;go_wp2;exact .mk (hE _ hC1)
  apply yL_
  ·apply dP [(12,some 32),(9,some 29),(0,some 20),(1,some 21),(2,some 22),(3,some 23),(4,some 24),(5,some 25),(6,some 26),(7,some 27),(8,some 28),(9,some 29),(10,some 30),(11,some 31),(12,some 32)];exact fun _=>rfl;rfl;intro vals vq w1 hC1 E hE;simp only [sP,vq] at hE ⊢;clear vq;go_wp2;exact .mk (hE _ hC1)
  intro vals vq w1 hC1;simp only [sP,vq];clear vq;go_wp2_with fail;go_ret;refine ⟨qaY ?_,HBw.out.trans (hC1.mono HBw.out.size)⟩;rw [xor64 _ _ (qaK HX.out) (qaK HX.out),xor64 _ _ (qcN (qaK HX.out) (qaK HX.out)) (by rw [HL.out]; exact qcS HX.out),HL.out];rfl
 | true =>
  go_enter Tryz.func131,Tryz.ntmps131;go_wp2_with (refine qad (x:=.tmp 4) hb40 rfl rfl rfl hu rfl qaW ?_);rw [← HW.out];clear hb40 c20;refine qaa (qa5 x c W0 HX.out hc) ?_;rintro e w1 ⟨rfl,hb1⟩;have g4:=H4.out.below hb1 hl4;have g6:=H6.out.below hb1 hl6;have hBw:=HB.out.trans (hb1.mono HB.out.size);have h14:=g4.lt;have h16:=g6.lt;have cc:=g6.cell 2;simp at cc;have G4:=zY g4;have G6:=zY g6;have HBw:=zY hBw;clear g4 g6 hBw hb1 c2;go_wp2_with fail;rw [show (x:Int)/2^c=(L:Int) by rw [HL.out,shr_int]; rfl];clear cc;have HC0:Below w1.heap.size w1 w1.drew:=(Below.refl _ _).drew;refine qah (fun u=>Below w1.heap.size w1 u) (fun u=>Below w1.heap.size w1 u) [(0,some 20),(1,some 21),(2,some 22),(3,some 23),(4,some 24),(5,some 25),(6,some 26),(7,some 27),(8,some 28),(9,some 29),(10,some 30),(11,some 31),(12,some 32),(13,some 8)] (by kernel_rfl) (by kernel_rfl) (by decide) (by kernel_rfl) (fun _=>rfl) HC0 ?_;apply yN_
  ·apply dP [];exact fun _=>rfl;rfl;rintro vals - w1 hC1 E hE;simp only [sP] at hE ⊢;refine qad (G4.out.below hC1 h14) rfl rfl rfl hu rfl qaW ?_;go_wp2_with fail;exact .mk (hE _ hC1)
  apply yN_
  ·apply dP [];exact fun _=>rfl;rfl;rintro vals ⟨-,-⟩ w1 hC1 E hE;simp only [sP] at hE ⊢;go_wp2;exact .mk (hE _ hC1)
  apply yN_
  ·apply dP [];exact fun _=>rfl;rfl;intro vals vq w1 hC1 E hE;clear vq;simp only [sP] at hE ⊢;go_wp2;exact .mk (hE _ hC1)
  apply yN_
  ·apply dP [(2,some 22)];exact fun _=>rfl;rfl;intro vals vq w1 hC1 E hE;have d0:=(G6.out.below hC1 h16).cell 0;simp at d0;simp only [sP,vq] at hE ⊢;clear vq;go_wp2;exact .mk (hE _ hC1)
  apply yN_
  ·apply dP [(0,some 20),(1,some 21),(3,some 23)];exact fun _=>rfl;rfl;intro vals vq w1 hC1 E hE;simp only [sP,vq] at hE ⊢;clear vq;go_wp2_with fail;refine qaa (qa5 x p _ HX.out hp) ?_;rintro e w2 ⟨rfl,hb2⟩;go_wp2_with fail;exact .mk (hE _ (hC1.trans (hb2.mono hC1.size)))
  apply yN_
  ·apply dP [];exact fun _=>rfl;rfl;intro vals vq w1 hC1 E hE;clear vq;simp only [sP] at hE ⊢;refine qad (G4.out.below hC1 h14) rfl rfl rfl hu rfl qaW ?_;go_wp2_with fail;exact .mk (hE _ hC1)
  apply yN_
  ·apply dP [];exact fun _=>rfl;rfl;intro vals vq w1 hC1 E hE;clear vq;simp only [sP] at hE ⊢;go_wp2;exact .mk (hE _ hC1)
  apply yN_
  ·apply dP [];exact fun _=>rfl;rfl;intro vals vq w1 hC1 E hE;clear vq;simp only [sP] at hE ⊢;go_wp2;exact .mk (hE _ hC1)
  apply yN_
  ·apply dP [(7,some 27)];exact fun _=>rfl;rfl;intro vals vq w1 hC1 E hE;have d0:=(G6.out.below hC1 h16).cell 1;simp at d0;simp only [sP,vq] at hE ⊢;clear vq;go_wp2;exact .mk (hE _ hC1)
  apply yN_
  ·apply dP [(5,some 25),(6,some 26),(8,some 28),(4,some 24)];exact fun _=>rfl;rfl;intro vals vq w1 hC1 E hE;simp only [sP,vq] at hE ⊢;clear vq;go_wp2_with fail;refine qaa (qa5 x q _ HX.out hq) ?_;rintro e w2 ⟨rfl,hb2⟩;go_wp2_with fail;exact .mk (hE _ (hC1.trans (hb2.mono hC1.size)))
  apply yN_
  ·apply dP [(4,some 24),(9,some 29)];exact fun _=>rfl;rfl;intro vals vq w1 hC1 E hE;simp only [sP,vq] at hE ⊢;clear vq;go_wp2;exact .mk (hE _ hC1)
  apply yN_
  ·apply dP [];exact fun _=>rfl;rfl;intro vals vq w1 hC1 E hE;clear vq;simp only [sP] at hE ⊢;go_wp2;exact .mk (hE _ hC1)
  apply yN_
  ·apply dP [(10,some 30),(11,some 31)];exact fun _=>rfl;rfl;intro vals vq w1 hC1 E hE;simp only [sP,vq] at hE ⊢;clear vq;go_wp2;exact .mk (hE _ hC1)
  apply yL_
  ·apply dP [(12,some 32),(9,some 29),(0,some 20),(1,some 21),(2,some 22),(3,some 23),(4,some 24),(5,some 25),(6,some 26),(7,some 27),(8,some 28),(9,some 29),(10,some 30),(11,some 31),(12,some 32)];exact fun _=>rfl;rfl;intro vals vq w1 hC1 E hE;simp only [sP,vq] at hE ⊢;clear vq;go_wp2;exact .mk (hE _ hC1)
  intro vals vq w1 hC1;simp only [sP,vq];clear vq;go_wp2_with fail;go_ret;refine ⟨qaY ?_,HBw.out.trans (hC1.mono HBw.out.size)⟩;rw [xor64 _ _ (qaK HX.out) (qaK HX.out),xor64 _ _ (qcN (qaK HX.out) (qaK HX.out)) (by rw [HL.out]; exact qcS HX.out),HL.out];rfl
theorem qbS (x:Nat) (w:World) (hx:x<18446744073709551616):Calls Tryz.prog 116 #[.int .u64 x] w fun e w'=>e=.returned (.int .u32 (x%4294967296:Nat))∧w=w':=by
 have hx1:(x:Int)<18446744073709551616:=by omega
 clear hx;go_enter Tryz.func116,Tryz.ntmps116;go_wp2;go_ret;exact ⟨qaY (by omega),rfl⟩
theorem elem32:(Tryz.prog.info? 131).map (fun i=>(i.zero,i.size,i.bytes))=some (some (.int .u32 0),1,4):=by kernel_rfl
theorem one32:(Tryz.prog.info? 131).map (·.size)=some 1:=by kernel_rfl
theorem qbX:(Tryz.prog.info? 132).map (·.size)=some 3:=by kernel_rfl
def RowPost32 (blk:List UInt8) (w:World) (e:Ending) (w':World):Prop :=
 ∃ g,e=.returned (.slice (some ⟨g,0,none⟩) 64 64)∧w.heap.size≤g∧Blk w' g 131 (rowC .u32 (rowW F32 blk 64) 0)∧Below w.heap.size w w'
structure RowSt32 (w:World) (gf gw:Nat) (cs:Array Value) (u:World):Prop where
 below:Below gf w u
 form:Blk u gf 136 f32C
 row:Blk u gw 131 cs
 lw:gf<gw
theorem RowSt32.put {w u u':World} {gf gw:Nat} {cs cs':Array Value} (h:RowSt32 w gf gw cs u) (hw:Wrote gw u u') (hb:Blk u' gw 131 cs'):RowSt32 w gf gw cs' u' :=
 ⟨hw.below h.below (by have:=h.lw; omega) (by have:=h.form.lt; omega),hw.blk h.form (by have:=h.lw; omega),hb,h.lw⟩
theorem RowSt32.next {w u u':World} {gf gw:Nat} {cs:Array Value} (h:RowSt32 w gf gw cs u) (hb:Below u.heap.size u u'):RowSt32 w gf gw cs u' :=
 ⟨h.below.trans (hb.mono (by have:=h.form.lt; omega)),h.form.below hb h.form.lt,h.row.below hb h.row.lt,h.lw⟩
theorem RowSt32.drew {w u:World} {gf gw:Nat} {cs:Array Value} (h:RowSt32 w gf gw cs u):RowSt32 w gf gw cs u.drew:=⟨h.below.drew,h.form,h.row,h.lw⟩
theorem rowSt32_start (w:World) (cs:Array Value):RowSt32 w w.heap.size (w.heap.size+1) cs ((w.alloc (.cells f32C 136)).alloc (.cells cs 131)) :=
 ⟨(below_new _ _).alloc (by simp) _,(Blk.new _ _ _).alloc _,by have:=Blk.new (w.alloc (.cells f32C 136)) 131 cs; simpa using this,by omega⟩
theorem row32_any (blk:List UInt8) (A:Option Addr) (c B:Nat) (w:World) (hr:Rd w B A (bytesV blk)) (hB:B≤w.heap.size) (hl:blk.length=64) (hc:blk.length≤c) (hcm:c≤9223372036854775807) :
  Calls Tryz.prog 130 #[.agg f32C,.slice A blk.length c] w (RowPost32 blk w):=by
 obtain ⟨W0,hW0⟩:=eX (w.alloc (.cells f32C 136));have hb0:Below w.heap.size w W0:=by rw [hW0]; exact below_new _ _
 have hbf:Blk W0 w.heap.size 136 f32C:=by rw [hW0]; exact Blk.new _ _ _
 have hs0:W0.heap.size=w.heap.size+1:=by rw [hW0]; simp
 have c0:=hbf.cell 0;have c1:=hbf.cell 1;simp only [f32C,List.getElem?_toArray,List.getElem?_cons_zero,List.getElem?_cons_succ] at c0 c1;rw [hW0,f32C] at c0 c1;have HB:=zY hb0;have HF:=zY hbf;have HS:=zY hs0;have HR:=zY (hr.mono hB);have HL:=zY hl;have HW:=zY hW0;obtain ⟨ie,hie,hez,hes,heb⟩:=info_parts elem32;have hc2:64≤c:=by omega
 clear hb0 hbf hs0 hr hW0 HB HF HS hl hc;rw [HL.out];rw [f32C];have hmk:∀ u:World,(Instr.makeSlice 162 (.int .i64 64) (.int .i64 64)).run Tryz.prog u=.ok (.slice (some ⟨u.heap.size,0,none⟩) 64 64) (u.alloc (.cells (rowC .u32 [] 64) 131)):=fun _=>by kernel_rfl
 go_enter Tryz.func130,Tryz.ntmps130;go_wp2_with fail;have hst0:=rowSt32_start w (rowC .u32 (rowW F32 blk 0) (64 - 0));generalize hgw:w.heap.size+1=gw at *;generalize hgf:w.heap.size=gf at *;have HGF:=zY hgf;clear hgf hgw c0 c1 hmk
 go_loopw [20] (fun i wr=>∃ t:Nat,t≤64∧i=.int .i64 t∧RowSt32 w gf gw (rowC .u32 (rowW F32 blk t) (64 - t)) wr) (fun i _=>64 - (intOf i).toNat)
 case atStart=>exact ⟨0,by omega,rfl,hst0⟩
 case round =>
  obtain ⟨t,ht,rfl,hst⟩:=hrel;clear hst0;have hlen:=qaO F32 blk t
  by_cases hlt:t<64
  ·have hlt':(t:Int)<64:=by omega
   by_cases h16:t<16
   ·have h16':(t:Int)<16:=by omega
    rw [show 64 - t=(64 - t - 1)+1 by omega,rowC_start] at hst;obtain ⟨l,hl'⟩:∃ l,l=rowW F32 blk t:=⟨_,rfl⟩;obtain ⟨m,hm⟩:=eX (64 - t - 1);rw [← hl'] at hst hlen;rw [← hm] at hst;have HL':=zY hl';have HM:=zY hm;have HLEN:=zY hlen;have HST:=zY hst;clear hl' hm hlen hst;obtain ⟨ad,rfl,hadB,_⟩:=(HR.out.below HST.out.below).at_ (k:=t*4) (by rw [qak,HL.out]; omega);go_wp2_with fail;rw [show (t+1)*4 - t*4=4 by omega];obtain ⟨pc,hpc⟩:=eX ((blk.drop (t*4)).take 4);have hpl:pc.length=4:=by rw [hpc]; simp; rw [HL.out]; omega
    have hrp:Rd w gf (some (ad.add (t*4))) (bytesV pc):=by rw [hpc,bytesV,List.map_take,List.map_drop]; exact rd_take (rd_drop HR.out (t*4)) 4
    have HPC:=zY hpc;have HRP:=zY hrp;have HPL:=zY hpl;clear hpc hrp hpl;obtain ⟨wo,rfl⟩:∃ wo:World,wo=wr:=⟨_,rfl⟩
    go_loopw [35] (fun i wi=>∃ j:Nat,j≤4∧i=.int .i64 j∧RowSt32 w gf gw (rowP .u32 l (beN (pc.take j)) m) wi) (fun i _=>4 - (intOf i).toNat)
    case atStart=>exact ⟨0,by omega,rfl,by simpa [beN] using HST.out⟩
    case round =>
     obtain ⟨j,hj,rfl,hsi⟩:=hrel
     by_cases hjl:j<4
     ·have hjl':(j:Int)<4:=by omega
      have hpj:j<pc.length:=by rw [HPL.out]; exact hjl
      obtain ⟨ad',hae,_,hcell⟩:=(HRP.out.below hsi.below).at_ (k:=j) (by rw [qak]; exact hpj)
      injection hae with hae
      subst hae;obtain ⟨z,hz⟩:=eX (pc[j]);have hcl:wr.cell? ((ad.add (t*4)).add j)=some (.int .u8 (z.toNat:Int)):=by rw [hcell,hz]; simp [bytesV,byteV]
      have hzl:=z.toNat_lt;have hzl2:(z.toNat:Int)<256:=by omega
      obtain ⟨x,hx⟩:=eX (beN (pc.take j))
      have hxl:x<256^j:=by
       rw [hx];have h1:=beN_lt (pc.take j);have h2:(pc.take j).length≤j:=List.length_take_le _ _;exact Nat.lt_of_lt_of_le h1 (Nat.pow_le_pow_right (by omega) h2)
      have hst:beN (pc.take (j+1))=x*256+z.toNat:=by
       rw [List.take_succ_eq_append_getElem hpj,beN_snoc,hx,hz]
      rw [← hx] at hsi;have crow:=hsi.row.cell t;rw [show (rowP .u32 l x m)[t]?=some (.int .u32 (x:Int)) by have:=rowP_at .u32 l x m; rwa [HLEN.out] at this] at crow;have frow:=hsi.row.free t;have HSI:=zY hsi;have HST2:=zY hst;have HXL:=zY hxl;clear hcell hz hx hst hsi hpj hxl;go_wp2_with fail;refine ⟨⟨j+1,hjl,by go_num,?_⟩,by simp [intOf]; omega⟩;have hx8:x<256^(4 - 1):=Nat.lt_of_lt_of_le HXL.out (Nat.pow_le_pow_right (by omega) (by omega));rw [or_byte32 x z.toNat hx8 hzl,HST2.out];refine HSI.out.put (qam _ _ _ _) ?_;have:=qar (i:=t) HSI.out.row (.int .u32 ((x*256+z.toNat:Nat):Int));have h9:=rowP_set .u32 l x (x*256+z.toNat) m;rw [HLEN.out] at h9
      rwa [h9] at this
     ·have hjl':¬ (j:Int)<4:=by omega
      have hfin:RowSt32 w gf gw (rowC .u32 (rowW F32 blk (t+1)) (64 - (t+1))) wr:=by
       obtain rfl:j=4:=by omega
       rw [rowP_end,List.take_of_length_le (by rw [HPL.out]; omega)] at hsi;rw [rowW,if_pos h16,← HL'.out,show 64 - (t+1)=m by rw [HM.out]; omega];rw [show pieceN (F32.bits/8) blk t=beN pc by rw [HPC.out]; rfl];exact hsi
      have HFIN:=zY hfin;clear hfin hsi;go_wp2_with fail;exact ⟨⟨t+1,hlt,by go_num,HFIN.out⟩,by simp [intOf]; omega⟩
   ·have h16':¬ (t:Int)<16:=by omega
    rw [show 64 - t=(64 - t - 1)+1 by omega,rowC_start] at hst;obtain ⟨l,hl'⟩:∃ l,l=rowW F32 blk t:=⟨_,rfl⟩;obtain ⟨m,hm⟩:=eX (64 - t - 1);have hlw:∀ i,l.getD i 0<2^32:=by rw [hl']; exact qbR (qda F32 (by decide) blk t) (by decide)
    rw [← hl'] at hst hlen;rw [← hm] at hst;have HL':=zY hl';have HM:=zY hm;have HLEN:=zY hlen;have HLW:=zY hlw;obtain ⟨a15,h15⟩:=eX (l.getD (t - 15) 0);obtain ⟨a2,h2⟩:=eX (l.getD (t - 2) 0);obtain ⟨a16,h16e⟩:=eX (l.getD (t - 16) 0);obtain ⟨a7,h7⟩:=eX (l.getD (t - 7) 0);have w15:a15<2^32:=by rw [h15]; exact hlw _
    have w2:a2<2^32:=by rw [h2]; exact hlw _
    have w16:a16<2^32:=by rw [h16e]; exact hlw _
    have w7:a7<2^32:=by rw [h7]; exact hlw _
    have e15:(rowP .u32 l 0 m)[t - 15]?=some (.int .u32 (a15:Int)):=by rw [qcP _ _ _ _ _ (by omega),h15]
    have e2:(rowP .u32 l 0 m)[t - 2]?=some (.int .u32 (a2:Int)):=by rw [qcP _ _ _ _ _ (by omega),h2]
    have e16:(rowP .u32 l 0 m)[t - 16]?=some (.int .u32 (a16:Int)):=by rw [qcP _ _ _ _ _ (by omega),h16e]
    have e7:(rowP .u32 l 0 m)[t - 7]?=some (.int .u32 (a7:Int)):=by rw [qcP _ _ _ _ _ (by omega),h7]
    have E15:=zY e15;have E2:=zY e2;have E16:=zY e16;have E7:=zY e7;have W15:=zY (show a15<18446744073709551616 by omega);have W2:=zY (show a2<18446744073709551616 by omega);have W16:=zY w16;have W7:=zY w7;have H15:=zY h15;have H2:=zY h2;have H16:=zY h16e;have H7:=zY h7;have i15:(a15:Int)<4294967296:=by omega
    have i2:(a2:Int)<4294967296:=by omega
    clear hl' hm hlen hlw h15 h2 h16e h7 w15 w2 w16 w7 e15 e2 e16 e7;have hu:=Tryz.underlying136;have hu3:=Tryz.underlying132;have HC0:=hst.drew;clear hst;go_wp2_with fail;refine qah (fun u=>RowSt32 w gf gw (rowP .u32 l 0 m) u) (fun u=>RowSt32 w gf gw (rowP .u32 l 0 m) u) [(0,some 51),(1,some 52),(2,some 53),(3,some 54),(4,some 55),(5,some 56),(6,some 57),(7,some 58),(8,some 59),(9,some 60),(10,some 61),(11,some 62),(12,some 63),(13,some 64),(14,some 65),(15,some 66),(16,some 67),(17,some 68),(18,some 69),(19,some 70),(20,some 71),(21,some 72),(22,some 10),(23,some 11)] (by kernel_rfl) (by kernel_rfl) (by decide) (by kernel_rfl) (fun _=>rfl) HC0 ?_;apply yN_
    ·apply dP [];exact fun _=>rfl;rfl;rintro vals - w1 hC1 E hE;simp only [sP] at hE ⊢;refine qad hC1.form rfl rfl rfl hu rfl qaW ?_;go_wp2_with fail;exact .mk (hE _ hC1)
    apply yN_
    ·apply dP [];exact fun _=>rfl;rfl;rintro vals ⟨-,-⟩ w1 hC1 E hE;simp only [sP] at hE ⊢;go_wp2;exact .mk (hE _ hC1)
    apply yN_
    ·apply dP [];exact fun _=>rfl;rfl;intro vals vq w1 hC1 E hE;clear vq;simp only [sP] at hE ⊢;go_wp2;exact .mk (hE _ hC1)
    apply yN_
    ·apply dP [(2,some 53)];exact fun _=>rfl;rfl;intro vals vq w1 hC1 E hE;simp only [sP,vq] at hE ⊢;clear vq;go_wp2;exact .mk (hE _ hC1)
    apply yN_
    ·apply dP [(1,some 52),(3,some 54)];exact fun _=>rfl;rfl;intro vals vq w1 hC1 E hE;simp only [sP,vq] at hE ⊢;clear vq;go_wp2;exact .mk (hE _ hC1)
    apply yN_
    ·apply dP [(4,some 55)];exact fun _=>rfl;rfl;intro vals vq w1 hC1 E hE;have d0:=hC1.row.cell (t - 15);rw [E15.out] at d0;simp only [sP,vq] at hE ⊢;clear vq;go_wp2;exact .mk (hE _ hC1)
    apply yN_
    ·apply dP [(5,some 56)];exact fun _=>rfl;rfl;intro vals vq w1 hC1 E hE;simp only [sP,vq] at hE ⊢;clear vq;go_wp2;exact .mk (hE _ hC1)
    apply yN_
    ·apply dP [];exact fun _=>rfl;rfl;intro vals vq w1 hC1 E hE;clear vq;simp only [sP] at hE ⊢;go_wp2;exact .mk (hE _ hC1)
    apply yN_
    ·apply dP [(7,some 58)];exact fun _=>rfl;rfl;intro vals vq w1 hC1 E hE;simp only [sP,vq] at hE ⊢;clear vq;go_wp2;exact .mk (hE _ hC1)
    apply yN_
    ·apply dP [(8,some 59)];exact fun _=>rfl;rfl;intro vals vq w1 hC1 E hE;simp only [sP,vq] at hE ⊢;clear vq;refine qa7 (n:=3) (r:=#[.int .i64 7,.int .i64 18,.int .i64 3]) hC1.form (by decide) rfl rfl rfl rfl hu3 rfl qbX ?_;go_wp2_with fail;exact .mk (hE _ hC1)
    apply yN_
    ·apply dP [(0,some 51),(6,some 57),(9,some 60)];exact fun _=>rfl;rfl;intro vals vq w1 hC1 E hE;simp only [sP,vq] at hE ⊢;clear vq;go_wp2_with fail;refine qaa (qcu a15 7 18 3 true _ W15.out (by decide) (by decide) (by decide)) ?_;rintro e w2 ⟨rfl,hb2⟩;go_wp2_with fail;exact .mk (hE _ (hC1.next hb2))
    apply yN_
    ·apply dP [];exact fun _=>rfl;rfl;intro vals vq w1 hC1 E hE;clear vq;simp only [sP] at hE ⊢;refine qad hC1.form rfl rfl rfl hu rfl qaW ?_;go_wp2_with fail;exact .mk (hE _ hC1)
    apply yN_
    ·apply dP [];exact fun _=>rfl;rfl;intro vals vq w1 hC1 E hE;clear vq;simp only [sP] at hE ⊢;go_wp2;exact .mk (hE _ hC1)
    apply yN_
    ·apply dP [];exact fun _=>rfl;rfl;intro vals vq w1 hC1 E hE;clear vq;simp only [sP] at hE ⊢;go_wp2;exact .mk (hE _ hC1)
    apply yN_
    ·apply dP [(13,some 64)];exact fun _=>rfl;rfl;intro vals vq w1 hC1 E hE;simp only [sP,vq] at hE ⊢;clear vq;go_wp2;exact .mk (hE _ hC1)
    apply yN_
    ·apply dP [(12,some 63),(14,some 65)];exact fun _=>rfl;rfl;intro vals vq w1 hC1 E hE;simp only [sP,vq] at hE ⊢;clear vq;go_wp2;exact .mk (hE _ hC1)
    apply yN_
    ·apply dP [(15,some 66)];exact fun _=>rfl;rfl;intro vals vq w1 hC1 E hE;have d0:=hC1.row.cell (t - 2);rw [E2.out] at d0;simp only [sP,vq] at hE ⊢;clear vq;go_wp2;exact .mk (hE _ hC1)
    apply yN_
    ·apply dP [(16,some 67)];exact fun _=>rfl;rfl;intro vals vq w1 hC1 E hE;simp only [sP,vq] at hE ⊢;clear vq;go_wp2;exact .mk (hE _ hC1)
    apply yN_
    ·apply dP [];exact fun _=>rfl;rfl;intro vals vq w1 hC1 E hE;clear vq;simp only [sP] at hE ⊢;go_wp2;exact .mk (hE _ hC1)
    apply yN_
    ·apply dP [(18,some 69)];exact fun _=>rfl;rfl;intro vals vq w1 hC1 E hE;simp only [sP,vq] at hE ⊢;clear vq;go_wp2;exact .mk (hE _ hC1)
    apply yN_
    ·apply dP [(19,some 70)];exact fun _=>rfl;rfl;intro vals vq w1 hC1 E hE;simp only [sP,vq] at hE ⊢;clear vq;refine qa7 (n:=3) (r:=#[.int .i64 17,.int .i64 19,.int .i64 10]) hC1.form (by decide) rfl rfl rfl rfl hu3 rfl qbX ?_;go_wp2_with fail;exact .mk (hE _ hC1)
    apply yN_
    ·apply dP [(11,some 62),(17,some 68),(20,some 71),(10,some 61)];exact fun _=>rfl;rfl;intro vals vq w1 hC1 E hE;simp only [sP,vq] at hE ⊢;clear vq;go_wp2_with fail;refine qaa (qcu a2 17 19 10 true _ W2.out (by decide) (by decide) (by decide)) ?_;rintro e w2 ⟨rfl,hb2⟩;go_wp2_with fail;exact .mk (hE _ (hC1.next hb2))
    apply yN_
    ·apply dP [(10,some 61),(21,some 72),(0,some 51),(1,some 52),(2,some 53),(3,some 54),(4,some 55),(5,some 56),(6,some 57),(7,some 58),(8,some 59),(9,some 60),(10,some 61)];exact fun _=>rfl;rfl;intro vals vq w1 hC1 E hE;simp only [sP,vq] at hE ⊢;clear vq;go_wp2;exact .mk (hE _ hC1)
    apply yL_
    ·apply dP [(21,some 72),(22,some 10),(0,some 51),(1,some 52),(2,some 53),(3,some 54),(4,some 55),(5,some 56),(6,some 57),(7,some 58),(8,some 59),(9,some 60),(10,some 61),(11,some 62),(12,some 63),(13,some 64),(14,some 65),(15,some 66),(16,some 67),(17,some 68),(18,some 69),(19,some 70),(20,some 71),(21,some 72),(22,some 10)];exact fun _=>rfl;rfl;intro vals vq w1 hC1 E hE;simp only [sP,vq] at hE ⊢;clear vq;go_wp2;exact .mk (hE _ hC1)
    intro vals vq w1 hC1;simp only [sP,vq];clear vq;obtain ⟨X,hX⟩:∃ X:Nat,X=allN 32 a15 7 18 3 true:=⟨_,rfl⟩;obtain ⟨Y,hY⟩:∃ X:Nat,X=allN 32 a2 17 19 10 true:=⟨_,rfl⟩;rw [← hX,← hY];obtain ⟨NV,hNV⟩:∃ v:Nat,v=(a16+a7+(X+Y))%2^32:=⟨_,rfl⟩;have HX:=zY hX;have HY:=zY hY;have HNV:=zY hNV;have lX:(X:Int)<18446744073709551616:=by have:=allN_lt (b:=32) (p:=7) (q:=18) (c:=3) (shift:=true) W15.out; rw [← HX.out] at this; omega
    have lY:(Y:Int)<18446744073709551616:=by have:=allN_lt (b:=32) (p:=17) (q:=19) (c:=10) (shift:=true) W2.out; rw [← HY.out] at this; omega
    have l16:(a16:Int)<4294967296:=by have:=W16.out; omega
    have l7:(a7:Int)<4294967296:=by have:=W7.out; omega
    clear HC0 hX hY hNV;go_wp2_with fail;have HC0:=hC1.drew;refine qah (fun u=>RowSt32 w gf gw (rowP .u32 l 0 m) u) (fun u=>RowSt32 w gf gw (rowP .u32 l NV m) u) [(0,some 73),(1,some 74),(2,some 75),(3,some 76),(4,some 77),(5,some 78),(6,some 79),(7,some 80),(8,some 81),(9,some 82),(10,some 83),(11,some 84),(12,some 85),(13,some 86),(14,some 87),(15,some 88),(16,some 89),(17,some 90),(18,some 91),(19,none)] (by kernel_rfl) (by kernel_rfl) (by decide) (by kernel_rfl) (fun _=>rfl) HC0 ?_;apply yN_
    ·apply dP [];exact fun _=>rfl;rfl;rintro vals - w1 hC1 E hE;simp only [sP] at hE ⊢;go_wp2;exact .mk (hE _ hC1)
    apply yN_
    ·apply dP [];exact fun _=>rfl;rfl;rintro vals ⟨-,-⟩ w1 hC1 E hE;simp only [sP] at hE ⊢;go_wp2;exact .mk (hE _ hC1)
    apply yN_
    ·apply dP [];exact fun _=>rfl;rfl;intro vals vq w1 hC1 E hE;clear vq;simp only [sP] at hE ⊢;go_wp2;exact .mk (hE _ hC1)
    apply yN_
    ·apply dP [];exact fun _=>rfl;rfl;intro vals vq w1 hC1 E hE;clear vq;simp only [sP] at hE ⊢;go_wp2;exact .mk (hE _ hC1)
    apply yN_
    ·apply dP [(3,some 76)];exact fun _=>rfl;rfl;intro vals vq w1 hC1 E hE;simp only [sP,vq] at hE ⊢;clear vq;go_wp2;exact .mk (hE _ hC1)
    apply yN_
    ·apply dP [(2,some 75),(4,some 77)];exact fun _=>rfl;rfl;intro vals vq w1 hC1 E hE;simp only [sP,vq] at hE ⊢;clear vq;go_wp2;exact .mk (hE _ hC1)
    apply yN_
    ·apply dP [(5,some 78)];exact fun _=>rfl;rfl;intro vals vq w1 hC1 E hE;have d0:=hC1.row.cell (t - 16);rw [E16.out] at d0;simp only [sP,vq] at hE ⊢;clear vq;go_wp2;exact .mk (hE _ hC1)
    apply yN_
    ·apply dP [];exact fun _=>rfl;rfl;intro vals vq w1 hC1 E hE;clear vq;simp only [sP] at hE ⊢;go_wp2;exact .mk (hE _ hC1)
    apply yN_
    ·apply dP [];exact fun _=>rfl;rfl;intro vals vq w1 hC1 E hE;clear vq;simp only [sP] at hE ⊢;go_wp2;exact .mk (hE _ hC1)
    apply yN_
    ·apply dP [(8,some 81)];exact fun _=>rfl;rfl;intro vals vq w1 hC1 E hE;simp only [sP,vq] at hE ⊢;clear vq;go_wp2;exact .mk (hE _ hC1)
    apply yN_
    ·apply dP [(7,some 80),(9,some 82)];exact fun _=>rfl;rfl;intro vals vq w1 hC1 E hE;simp only [sP,vq] at hE ⊢;clear vq;go_wp2;exact .mk (hE _ hC1)
    apply yN_
    ·apply dP [(10,some 83)];exact fun _=>rfl;rfl;intro vals vq w1 hC1 E hE;have d0:=hC1.row.cell (t - 7);rw [E7.out] at d0;simp only [sP,vq] at hE ⊢;clear vq;go_wp2;exact .mk (hE _ hC1)
    apply yN_
    ·apply dP [(6,some 79),(11,some 84)];exact fun _=>rfl;rfl;intro vals vq w1 hC1 E hE;simp only [sP,vq] at hE ⊢;clear vq;go_wp2;exact .mk (hE _ hC1)
    apply yN_
    ·apply dP [];exact fun _=>rfl;rfl;intro vals vq w1 hC1 E hE;clear vq;simp only [sP] at hE ⊢;go_wp2;exact .mk (hE _ hC1)
    apply yN_
    ·apply dP [];exact fun _=>rfl;rfl;intro vals vq w1 hC1 E hE;clear vq;simp only [sP] at hE ⊢;go_wp2;exact .mk (hE _ hC1)
    apply yN_
    ·apply dP [(13,some 86),(14,some 87)];exact fun _=>rfl;rfl;intro vals vq w1 hC1 E hE;simp only [sP,vq] at hE ⊢;clear vq;go_wp2;exact .mk (hE _ hC1)
    apply yN_
    ·apply dP [(15,some 88)];exact fun _=>rfl;rfl;intro vals vq w1 hC1 E hE;simp only [sP,vq] at hE ⊢;clear vq;go_wp2_with fail;rw [sum64w X Y];refine qaa (qbS _ _ (Nat.mod_lt _ (by decide))) ?_;rintro e w2 ⟨rfl,rfl⟩;go_wp2_with fail;exact .mk (hE _ hC1)
    apply yN_
    ·apply dP [(12,some 85),(16,some 89)];exact fun _=>rfl;rfl;intro vals vq w1 hC1 E hE;simp only [sP,vq] at hE ⊢;clear vq;go_wp2;rw [sum32f a16 a7 X Y,← HNV.out];exact .mk (hE _ hC1)
    apply yN_
    ·apply dP [(0,some 73),(1,some 74),(0,some 73),(1,some 74),(2,some 75),(3,some 76),(4,some 77),(5,some 78),(6,some 79),(7,some 80),(8,some 81),(9,some 82),(10,some 83),(11,some 84),(12,some 85),(13,some 86),(14,some 87),(15,some 88),(16,some 89),(17,some 90)];exact fun _=>rfl;rfl;intro vals vq w1 hC1 E hE;simp only [sP,vq] at hE ⊢;clear vq;go_wp2;exact .mk (hE _ hC1)
    apply yL_ (v:=undef)
    ·apply dP [(18,some 91),(17,some 90),(16,some 89),(0,some 73),(1,some 74),(2,some 75),(3,some 76),(4,some 77),(5,some 78),(6,some 79),(7,some 80),(8,some 81),(9,some 82),(10,some 83),(11,some 84),(12,some 85),(13,some 86),(14,some 87),(15,some 88),(16,some 89),(17,some 90)];exact fun _=>rfl;rfl;intro vals vq w1 hC1 E hE;simp only [sP,vq] at hE ⊢;clear vq;refine qag (i:=t) (v:=.int .u32 (NV:Int)) hC1.row rfl rfl rfl rfl one32 (by rw [rowP_size,HLEN.out]; omega) rfl ?_;intro w2 hb2 hw2;go_wp2_with fail;exact .mk (hE _ (hC1.put hw2 (by have h9:=rowP_set .u32 l 0 NV m; rw [HLEN.out] at h9; rw [h9] at hb2; exact hb2)))
    intro vals vq w1 hC1;simp only [sP,vq];clear vq
    have hfin:RowSt32 w gf gw (rowC .u32 (rowW F32 blk (t+1)) (64 - (t+1))) w1:=by
     rw [rowP_end] at hC1;rw [rowW,if_neg h16,← HL'.out,show 64 - (t+1)=m by rw [HM.out]; omega]
     have:nextW F32 l t=NV:=by
      rw [HNV.out,nextW,← H16.out,← H7.out,← H15.out,← H2.out,HX.out,HY.out]; rfl
     rw [this];exact hC1
    have HFIN:=zY hfin;clear hfin hC1 HC0;go_wp2_with fail;exact ⟨⟨t+1,hlt,by go_num,HFIN.out⟩,by simp [intOf]; omega⟩
  ·have hge:¬ (t:Int)<64:=by omega
   go_wp2_with fail;go_ret;obtain rfl:t=64:=by omega
   exact ⟨gw,rfl,by rw [HGF.out]; have:=hst.lw; omega,hst.row,by rw [HGF.out]; exact hst.below⟩
end Go.Proofs.YtlkikjeccamheaaGreatDoor.Sh
