/-
  Joined texts: Cre Et Rrp Eb Svf Bys Put Frame Body May Text Pack RefB Wck RefA Cut RefM Lives Apart.
-/
import Derived.Laws.IdiomStrings
import Derived.Test.YtjmfkinedhmglaaDoorProg
import Derived.Lib.SmallJoins
import Derived.BigQuiet
import Derived.Deep.QuietTactic
import Derived.Test.YtjmfkinedhmglaaDoorJ3
import Derived.Test.YtjmfkinedhmglaaDoorJ2
import Derived.Test.YtjmfkinedhmglaaDoorJ1
namespace Go.Proofs.YtjmfkinedhmglaaDoor
set_option linter.unusedSimpArgs false
set_option linter.unusedVariables false
set_option maxRecDepth 100000
set_option maxHeartbeats 4000000
open Go.RowKit
def crdB (b:List UInt8):List UInt8:=(rdL b).map UInt8.ofNat
theorem qc8 (b:List UInt8):digs (crdB b)=rdL b:=qbR _ (rdL_dg b)
theorem crdB_v (b:List UInt8):bytesV (crdB b)=bnV (rdL b):=by rw [← qcH,qc8]
theorem and8_127 (l:Nat) (h:l<256):bits .and .u8 (l:Int) 127=((l%128:Nat):Int):=by
 show IntKind.u8.wrap ((BitVec.ofInt 8 (l:Int) &&& BitVec.ofInt 8 (127:Int)).toNat:Int)=_;have e1:(BitVec.ofInt 8 (127:Int)).toNat=127:=by decide
 rw [BitVec.toNat_and,BitVec.ofInt_natCast,BitVec.toNat_ofNat,e1,Nat.mod_eq_of_lt (show l<2^8 from h),IntKind.wrap_u8];have h2:l &&& 127=l%128:=Nat.and_two_pow_sub_one_eq_mod l 7;rw [h2];omega
def crdU (E:E5):E5:=subE (mulE E E) (intE 1)
def crdV (E D:E5):E5:=addE (mulE (mulE E E) D) (intE 1)
def oddE (X:E5):Bool:=decide (X.val%PN%2=1)
def crdR (E D:E5) (odd:Bool):Pt4 × Nat :=
 if rootB (crdU E) (crdV E D) then
  if oddE (rootE (crdU E) (crdV E D))=odd then (ofP (rootE (crdU E) (crdV E D)) E,0)
  else if eqB (rootE (crdU E) (crdV E D)) zE then (zP,2) else (ofP (subE zE (rootE (crdU E) (crdV E D))) E,0)
 else (zP,2)
def crd (b:List UInt8):Pt4 × Nat :=
 if b.length=32 then (if yOf b<PN then crdR (ofN (yOf b)) dE (oddOf b) else (zP,2)) else (zP,2)
def CReadPost (r:Pt4 × Nat) (w:World) (e:Ending) (w':World):Prop:=e=.returned (.tuple #[.agg (ptV r.1),.int .i64 (r.2:Int)])∧Below w.heap.size w w'
theorem crdB_len {b:List UInt8} (h:b.length=32):(crdB b).length=32:=by rw [crdB,List.length_map,rdL,List.length_set,digs,List.length_map,h]
theorem mayR_crd {b:List UInt8} (h:b.length=32):mayR (crdB b)=decide (yOf b<PN):=by
 rw [mayR,crdB_len h,qc8];exact decide_eq_decide.mpr ⟨fun h=>h.2,fun h=>⟨rfl,h⟩⟩
theorem cread_any (b:List UInt8) (A:Option Addr) (c:Nat) (w:World) (hr:Rd w w.heap.size A (bytesV b)) (hc:b.length≤c) (hmax:b.length≤1000) :
  Calls Tryd.prog 19 #[.slice A b.length c] w (CReadPost (crd b) w):=by
 have hu:=Tryd.underlying46;have hp:=Tryd.underlying48;obtain ⟨n,hn⟩:=eX (b.length);have HB:=zY (below_new w (.cells (ptV zP) 48));have HP:=zY (Blk.new w 48 (ptV zP));obtain ⟨R,hR⟩:=eX (crd b);rw [← hR]
 by_cases h32:b.length=32
 ·have hR2:R=if yOf b<PN then crdR (ofN (yOf b)) dE (oddOf b) else (zP,2):=by rw [hR,crd,if_pos h32]
  rw [h32];rw [h32] at hc;obtain ⟨D,hD⟩:=eX dE;obtain ⟨L,hL⟩:=eX (digs b);have hLl:L.length=32:=by rw [hL,digs,List.length_map,h32]
  obtain ⟨d,hd⟩:=eX (L.getD 31 0);have hd256:d<256:=by rw [hd,hL]; exact qaV (qbn b) 31
  obtain ⟨M,hM⟩:=eX (rdL b);have hMs:L.set 31 (d%128)=M:=by rw [hM,hd,hL]; rfl
  obtain ⟨q,hq⟩:=eX (crdB b);have hqv:bytesV q=bnV M:=by rw [hq,hM]; exact crdB_v b
  have hql:q.length=32:=by rw [hq]; exact crdB_len h32
  obtain ⟨may,hmay⟩:=eX (decide (yOf b<PN));have hmq:mayR q=may:=by rw [hq,hmay]; exact mayR_crd h32
  have hE:may=true→readE q=ofN (yOf b):=fun h=>by rw [readE,hmq,h,if_pos rfl,hq,qc8]; rfl
  have hF:readF q=if may then 0 else 2:=by rw [readF,hmq]
  obtain ⟨F,hFF⟩:=eX (readF q);have hF2:F=if may then 0 else 2:=by rw [hFF,hF]
  obtain ⟨E,hEE⟩:=eX (readE q)
  have okE:E.Ok:=by
   rw [hEE,readE]
   split
   ·exact ofN_ok _
   ·exact zE_ok
  obtain ⟨od,hod⟩:=eX (oddOf b);have hod2:od=decide (128≤d):=by rw [hod,hd,hL]; rfl
  have hR3:R=if may then crdR E D od else (zP,2):=by
   rw [hR2,hod,hD]
   by_cases h:yOf b<PN
   ·have hm:may=true:=by rw [hmay]; exact decide_eq_true h
    rw [if_pos h,hm,if_pos rfl,hEE,hE hm]
   ·rw [if_neg h,hmay,decide_eq_false h]; rfl
  have CRD:=zY (show ∀ u A c,32≤c→Rd u u.heap.size A (bytesV q)→Calls Tryd.prog 38 #[.slice A 32 c] u (fun e w'=>e=.returned (.tuple #[.agg (eV E),.int .i64 F])∧Below u.heap.size u w') from fun u A c hc hr=>by
   have h:=read_any q A c u hr (by rw [hql]; exact hc) (by rw [hql]; decide);rw [hql] at h;rw [hEE,hFF];exact h)
  have CCL:=zY (show ∀ u,Rd u u.heap.size A (bytesV b)→Calls Tryd.prog 37 #[.slice A 32 c] u (OwnPostZ 5 32 (bnV L) u) from fun u h=>by
   have h2:=clone_any b h32 A c u h;rw [← qcH,← hL] at h2;exact h2)
  have KD:=zY (show D.Ok by rw [hD]; exact dE_ok);have CD:=zY (show ∀ u,Calls Tryd.prog 43 #[] u (ElemPost D u) from fun u=>by rw [hD]; exact d_any u);obtain ⟨I,hI⟩:=eX (intE 1);have okI:I.Ok:=by rw [hI]; exact qcV
  obtain ⟨Y2,hY2⟩:=eX (mulE E E);have okY2:Y2.Ok:=by rw [hY2]; exact qaq okE okE
  obtain ⟨U,hU⟩:=eX (subE Y2 I);have okU:U.Ok:=by rw [hU]; exact qaP okY2 okI
  obtain ⟨DY,hDY⟩:=eX (mulE Y2 D);have okDY:DY.Ok:=by rw [hDY]; exact qaq okY2 KD.out
  obtain ⟨V,hV⟩:=eX (addE DY I);have okV:V.Ok:=by rw [hV]; exact qaT okDY okI
  obtain ⟨X,hX⟩:=eX (rootE U V);have okX:X.Ok:=by rw [hX]; exact rootE_ok okU okV
  obtain ⟨ok,hok⟩:=eX (rootB U V);obtain ⟨ob,hob⟩:=eX (oddE X);obtain ⟨zb,hzb⟩:=eX (eqB X zE);obtain ⟨NX,hNX⟩:=eX (subE zE X);have okNX:NX.Ok:=by rw [hNX]; exact qaP zE_ok okX
  obtain ⟨Q1,hQ1⟩:=eX (ofP X E);obtain ⟨Q2,hQ2⟩:=eX (ofP NX E)
  have hRR:crdR E D od=if ok then (if ob=od then (Q1,0) else if zb then (zP,2) else (Q2,0)) else (zP,2):=by
   rw [crdR,hQ2,hQ1,hNX,hzb,hob,hok,hX,hV,hU,hDY,hY2,hI];rfl
  have CI:=zY (show ∀ u,Calls Tryd.prog 42 #[.int .i64 1] u (ElemPost I u) from fun u=>by rw [hI]; exact int1_c u);have CY2:=zY (show ∀ u,Calls Tryd.prog 39 #[.agg (eV E),.agg (eV E)] u (ElemPost Y2 u) from fun u=>by rw [hY2]; exact mul_c _ _ _ okE okE);have CU:=zY (show ∀ u,Calls Tryd.prog 41 #[.agg (eV Y2),.agg (eV I)] u (ElemPost U u) from fun u=>by rw [hU]; exact sub_c _ _ _ okY2 okI);have CDY:=zY (show ∀ u,Calls Tryd.prog 39 #[.agg (eV Y2),.agg (eV D)] u (ElemPost DY u) from fun u=>by rw [hDY]; exact mul_c _ _ _ okY2 KD.out);have CV:=zY (show ∀ u,Calls Tryd.prog 44 #[.agg (eV DY),.agg (eV I)] u (ElemPost V u) from fun u=>by rw [hV]; exact add_c _ _ _ okDY okI);have CRT:=zY (show ∀ u,Calls Tryd.prog 40 #[.agg (eV U),.agg (eV V)] u (CRootPost X ok u) from fun u=>by rw [hX,hok]; exact croot_any _ _ _ okU okV);have COD:=zY (show ∀ u,Calls Tryd.prog 45 #[.agg (eV X)] u (BoolPost ob u) from fun u=>by rw [hob]; exact odd_c X okX u);have CZB:=zY (show ∀ u,Calls Tryd.prog 47 #[.agg (eV X),.agg (eV zE)] u (BoolPost zb u) from fun u=>by rw [hzb]; exact equal_c _ _ _ okX zE_ok);have CNX:=zY (show ∀ u,Calls Tryd.prog 41 #[.agg #[.int .u64 0,.int .u64 0,.int .u64 0,.int .u64 0,.int .u64 0],.agg (eV X)] u (ElemPost NX u) from fun u=>by rw [hNX]; exact sub_z _ okX _);have CO1:=zY (show ∀ u,Calls Tryd.prog 46 #[.agg (eV X),.agg (eV E)] u (PtPost Q1 u) from fun u=>by rw [hQ1]; exact pof_any _ _ okX okE u);have CO2:=zY (show ∀ u,Calls Tryd.prog 46 #[.agg (eV NX),.agg (eV E)] u (PtPost Q2 u) from fun u=>by rw [hQ2]; exact pof_any _ _ okNX okE u);have HRR:=zY hRR;have HF:=zY hF2;clear hI okI hY2 okY2 hU okU hDY okDY hV okV hX okX hok hob hzb hNX okNX hQ1 hQ2 hRR hF2;have HA:=zY (qan hr HB.out);have HR:=zY hR3;have KE:=zY okE;have HMS:=zY hMs;have HQV:=zY hqv;have HLL:=zY hLl;have HDD:=zY hd;have hand:=and8_127 d hd256
  have hge:(od=true∧(d:Int)/128=1)∨(od=false∧(d:Int)/128=0):=by
   rw [hod2]
   by_cases h:128≤d
   ·left; exact ⟨decide_eq_true h,by omega⟩
   ·right; exact ⟨decide_eq_false h,by omega⟩
  clear hR hR2 hR3 hr hc hmax hn h32 hD hL hLl hd hM hMs hq hqv hql hmay hmq hE hF hFF hEE okE hod hod2;go_enter Tryd.func19,Tryd.ntmps19;go_wp2_with fail;refine qab (CCL.out _ HA.out) ?_;rintro e w1 ⟨A1,c1,rfl,hown,hb1⟩;obtain ⟨g1,ys,rfl,hg1,hc1,hblk⟩:=hown.blk (by decide);have HP1:=zY (HP.out.below hb1 HP.out.lt);have HB1:=zY (HB.out.trans (hb1.mono HB.out.size));have HG1:=zY (Nat.le_trans HB.out.size hg1);have HNE:=zY (show w.heap.size≠g1 from Nat.ne_of_lt (Nat.lt_of_lt_of_le HP.out.lt hg1));have HQ:=zY hblk;have HC1:=zY hc1;clear hown hb1 hg1 hc1 hblk HP HA HB;have hb2:(d:Int)<256:=by omega
  have dl:=HQ.out.cell 31
  rw [show (bnV L++ys).toArray[31]?=some (.int .u8 (d:Int)) by
   rw [List.getElem?_toArray,List.getElem?_append_left (by rw [bnVl,HLL.out]; decide),← List.getElem?_toArray,bnV_get (by rw [HLL.out]; decide),HDD.out]] at dl
  have hfr:=HQ.out.free 31
  rcases hge with ⟨rfl,hge⟩ | ⟨rfl,hge⟩
  ·go_wp2_with (refine qao (x:=.tmp 26) (i:=31) (v:=.int .u8 ((d%128:Nat):Int)) HQ.out rfl rfl rfl rfl qbz (by rw [List.size_toArray,List.length_append,bnVl,HLL.out]; omega) rfl ?_; intro w5 hb5 hw5; have HB5:=zY hb5; have HW5:=zY hw5; clear hb5 hw5);have hq:=HB5.out;rw [qcQ (by rw [bnVl,HLL.out]; decide),show (bnV L).set 31 (.int .u8 ((d%128:Nat):Int))=bnV (L.set 31 (d%128)) by simp [bnV,List.map_set],HMS.out,← HQV.out] at hq;have HM5:=zY (Rd.of_blk hq hq.lt).front;have HP5:=zY (HW5.out.blk HP1.out HNE.out);have HBB:=zY (HW5.out.below HB1.out HG1.out HB1.out.size);clear hq dl hfr HB5 HW5 HQ HP1 HB1 hand hge hb2 hd256 HMS HQV HLL HDD HNE HG1;refine qab (CRD.out _ _ _ HC1.out HM5.out) ?_;rintro e w6 ⟨rfl,hb⟩;have HST0:=zY (show Cs [.box w.heap.size 48 (ptV zP)] w w6 from ⟨⟨HP5.out.below hb HP5.out.lt,trivial⟩,HBB.out.trans (hb.mono HBB.out.size)⟩);clear hb HM5 HBB HP5;generalize hg0:w.heap.size=g0 at HST0 ⊢;have HG0:=zY hg0;clear hg0
   cases may
   ·obtain rfl:F=2:=HF.out;go_wp2_with (first | (refine qae (x:=.tmp 6) (cells:=eV E) (Blk.new _ _ _) rfl rfl rfl rfl qad rfl (by simp [eV,wV,limbs,Value.oneCell']) ?_; intro w7 hb hw; have hk:=qaW hw; have HST1:=zY (show Cs [.box w6.heap.size 46 (eV E),.box g0 48 (ptV zP)] w w7 from ⟨⟨hb,(HST0.out.next hk).1⟩,(HST0.out.next hk).2⟩); clear hb hw hk HST0) | (refine qae (x:=.tmp 2) (cells:=ptV zP) (HST1.out.1.2.1) rfl rfl rfl rfl qai rfl (by simp [ptV,zP,wV,limbs,Value.oneCell']) ?_; intro w9 hb9 hw9; have HR9:=zY hb9; have HW9:=zY hw9; clear hb9 hw9));refine bodyPost_ret (qal (P:=Tryd.prog) rfl rfl HR9.out hp rfl qai) rfl ?_;have eR:R=(zP,2):=by simpa [HRR.out] using HR.out
    rw [eR];exact ⟨rfl,HW9.out.below HST1.out.2 (Nat.le_of_eq HG0.out) HST1.out.2.size⟩
   ·obtain rfl:F=0:=HF.out;go_wp2_with (first | (refine qae (x:=.tmp 6) (cells:=eV E) (Blk.new _ _ _) rfl rfl rfl rfl qad rfl (by simp [eV,wV,limbs,Value.oneCell']) ?_; intro w7 hb hw; have hk:=qaW hw; have HST1:=zY (show Cs [.box w6.heap.size 46 (eV E),.box g0 48 (ptV zP)] w w7 from ⟨⟨hb,(HST0.out.next hk).1⟩,(HST0.out.next hk).2⟩); clear hb hw hk HST0) | (refine qac (x:=.tmp 6) (HST1.out.1.1) rfl rfl rfl hu rfl qad ?_));generalize w6.heap.size=g6 at *;refine qab (CY2.out _) ?_;rintro e w8 ⟨rfl,hb⟩;have HST2:=zY (HST1.out.next hb);clear hb HST1;go_wp2_with (refine qae (x:=.tmp 8) (cells:=eV Y2) (Blk.new _ _ _) rfl rfl rfl rfl qad rfl (by simp [eV,wV,limbs,Value.oneCell']) ?_; intro v9 hb hw; have hk:=qaW hw; have HST3:=zY (show Cs [.box w8.heap.size 46 (eV Y2),.box g6 46 (eV E),.box g0 48 (ptV zP)] w v9 from ⟨⟨hb,(HST2.out.next hk).1⟩,(HST2.out.next hk).2⟩); clear hb hw hk HST2);generalize w8.heap.size=g8 at *;have HC0:Below v9.heap.size v9 v9.drew:=(Below.refl _ _).drew
    refine qak (fun u=>Below v9.heap.size v9 u) (fun | false=>(fun _=>True) | true=>(fun _=>True)) (fun | false,_=>false | true,_=>false)
     [fun z _=>z 0=.agg (eV Y2),
      fun z _=>z 1=.agg (eV I),
      fun z _=>z 2=.agg (eV U),
      fun z _=>z 3=.agg (eV Y2),
      fun z _=>z 4=.agg (eV D),
      fun z _=>z 5=.agg (eV DY),
      fun z _=>z 6=.agg (eV I),
      fun z _=>z 7=.agg (eV V),
      fun z _=>z 8=.tuple #[.agg (eV X),.bool ok],
      fun z _=>z 9=.tuple #[.agg (eV X),.bool ok],
      fun z _=>z 10=.agg (eV X),
      fun z _=>z 11=.bool ok,
      fun z u=>(NewBox v9.heap.size 46 (eV zE)) (z 12) u,
      fun z u=>NewBox v9.heap.size 46 (eV X) (z 12) u,
      fun z _=>z 14=.bool ok]
     [Eq,fun u u'=>Below u.heap.size u u',fun u u'=>Below u.heap.size u u',Eq,fun u u'=>Below u.heap.size u u',fun u u'=>Below u.heap.size u u',fun u u'=>Below u.heap.size u u',fun u u'=>Below u.heap.size u u',fun u u'=>Below u.heap.size u u',Eq,Eq,Eq,fun u u'=>Below u.heap.size u u',fun _ _=>True,Eq]
     (fun i k=>(i == 13 && k == 12)) [(0,some 40),(1,some 41),(2,some 42),(3,some 43),(4,some 44),(5,some 45),(6,some 46),(7,some 47),(8,some 48),(9,some 39),(10,some 49),(11,some 50),(12,some 9),(13,none),(14,some 10)] (by kernel_rfl) (by kernel_rfl) rfl (fun _=>rfl) ?_ ?_ ?_ ?_ ?_ ?_
    ·exact HC0
    ·intro m; cases m; exact trivial; exact trivial
    ·intro m; cases m
     ·refine ⟨?_,?_,?_,?_,?_,?_,?_,?_,?_,?_,?_,?_,?_,?_,?_,trivial⟩ <;> first | exact .inr fun _ _ h h0=>h▸h0 | exact .inr fun _ _ _ h=>h
     ·refine ⟨?_,?_,?_,?_,?_,?_,?_,?_,?_,?_,?_,?_,?_,?_,?_,trivial⟩ <;> first | exact .inr fun _ _ h h0=>h▸h0 | exact .inr fun _ _ _ h=>h
    ·refine ⟨⟨.inl rfl,?_,?_,?_,?_,?_,?_,?_,?_,?_,?_,?_,?_,?_,?_,trivial⟩,⟨?_,.inl rfl,?_,?_,?_,?_,?_,?_,?_,?_,?_,?_,.inr (.inr (.inr (fun _ _ _ _ h h0=>h0.next h))),?_,?_,trivial⟩,⟨?_,?_,.inl rfl,?_,?_,?_,?_,?_,?_,?_,?_,?_,.inr (.inr (.inr (fun _ _ _ _ h h0=>h0.next h))),?_,?_,trivial⟩,⟨?_,?_,?_,.inl rfl,?_,?_,?_,?_,?_,?_,?_,?_,?_,?_,?_,trivial⟩,⟨?_,?_,?_,?_,.inl rfl,?_,?_,?_,?_,?_,?_,?_,.inr (.inr (.inr (fun _ _ _ _ h h0=>h0.next h))),?_,?_,trivial⟩,⟨?_,?_,?_,?_,?_,.inl rfl,?_,?_,?_,?_,?_,?_,.inr (.inr (.inr (fun _ _ _ _ h h0=>h0.next h))),?_,?_,trivial⟩,⟨?_,?_,?_,?_,?_,?_,.inl rfl,?_,?_,?_,?_,?_,.inr (.inr (.inr (fun _ _ _ _ h h0=>h0.next h))),?_,?_,trivial⟩,⟨?_,?_,?_,?_,?_,?_,?_,.inl rfl,?_,?_,?_,?_,.inr (.inr (.inr (fun _ _ _ _ h h0=>h0.next h))),?_,?_,trivial⟩,⟨?_,?_,?_,?_,?_,?_,?_,?_,.inl rfl,?_,?_,?_,.inr (.inr (.inr (fun _ _ _ _ h h0=>h0.next h))),?_,?_,trivial⟩,⟨?_,?_,?_,?_,?_,?_,?_,?_,?_,.inl rfl,?_,?_,?_,?_,?_,trivial⟩,⟨?_,?_,?_,?_,?_,?_,?_,?_,?_,?_,.inl rfl,?_,?_,?_,?_,trivial⟩,⟨?_,?_,?_,?_,?_,?_,?_,?_,?_,?_,?_,.inl rfl,?_,?_,?_,trivial⟩,⟨?_,?_,?_,?_,?_,?_,?_,?_,?_,?_,?_,?_,.inl rfl,?_,?_,trivial⟩,⟨?_,?_,?_,?_,?_,?_,?_,?_,?_,?_,?_,?_,.inr (.inl rfl),.inl rfl,?_,trivial⟩,⟨?_,?_,?_,?_,?_,?_,?_,?_,?_,?_,?_,?_,?_,?_,.inl rfl,trivial⟩,trivial⟩ <;> first | exact .inr (.inr (.inl rfl)) | exact .inr (.inr (.inr fun _ _ _ _ _ h=>h)) | exact .inr (.inr (.inr fun _ _ _ _ h h0=>by cases h; exact h0))
    ·refine ⟨?_,?_,?_,?_,?_,?_,?_,?_,?_,?_,?_,?_,?_,?_,?_,trivial⟩
     ·refine qaa [] (fun _=>rfl) rfl ?_;intro w1 vals hC1 hi0 hf E hE;clear hi0;clear hf;have hs:=HST3.out.next hC1;simp only [sP] at hE ⊢;refine qac (hs.1.1) rfl rfl rfl hu rfl qad ?_;go_wp2_with fail;exact .mk (hE _ _ rfl hC1 rfl)
     ·refine qaa [] (fun _=>rfl) rfl ?_;intro w1 vals hC1 hi0 hf E hE;clear hi0;clear hf;simp only [sP] at hE ⊢;go_wp2_with fail;refine qab (CI.out _) ?_;rintro e w2 ⟨rfl,hb2⟩;go_wp2_with fail;exact .mk (hE _ _ rfl (hC1.trans (hb2.mono hC1.size)) hb2)
     ·refine qaa [(0,some 40),(1,some 41),(1,some 41)] (fun _=>rfl) rfl ?_;intro w1 vals hC1 hi0 hf E hE;clear hi0;have f0:vals 0=_:=hf 0 rfl;have f1:vals 1=_:=hf 1 rfl
      try dsimp only at f0 f1
      clear hf;simp only [sP,f0,f1] at hE ⊢;clear f0 f1;go_wp2_with fail;refine qab (CU.out _) ?_;rintro e w2 ⟨rfl,hb2⟩;go_wp2_with fail;exact .mk (hE _ _ rfl (hC1.trans (hb2.mono hC1.size)) hb2)
     ·refine qaa [] (fun _=>rfl) rfl ?_;intro w1 vals hC1 hi0 hf E hE;clear hi0;clear hf;have hs:=HST3.out.next hC1;simp only [sP] at hE ⊢;refine qac (hs.1.1) rfl rfl rfl hu rfl qad ?_;go_wp2_with fail;exact .mk (hE _ _ rfl hC1 rfl)
     ·refine qaa [(2,some 42)] (fun _=>rfl) rfl ?_;intro w1 vals hC1 hi0 hf E hE;clear hi0;have f2:vals 2=_:=hf 2 rfl
      try dsimp only at f2
      clear hf;simp only [sP,f2] at hE ⊢;clear f2;go_wp2_with fail;refine qab (CD.out _) ?_;rintro e w2 ⟨rfl,hb2⟩;go_wp2_with fail;exact .mk (hE _ _ rfl (hC1.trans (hb2.mono hC1.size)) hb2)
     ·refine qaa [(3,some 43),(4,some 44),(4,some 44)] (fun _=>rfl) rfl ?_;intro w1 vals hC1 hi0 hf E hE;clear hi0;have f3:vals 3=_:=hf 3 rfl;have f4:vals 4=_:=hf 4 rfl
      try dsimp only at f3 f4
      clear hf;simp only [sP,f3,f4] at hE ⊢;clear f3 f4;go_wp2_with fail;refine qab (CDY.out _) ?_;rintro e w2 ⟨rfl,hb2⟩;go_wp2_with fail;exact .mk (hE _ _ rfl (hC1.trans (hb2.mono hC1.size)) hb2)
     ·refine qaa [(5,some 45)] (fun _=>rfl) rfl ?_;intro w1 vals hC1 hi0 hf E hE;clear hi0;have f5:vals 5=_:=hf 5 rfl
      try dsimp only at f5
      clear hf;simp only [sP,f5] at hE ⊢;clear f5;go_wp2_with fail;refine qab (CI.out _) ?_;rintro e w2 ⟨rfl,hb2⟩;go_wp2_with fail;exact .mk (hE _ _ rfl (hC1.trans (hb2.mono hC1.size)) hb2)
     ·refine qaa [(5,some 45),(6,some 46),(6,some 46)] (fun _=>rfl) rfl ?_;intro w1 vals hC1 hi0 hf E hE;clear hi0;have f5:vals 5=_:=hf 5 rfl;have f6:vals 6=_:=hf 6 rfl
      try dsimp only at f5 f6
      clear hf;simp only [sP,f5,f6] at hE ⊢;clear f5 f6;go_wp2_with fail;refine qab (CV.out _) ?_;rintro e w2 ⟨rfl,hb2⟩;go_wp2_with fail;exact .mk (hE _ _ rfl (hC1.trans (hb2.mono hC1.size)) hb2)
     ·refine qaa [(2,some 42),(7,some 47),(7,some 47)] (fun _=>rfl) rfl ?_;intro w1 vals hC1 hi0 hf E hE;clear hi0;have f2:vals 2=_:=hf 2 rfl;have f7:vals 7=_:=hf 7 rfl
      try dsimp only at f2 f7
      clear hf;simp only [sP,f2,f7] at hE ⊢;clear f2 f7;go_wp2_with fail;refine qab (CRT.out _) ?_;rintro e w2 ⟨rfl,hb2⟩;go_wp2_with fail;exact .mk (hE _ _ rfl (hC1.trans (hb2.mono hC1.size)) hb2)
     ·refine qaa [(8,some 48)] (fun _=>rfl) rfl ?_;intro w1 vals hC1 hi0 hf E hE;clear hi0;have f8:vals 8=_:=hf 8 rfl
      try dsimp only at f8
      clear hf;simp only [sP,f8] at hE ⊢;clear f8;go_wp2;exact .mk (hE _ _ rfl hC1 rfl)
     ·refine qaa [(9,some 39)] (fun _=>rfl) rfl ?_;intro w1 vals hC1 hi0 hf E hE;clear hi0;have f9:vals 9=_:=hf 9 rfl
      try dsimp only at f9
      clear hf;simp only [sP,f9] at hE ⊢;clear f9;go_wp2;exact .mk (hE _ _ rfl hC1 rfl)
     ·refine qaa [(9,some 39)] (fun _=>rfl) rfl ?_;intro w1 vals hC1 hi0 hf E hE;clear hi0;have f9:vals 9=_:=hf 9 rfl
      try dsimp only at f9
      clear hf;simp only [sP,f9] at hE ⊢;clear f9;go_wp2;exact .mk (hE _ _ rfl hC1 rfl)
     ·refine qaa [] (fun _=>rfl) rfl ?_;intro w1 vals hC1 hi0 hf E hE;clear hi0;clear hf;simp only [sP] at hE ⊢;go_wp2;exact .mk (hE _ _ (NewBox.of hC1.size) (hC1.alloc hC1.size _) (below_new _ _))
     ·refine qaa [(12,some 9),(10,some 49),(8,some 48),(0,some 40),(1,some 41),(2,some 42),(3,some 43),(4,some 44),(5,some 45),(6,some 46),(7,some 47),(8,some 48),(9,some 39),(10,some 49),(12,some 9)] (fun _=>rfl) rfl ?_;intro w1 vals hC1 hi0 hf E hE;clear hi0;have f0:vals 0=_:=hf 0 rfl;have f1:vals 1=_:=hf 1 rfl;have f2:vals 2=_:=hf 2 rfl;have f3:vals 3=_:=hf 3 rfl;have f4:vals 4=_:=hf 4 rfl;have f5:vals 5=_:=hf 5 rfl;have f6:vals 6=_:=hf 6 rfl;have f7:vals 7=_:=hf 7 rfl;have f8:vals 8=_:=hf 8 rfl;have f9:vals 9=_:=hf 9 rfl;have f10:vals 10=_:=hf 10 rfl;have f12:(NewBox v9.heap.size 46 (eV zE)) (vals 12) w1:=hf 12 rfl
      try dsimp only at f0 f1 f2 f3 f4 f5 f6 f7 f8 f9 f10 f12
      clear hf;obtain ⟨o,hx,ho,hblk⟩:=f12;have hx':=hx;simp only [sP,f0,f1,f2,f3,f4,f5,f6,f7,f8,f9,f10,hx] at hE ⊢;clear f0 f1 f2 f3 f4 f5 f6 f7 f8 f9 f10;clear hx;refine qae (cells:=eV X) hblk rfl rfl rfl rfl qad rfl (by simp [eV,wV,limbs,Value.oneCell']) ?_;intro w2 hb2 hw2;go_wp2_with fail;exact .mk (hE undef _ ⟨o,hx',ho,hb2⟩ (hw2.below hC1 ho hC1.size) trivial)
     ·refine qaa [(11,some 50),(13,none),(0,some 40),(1,some 41),(2,some 42),(3,some 43),(4,some 44),(5,some 45),(6,some 46),(7,some 47),(8,some 48),(9,some 39),(10,some 49),(11,some 50),(12,some 9),(13,none)] (fun _=>rfl) rfl ?_;intro w1 vals hC1 hi0 hf E hE;clear hi0;have f0:vals 0=_:=hf 0 rfl;have f1:vals 1=_:=hf 1 rfl;have f2:vals 2=_:=hf 2 rfl;have f3:vals 3=_:=hf 3 rfl;have f4:vals 4=_:=hf 4 rfl;have f5:vals 5=_:=hf 5 rfl;have f6:vals 6=_:=hf 6 rfl;have f7:vals 7=_:=hf 7 rfl;have f8:vals 8=_:=hf 8 rfl;have f9:vals 9=_:=hf 9 rfl;have f10:vals 10=_:=hf 10 rfl;have f11:vals 11=_:=hf 11 rfl;have f13:(fun z u=>NewBox v9.heap.size 46 (eV X) (z 12) u) vals w1:=hf 13 rfl
      try dsimp only at f0 f1 f2 f3 f4 f5 f6 f7 f8 f9 f10 f11 f13
      clear hf;simp only [sP,f0,f1,f2,f3,f4,f5,f6,f7,f8,f9,f10,f11] at hE ⊢;clear f0 f1 f2 f3 f4 f5 f6 f7 f8 f9 f10 f11;go_wp2;exact .mk (hE _ _ rfl hC1 rfl)
    intro w1 vals hC1 hf;have f0:vals 0=_:=hf 0 (by decide) rfl;have f1:vals 1=_:=hf 1 (by decide) rfl;have f2:vals 2=_:=hf 2 (by decide) rfl;have f3:vals 3=_:=hf 3 (by decide) rfl;have f4:vals 4=_:=hf 4 (by decide) rfl;have f5:vals 5=_:=hf 5 (by decide) rfl;have f6:vals 6=_:=hf 6 (by decide) rfl;have f7:vals 7=_:=hf 7 (by decide) rfl;have f8:vals 8=_:=hf 8 (by decide) rfl;have f9:vals 9=_:=hf 9 (by decide) rfl;have f10:vals 10=_:=hf 10 (by decide) rfl;have f11:vals 11=_:=hf 11 (by decide) rfl;have f13:(fun z u=>NewBox v9.heap.size 46 (eV X) (z 12) u) vals w1:=hf 13 (by decide) rfl;have f14:vals 14=_:=hf 14 (by decide) rfl
    try dsimp only at f0 f1 f2 f3 f4 f5 f6 f7 f8 f9 f10 f11 f13 f14
    clear hf;simp only [sP,f0,f1,f2,f3,f4,f5,f6,f7,f8,f9,f10,f11,f14];clear f0 f1 f2 f3 f4 f5 f6 f7 f8 f9 f10 f11 f14;generalize vals 12=x12 at *;obtain ⟨o9,rfl,hlo,hblk⟩:=f13;have HST4:=zY (show Cs [.box o9 46 (eV X),.box g8 46 (eV Y2),.box g6 46 (eV E),.box g0 48 (ptV zP)] w w1 from ⟨⟨hblk,(HST3.out.next hC1).1⟩,(HST3.out.next hC1).2⟩);clear hC1 HC0 hblk hlo HST3;obtain ⟨y1,rfl⟩:=eX w1
    cases ok
    ·go_wp2_with (refine qae (x:=.tmp 2) (cells:=ptV zP) (HST4.out.1.2.2.2.1) rfl rfl rfl rfl qai rfl (by simp [ptV,zP,wV,limbs,Value.oneCell']) ?_; intro w9 hb9 hw9; have HR9:=zY hb9; have HW9:=zY hw9; clear hb9 hw9);refine bodyPost_ret (qal (P:=Tryd.prog) rfl rfl HR9.out hp rfl qai) rfl ?_;have eR:R=(zP,2):=by simpa [HRR.out] using HR.out
     rw [eR];exact ⟨rfl,HW9.out.below HST4.out.2 (Nat.le_of_eq HG0.out) HST4.out.2.size⟩
    ·go_wp2_with (refine qac (x:=.tmp 9) (HST4.out.1.1) rfl rfl rfl hu rfl qad ?_);refine qab (COD.out _) ?_;rintro e w10 ⟨rfl,hb⟩;have HST5:=zY (HST4.out.next hb);clear hb HST4
     cases ob
     ·go_wp2_with (refine qac (x:=.tmp 9) (HST5.out.1.1) rfl rfl rfl hu rfl qad ?_);refine qab (CZB.out _) ?_;rintro e w11 ⟨rfl,hb⟩;have HST6:=zY (HST5.out.next hb);clear hb HST5
      cases zb
      ·go_wp2_with fail;have HC0:=HST6.out.drew;clear HST6;refine qbh (fun u=>Cs [.box o9 46 (eV X),.box g8 46 (eV Y2),.box g6 46 (eV E),.box g0 48 (ptV zP)] w u) (fun _=>false) 5 [(0,some 68),(1,some 69),(2,some 70),(3,some 71),(4,some 72),(5,none),(6,some 3)] (by kernel_rfl) (by kernel_rfl) (by decide) (by kernel_rfl) (fun _=>rfl) HC0 ?_;apply DetQ.next
       ·apply dQ;apply dP [];exact fun _=>rfl;rfl;rintro vals - w1 hC1 E hE;simp only [sP] at hE ⊢;go_wp2;exact .mk (hE _ hC1)
       apply DetQ.next
       ·apply dQ;apply dP [];exact fun _=>rfl;rfl;rintro vals ⟨-,-⟩ w1 hC1 E hE;simp only [sP] at hE ⊢;refine qac (hC1.1.1) rfl rfl rfl hu rfl qad ?_;go_wp2_with fail;exact .mk (hE _ hC1)
       apply DetQ.next
       ·apply dQ;apply dP [(0,some 68),(1,some 69)];exact fun _=>rfl;rfl;intro vals vq w1 hC1 E hE;simp only [sP,vq] at hE ⊢;clear vq;go_wp2_with fail;refine qab (CNX.out _) ?_;rintro e w2 ⟨rfl,hb2⟩;go_wp2_with fail;exact .mk (hE _ (hC1.next hb2))
       apply DetQ.next
       ·apply dQ;apply dP [];exact fun _=>rfl;rfl;intro vals vq w1 hC1 E hE;clear vq;simp only [sP] at hE ⊢;refine qac (hC1.1.2.2.1) rfl rfl rfl hu rfl qad ?_;go_wp2_with fail;exact .mk (hE _ hC1)
       apply DetQ.next
       ·apply dQ;apply dP [(2,some 70),(3,some 71),(2,some 70)];exact fun _=>rfl;rfl;intro vals vq w1 hC1 E hE;simp only [sP,vq] at hE ⊢;clear vq;go_wp2_with fail;refine qab (CO2.out _) ?_;rintro e w2 ⟨rfl,hb2⟩;go_wp2_with fail;exact .mk (hE _ (hC1.next hb2))
       apply DetQ.done;rintro vals ⟨⟨⟨⟨⟨-,f0⟩,f1⟩,f2⟩,f3⟩,f4⟩ w1 hC1;refine qbp [(4,some 72),(4,some 72),(0,some 68),(1,some 69),(2,some 70),(3,some 71),(4,some 72)] (fun _=>rfl) rfl ?_;intro E hE;simp only [sP,f0,f1,f2,f3,f4] at hE ⊢;refine qae (x:=.tmp 2) (cells:=ptV Q2) (hC1.1.2.2.2.1) rfl rfl rfl rfl qai rfl (by simp [ptV,wV,limbs,Value.oneCell']) ?_;intro y9 hb9 hw9;have HR9:=zY hb9;have HW9:=zY hw9;clear hb9 hw9;go_wp2_with fail;refine .mk (hE undef _ ?_);clear hE E;generalize hval:upd _ 5 _=vals5;replace f0:=uP hval (by decide) f0;replace f1:=uP hval (by decide) f1;replace f2:=uP hval (by decide) f2;replace f3:=uP hval (by decide) f3;replace f4:=uP hval (by decide) f4;have f5:=(congrFun hval 5).symm.trans (qbL _ _ _);clear hval;refine qbp [(5,none),(0,some 68),(1,some 69),(2,some 70),(3,some 71),(4,some 72),(5,none)] (fun _=>rfl) rfl ?_;intro E hE;simp only [sP,f0,f1,f2,f3,f4,f5] at hE ⊢;go_wp2;refine .mk (hE _ _ ?_);clear hE E;generalize hval:upd _ 6 _=vals6;replace f0:=uP hval (by decide) f0;replace f1:=uP hval (by decide) f1;replace f2:=uP hval (by decide) f2;replace f3:=uP hval (by decide) f3;replace f4:=uP hval (by decide) f4;replace f5:=uP hval (by decide) f5;have f6:=(congrFun hval 6).symm.trans (qbL _ _ _);clear hval;refine tail_end ?_;simp only [sP,f0,f1,f2,f3,f4,f5,f6];clear f0 f1 f2 f3 f4 f5 f6;have HST7:=zY hC1;clear hC1 HC0;go_wp2_with fail;refine bodyPost_ret (qal (P:=Tryd.prog) rfl rfl HR9.out hp rfl qai) rfl ?_;have eR:R=(Q2,0):=by simpa [HRR.out] using HR.out
       rw [eR];exact ⟨rfl,HW9.out.below HST7.out.2 (Nat.le_of_eq HG0.out) HST7.out.2.size⟩
      ·go_wp2_with (refine qae (x:=.tmp 2) (cells:=ptV zP) (HST6.out.1.2.2.2.1) rfl rfl rfl rfl qai rfl (by simp [ptV,zP,wV,limbs,Value.oneCell']) ?_; intro w9 hb9 hw9; have HR9:=zY hb9; have HW9:=zY hw9; clear hb9 hw9);refine bodyPost_ret (qal (P:=Tryd.prog) rfl rfl HR9.out hp rfl qai) rfl ?_;have eR:R=(zP,2):=by simpa [HRR.out] using HR.out
       rw [eR];exact ⟨rfl,HW9.out.below HST6.out.2 (Nat.le_of_eq HG0.out) HST6.out.2.size⟩
     ·go_wp2_with (first | (refine qac (x:=.tmp 9) (HST5.out.1.1) rfl rfl rfl hu rfl qad ?_) | (refine qac (x:=.tmp 6) (HST5.out.1.2.2.1) rfl rfl rfl hu rfl qad ?_));refine qab (CO1.out _) ?_;rintro e w11 ⟨rfl,hb⟩;have HST6:=zY (HST5.out.next hb);clear hb HST5;go_wp2_with (refine qae (x:=.tmp 2) (cells:=ptV Q1) (HST6.out.1.2.2.2.1) rfl rfl rfl rfl qai rfl (by simp [ptV,wV,limbs,Value.oneCell']) ?_; intro w9 hb9 hw9; have HR9:=zY hb9; have HW9:=zY hw9; clear hb9 hw9);refine bodyPost_ret (qal (P:=Tryd.prog) rfl rfl HR9.out hp rfl qai) rfl ?_;have eR:R=(Q1,0):=by simpa [HRR.out] using HR.out
      rw [eR];exact ⟨rfl,HW9.out.below HST6.out.2 (Nat.le_of_eq HG0.out) HST6.out.2.size⟩
  ·go_wp2_with (refine qao (x:=.tmp 26) (i:=31) (v:=.int .u8 ((d%128:Nat):Int)) HQ.out rfl rfl rfl rfl qbz (by rw [List.size_toArray,List.length_append,bnVl,HLL.out]; omega) rfl ?_; intro w5 hb5 hw5; have HB5:=zY hb5; have HW5:=zY hw5; clear hb5 hw5);have hq:=HB5.out;rw [qcQ (by rw [bnVl,HLL.out]; decide),show (bnV L).set 31 (.int .u8 ((d%128:Nat):Int))=bnV (L.set 31 (d%128)) by simp [bnV,List.map_set],HMS.out,← HQV.out] at hq;have HM5:=zY (Rd.of_blk hq hq.lt).front;have HP5:=zY (HW5.out.blk HP1.out HNE.out);have HBB:=zY (HW5.out.below HB1.out HG1.out HB1.out.size);clear hq dl hfr HB5 HW5 HQ HP1 HB1 hand hge hb2 hd256 HMS HQV HLL HDD HNE HG1;refine qab (CRD.out _ _ _ HC1.out HM5.out) ?_;rintro e w6 ⟨rfl,hb⟩;have HST0:=zY (show Cs [.box w.heap.size 48 (ptV zP)] w w6 from ⟨⟨HP5.out.below hb HP5.out.lt,trivial⟩,HBB.out.trans (hb.mono HBB.out.size)⟩);clear hb HM5 HBB HP5;generalize hg0:w.heap.size=g0 at HST0 ⊢;have HG0:=zY hg0;clear hg0
   cases may
   ·obtain rfl:F=2:=HF.out;go_wp2_with (first | (refine qae (x:=.tmp 6) (cells:=eV E) (Blk.new _ _ _) rfl rfl rfl rfl qad rfl (by simp [eV,wV,limbs,Value.oneCell']) ?_; intro w7 hb hw; have hk:=qaW hw; have HST1:=zY (show Cs [.box w6.heap.size 46 (eV E),.box g0 48 (ptV zP)] w w7 from ⟨⟨hb,(HST0.out.next hk).1⟩,(HST0.out.next hk).2⟩); clear hb hw hk HST0) | (refine qae (x:=.tmp 2) (cells:=ptV zP) (HST1.out.1.2.1) rfl rfl rfl rfl qai rfl (by simp [ptV,zP,wV,limbs,Value.oneCell']) ?_; intro w9 hb9 hw9; have HR9:=zY hb9; have HW9:=zY hw9; clear hb9 hw9));refine bodyPost_ret (qal (P:=Tryd.prog) rfl rfl HR9.out hp rfl qai) rfl ?_;have eR:R=(zP,2):=by simpa [HRR.out] using HR.out
    rw [eR];exact ⟨rfl,HW9.out.below HST1.out.2 (Nat.le_of_eq HG0.out) HST1.out.2.size⟩
   ·obtain rfl:F=0:=HF.out;go_wp2_with (first | (refine qae (x:=.tmp 6) (cells:=eV E) (Blk.new _ _ _) rfl rfl rfl rfl qad rfl (by simp [eV,wV,limbs,Value.oneCell']) ?_; intro w7 hb hw; have hk:=qaW hw; have HST1:=zY (show Cs [.box w6.heap.size 46 (eV E),.box g0 48 (ptV zP)] w w7 from ⟨⟨hb,(HST0.out.next hk).1⟩,(HST0.out.next hk).2⟩); clear hb hw hk HST0) | (refine qac (x:=.tmp 6) (HST1.out.1.1) rfl rfl rfl hu rfl qad ?_));generalize w6.heap.size=g6 at *;refine qab (CY2.out _) ?_;rintro e w8 ⟨rfl,hb⟩;have HST2:=zY (HST1.out.next hb);clear hb HST1;go_wp2_with (refine qae (x:=.tmp 8) (cells:=eV Y2) (Blk.new _ _ _) rfl rfl rfl rfl qad rfl (by simp [eV,wV,limbs,Value.oneCell']) ?_; intro v9 hb hw; have hk:=qaW hw; have HST3:=zY (show Cs [.box w8.heap.size 46 (eV Y2),.box g6 46 (eV E),.box g0 48 (ptV zP)] w v9 from ⟨⟨hb,(HST2.out.next hk).1⟩,(HST2.out.next hk).2⟩); clear hb hw hk HST2);generalize w8.heap.size=g8 at *;have HC0:Below v9.heap.size v9 v9.drew:=(Below.refl _ _).drew
    refine qak (fun u=>Below v9.heap.size v9 u) (fun | false=>(fun _=>True) | true=>(fun _=>True)) (fun | false,_=>false | true,_=>false)
     [fun z _=>z 0=.agg (eV Y2),
      fun z _=>z 1=.agg (eV I),
      fun z _=>z 2=.agg (eV U),
      fun z _=>z 3=.agg (eV Y2),
      fun z _=>z 4=.agg (eV D),
      fun z _=>z 5=.agg (eV DY),
      fun z _=>z 6=.agg (eV I),
      fun z _=>z 7=.agg (eV V),
      fun z _=>z 8=.tuple #[.agg (eV X),.bool ok],
      fun z _=>z 9=.tuple #[.agg (eV X),.bool ok],
      fun z _=>z 10=.agg (eV X),
      fun z _=>z 11=.bool ok,
      fun z u=>(NewBox v9.heap.size 46 (eV zE)) (z 12) u,
      fun z u=>NewBox v9.heap.size 46 (eV X) (z 12) u,
      fun z _=>z 14=.bool ok]
     [Eq,fun u u'=>Below u.heap.size u u',fun u u'=>Below u.heap.size u u',Eq,fun u u'=>Below u.heap.size u u',fun u u'=>Below u.heap.size u u',fun u u'=>Below u.heap.size u u',fun u u'=>Below u.heap.size u u',fun u u'=>Below u.heap.size u u',Eq,Eq,Eq,fun u u'=>Below u.heap.size u u',fun _ _=>True,Eq]
     (fun i k=>(i == 13 && k == 12)) [(0,some 40),(1,some 41),(2,some 42),(3,some 43),(4,some 44),(5,some 45),(6,some 46),(7,some 47),(8,some 48),(9,some 39),(10,some 49),(11,some 50),(12,some 9),(13,none),(14,some 10)] (by kernel_rfl) (by kernel_rfl) rfl (fun _=>rfl) ?_ ?_ ?_ ?_ ?_ ?_
    ·exact HC0
    ·intro m; cases m; exact trivial; exact trivial
    ·intro m; cases m
     ·refine ⟨?_,?_,?_,?_,?_,?_,?_,?_,?_,?_,?_,?_,?_,?_,?_,trivial⟩ <;> first | exact .inr fun _ _ h h0=>h▸h0 | exact .inr fun _ _ _ h=>h
     ·refine ⟨?_,?_,?_,?_,?_,?_,?_,?_,?_,?_,?_,?_,?_,?_,?_,trivial⟩ <;> first | exact .inr fun _ _ h h0=>h▸h0 | exact .inr fun _ _ _ h=>h
    ·refine ⟨⟨.inl rfl,?_,?_,?_,?_,?_,?_,?_,?_,?_,?_,?_,?_,?_,?_,trivial⟩,⟨?_,.inl rfl,?_,?_,?_,?_,?_,?_,?_,?_,?_,?_,.inr (.inr (.inr (fun _ _ _ _ h h0=>h0.next h))),?_,?_,trivial⟩,⟨?_,?_,.inl rfl,?_,?_,?_,?_,?_,?_,?_,?_,?_,.inr (.inr (.inr (fun _ _ _ _ h h0=>h0.next h))),?_,?_,trivial⟩,⟨?_,?_,?_,.inl rfl,?_,?_,?_,?_,?_,?_,?_,?_,?_,?_,?_,trivial⟩,⟨?_,?_,?_,?_,.inl rfl,?_,?_,?_,?_,?_,?_,?_,.inr (.inr (.inr (fun _ _ _ _ h h0=>h0.next h))),?_,?_,trivial⟩,⟨?_,?_,?_,?_,?_,.inl rfl,?_,?_,?_,?_,?_,?_,.inr (.inr (.inr (fun _ _ _ _ h h0=>h0.next h))),?_,?_,trivial⟩,⟨?_,?_,?_,?_,?_,?_,.inl rfl,?_,?_,?_,?_,?_,.inr (.inr (.inr (fun _ _ _ _ h h0=>h0.next h))),?_,?_,trivial⟩,⟨?_,?_,?_,?_,?_,?_,?_,.inl rfl,?_,?_,?_,?_,.inr (.inr (.inr (fun _ _ _ _ h h0=>h0.next h))),?_,?_,trivial⟩,⟨?_,?_,?_,?_,?_,?_,?_,?_,.inl rfl,?_,?_,?_,.inr (.inr (.inr (fun _ _ _ _ h h0=>h0.next h))),?_,?_,trivial⟩,⟨?_,?_,?_,?_,?_,?_,?_,?_,?_,.inl rfl,?_,?_,?_,?_,?_,trivial⟩,⟨?_,?_,?_,?_,?_,?_,?_,?_,?_,?_,.inl rfl,?_,?_,?_,?_,trivial⟩,⟨?_,?_,?_,?_,?_,?_,?_,?_,?_,?_,?_,.inl rfl,?_,?_,?_,trivial⟩,⟨?_,?_,?_,?_,?_,?_,?_,?_,?_,?_,?_,?_,.inl rfl,?_,?_,trivial⟩,⟨?_,?_,?_,?_,?_,?_,?_,?_,?_,?_,?_,?_,.inr (.inl rfl),.inl rfl,?_,trivial⟩,⟨?_,?_,?_,?_,?_,?_,?_,?_,?_,?_,?_,?_,?_,?_,.inl rfl,trivial⟩,trivial⟩ <;> first | exact .inr (.inr (.inl rfl)) | exact .inr (.inr (.inr fun _ _ _ _ _ h=>h)) | exact .inr (.inr (.inr fun _ _ _ _ h h0=>by cases h; exact h0))
    ·refine ⟨?_,?_,?_,?_,?_,?_,?_,?_,?_,?_,?_,?_,?_,?_,?_,trivial⟩
     ·refine qaa [] (fun _=>rfl) rfl ?_;intro w1 vals hC1 hi0 hf E hE;clear hi0;clear hf;have hs:=HST3.out.next hC1;simp only [sP] at hE ⊢;refine qac (hs.1.1) rfl rfl rfl hu rfl qad ?_;go_wp2_with fail;exact .mk (hE _ _ rfl hC1 rfl)
     ·refine qaa [] (fun _=>rfl) rfl ?_;intro w1 vals hC1 hi0 hf E hE;clear hi0;clear hf;simp only [sP] at hE ⊢;go_wp2_with fail;refine qab (CI.out _) ?_;rintro e w2 ⟨rfl,hb2⟩;go_wp2_with fail;exact .mk (hE _ _ rfl (hC1.trans (hb2.mono hC1.size)) hb2)
     ·refine qaa [(0,some 40),(1,some 41),(1,some 41)] (fun _=>rfl) rfl ?_;intro w1 vals hC1 hi0 hf E hE;clear hi0;have f0:vals 0=_:=hf 0 rfl;have f1:vals 1=_:=hf 1 rfl
      try dsimp only at f0 f1
      clear hf;simp only [sP,f0,f1] at hE ⊢;clear f0 f1;go_wp2_with fail;refine qab (CU.out _) ?_;rintro e w2 ⟨rfl,hb2⟩;go_wp2_with fail;exact .mk (hE _ _ rfl (hC1.trans (hb2.mono hC1.size)) hb2)
     ·refine qaa [] (fun _=>rfl) rfl ?_;intro w1 vals hC1 hi0 hf E hE;clear hi0;clear hf;have hs:=HST3.out.next hC1;simp only [sP] at hE ⊢;refine qac (hs.1.1) rfl rfl rfl hu rfl qad ?_;go_wp2_with fail;exact .mk (hE _ _ rfl hC1 rfl)
     ·refine qaa [(2,some 42)] (fun _=>rfl) rfl ?_;intro w1 vals hC1 hi0 hf E hE;clear hi0;have f2:vals 2=_:=hf 2 rfl
      try dsimp only at f2
      clear hf;simp only [sP,f2] at hE ⊢;clear f2;go_wp2_with fail;refine qab (CD.out _) ?_;rintro e w2 ⟨rfl,hb2⟩;go_wp2_with fail;exact .mk (hE _ _ rfl (hC1.trans (hb2.mono hC1.size)) hb2)
     ·refine qaa [(3,some 43),(4,some 44),(4,some 44)] (fun _=>rfl) rfl ?_;intro w1 vals hC1 hi0 hf E hE;clear hi0;have f3:vals 3=_:=hf 3 rfl;have f4:vals 4=_:=hf 4 rfl
      try dsimp only at f3 f4
      clear hf;simp only [sP,f3,f4] at hE ⊢;clear f3 f4;go_wp2_with fail;refine qab (CDY.out _) ?_;rintro e w2 ⟨rfl,hb2⟩;go_wp2_with fail;exact .mk (hE _ _ rfl (hC1.trans (hb2.mono hC1.size)) hb2)
     ·refine qaa [(5,some 45)] (fun _=>rfl) rfl ?_;intro w1 vals hC1 hi0 hf E hE;clear hi0;have f5:vals 5=_:=hf 5 rfl
      try dsimp only at f5
      clear hf;simp only [sP,f5] at hE ⊢;clear f5;go_wp2_with fail;refine qab (CI.out _) ?_;rintro e w2 ⟨rfl,hb2⟩;go_wp2_with fail;exact .mk (hE _ _ rfl (hC1.trans (hb2.mono hC1.size)) hb2)
     ·refine qaa [(5,some 45),(6,some 46),(6,some 46)] (fun _=>rfl) rfl ?_;intro w1 vals hC1 hi0 hf E hE;clear hi0;have f5:vals 5=_:=hf 5 rfl;have f6:vals 6=_:=hf 6 rfl
      try dsimp only at f5 f6
      clear hf;simp only [sP,f5,f6] at hE ⊢;clear f5 f6;go_wp2_with fail;refine qab (CV.out _) ?_;rintro e w2 ⟨rfl,hb2⟩;go_wp2_with fail;exact .mk (hE _ _ rfl (hC1.trans (hb2.mono hC1.size)) hb2)
     ·refine qaa [(2,some 42),(7,some 47),(7,some 47)] (fun _=>rfl) rfl ?_;intro w1 vals hC1 hi0 hf E hE;clear hi0;have f2:vals 2=_:=hf 2 rfl;have f7:vals 7=_:=hf 7 rfl
      try dsimp only at f2 f7
      clear hf;simp only [sP,f2,f7] at hE ⊢;clear f2 f7;go_wp2_with fail;refine qab (CRT.out _) ?_;rintro e w2 ⟨rfl,hb2⟩;go_wp2_with fail;exact .mk (hE _ _ rfl (hC1.trans (hb2.mono hC1.size)) hb2)
     ·refine qaa [(8,some 48)] (fun _=>rfl) rfl ?_;intro w1 vals hC1 hi0 hf E hE;clear hi0;have f8:vals 8=_:=hf 8 rfl
      try dsimp only at f8
      clear hf;simp only [sP,f8] at hE ⊢;clear f8;go_wp2;exact .mk (hE _ _ rfl hC1 rfl)
     ·refine qaa [(9,some 39)] (fun _=>rfl) rfl ?_;intro w1 vals hC1 hi0 hf E hE;clear hi0;have f9:vals 9=_:=hf 9 rfl
      try dsimp only at f9
      clear hf;simp only [sP,f9] at hE ⊢;clear f9;go_wp2;exact .mk (hE _ _ rfl hC1 rfl)
     ·refine qaa [(9,some 39)] (fun _=>rfl) rfl ?_;intro w1 vals hC1 hi0 hf E hE;clear hi0;have f9:vals 9=_:=hf 9 rfl
      try dsimp only at f9
      clear hf;simp only [sP,f9] at hE ⊢;clear f9;go_wp2;exact .mk (hE _ _ rfl hC1 rfl)
     ·refine qaa [] (fun _=>rfl) rfl ?_;intro w1 vals hC1 hi0 hf E hE;clear hi0;clear hf;simp only [sP] at hE ⊢;go_wp2;exact .mk (hE _ _ (NewBox.of hC1.size) (hC1.alloc hC1.size _) (below_new _ _))
     ·refine qaa [(12,some 9),(10,some 49),(8,some 48),(0,some 40),(1,some 41),(2,some 42),(3,some 43),(4,some 44),(5,some 45),(6,some 46),(7,some 47),(8,some 48),(9,some 39),(10,some 49),(12,some 9)] (fun _=>rfl) rfl ?_;intro w1 vals hC1 hi0 hf E hE;clear hi0;have f0:vals 0=_:=hf 0 rfl;have f1:vals 1=_:=hf 1 rfl;have f2:vals 2=_:=hf 2 rfl;have f3:vals 3=_:=hf 3 rfl;have f4:vals 4=_:=hf 4 rfl;have f5:vals 5=_:=hf 5 rfl;have f6:vals 6=_:=hf 6 rfl;have f7:vals 7=_:=hf 7 rfl;have f8:vals 8=_:=hf 8 rfl;have f9:vals 9=_:=hf 9 rfl;have f10:vals 10=_:=hf 10 rfl;have f12:(NewBox v9.heap.size 46 (eV zE)) (vals 12) w1:=hf 12 rfl
      try dsimp only at f0 f1 f2 f3 f4 f5 f6 f7 f8 f9 f10 f12
      clear hf;obtain ⟨o,hx,ho,hblk⟩:=f12;have hx':=hx;simp only [sP,f0,f1,f2,f3,f4,f5,f6,f7,f8,f9,f10,hx] at hE ⊢;clear f0 f1 f2 f3 f4 f5 f6 f7 f8 f9 f10;clear hx;refine qae (cells:=eV X) hblk rfl rfl rfl rfl qad rfl (by simp [eV,wV,limbs,Value.oneCell']) ?_;intro w2 hb2 hw2;go_wp2_with fail;exact .mk (hE undef _ ⟨o,hx',ho,hb2⟩ (hw2.below hC1 ho hC1.size) trivial)
     ·refine qaa [(11,some 50),(13,none),(0,some 40),(1,some 41),(2,some 42),(3,some 43),(4,some 44),(5,some 45),(6,some 46),(7,some 47),(8,some 48),(9,some 39),(10,some 49),(11,some 50),(12,some 9),(13,none)] (fun _=>rfl) rfl ?_;intro w1 vals hC1 hi0 hf E hE;clear hi0;have f0:vals 0=_:=hf 0 rfl;have f1:vals 1=_:=hf 1 rfl;have f2:vals 2=_:=hf 2 rfl;have f3:vals 3=_:=hf 3 rfl;have f4:vals 4=_:=hf 4 rfl;have f5:vals 5=_:=hf 5 rfl;have f6:vals 6=_:=hf 6 rfl;have f7:vals 7=_:=hf 7 rfl;have f8:vals 8=_:=hf 8 rfl;have f9:vals 9=_:=hf 9 rfl;have f10:vals 10=_:=hf 10 rfl;have f11:vals 11=_:=hf 11 rfl;have f13:(fun z u=>NewBox v9.heap.size 46 (eV X) (z 12) u) vals w1:=hf 13 rfl
      try dsimp only at f0 f1 f2 f3 f4 f5 f6 f7 f8 f9 f10 f11 f13
      clear hf;simp only [sP,f0,f1,f2,f3,f4,f5,f6,f7,f8,f9,f10,f11] at hE ⊢;clear f0 f1 f2 f3 f4 f5 f6 f7 f8 f9 f10 f11;go_wp2;exact .mk (hE _ _ rfl hC1 rfl)
    intro w1 vals hC1 hf;have f0:vals 0=_:=hf 0 (by decide) rfl;have f1:vals 1=_:=hf 1 (by decide) rfl;have f2:vals 2=_:=hf 2 (by decide) rfl;have f3:vals 3=_:=hf 3 (by decide) rfl;have f4:vals 4=_:=hf 4 (by decide) rfl;have f5:vals 5=_:=hf 5 (by decide) rfl;have f6:vals 6=_:=hf 6 (by decide) rfl;have f7:vals 7=_:=hf 7 (by decide) rfl;have f8:vals 8=_:=hf 8 (by decide) rfl;have f9:vals 9=_:=hf 9 (by decide) rfl;have f10:vals 10=_:=hf 10 (by decide) rfl;have f11:vals 11=_:=hf 11 (by decide) rfl;have f13:(fun z u=>NewBox v9.heap.size 46 (eV X) (z 12) u) vals w1:=hf 13 (by decide) rfl;have f14:vals 14=_:=hf 14 (by decide) rfl
    try dsimp only at f0 f1 f2 f3 f4 f5 f6 f7 f8 f9 f10 f11 f13 f14
    clear hf;simp only [sP,f0,f1,f2,f3,f4,f5,f6,f7,f8,f9,f10,f11,f14];clear f0 f1 f2 f3 f4 f5 f6 f7 f8 f9 f10 f11 f14;generalize vals 12=x12 at *;obtain ⟨o9,rfl,hlo,hblk⟩:=f13;have HST4:=zY (show Cs [.box o9 46 (eV X),.box g8 46 (eV Y2),.box g6 46 (eV E),.box g0 48 (ptV zP)] w w1 from ⟨⟨hblk,(HST3.out.next hC1).1⟩,(HST3.out.next hC1).2⟩);clear hC1 HC0 hblk hlo HST3;obtain ⟨y1,rfl⟩:=eX w1
    cases ok
    ·go_wp2_with (refine qae (x:=.tmp 2) (cells:=ptV zP) (HST4.out.1.2.2.2.1) rfl rfl rfl rfl qai rfl (by simp [ptV,zP,wV,limbs,Value.oneCell']) ?_; intro w9 hb9 hw9; have HR9:=zY hb9; have HW9:=zY hw9; clear hb9 hw9);refine bodyPost_ret (qal (P:=Tryd.prog) rfl rfl HR9.out hp rfl qai) rfl ?_;have eR:R=(zP,2):=by simpa [HRR.out] using HR.out
     rw [eR];exact ⟨rfl,HW9.out.below HST4.out.2 (Nat.le_of_eq HG0.out) HST4.out.2.size⟩
    ·go_wp2_with (refine qac (x:=.tmp 9) (HST4.out.1.1) rfl rfl rfl hu rfl qad ?_);refine qab (COD.out _) ?_;rintro e w10 ⟨rfl,hb⟩;have HST5:=zY (HST4.out.next hb);clear hb HST4
     cases ob
     ·go_wp2_with (first | (refine qac (x:=.tmp 9) (HST5.out.1.1) rfl rfl rfl hu rfl qad ?_) | (refine qac (x:=.tmp 6) (HST5.out.1.2.2.1) rfl rfl rfl hu rfl qad ?_));refine qab (CO1.out _) ?_;rintro e w11 ⟨rfl,hb⟩;have HST6:=zY (HST5.out.next hb);clear hb HST5;go_wp2_with (refine qae (x:=.tmp 2) (cells:=ptV Q1) (HST6.out.1.2.2.2.1) rfl rfl rfl rfl qai rfl (by simp [ptV,wV,limbs,Value.oneCell']) ?_; intro w9 hb9 hw9; have HR9:=zY hb9; have HW9:=zY hw9; clear hb9 hw9);refine bodyPost_ret (qal (P:=Tryd.prog) rfl rfl HR9.out hp rfl qai) rfl ?_;have eR:R=(Q1,0):=by simpa [HRR.out] using HR.out
      rw [eR];exact ⟨rfl,HW9.out.below HST6.out.2 (Nat.le_of_eq HG0.out) HST6.out.2.size⟩
     ·go_wp2_with (refine qac (x:=.tmp 9) (HST5.out.1.1) rfl rfl rfl hu rfl qad ?_);refine qab (CZB.out _) ?_;rintro e w11 ⟨rfl,hb⟩;have HST6:=zY (HST5.out.next hb);clear hb HST5
      cases zb
      ·go_wp2_with fail;have HC0:=HST6.out.drew;clear HST6;refine qbh (fun u=>Cs [.box o9 46 (eV X),.box g8 46 (eV Y2),.box g6 46 (eV E),.box g0 48 (ptV zP)] w u) (fun _=>false) 5 [(0,some 68),(1,some 69),(2,some 70),(3,some 71),(4,some 72),(5,none),(6,some 3)] (by kernel_rfl) (by kernel_rfl) (by decide) (by kernel_rfl) (fun _=>rfl) HC0 ?_;apply DetQ.next
       ·apply dQ;apply dP [];exact fun _=>rfl;rfl;rintro vals - w1 hC1 E hE;simp only [sP] at hE ⊢;go_wp2;exact .mk (hE _ hC1)
       apply DetQ.next
       ·apply dQ;apply dP [];exact fun _=>rfl;rfl;rintro vals ⟨-,-⟩ w1 hC1 E hE;simp only [sP] at hE ⊢;refine qac (hC1.1.1) rfl rfl rfl hu rfl qad ?_;go_wp2_with fail;exact .mk (hE _ hC1)
       apply DetQ.next
       ·apply dQ;apply dP [(0,some 68),(1,some 69)];exact fun _=>rfl;rfl;intro vals vq w1 hC1 E hE;simp only [sP,vq] at hE ⊢;clear vq;go_wp2_with fail;refine qab (CNX.out _) ?_;rintro e w2 ⟨rfl,hb2⟩;go_wp2_with fail;exact .mk (hE _ (hC1.next hb2))
       apply DetQ.next
       ·apply dQ;apply dP [];exact fun _=>rfl;rfl;intro vals vq w1 hC1 E hE;clear vq;simp only [sP] at hE ⊢;refine qac (hC1.1.2.2.1) rfl rfl rfl hu rfl qad ?_;go_wp2_with fail;exact .mk (hE _ hC1)
       apply DetQ.next
       ·apply dQ;apply dP [(2,some 70),(3,some 71),(2,some 70)];exact fun _=>rfl;rfl;intro vals vq w1 hC1 E hE;simp only [sP,vq] at hE ⊢;clear vq;go_wp2_with fail;refine qab (CO2.out _) ?_;rintro e w2 ⟨rfl,hb2⟩;go_wp2_with fail;exact .mk (hE _ (hC1.next hb2))
       apply DetQ.done;rintro vals ⟨⟨⟨⟨⟨-,f0⟩,f1⟩,f2⟩,f3⟩,f4⟩ w1 hC1;refine qbp [(4,some 72),(4,some 72),(0,some 68),(1,some 69),(2,some 70),(3,some 71),(4,some 72)] (fun _=>rfl) rfl ?_;intro E hE;simp only [sP,f0,f1,f2,f3,f4] at hE ⊢;refine qae (x:=.tmp 2) (cells:=ptV Q2) (hC1.1.2.2.2.1) rfl rfl rfl rfl qai rfl (by simp [ptV,wV,limbs,Value.oneCell']) ?_;intro y9 hb9 hw9;have HR9:=zY hb9;have HW9:=zY hw9;clear hb9 hw9;go_wp2_with fail;refine .mk (hE undef _ ?_);clear hE E;generalize hval:upd _ 5 _=vals5;replace f0:=uP hval (by decide) f0;replace f1:=uP hval (by decide) f1;replace f2:=uP hval (by decide) f2;replace f3:=uP hval (by decide) f3;replace f4:=uP hval (by decide) f4;have f5:=(congrFun hval 5).symm.trans (qbL _ _ _);clear hval;refine qbp [(5,none),(0,some 68),(1,some 69),(2,some 70),(3,some 71),(4,some 72),(5,none)] (fun _=>rfl) rfl ?_;intro E hE;simp only [sP,f0,f1,f2,f3,f4,f5] at hE ⊢;go_wp2;refine .mk (hE _ _ ?_);clear hE E;generalize hval:upd _ 6 _=vals6;replace f0:=uP hval (by decide) f0;replace f1:=uP hval (by decide) f1;replace f2:=uP hval (by decide) f2;replace f3:=uP hval (by decide) f3;replace f4:=uP hval (by decide) f4;replace f5:=uP hval (by decide) f5;have f6:=(congrFun hval 6).symm.trans (qbL _ _ _);clear hval;refine tail_end ?_;simp only [sP,f0,f1,f2,f3,f4,f5,f6];clear f0 f1 f2 f3 f4 f5 f6;have HST7:=zY hC1;clear hC1 HC0;go_wp2_with fail;refine bodyPost_ret (qal (P:=Tryd.prog) rfl rfl HR9.out hp rfl qai) rfl ?_;have eR:R=(Q2,0):=by simpa [HRR.out] using HR.out
       rw [eR];exact ⟨rfl,HW9.out.below HST7.out.2 (Nat.le_of_eq HG0.out) HST7.out.2.size⟩
      ·go_wp2_with (refine qae (x:=.tmp 2) (cells:=ptV zP) (HST6.out.1.2.2.2.1) rfl rfl rfl rfl qai rfl (by simp [ptV,zP,wV,limbs,Value.oneCell']) ?_; intro w9 hb9 hw9; have HR9:=zY hb9; have HW9:=zY hw9; clear hb9 hw9);refine bodyPost_ret (qal (P:=Tryd.prog) rfl rfl HR9.out hp rfl qai) rfl ?_;have eR:R=(zP,2):=by simpa [HRR.out] using HR.out
       rw [eR];exact ⟨rfl,HW9.out.below HST6.out.2 (Nat.le_of_eq HG0.out) HST6.out.2.size⟩
 ·have hR2:R=(zP,2):=by rw [hR,crd,if_neg h32]
  have h32':¬ (n:Int)=32:=by omega
  rw [← hn];subst hR2;clear hn hmax hr hc h32 hR;go_enter Tryd.func19,Tryd.ntmps19;go_wp2_with (refine qae (x:=.tmp 2) (cells:=ptV zP) HP.out rfl rfl rfl rfl qai rfl (by simp [ptV,zP,wV,limbs,Value.oneCell']) ?_; intro w7 hb7 hw7; have HP7:=zY hb7; have HW7:=zY hw7; clear hb7 hw7);refine bodyPost_ret (qal (P:=Tryd.prog) rfl rfl HP7.out hp rfl qai) rfl ?_;exact ⟨rfl,HW7.out.below HB.out (Nat.le_refl _) HB.out.size⟩
theorem gen_neg {n:Nat} [NeZero n] (ho:n%2=1) {x:Fin n} (h:x≠0):decide ((-x).val%2=1)=!decide (x.val%2=1):=by
 have h0:x.val≠0:=fun e=>h (Fin.ext (by rw [e]; rfl));have hl:=x.isLt
 have e:(-x).val=n - x.val:=by
  rw [Fin.neg_def];exact Nat.mod_eq_of_lt (by omega)
 rw [e,← decide_not];exact decide_eq_decide.mpr (by omega)
theorem par_neg {x:FP} (h:x≠0):decide ((-x).val%2=1)=!decide (x.val%2=1):=gen_neg (by decide) h
theorem neg_z:(-(0:FP))=0:=by decide
def Good (y:FP) (odd:Bool) (x:FP):Prop:=Ed.On dF x y∧decide (x.val%2=1)=odd
theorem good_pm {y x z:FP} (hx:Ed.On dF x y) (hz:Ed.On dF z y):z=x∨z=-x :=
 g_two FF (g_den FF y) ((g_on x y).1 hx) ((g_on z y).1 hz)
theorem good_one {y x z:FP} {odd:Bool} (hx:Good y odd x) (hz:Good y odd z):z=x:=by
 rcases good_pm hx.1 hz.1 with h | h
 ·exact h
 ·by_cases h0:x=0
  ·rw [h,h0,neg_z]
  ·have h1:=par_neg h0;rw [← h,hz.2,hx.2] at h1
   cases odd <;> exact absurd h1 (by decide)
theorem fv_ofN {Y:Nat} (h:Y<PN):fv (ofN Y)=fn Y:=by
 rw [fv,ofN_val,Nat.mod_eq_of_lt (Nat.lt_trans h (by decide))]
theorem fv_one:fv (intE 1)=1:=fv_int 1
theorem crdU_ok {E:E5} (h:E.Ok):(crdU E).Ok:=qaP (qaq h h) qcV
theorem crdV_ok {E D:E5} (h:E.Ok) (k:D.Ok):(crdV E D).Ok:=qaT (qaq (qaq h h) k) qcV
theorem fv_crdU {Y:Nat} (h:Y<PN):fv (crdU (ofN Y))=fn Y*fn Y - 1:=by rw [crdU,qbW qcV,qaK,fv_ofN h,fv_one]
theorem fv_crdV {Y:Nat} (h:Y<PN):fv (crdV (ofN Y) dE)=fn Y*fn Y*dF+1:=by rw [crdV,qc3,qaK,qaK,fv_ofN h,fv_d,fv_one]
theorem bool_not {a b:Bool} (h:¬ a=b):(!a)=b:=by cases a <;> cases b <;> simp_all
theorem crd_good {Y:Nat} (hY:Y<PN) (odd:Bool) {r:Pt4 × Nat} (hr:crdR (ofN Y) dE odd=r) :
  (r.2=0∧r.1.Ok∧∃ x,∃ h:Good (fn Y) odd x,Is r.1 ⟨x,fn Y,h.1⟩)∨(r.2=2∧∀ x,¬ Good (fn Y) odd x):=by
 have okE:=ofN_ok Y;have okU:=crdU_ok okE;have okV:=crdV_ok okE dE_ok;have okX:=rootE_ok okU okV;have yes:=croot_yes okU okV;have no:=croot_no okU okV;rw [crdR] at hr;rw [fv_crdU hY,fv_crdV hY] at yes no;generalize crdU (ofN Y)=U at *;generalize crdV (ofN Y) dE=V at *;generalize rootE U V=X at *
 by_cases h1:rootB U V=true
 ·have hon:=(g_on _ _).2 (yes h1);rw [if_pos h1] at hr
  by_cases h2:oddE X=odd
  ·rw [if_pos h2] at hr;subst hr;exact .inl ⟨rfl,ofP_ok okX okE,fv X,⟨hon,h2⟩,is_of rfl (fv_ofN hY)⟩
  ·rw [if_neg h2] at hr
   by_cases h3:eqB X zE=true
   ·rw [if_pos h3] at hr;subst hr;have hX:=(eqB_fv okX zE_ok).1 h3;rw [fv_z] at hX;refine .inr ⟨rfl,fun z hz=>?_⟩
    have e:z=fv X:=by
     rcases good_pm hon hz.1 with e | e
     ·exact e
     ·rw [e,hX,neg_z]
    have:=hz.2;rw [e] at this;exact h2 this
   ·rw [if_neg h3] at hr;subst hr;have hX:fv X≠0:=fun e=>h3 ((eqB_fv okX zE_ok).2 (by rw [e,fv_z]));have e:fv (subE zE X)=-fv X:=by rw [qbW okX,fv_z,g_z0]
    refine .inl ⟨rfl,ofP_ok (qaP zE_ok okX) okE,-fv X,⟨Ed.neg_on hon,?_⟩,is_of e (fv_ofN hY)⟩;rw [par_neg hX];exact bool_not h2
 ·rw [if_neg h1] at hr;subst hr;refine .inr ⟨rfl,fun z hz=>?_⟩;exact no (Bool.not_eq_true _▸h1) (g_den FF _) z ((g_on _ _).1 hz.1)
theorem rdL_len {b:List UInt8} (h:b.length=32):(rdL b).length=32:=by rw [rdL,List.length_set,digs,List.length_map,h]
theorem qcs {L:List Nat} {k a:Nat} (h:k<L.length):(L.set k a).set k (L.getD k 0)=L:=by rw [List.set_set,set_self h]
theorem getD_set {L:List Nat} {k a:Nat} (h:k<L.length):(L.set k a).getD k 0=a:=by
 rw [List.getD_eq_getElem?_getD,List.getElem?_set_self h]; rfl
theorem rd_byP {x y:Nat} (hy:y<PN) {b:List UInt8} (h:digs b=byP x y):b.length=32∧yOf b=y∧oddOf b=decide (x%2=1)∧rdL b=byN y:=by
 have hl:b.length=32:=by rw [← byP_len x y,← h,digs,List.length_map]
 have hN:=byN_high hy;have hNl:31<(byN y).length:=by rw [qaO]; decide
 have e:rdL b=byN y∧oddOf b=decide (x%2=1):=by
  rw [rdL,oddOf,h,byP]
  by_cases ho:x%2=1
  ·rw [if_pos ho,getD_set hNl];refine ⟨?_,decide_eq_decide.mpr ⟨fun _=>ho,fun _=>by omega⟩⟩;rw [show ((byN y).getD 31 0+128)%128=(byN y).getD 31 0 by omega];exact qcs hNl
  ·rw [if_neg ho];refine ⟨?_,decide_eq_decide.mpr ⟨fun h=>by omega,fun h=>absurd h ho⟩⟩;rw [Nat.mod_eq_of_lt hN];exact set_self hNl
 refine ⟨hl,?_,e.2,e.1⟩;rw [yOf,e.1,leV_byN y (Nat.lt_trans hy pn_big)]
theorem byP_rd {b:List UInt8} (hl:b.length=32) {x:Nat} (hx:decide (x%2=1)=oddOf b):byP x (yOf b)=digs b:=by
 have hdl:31<(digs b).length:=by rw [digs,List.length_map,hl]; decide
 have e:byN (yOf b)=rdL b:=byN_leV (rdL b) (rdL_dg b) (rdL_len hl);have hd256:(digs b).getD 31 0<256:=qaV (qbn b) 31;rw [byP,e];have g:(rdL b).getD 31 0=(digs b).getD 31 0%128:=getD_set hdl;rw [g]
 by_cases ho:x%2=1
 ·rw [if_pos ho];rw [decide_eq_true ho,oddOf] at hx;have h128:=of_decide_eq_true hx.symm;rw [show (digs b).getD 31 0%128+128=(digs b).getD 31 0 by omega];exact qcs hdl
 ·rw [if_neg ho];rw [decide_eq_false ho,oddOf] at hx;have h128:=of_decide_eq_false hx.symm;rw [rdL,Nat.mod_eq_of_lt (by omega)];exact set_self hdl
theorem crd_is {P:PtF} {b:List UInt8} (hb:digs b=byF P):(crd b).2=0∧(crd b).1.Ok∧Is (crd b).1 P:=by
 obtain ⟨hl,hy,ho,_⟩:=rd_byP P.y.isLt (x:=P.x.val) hb;have hlt:yOf b<PN:=by rw [hy]; exact P.y.isLt
 have hg:Good (fn (yOf b)) (oddOf b) P.x:=by rw [hy,qc5,ho]; exact ⟨P.on,rfl⟩
 rw [crd,if_pos hl,if_pos hlt]
 rcases crd_good hlt (oddOf b) rfl with ⟨h1,h2,x,h3,h4⟩ | ⟨_,h2⟩
 ·refine ⟨h1,h2,?_⟩;have e:(⟨x,fn (yOf b),h3.1⟩:PtF)=P:=Ed.Pn.eq (good_one hg h3) (show fn (yOf b)=P.y by rw [hy,qc5]);rw [e] at h4;exact h4
 ·exact absurd hg (h2 _)
def verR (p m s:List UInt8):Pt4:=addP (bmP (s.drop 32)) (mulP (negP (crd p).1) (byB (hshN (s.take 32++p++m))))
def verS (p m s:List UInt8):Nat :=
 if (crd p).2=0 then (if s.length=64 then (if isB (s.drop 32)=true then (if bsN (bytP (verR p m s))=s.take 32 then 0 else 10) else 10) else 10) else 11
theorem crd_at {b:List UInt8} (h:(crd b).2=0):b.length=32∧(crd b).1.Ok∧∃ P:PtF,Is (crd b).1 P∧byF P=digs b:=by
 by_cases hl:b.length=32
 ·by_cases hlt:yOf b<PN
  ·have e:crd b=crdR (ofN (yOf b)) dE (oddOf b):=by rw [crd,if_pos hl,if_pos hlt]
   rw [e] at h ⊢
   rcases crd_good hlt (oddOf b) rfl with ⟨h1,h2,z,h3,h4⟩ | ⟨h1,h2⟩
   ·refine ⟨hl,h2,_,h4,?_⟩;show byP z.val (fn (yOf b)).val=digs b;rw [fn_val_lt hlt];exact byP_rd hl h3.2
   ·rw [h1] at h; exact absurd h (by decide)
  ·rw [crd,if_pos hl,if_neg hlt] at h; exact absurd h (by show ¬ (2:Nat)=0; decide)
 ·rw [crd,if_neg hl] at h; exact absurd h (by show ¬ (2:Nat)=0; decide)
theorem verR_is {p m s:List UInt8} {P:PtF} (h0:(crd p).1.Ok) (hP:Is (crd p).1 P) (hs:s.length=64) :
  (verR p m s).Ok∧Is (verR p m s) (plus (times baseF (leV (digs (s.drop 32)))) (times (Ed.neg P) (hshN (s.take 32++p++m)))):=by
 have h1:(s.drop 32).length=32:=by rw [List.length_drop,hs]
 have ho:=mulP_ok (negP_ok h0) (byB (hshN (s.take 32++p++m)));refine ⟨addP_ok (bmP_ok _) ho,Is.add (bmP_ok _) ho (bmP_is h1) ?_⟩;have e:=Is.mul (negP_ok h0) (Is.neg h0 hP) (byB (hshN (s.take 32++p++m)));rw [List.take_of_length_le (l:=byB (hshN (s.take 32++p++m))) (by rw [qaU]; exact Nat.le_refl _),qbe (hshN_lt _)] at e;exact e
theorem rd_from32 {w:World} {B:Nat} {S:Option Addr} {xs:List Value} (h:Rd w B S xs):Rd w B (S.map fun x=>{ block:=x.block,off:=x.off+32 }) (xs.drop 32):=by
 cases S with
 | none =>
  intro i u hu;rw [List.getElem?_drop] at hu;obtain ⟨ad,e,_⟩:=h _ _ hu
  cases e
 | some ad =>
  have e:=rd_drop h 32
  rwa [Addr.add_succ' ad 31] at e
theorem rd_from32B {w:World} {B:Nat} {S:Option Addr} {l:List UInt8} (h:Rd w B S (bytesV l)):Rd w B (S.map fun x=>{ block:=x.block,off:=x.off+32 }) (bytesV (l.drop 32)):=by
 rw [show bytesV (l.drop 32)=(bytesV l).drop 32 by rw [bytesV,bytesV,List.map_drop]];exact rd_from32 h
theorem bytP_isdg {p:Pt4} {P:PtF} (hp:p.Ok) (h:Is p P):Dg (bytP p):=by
 rw [bytP_is hp h];exact byP_dg P.y.isLt
theorem qcO (p m s:List UInt8) (lp:p.length≤200) (lm:m.length≤20000) (ls:s.length≤200) (A M S:Option Addr) (ca cm cs:Nat) (w:World) (rp:Rd w w.heap.size A (bytesV p)) (rm:Rd w w.heap.size M (bytesV m)) (rs:Rd w w.heap.size S (bytesV s)) (hca:p.length≤ca) (hcs:s.length≤cs) (hG:Sh.TabG w) :
  Calls Tryd.prog 9 #[.slice A p.length ca,.slice M m.length cm,.slice S s.length cs] w (fun e w'=>e=.returned (.int .i64 (verS p m s:Int))∧Below w.heap.size w w'):=by
 have hp:=Tryd.underlying48;have hcr:=cread_any p A ca w rp hca (by omega);obtain ⟨Q,hQ⟩:=eX ((crd p).1);obtain ⟨k,hk⟩:=eX ((crd p).2)
 have hk2:k=0∨k=2:=by
  rw [hk,crd]
  split
  ·split
   ·rw [crdR]
    split
    ·split
     ·exact .inl rfl
     ·split
      ·exact .inr rfl
      ·exact .inl rfl
    ·exact .inr rfl
   ·exact .inr rfl
  ·exact .inr rfl
 unfold CReadPost at hcr;rw [← hQ,← hk] at hcr;obtain ⟨np,hnp⟩:=eX (p.length);obtain ⟨nm,hnm⟩:=eX (m.length);obtain ⟨ns,hns⟩:=eX (s.length);have hnp':(np:Int)≤200:=by omega
 have hnm':(nm:Int)≤20000:=by omega
 have hns':(ns:Int)≤200:=by omega
 have hcs':ns≤cs:=by omega
 rw [← hnp,← hnm,← hns];rw [← hnp] at hcr;have HCR:=zY hcr;have HQ:=zY hQ;have HK:=zY hk;have HNP:=zY hnp;have HNM:=zY hnm;have HNS:=zY hns;have HG:=zY hG;have HST:=zY (show Cs [.rd A (bytesV p),.rd M (bytesV m),.rd S (bytesV s)] w w from ⟨⟨rp,rm,rs,trivial⟩,Below.refl _ _⟩);obtain ⟨V,hV⟩:=eX (verS p m s);rw [← hV];have HV:=zY hV;clear hcr hQ hk hnp hnm hns hG rp rm rs hV lp lm ls hca hcs
 rcases hk2 with hk0 | hk0
 ·subst hk0
  by_cases h64:ns=64
  ·subst h64;obtain ⟨h32,okQ,F,isQ,hF⟩:=crd_at HK.out.symm;obtain ⟨B1,hB1⟩:=eX (s.take 32);obtain ⟨B2,hB2⟩:=eX (s.drop 32);have l1:B1.length=32:=by rw [hB1,List.length_take,← HNS.out]; rfl
   have l2:B2.length=32:=by rw [hB2,List.length_drop,← HNS.out]
   have np32:np=32:=by rw [HNP.out,h32]
   subst np32;have HST0:Hid (Cs [.rd A (bytesV p),.rd M (bytesV m),.rd S (bytesV B1),.rd (S.map fun x=>{ block:=x.block,off:=x.off+32 }) (bytesV B2)] w w):=zY ⟨⟨HST.out.1.1,HST.out.1.2.1,by rw [hB1]; exact rd_takeB HST.out.1.2.2.1,by rw [hB2]; exact rd_from32B HST.out.1.2.2.1,trivial⟩,HST.out.2⟩;obtain ⟨S2,hS2⟩:∃ S2:Option Addr,S2=S.map fun x=>{ block:=x.block,off:=x.off+32 }:=⟨_,rfl⟩;rw [← hS2] at HST0;replace HST:=HST0;clear HST0
   have CI:=zY (show ∀ u c,Rd u u.heap.size S2 (bytesV B2)→Calls Tryd.prog 20 #[.slice S2 32 c] u (BoolPost (isB B2) u) from fun u c h=>by
    have e:=scl_is B2 S2 c u h (by rw [l2]; decide);rw [l2] at e;exact e)
   obtain ⟨D,hD⟩:=eX (B1++p++m);have CD:=zY (show ∀ u A B E ca cb cd,Rd u u.heap.size A (bytesV B1)→Rd u u.heap.size B (bytesV p)→Rd u u.heap.size E (bytesV m)→Sh.TabG u→Calls Tryd.prog 22 #[.slice (some ⟨u.heap.size,0,none⟩) 3 3] (u.alloc (.cells #[.slice A 32 ca,.slice B 32 cb,.slice E nm cd] 22)) (DgPost D u) from fun u A B E ca cb cd h1 h2 h3 g=>by rw [hD]; exact dig3 B1 p m nm l1 h32 HNM.out.symm (by omega) A B E ca cb cd u h1 h2 h3 g);obtain ⟨H,hH⟩:=eX (byB (hshN D));have lH:H.length=32:=by rw [hH,qaU]
   have CR:=zY (show ∀ u A c,Rd u u.heap.size A (bytesV (Sh.digS Sh.F64 D))→Calls Tryd.prog 21 #[.slice A 64 c] u (NbPost H u) from fun u A c h=>by rw [hH]; exact qbZ D A c u h);obtain ⟨B,hB⟩:=eX baseP;obtain ⟨P,hP⟩:=eX (bmP B2);have okP:P.Ok:=by rw [hP]; exact bmP_ok B2
   have CB:=zY (show ∀ u,Calls Tryd.prog 23 #[] u (PtPost B u) from fun u=>by rw [hB]; exact base_any u);have CM:=zY (show ∀ A c u,Rd u u.heap.size A (bytesV B2)→32≤c→Calls Tryd.prog 24 #[.agg (ptV B),.slice A 32 c] u (PtPost P u) from fun A c u h1 h2=>by rw [hB,hP]; exact bm_any B2 l2 A c u h1 h2);have okQ':Q.Ok:=by rw [HQ.out]; exact okQ
   obtain ⟨N,hN⟩:=eX (negP Q);have okN:N.Ok:=by rw [hN]; exact negP_ok okQ'
   have CN:=zY (show ∀ u,Calls Tryd.prog 26 #[.agg (ptV Q)] u (PtPost N u) from fun u=>by rw [hN]; exact pneg_any Q u okQ');obtain ⟨T,hT⟩:=eX (mulP N H);have okT:T.Ok:=by rw [hT]; exact mulP_ok okN H
   have CT:=zY (show ∀ A c u,Rd u u.heap.size A (bytesV H)→32≤c→Calls Tryd.prog 24 #[.agg (ptV N),.slice A 32 c] u (PtPost T u) from fun A c u h1 h2=>by
    have e:=pmul_any N okN H A c u h1 (by omega);rw [lH,← hT] at e;exact e)
   obtain ⟨R,hR⟩:=eX (addP P T);have CA:=zY (show ∀ u,Calls Tryd.prog 25 #[.agg (ptV P),.agg (ptV T)] u (PtPost R u) from fun u=>by rw [hR]; exact padd_any P T u okP okT);have hRv:R=verR p m s:=by rw [verR,hR,hP,hT,hN,hH,hD,HQ.out,hB1,hB2]
   obtain ⟨okR,isR⟩:=verR_is (m:=m) okQ isQ HNS.out.symm;rw [← hRv] at okR isR;obtain ⟨L,hL⟩:=eX (bsN (bytP R));have lL:L.length=32:=by rw [hL,bsN,List.length_map,bytP_length]
   have CY:=zY (show ∀ u,Calls Tryd.prog 28 #[.agg (ptV R)] u (fun e w'=>∃ o,e=.returned (.slice (some ⟨o,0,none⟩) 32 32)∧u.heap.size≤o∧Blk w' o 5 (bytesV L).toArray∧Below u.heap.size u w') from fun u=>by
    have e:=pbytes_any R okR u;unfold PbyPost at e;rw [qbJ (bytP_isdg okR isR),← hL] at e;exact e)
   obtain ⟨q,hq⟩:=eX (decide (L=B1))
   have CE:=zY (show ∀ u A1 A2 c1 c2,Rd u u.heap.size A1 (bytesV L)→Rd u u.heap.size A2 (bytesV B1)→32≤c1→32≤c2→Calls Tryd.prog 27 #[.slice A1 32 c1,.slice A2 32 c2] u (BoolPost q u) from fun u A1 A2 c1 c2 h1 h2 h3 h4=>by
    have e:=bequal_any L B1 A1 A2 c1 c2 u h1 h2 (by omega) (by omega) (by omega);rw [lL,l1,← hq] at e;exact e)
   have hVV:V=if isB B2=true then (if q=true then 0 else 10) else 10:=by
    rw [HV.out,verS,if_pos HK.out.symm,if_pos HNS.out.symm,← hB2,← hRv,← hL,← hB1,hq];simp only [decide_eq_true_eq]
   have HVV:=zY hVV;obtain ⟨ib,hib⟩:=eX (isB B2);rw [← hib] at CI HVV;have hcs2:32≤cs - 32:=by omega
   clear h32 okQ isQ hF hB1 hB2 l1 l2 hD hH lH hB hP okP okQ' hN okN hT okT hR hRv okR isR hL lL hq hVV hib HV HQ HK HNP HNS HNM;go_enter Tryd.func9,Tryd.ntmps9;go_wp2_with fail;refine qab HCR.out ?_;rintro e w1 ⟨rfl,hb⟩;replace HST:=zY (HST.out.next hb);replace HG:=zY (HG.out.below hb HG.out.size);clear hb HCR;go_wp2_with (refine qae (x:=.tmp 7) (cells:=ptV Q) (Blk.new w1 48 (ptV zP)) rfl rfl rfl rfl qai rfl (by simp [ptV,wV,limbs,Value.oneCell']) ?_; intro w2 hb2 hw2; have HQB:=zY hb2; have HW2:=zY (qaW hw2); clear hb2 hw2);replace HST:=zY (show Cs [.box w1.heap.size 48 (ptV Q),.rd A (bytesV p),.rd M (bytesV m),.rd S (bytesV B1),.rd S2 (bytesV B2)] w w2 from ⟨⟨HQB.out,(HST.out.next HW2.out).1⟩,(HST.out.next HW2.out).2⟩);replace HG:=zY (HG.out.below HW2.out HG.out.size);clear HQB HW2;rw [← hS2];refine qab (CI.out _ _ HST.out.1.2.2.2.2.1) ?_;rintro e w3 ⟨rfl,hb⟩;replace HST:=zY (HST.out.next hb);replace HG:=zY (HG.out.below hb HG.out.size);clear hb CI
   cases ib with
   | false =>
    go_wp2_with fail;go_ret;exact ⟨by rw [HVV.out]; rfl,HST.out.2⟩
   | true =>
    have HV2:=zY (show V=if q=true then 0 else 10 by rw [HVV.out,if_pos rfl]);clear HVV;go_wp2_with fail;refine qab (CD.out _ _ _ _ _ _ _ HST.out.1.2.2.2.1 HST.out.1.2.1 HST.out.1.2.2.1 HG.out) ?_;rintro e w4 ⟨A4,c4,rfl,r,hb⟩;replace HST:=zY (HST.out.next hb);have RD:=zY r;clear r hb CD HG;go_wp2_with fail;refine qab (CR.out _ _ _ RD.out) ?_;rintro e w5 ⟨o5,rfl,r,hb⟩;replace HST:=zY (show Cs [.rd (some ⟨o5,0,none⟩) (bytesV H),.box w1.heap.size 48 (ptV Q),.rd S (bytesV B1),.rd S2 (bytesV B2)] w w5 from ⟨⟨r,(HST.out.next hb).1.1,(HST.out.next hb).1.2.2.2.1,(HST.out.next hb).1.2.2.2.2.1,trivial⟩,(HST.out.next hb).2⟩);clear r hb CR RD;go_wp2_with fail;generalize w1.heap.size=gq at *;have HC0:Below w5.heap.size w5 w5.drew:=(Below.refl _ _).drew
    refine qak (fun u=>Below w5.heap.size w5 u) (fun | false=>(fun _=>True) | true=>(fun _=>True)) (fun | false,_=>false | true,_=>false)
     [fun z _=>z 0=.agg (ptV B),
      fun z _=>z 1=.slice S 64 cs,
      fun z _=>z 2=.slice (S.map fun x=>{ block:=x.block,off:=x.off+32 }) 32 (cs - 32),
      fun z _=>z 3=.agg (ptV P),
      fun z _=>z 4=.agg (ptV Q),
      fun z _=>z 5=.agg (ptV N),
      fun z _=>z 6=.slice (some ⟨o5,0,none⟩) 32 32,
      fun z _=>z 7=.agg (ptV T),
      fun z _=>z 8=.agg (ptV R),
      fun z u=>(NewBox w5.heap.size 48 (ptV zP)) (z 9) u,
      fun z u=>NewBox w5.heap.size 48 (ptV R) (z 9) u]
     [fun u u'=>Below u.heap.size u u',Eq,Eq,fun u u'=>Below u.heap.size u u',Eq,fun u u'=>Below u.heap.size u u',Eq,fun u u'=>Below u.heap.size u u',fun u u'=>Below u.heap.size u u',fun u u'=>Below u.heap.size u u',fun _ _=>True]
     (fun i k=>(i == 10 && k == 9)) [(0,some 36),(1,some 37),(2,some 38),(3,some 39),(4,some 40),(5,some 41),(6,some 42),(7,some 43),(8,some 44),(9,some 10),(10,none)] (by kernel_rfl) (by kernel_rfl) rfl (fun _=>rfl) ?_ ?_ ?_ ?_ ?_ ?_
    ·exact HC0
    ·intro m; cases m; exact trivial; exact trivial
    ·intro m; cases m
     ·refine ⟨?_,?_,?_,?_,?_,?_,?_,?_,?_,?_,?_,trivial⟩ <;> first | exact .inr fun _ _ h h0=>h▸h0 | exact .inr fun _ _ _ h=>h
     ·refine ⟨?_,?_,?_,?_,?_,?_,?_,?_,?_,?_,?_,trivial⟩ <;> first | exact .inr fun _ _ h h0=>h▸h0 | exact .inr fun _ _ _ h=>h
    ·refine ⟨⟨.inl rfl,?_,?_,?_,?_,?_,?_,?_,?_,.inr (.inr (.inr (fun _ _ _ _ h h0=>h0.next h))),?_,trivial⟩,⟨?_,.inl rfl,?_,?_,?_,?_,?_,?_,?_,?_,?_,trivial⟩,⟨?_,?_,.inl rfl,?_,?_,?_,?_,?_,?_,?_,?_,trivial⟩,⟨?_,?_,?_,.inl rfl,?_,?_,?_,?_,?_,.inr (.inr (.inr (fun _ _ _ _ h h0=>h0.next h))),?_,trivial⟩,⟨?_,?_,?_,?_,.inl rfl,?_,?_,?_,?_,?_,?_,trivial⟩,⟨?_,?_,?_,?_,?_,.inl rfl,?_,?_,?_,.inr (.inr (.inr (fun _ _ _ _ h h0=>h0.next h))),?_,trivial⟩,⟨?_,?_,?_,?_,?_,?_,.inl rfl,?_,?_,?_,?_,trivial⟩,⟨?_,?_,?_,?_,?_,?_,?_,.inl rfl,?_,.inr (.inr (.inr (fun _ _ _ _ h h0=>h0.next h))),?_,trivial⟩,⟨?_,?_,?_,?_,?_,?_,?_,?_,.inl rfl,.inr (.inr (.inr (fun _ _ _ _ h h0=>h0.next h))),?_,trivial⟩,⟨?_,?_,?_,?_,?_,?_,?_,?_,?_,.inl rfl,?_,trivial⟩,⟨?_,?_,?_,?_,?_,?_,?_,?_,?_,.inr (.inl rfl),.inl rfl,trivial⟩,trivial⟩ <;> first | exact .inr (.inr (.inl rfl)) | exact .inr (.inr (.inr fun _ _ _ _ _ h=>h)) | exact .inr (.inr (.inr fun _ _ _ _ h h0=>by cases h; exact h0))
    ·refine ⟨?_,?_,?_,?_,?_,?_,?_,?_,?_,?_,?_,trivial⟩
     ·refine qaa [] (fun _=>rfl) rfl ?_;intro w1 vals hC1 hi0 hf E hE;clear hi0;clear hf;simp only [sP] at hE ⊢;go_wp2_with fail;refine qab (CB.out _) ?_;rintro e w2 ⟨rfl,hb2⟩;go_wp2_with fail;exact .mk (hE _ _ rfl (hC1.trans (hb2.mono hC1.size)) hb2)
     ·refine qaa [] (fun _=>rfl) rfl ?_;intro w1 vals hC1 hi0 hf E hE;clear hi0;clear hf;simp only [sP] at hE ⊢;go_wp2;exact .mk (hE _ _ rfl hC1 rfl)
     ·refine qaa [(1,some 37)] (fun _=>rfl) rfl ?_;intro w1 vals hC1 hi0 hf E hE;clear hi0;have f1:vals 1=_:=hf 1 rfl
      try dsimp only at f1
      clear hf;simp only [sP,f1] at hE ⊢;clear f1;go_wp2;exact .mk (hE _ _ rfl hC1 rfl)
     ·refine qaa [(0,some 36),(2,some 38),(0,some 36)] (fun _=>rfl) rfl ?_;intro w1 vals hC1 hi0 hf E hE;clear hi0;have f0:vals 0=_:=hf 0 rfl;have f2:vals 2=_:=hf 2 rfl
      try dsimp only at f0 f2
      clear hf;have hs:=HST.out.next hC1;have h4:=hs.1.2.2.2.1;rw [hS2] at h4;simp only [sP,f0,f2] at hE ⊢;clear f0 f2;go_wp2_with fail;refine qab (CM.out _ _ _ h4 hcs2) ?_;rintro e w2 ⟨rfl,hb2⟩;go_wp2_with fail;exact .mk (hE _ _ rfl (hC1.trans (hb2.mono hC1.size)) hb2)
     ·refine qaa [] (fun _=>rfl) rfl ?_;intro w1 vals hC1 hi0 hf E hE;clear hi0;clear hf;have hs:=HST.out.next hC1;simp only [sP] at hE ⊢;refine qac (hs.1.2.1) rfl rfl rfl hp rfl qai ?_;go_wp2_with fail;exact .mk (hE _ _ rfl hC1 rfl)
     ·refine qaa [(4,some 40),(3,some 39)] (fun _=>rfl) rfl ?_;intro w1 vals hC1 hi0 hf E hE;clear hi0;have f3:vals 3=_:=hf 3 rfl;have f4:vals 4=_:=hf 4 rfl
      try dsimp only at f3 f4
      clear hf;simp only [sP,f3,f4] at hE ⊢;clear f3 f4;go_wp2_with fail;refine qab (CN.out _) ?_;rintro e w2 ⟨rfl,hb2⟩;go_wp2_with fail;exact .mk (hE _ _ rfl (hC1.trans (hb2.mono hC1.size)) hb2)
     ·refine qaa [] (fun _=>rfl) rfl ?_;intro w1 vals hC1 hi0 hf E hE;clear hi0;clear hf;simp only [sP] at hE ⊢;go_wp2;exact .mk (hE _ _ rfl hC1 rfl)
     ·refine qaa [(5,some 41),(6,some 42),(5,some 41)] (fun _=>rfl) rfl ?_;intro w1 vals hC1 hi0 hf E hE;clear hi0;have f5:vals 5=_:=hf 5 rfl;have f6:vals 6=_:=hf 6 rfl
      try dsimp only at f5 f6
      clear hf;have hs:=HST.out.next hC1;simp only [sP,f5,f6] at hE ⊢;clear f5 f6;go_wp2_with fail;refine qab (CT.out _ _ _ hs.1.1 (Nat.le_refl _)) ?_;rintro e w2 ⟨rfl,hb2⟩;go_wp2_with fail;exact .mk (hE _ _ rfl (hC1.trans (hb2.mono hC1.size)) hb2)
     ·refine qaa [(3,some 39),(7,some 43),(7,some 43)] (fun _=>rfl) rfl ?_;intro w1 vals hC1 hi0 hf E hE;clear hi0;have f3:vals 3=_:=hf 3 rfl;have f7:vals 7=_:=hf 7 rfl
      try dsimp only at f3 f7
      clear hf;simp only [sP,f3,f7] at hE ⊢;clear f3 f7;go_wp2_with fail;refine qab (CA.out _) ?_;rintro e w2 ⟨rfl,hb2⟩;go_wp2_with fail;exact .mk (hE _ _ rfl (hC1.trans (hb2.mono hC1.size)) hb2)
     ·refine qaa [] (fun _=>rfl) rfl ?_;intro w1 vals hC1 hi0 hf E hE;clear hi0;clear hf;simp only [sP] at hE ⊢;go_wp2;exact .mk (hE _ _ (NewBox.of hC1.size) (hC1.alloc hC1.size _) (below_new _ _))
     ·refine qaa [(9,some 10),(8,some 44),(8,some 44),(0,some 36),(1,some 37),(2,some 38),(3,some 39),(4,some 40),(5,some 41),(6,some 42),(7,some 43),(8,some 44),(9,some 10)] (fun _=>rfl) rfl ?_;intro w1 vals hC1 hi0 hf E hE;clear hi0;have f0:vals 0=_:=hf 0 rfl;have f1:vals 1=_:=hf 1 rfl;have f2:vals 2=_:=hf 2 rfl;have f3:vals 3=_:=hf 3 rfl;have f4:vals 4=_:=hf 4 rfl;have f5:vals 5=_:=hf 5 rfl;have f6:vals 6=_:=hf 6 rfl;have f7:vals 7=_:=hf 7 rfl;have f8:vals 8=_:=hf 8 rfl;have f9:(NewBox w5.heap.size 48 (ptV zP)) (vals 9) w1:=hf 9 rfl
      try dsimp only at f0 f1 f2 f3 f4 f5 f6 f7 f8 f9
      clear hf;obtain ⟨o,hx,ho,hblk⟩:=f9;have hx':=hx;simp only [sP,f0,f1,f2,f3,f4,f5,f6,f7,f8,hx] at hE ⊢;clear f0 f1 f2 f3 f4 f5 f6 f7 f8;clear hx;refine qae (cells:=ptV R) hblk rfl rfl rfl rfl qai rfl (by simp [eV,ptV,wV,limbs,Value.oneCell']) ?_;intro w2 hb2 hw2;go_wp2_with fail;exact .mk (hE undef _ ⟨o,hx',ho,hb2⟩ (hw2.below hC1 ho hC1.size) trivial)
    intro w1 vals hC1 hf;have f0:vals 0=_:=hf 0 (by decide) rfl;have f1:vals 1=_:=hf 1 (by decide) rfl;have f2:vals 2=_:=hf 2 (by decide) rfl;have f3:vals 3=_:=hf 3 (by decide) rfl;have f4:vals 4=_:=hf 4 (by decide) rfl;have f5:vals 5=_:=hf 5 (by decide) rfl;have f6:vals 6=_:=hf 6 (by decide) rfl;have f7:vals 7=_:=hf 7 (by decide) rfl;have f8:vals 8=_:=hf 8 (by decide) rfl;have f10:(fun z u=>NewBox w5.heap.size 48 (ptV R) (z 9) u) vals w1:=hf 10 (by decide) rfl
    try dsimp only at f0 f1 f2 f3 f4 f5 f6 f7 f8 f10
    clear hf;simp only [sP,f0,f1,f2,f3,f4,f5,f6,f7,f8];clear f0 f1 f2 f3 f4 f5 f6 f7 f8;generalize vals 9=x9 at *;obtain ⟨o6,rfl,ho6,hblk6⟩:=f10;obtain ⟨w6,rfl⟩:=eX w1;replace HST:=zY (show Cs [.box o6 48 (ptV R),.rd S (bytesV B1)] w w6 from ⟨⟨hblk6,(HST.out.next hC1).1.2.2.1,trivial⟩,(HST.out.next hC1).2⟩);clear hC1 HC0 hblk6 ho6 CB CM CN CT CA;go_wp2_with fail;have HC0:Below w6.heap.size w6 w6.drew:=(Below.refl _ _).drew
    refine qak (fun u=>Below w6.heap.size w6 u) (fun | false=>(fun _=>True) | true=>(fun _=>True)) (fun | false,_=>false | true,_=>false)
     [fun z _=>z 0=.agg (ptV R),
      fun z u=>(fun v u=>∃ o,v=.slice (some ⟨o,0,none⟩) 32 32∧Rd u u.heap.size (some ⟨o,0,none⟩) (bytesV L)) (z 1) u,
      fun z _=>z 2=.slice S 64 cs,
      fun z _=>z 3=.slice S 32 cs,
      fun z _=>z 4=.bool q,
      fun z _=>z 5=.bool (!q)]
     [Eq,fun u u'=>Below u.heap.size u u',Eq,Eq,fun u u'=>Below u.heap.size u u',Eq]
     (fun _ _=>false) [(0,some 45),(1,some 46),(2,some 47),(3,some 48),(4,some 49),(5,some 50)] (by kernel_rfl) (by kernel_rfl) rfl (fun _=>rfl) ?_ ?_ ?_ ?_ ?_ ?_
    ·exact HC0
    ·intro m; cases m; exact trivial; exact trivial
    ·intro m; cases m
     ·refine ⟨?_,?_,?_,?_,?_,?_,trivial⟩ <;> first | exact .inr fun _ _ h h0=>h▸h0 | exact .inr fun _ _ _ h=>h
     ·refine ⟨?_,?_,?_,?_,?_,?_,trivial⟩ <;> first | exact .inr fun _ _ h h0=>h▸h0 | exact .inr fun _ _ _ h=>h
    ·refine ⟨⟨.inl rfl,?_,?_,?_,?_,?_,trivial⟩,⟨?_,.inl rfl,?_,?_,?_,?_,trivial⟩,⟨?_,?_,.inl rfl,?_,?_,?_,trivial⟩,⟨?_,?_,?_,.inl rfl,?_,?_,trivial⟩,⟨?_,.inr (.inr (.inr (fun _ _ _ _ h h0=>h0.elim fun o k=>⟨o,k.1,qan k.2 h⟩))),?_,?_,.inl rfl,?_,trivial⟩,⟨?_,?_,?_,?_,?_,.inl rfl,trivial⟩,trivial⟩ <;> first | exact .inr (.inr (.inl rfl)) | exact .inr (.inr (.inr fun _ _ _ _ _ h=>h)) | exact .inr (.inr (.inr fun _ _ _ _ h h0=>by cases h; exact h0))
    ·refine ⟨?_,?_,?_,?_,?_,?_,trivial⟩
     ·refine qaa [] (fun _=>rfl) rfl ?_;intro w1 vals hC1 hi0 hf E hE;clear hi0;clear hf;have hs:=HST.out.next hC1;simp only [sP] at hE ⊢;refine qac (hs.1.1) rfl rfl rfl hp rfl qai ?_;go_wp2_with fail;exact .mk (hE _ _ rfl hC1 rfl)
     ·refine qaa [(0,some 45)] (fun _=>rfl) rfl ?_;intro w1 vals hC1 hi0 hf E hE;clear hi0;have f0:vals 0=_:=hf 0 rfl
      try dsimp only at f0
      clear hf;simp only [sP,f0] at hE ⊢;clear f0;go_wp2_with fail;refine qab (CY.out _) ?_;rintro e w2 ⟨o,rfl,ho,hk,hb2⟩;have hr:=Rd.of_blk hk hk.lt;go_wp2_with fail;exact .mk (hE _ _ ⟨o,rfl,hr⟩ (hC1.trans (hb2.mono hC1.size)) hb2)
     ·refine qaa [] (fun _=>rfl) rfl ?_;intro w1 vals hC1 hi0 hf E hE;clear hi0;clear hf;simp only [sP] at hE ⊢;go_wp2;exact .mk (hE _ _ rfl hC1 rfl)
     ·refine qaa [(2,some 47)] (fun _=>rfl) rfl ?_;intro w1 vals hC1 hi0 hf E hE;clear hi0;have f2:vals 2=_:=hf 2 rfl
      try dsimp only at f2
      clear hf;simp only [sP,f2] at hE ⊢;clear f2;go_wp2;exact .mk (hE _ _ rfl hC1 rfl)
     ·refine qaa [(1,some 46),(3,some 48),(1,some 46)] (fun _=>rfl) rfl ?_;intro w1 vals hC1 hi0 hf E hE;clear hi0;have f1:(fun v u=>∃ o,v=.slice (some ⟨o,0,none⟩) 32 32∧Rd u u.heap.size (some ⟨o,0,none⟩) (bytesV L)) (vals 1) w1:=hf 1 rfl;have f3:vals 3=_:=hf 3 rfl
      try dsimp only at f1 f3
      clear hf;have hs:=HST.out.next hC1;obtain ⟨o,hx,hr⟩:=f1;simp only [sP,f3,hx] at hE ⊢;clear f3;clear hx;go_wp2_with fail;refine qab (CE.out _ _ _ _ _ hr hs.1.2.1 (Nat.le_refl _) (by omega)) ?_;rintro e w2 ⟨rfl,hb2⟩;go_wp2_with fail;exact .mk (hE _ _ rfl (hC1.trans (hb2.mono hC1.size)) hb2)
     ·refine qaa [(4,some 49)] (fun _=>rfl) rfl ?_;intro w1 vals hC1 hi0 hf E hE;clear hi0;have f4:vals 4=_:=hf 4 rfl
      try dsimp only at f4
      clear hf;simp only [sP,f4] at hE ⊢;clear f4;go_wp2;exact .mk (hE _ _ rfl hC1 rfl)
    intro w1 vals hC1 hf;have f0:vals 0=_:=hf 0 (by decide) rfl;have f1:(fun v u=>∃ o,v=.slice (some ⟨o,0,none⟩) 32 32∧Rd u u.heap.size (some ⟨o,0,none⟩) (bytesV L)) (vals 1) w1:=hf 1 (by decide) rfl;have f2:vals 2=_:=hf 2 (by decide) rfl;have f3:vals 3=_:=hf 3 (by decide) rfl;have f4:vals 4=_:=hf 4 (by decide) rfl;have f5:vals 5=_:=hf 5 (by decide) rfl
    try dsimp only at f0 f1 f2 f3 f4 f5
    clear hf;simp only [sP,f0,f2,f3,f4,f5];clear f0 f2 f3 f4 f5;generalize vals 1=x1 at *;obtain ⟨w7,rfl⟩:=eX w1;obtain ⟨o7,rfl,hr7⟩:=f1;have HF:=zY (HST.out.next hC1).2;clear hC1 HC0 HST hr7 CY CE
    cases q with
    | false =>
     go_wp2_with fail;go_ret;exact ⟨by rw [HV2.out]; rfl,HF.out⟩
    | true =>
     go_wp2_with fail;go_ret;exact ⟨by rw [HV2.out]; rfl,HF.out⟩
  ·have h64':¬ (ns:Int)=64:=by omega
   have hVV:V=10:=by rw [HV.out,verS,if_pos HK.out.symm,if_neg (by rw [← HNS.out]; exact h64)]
   have HVV:=zY hVV;clear hVV HV HQ HK HNP HNS HNM h64;go_enter Tryd.func9,Tryd.ntmps9;go_wp2_with fail;refine qab HCR.out ?_;rintro e w1 ⟨rfl,hb⟩;replace HST:=zY (HST.out.next hb);replace HG:=zY (HG.out.below hb HG.out.size);clear hb HCR;go_wp2_with (refine qae (x:=.tmp 7) (cells:=ptV Q) (Blk.new w1 48 (ptV zP)) rfl rfl rfl rfl qai rfl (by simp [ptV,wV,limbs,Value.oneCell']) ?_; intro w2 hb2 hw2; have HQB:=zY hb2; have HW2:=zY (qaW hw2); clear hb2 hw2);replace HST:=zY (show Cs [.box w1.heap.size 48 (ptV Q),.rd A (bytesV p),.rd M (bytesV m),.rd S (bytesV s)] w w2 from ⟨⟨HQB.out,(HST.out.next HW2.out).1⟩,(HST.out.next HW2.out).2⟩);replace HG:=zY (HG.out.below HW2.out HG.out.size);clear HQB HW2;go_ret;exact ⟨by rw [HVV.out]; rfl,HST.out.2⟩
 ·subst hk0;have hVV:V=11:=by rw [HV.out,verS,if_neg (by rw [← HK.out]; decide)]
  have HVV:=zY hVV;clear hVV HV HQ HK HNP HNS HNM;go_enter Tryd.func9,Tryd.ntmps9;go_wp2_with fail;refine qab HCR.out ?_;rintro e w1 ⟨rfl,hb⟩;replace HST:=zY (HST.out.next hb);replace HG:=zY (HG.out.below hb HG.out.size);clear hb HCR;go_wp2_with (refine qae (x:=.tmp 7) (cells:=ptV Q) (Blk.new w1 48 (ptV zP)) rfl rfl rfl rfl qai rfl (by simp [ptV,wV,limbs,Value.oneCell']) ?_; intro w2 hb2 hw2; have HQB:=zY hb2; have HW2:=zY (qaW hw2); clear hb2 hw2);replace HST:=zY (show Cs [.box w1.heap.size 48 (ptV Q),.rd A (bytesV p),.rd M (bytesV m),.rd S (bytesV s)] w w2 from ⟨⟨HQB.out,(HST.out.next HW2.out).1⟩,(HST.out.next HW2.out).2⟩);replace HG:=zY (HG.out.below HW2.out HG.out.size);clear HQB HW2;go_ret;exact ⟨by rw [HVV.out]; rfl,HST.out.2⟩
section
variable {P:Program}
theorem rd_bytesRow (w:World) (s:ByteArray) (cap:Nat) (e:TypeId) (f:Nat × Nat) (u:World) (hu:u=w.alloc (.cells (bytesRow s cap) e f)):Rd u u.heap.size (some ⟨w.heap.size,0,none⟩) (bytesV s.data.toList):=by
 subst hu;intro i v hv
 have hlt:i<s.data.size:=by
  have:=(List.getElem?_eq_some_iff.1 hv).1
  simpa [bytesV] using this
 refine ⟨_,rfl,by simp,?_⟩;have hadd:(⟨w.heap.size,0,none⟩:Addr).add i=⟨w.heap.size,i,none⟩:=by unfold Addr.add; split <;> simp_all
 have hg:(w.alloc (.cells (bytesRow s cap) e f)).heap[w.heap.size]?=some (.cells (bytesRow s cap) e f):=by
  show (w.heap.push _)[w.heap.size]?=_;simp
 rw [hadd,cell_of_row _ _ _ _ _ f hg,bytesRow,Array.getElem?_append_left (by simpa using hlt)];rw [bytesV,List.getElem?_map,Array.getElem?_toList] at hv;rw [Array.getElem?_map];exact hv
theorem qa5 {w:World} {ops:Array Oper} {rest:List Oper} {o:Oper} {a:Act} {Q:Exit→Act→World→Prop} {src dst e:TypeId} {x:Operand} {s:ByteArray}
  (hs:P.underlying src=some .string) (hd:P.underlying dst=some (.slice e)) (he:P.underlying e=some (.int .u8))
  (hgd:o.guard=none) (ho:o.op=.convert src dst x) (hx:a.eval x=.string s)
  (h:∀ A c w',Rd w' w'.heap.size A (bytesV s.data.toList)→s.size≤c→Below w.heap.size w w'→wpList P ops Q rest (a.put o.dst (.slice A s.size c)) w'):wpList P ops Q (o :: rest) a w:=by
 refine wpList_plain hgd fun K hK=>?_;have hrun:=run_bytes_of_string (P:=P) w src dst e s hs hd he;unfold Oper.wp execOp;simp only [ho,hx];simp only [Sem.run_bind,hrun,Result.andThen_ok,Sem.run_pure];refine hK _ _ (h _ _ _ (rd_bytesRow w.drew s _ e _ _ rfl) (grownCap_ge w s.size 0 e) ?_);exact (Below.refl _ _).drew.alloc (Nat.le_refl _) _
end
end Go.Proofs.YtjmfkinedhmglaaDoor
namespace Go.Proofs.YtjmfkinedhmglaaDoor.Wi
set_option linter.unusedSimpArgs false
set_option linter.unusedVariables false
set_option maxRecDepth 100000
set_option maxHeartbeats 4000000
open Go.RowKit
theorem sl_bytes:SlT Tryd.prog 22 5 1 1:=SlT.mk1 (z:=.int .u8 0) Tryd.underlying22 (by kernel_rfl) rfl (by decide)
def beB (n:Int) (width:Nat):Nat→List UInt8
 | 0=>[]
 | m+1=>beB n width m++[UInt8.ofInt (n/2^(8*(width - 1 - m)))]
theorem qaI (n:Int) (width:Nat):∀ m,(beB n width m).length=m
 | 0=>rfl
 | m+1=>by simp [beB,qaI n width m]
theorem put_any (B:Nat) (v:Value) (l:List UInt8) (width:Nat) (n:Int) (g:Nat) (w:World) (hB:B≤w.heap.size) (hown:OwnX w B 5 1 v l.length (bytesV l))
  (hg:w.heap[g]?=some (.cells #[.int .i64 n] 3 (0,0))) (hn0:0≤n) (hn1:n≤9223372036854775807) (hw:width≤8) (hl:l.length≤1000000) :
  Calls Tryd.prog 36 #[v,.int .i64 width,.slice (some ⟨g,0,none⟩) 1 1] w fun e w'=>∃ v',e=.returned v' ∧
   OwnX w' B 5 1 v' (l.length+width) (bytesV (l++beB n width width))∧w.grownBy w' v.ownBlock∧Next w v v':=by
 have hcell:=cell_of_one hg;go_enter Tryd.func36,Tryd.ntmps36;go_wp2_with fail;refine wp_loop_rounds 2 ?_;rw [rounds_succ];go_wp2_with fail
 go_loopw [0,9] (fun v1 i wr=>∃ (k:Nat),k≤width∧i=.int .i64 ((width:Int) - 1 - k)∧OwnX wr B 5 1 v1 (l.length+k) (bytesV (l++beB n width k))∧w.grownBy wr v.ownBlock∧Next w v v1)
  (fun _ i _=>(intOf i+1).toNat)
 case atStart=>exact ⟨0,Nat.zero_le _,by go_num,by simpa [beB] using hown,World.grownBy.refl _ _,Next.refl _ _⟩
 case round =>
  obtain ⟨k,hk,rfl,hown1,hgr,hat⟩:=hrel
  by_cases hlt:k<width
  ·go_wp2_with (at_builtin; go_loud (refine qaL sl_bytes rfl rfl hown1 rfl rfl rfl rfl (by unfold maxLen; omega) (by omega) (by have:=hgr.size; omega) ?_); intro A c w2 hown2 hgr2 hn2);refine ⟨⟨k+1,hlt,by go_num,?_,qa3 hgr hat hgr2,hat.trans hn2 hgr.size⟩,by simp [intOf]; omega⟩
   have e1:bytesV (l++beB n width (k+1))=bytesV (l++beB n width k)++[Value.int IntKind.u8 (n/2^(8*(width - 1 - k))%256)]:=by
    rw [beB,← List.append_assoc,qaz _ [_]]
    congr 1
    simp only [bytesV,List.map_cons,List.map_nil];rw [qaF _ (Int.ediv_nonneg hn0 (by exact_mod_cast Nat.zero_le _))]
   rw [e1];exact hown2
  ·obtain rfl:k=width:=by omega
   go_wp2_with fail;rw [rounds_succ];go_wp2_with fail;go_ret;exact ⟨_,rfl,hown1,hgr,hat⟩
def PutPost (B:Nat) (v:Value) (l:List UInt8) (w:World) (e:Ending) (w':World):Prop :=
 ∃ A c,e=.returned (.slice A l.length c)∧OwnX w' B 5 1 (.slice A l.length c) l.length (bytesV l)∧w.grownBy w' v.ownBlock∧Next w v (.slice A l.length c)
theorem PutPost.mk_ {B:Nat} {v v':Value} {n:Nat} {l:List UInt8} {w w':World} (hown:OwnX w' B 5 1 v' n (bytesV l)) (hg:w.grownBy w' v.ownBlock) (hn:Next w v v'):PutPost B v l w (.returned v') w':=by
 have hnl:n=l.length:=by have:=hown.1; rw [qam] at this; omega
 subst hnl
 rcases hown.2 with ⟨rfl,h0⟩ | ⟨g,cap,cur,fz,rfl,_⟩
 ·rw [PutPost,h0]; rw [h0] at hown; exact ⟨none,0,rfl,hown,hg,hn⟩
 ·exact ⟨_,_,rfl,hown,hg,hn⟩
theorem put1 {B:Nat} {v:Value} {l L:List UInt8} {n:Int} {g:Nat} {w:World} (hB:B≤w.heap.size) (hown:OwnX w B 5 1 v l.length (bytesV l))
  (hg:w.heap[g]?=some (.cells #[.int .i64 n] 3 (0,0))) (hn0:0≤n) (hn1:n≤9223372036854775807) (hl:l.length≤1000000) (hL:L=l++beB n 1 1) :
  Calls Tryd.prog 36 #[v,.int .i64 1,.slice (some ⟨g,0,none⟩) 1 1] w (PutPost B v L w) :=
 (put_any B v l 1 n g w hB hown hg hn0 hn1 (by omega) hl).mono fun e w' ⟨v',he,h1,h2,h3⟩=>by subst he; subst hL; exact .mk_ h1 h2 h3
theorem put2 {B:Nat} {v:Value} {l L:List UInt8} {n:Int} {g:Nat} {w:World} (hB:B≤w.heap.size) (hown:OwnX w B 5 1 v l.length (bytesV l))
  (hg:w.heap[g]?=some (.cells #[.int .i64 n] 3 (0,0))) (hn0:0≤n) (hn1:n≤9223372036854775807) (hl:l.length≤1000000) (hL:L=l++beB n 2 2) :
  Calls Tryd.prog 36 #[v,.int .i64 2,.slice (some ⟨g,0,none⟩) 1 1] w (PutPost B v L w) :=
 (put_any B v l 2 n g w hB hown hg hn0 hn1 (by omega) hl).mono fun e w' ⟨v',he,h1,h2,h3⟩=>by subst he; subst hL; exact .mk_ h1 h2 h3
theorem put8 {B:Nat} {v:Value} {l L:List UInt8} {n:Int} {g:Nat} {w:World} (hB:B≤w.heap.size) (hown:OwnX w B 5 1 v l.length (bytesV l))
  (hg:w.heap[g]?=some (.cells #[.int .i64 n] 3 (0,0))) (hn0:0≤n) (hn1:n≤9223372036854775807) (hl:l.length≤1000000) (hL:L=l++beB n 8 8) :
  Calls Tryd.prog 36 #[v,.int .i64 8,.slice (some ⟨g,0,none⟩) 1 1] w (PutPost B v L w) :=
 (put_any B v l 8 n g w hB hown hg hn0 hn1 (by omega) hl).mono fun e w' ⟨v',he,h1,h2,h3⟩=>by subst he; subst hL; exact .mk_ h1 h2 h3
def Row (B:Nat) (W:World) (v:Value) (l:List UInt8) (x:Value) (w:World):Prop :=
 ∃ A c,x=.slice A l.length c∧OwnX w B 5 1 (.slice A l.length c) l.length (bytesV l)∧Next W v (.slice A l.length c)
theorem Row.alloc1 {B:Nat} {W w w':World} {v x:Value} {l:List UInt8} (h:Row B W v l x w) (ha:Alloc1 w w'):Row B W v l x w':=by
 obtain ⟨A,c,hx,ho,hn⟩:=h; exact ⟨A,c,hx,qbq ha ho,hn⟩
theorem zero_u8:∃ i,Tryd.prog.info? 5=some i∧i.zero=some (.int .u8 0):=by
 obtain ⟨i,hi,h0,_,_⟩:=info_parts (show (Tryd.prog.info? 5).map (fun i=>(i.zero,i.size,i.bytes))=some (some (.int .u8 0),1,1) by kernel_rfl);exact ⟨i,hi,h0⟩
def frameB (s:ByteArray):List UInt8:=beB s.size 2 2++s.data.toList
theorem qaJ (s:ByteArray):(frameB s).length=2+s.size:=by
 simp only [frameB,List.length_append,qaI,Array.length_toList]; rfl
theorem qc4 (B:Nat) (v:Value) (l:List UInt8) (s:ByteArray) (w:World) (hB:B≤w.heap.size) (hown:OwnX w B 5 1 v l.length (bytesV l))
  (hs:s.size≤1000000) (hl:l.length≤1000000) {L:List UInt8} (hL:L=l++frameB s) :
  Calls Tryd.prog 58 #[v,.string s] w (PutPost B v L w):=by
 have HL:=zY hL;clear hL;have hul:=Tryd.underlying9;go_enter Tryd.func58,Tryd.ntmps58;go_wp2_with fail;refine (put2 (B:=B) (l:=l) (by simp; omega) (hown.alloc _) (heap_alloc_new w _) (by omega) (by omega) (by omega) rfl).mono ?_;rintro e w1 ⟨A1,c1,rfl,hown1,hgr1,hn1⟩;have hl1:(l++beB s.size 2 2).length=l.length+2:=by rw [List.length_append,qaI]
 rw [hl1] at hown1 hn1 ⊢;go_wp2_with ((refine qa7 sl_bytes zero_u8 hul rfl rfl hown1 rfl rfl (by omega) (by have:=hgr1.size; simp at this; omega) ?_); intro A c w2 hown2 hgr2 hn2);go_ret;have h1:w.grownBy w1 v.ownBlock:=(World.grownBy_alloc _ _ _).trans hgr1;have h2:Next w v _:=hn1.back (by simp);have hL:=HL.out;subst hL;refine PutPost.mk_ (n:=l.length+2+s.size) ?_ (qa3 h1 h2 hgr2) (h2.trans hn2 h1.size);rw [frameB,← List.append_assoc,qaz _ s.data.toList];exact hown2
def bodyB (m:MsgD):List UInt8:=beB m.kind 1 1++beB m.seq 8 8++frameB m.src++frameB m.dst++beB m.fields.length 1 1++m.fields.flatMap frameB
theorem body_any (B:Nat) (v:Value) (l:List UInt8) (m:MsgD) (A:Option Addr) (c:Nat) (w:World) (hB:B≤w.heap.size) (hown:OwnX w B 5 1 v l.length (bytesV l))
  (hr:Rd w B A (strsV m.fields)) (hc:m.fields.length≤c) (hl:l.length≤1000) (h1:0≤m.kind) (h2:m.kind≤255) (h3:0≤m.seq) (h4:m.seq≤1099511627776) (h5:m.fields.length≤8)
  (h6:m.src.size≤1000) (h7:m.dst.size≤1000) (h8:∀ s ∈ m.fields,s.size≤1000) :
  Calls Tryd.prog 35 #[v,.agg (msgCells m A c)] w (PutPost B v (l++bodyB m) w):=by
 obtain ⟨kind,src,dst,seq,fields,sig⟩:=m;dsimp only [msgCells] at *;obtain ⟨W0,hW0⟩:=eX (w.alloc (.cells #[.int .i64 kind,.string src,.string dst,.int .i64 seq,.slice A fields.length c,.string sig] 25));have hbox:W0.heap[w.heap.size]?=some (.cells #[.int .i64 kind,.string src,.string dst,.int .i64 seq,.slice A fields.length c,.string sig] 25 (0,0)):=by rw [hW0]; exact heap_alloc_new w _
 have hsz:W0.heap.size=w.heap.size+1:=by rw [hW0]; simp
 have hcell:∀ (u:World),W0.grownBy u v.ownBlock→∀ i,u.cell? ⟨w.heap.size,i,none⟩=#[.int .i64 kind,.string src,.string dst,.int .i64 seq,.slice A fields.length c,.string sig][i]?:=fun u hu i=>by
  refine cell_of_row _ _ _ _ _ (0,0) ((hu.block _ (by omega) fun e=>?_).trans hbox);have:=hown.lt _ e.symm; omega
 have hB0:B≤W0.heap.size:=by rw [hW0]; simp; omega
 have HI0:OwnX W0.drew B 5 1 v l.length (bytesV l):=by rw [hW0]; exact hown.alloc _
 have HC0:W0.grownBy W0.drew v.ownBlock:=qcp (World.grownBy.refl _ _);have HW0:=zY hW0;have HB:=zY hbox;have HS:=zY hsz;have HC:=zY hcell;clear hbox hsz hcell;obtain ⟨L1,hL1⟩:=eX (l++beB kind 1 1);obtain ⟨L2,hL2⟩:=eX (L1++beB seq 8 8);have hl1:L1.length≤2000:=by rw [hL1,List.length_append,qaI]; omega
 have hl2:L2.length≤3000:=by rw [hL2,List.length_append,qaI]; omega
 have HL1:=zY hL1;have HL2:=zY hL2;clear hL1 hL2;go_enter Tryd.func35,Tryd.ntmps35;go_wp2_with fail;rw [← hW0];clear hW0
 refine qak (fun u=>W0.grownBy u v.ownBlock) (fun | false=>(fun u=>OwnX u B 5 1 v l.length (bytesV l)) | true=>(fun _=>True)) (fun | false,i=>i == 4 || i == 8 | true,_=>false)
  [fun z _=>z 0=v,
   fun z _=>z 1=.pointer (some ⟨w.heap.size,0,none⟩),
   fun z _=>z 2=.int .i64 kind,
   fun z u=>(One 3 (.int .i64 kind)) (z 3) u,
   fun z u=>(Row B W0 v L1) (z 4) u,
   fun z _=>z 5=.pointer (some ⟨w.heap.size,3,none⟩),
   fun z _=>z 6=.int .i64 seq,
   fun z u=>(One 3 (.int .i64 seq)) (z 7) u,
   fun z u=>(Row B W0 v L2) (z 8) u,
   fun z u=>(Row B W0 v L2) (z 9) u]
  [Eq,Eq,Eq,Alloc1,KeepBut 5,Eq,Eq,Alloc1,KeepBut 5,Eq]
  (fun i k=>(i == 8 && k == 4)) [(0,some 7),(1,some 8),(2,some 9),(3,some 10),(4,some 11),(5,some 12),(6,some 13),(7,some 14),(8,some 15),(9,some 0)] (by kernel_rfl) (by kernel_rfl) rfl (fun _=>rfl) ?_ ?_ ?_ ?_ ?_ ?_
 ·exact HC0
 ·intro m; cases m; exact HI0; exact trivial
 ·intro m; cases m
  ·refine ⟨?_,?_,?_,.inr (fun _ _ h h0=>qbq h h0),.inl rfl,?_,?_,.inr (fun _ _ h h0=>qbq h h0),.inl rfl,?_,trivial⟩ <;> exact .inr fun _ _ h h0=>h▸h0
  ·refine ⟨?_,?_,?_,?_,?_,?_,?_,?_,?_,?_,trivial⟩ <;> first | exact .inr fun _ _ h h0=>h▸h0 | exact .inr fun _ _ _ h=>h
 ·refine ⟨⟨.inl rfl,?_,?_,?_,?_,?_,?_,?_,?_,?_,trivial⟩,⟨?_,.inl rfl,?_,?_,?_,?_,?_,?_,?_,?_,trivial⟩,⟨?_,?_,.inl rfl,?_,?_,?_,?_,?_,?_,?_,trivial⟩,⟨?_,?_,?_,.inl rfl,?_,?_,?_,.inr (.inr (.inr (fun _ _ _ _ h h0=>h0.alloc1 h))),?_,?_,trivial⟩,⟨?_,?_,?_,.inr (.inr (.inr (fun _ _ _ _ h h0=>h0.keep h (by decide)))),.inl rfl,?_,?_,.inr (.inr (.inr (fun _ _ _ _ h h0=>h0.keep h (by decide)))),?_,?_,trivial⟩,⟨?_,?_,?_,?_,?_,.inl rfl,?_,?_,?_,?_,trivial⟩,⟨?_,?_,?_,?_,?_,?_,.inl rfl,?_,?_,?_,trivial⟩,⟨?_,?_,?_,.inr (.inr (.inr (fun _ _ _ _ h h0=>h0.alloc1 h))),.inr (.inr (.inr (fun _ _ _ _ h h0=>h0.alloc1 h))),?_,?_,.inl rfl,?_,?_,trivial⟩,⟨?_,?_,?_,.inr (.inr (.inr (fun _ _ _ _ h h0=>h0.keep h (by decide)))),.inr (.inl rfl),?_,?_,.inr (.inr (.inr (fun _ _ _ _ h h0=>h0.keep h (by decide)))),.inl rfl,?_,trivial⟩,⟨?_,?_,?_,?_,?_,?_,?_,?_,?_,.inl rfl,trivial⟩,trivial⟩ <;> first | exact .inr (.inr (.inl rfl)) | exact .inr (.inr (.inr fun _ _ _ _ _ h=>h)) | exact .inr (.inr (.inr fun _ _ _ _ h h0=>by cases h; exact h0))
 ·refine ⟨?_,?_,?_,?_,?_,?_,?_,?_,?_,?_,trivial⟩
  ·refine qaa [] (fun _=>rfl) rfl ?_;intro w1 vals hC1 hi0 hf E hE;have hI1:(fun u=>OwnX u B 5 1 v l.length (bytesV l)) w1:=hi0 false rfl
   try dsimp only at hI1
   clear hi0;clear hf;simp only [sP] at hE ⊢;go_wp2;exact .mk (hE _ _ rfl hC1 rfl)
  ·refine qaa [] (fun _=>rfl) rfl ?_;intro w1 vals hC1 hi0 hf E hE;clear hi0;clear hf;simp only [sP] at hE ⊢;go_wp2;exact .mk (hE _ _ rfl hC1 rfl)
  ·refine qaa [(1,some 8)] (fun _=>rfl) rfl ?_;intro w1 vals hC1 hi0 hf E hE;have hI1:(fun u=>OwnX u B 5 1 v l.length (bytesV l)) w1:=hi0 false rfl
   try dsimp only at hI1
   clear hi0;have f1:vals 1=_:=hf 1 rfl
   try dsimp only at f1
   clear hf;have hc0:=HC.out w1 hC1 0;simp at hc0;simp only [sP,f1] at hE ⊢;clear f1;go_wp2;exact .mk (hE _ _ rfl hC1 rfl)
  ·refine qaa [(2,some 9)] (fun _=>rfl) rfl ?_;intro w1 vals hC1 hi0 hf E hE;have hI1:(fun u=>OwnX u B 5 1 v l.length (bytesV l)) w1:=hi0 false rfl
   try dsimp only at hI1
   clear hi0;have f2:vals 2=_:=hf 2 rfl
   try dsimp only at f2
   clear hf;simp only [sP,f2] at hE ⊢;clear f2;go_wp2;exact .mk (hE _ _ (One.new _ _ _) (qb5 hC1 _) ⟨_,rfl⟩)
  ·refine qaa [(0,some 7),(3,some 10)] (fun _=>rfl) rfl ?_;intro w1 vals hC1 hi0 hf E hE;have hI1:(fun u=>OwnX u B 5 1 v l.length (bytesV l)) w1:=hi0 false rfl
   try dsimp only at hI1
   clear hi0;have f0:vals 0=_:=hf 0 rfl;have f3:(One 3 (.int .i64 kind)) (vals 3) w1:=hf 3 rfl
   try dsimp only at f0 f3
   clear hf;obtain ⟨g,hx,hg⟩:=f3;simp only [sP,f0,hx] at hE ⊢;clear f0;clear hx;go_wp2_with fail;refine (put1 (B:=B) (l:=l) (n:=kind) (by have:=hC1.size; omega) hI1 hg h1 (by omega) (by omega) HL1.out).mono ?_;rintro e w2 ⟨A1,c1,rfl,hown1,hgr1,hn1⟩;go_wp2_with fail;exact .mk (hE _ _ ⟨A1,c1,rfl,hown1,hn1.back hC1.size⟩ (hC1.trans hgr1) (qau hI1 hgr1))
  ·refine qaa [] (fun _=>rfl) rfl ?_;intro w1 vals hC1 hi0 hf E hE;clear hi0;clear hf;simp only [sP] at hE ⊢;go_wp2;exact .mk (hE _ _ rfl hC1 rfl)
  ·refine qaa [(5,some 12)] (fun _=>rfl) rfl ?_;intro w1 vals hC1 hi0 hf E hE;clear hi0;have f5:vals 5=_:=hf 5 rfl
   try dsimp only at f5
   clear hf;have hc0:=HC.out w1 hC1 3;simp at hc0;simp only [sP,f5] at hE ⊢;clear f5;go_wp2;exact .mk (hE _ _ rfl hC1 rfl)
  ·refine qaa [(6,some 13)] (fun _=>rfl) rfl ?_;intro w1 vals hC1 hi0 hf E hE;clear hi0;have f6:vals 6=_:=hf 6 rfl
   try dsimp only at f6
   clear hf;simp only [sP,f6] at hE ⊢;clear f6;go_wp2;exact .mk (hE _ _ (One.new _ _ _) (qb5 hC1 _) ⟨_,rfl⟩)
  ·refine qaa [(4,some 11),(7,some 14),(4,some 11)] (fun _=>rfl) rfl ?_;intro w1 vals hC1 hi0 hf E hE;clear hi0;have f4:(Row B W0 v L1) (vals 4) w1:=hf 4 rfl;have f7:(One 3 (.int .i64 seq)) (vals 7) w1:=hf 7 rfl
   try dsimp only at f4 f7
   clear hf;obtain ⟨g,hx,hg⟩:=f7;obtain ⟨A1,c1,hx1,hown1,hn1⟩:=f4;simp only [sP,hx,hx1] at hE ⊢;clear hx hx1;go_wp2_with fail;refine (put8 (B:=B) (l:=L1) (n:=seq) (by have:=hC1.size; omega) hown1 hg h3 (by omega) (by omega) HL2.out).mono ?_;rintro e w2 ⟨A2,c2,rfl,hown2,hgr2,hn2⟩;go_wp2_with fail;exact .mk (hE _ _ ⟨A2,c2,rfl,hown2,hn1.trans (hn2.back hC1.size) (Nat.le_refl _)⟩ (qa3 hC1 hn1 hgr2) (qau hown1 hgr2))
  ·refine qaa [(8,some 15),(8,some 15),(0,some 7),(1,some 8),(2,some 9),(3,some 10),(4,some 11),(5,some 12),(6,some 13),(7,some 14),(8,some 15)] (fun _=>rfl) rfl ?_;intro w1 vals hC1 hi0 hf E hE;clear hi0;have f0:vals 0=_:=hf 0 rfl;have f1:vals 1=_:=hf 1 rfl;have f2:vals 2=_:=hf 2 rfl;have f3:(One 3 (.int .i64 kind)) (vals 3) w1:=hf 3 rfl;have f5:vals 5=_:=hf 5 rfl;have f6:vals 6=_:=hf 6 rfl;have f7:(One 3 (.int .i64 seq)) (vals 7) w1:=hf 7 rfl;have f8:(Row B W0 v L2) (vals 8) w1:=hf 8 rfl
   try dsimp only at f0 f1 f2 f3 f5 f6 f7 f8
   clear hf;simp only [sP,f0,f1,f2,f5,f6] at hE ⊢;clear f0 f1 f2 f5 f6;go_wp2;exact .mk (hE _ _ f8 hC1 rfl)
 intro w1 vals hC1 hf;have f0:vals 0=_:=hf 0 (by decide) rfl;have f1:vals 1=_:=hf 1 (by decide) rfl;have f2:vals 2=_:=hf 2 (by decide) rfl;have f3:(One 3 (.int .i64 kind)) (vals 3) w1:=hf 3 (by decide) rfl;have f5:vals 5=_:=hf 5 (by decide) rfl;have f6:vals 6=_:=hf 6 (by decide) rfl;have f7:(One 3 (.int .i64 seq)) (vals 7) w1:=hf 7 (by decide) rfl;have f8:(Row B W0 v L2) (vals 8) w1:=hf 8 (by decide) rfl;have f9:(Row B W0 v L2) (vals 9) w1:=hf 9 (by decide) rfl
 try dsimp only at f0 f1 f2 f3 f5 f6 f7 f8 f9
 clear hf;simp only [sP,f0,f1,f2,f5,f6];clear f0 f1 f2 f5 f6;generalize vals 3=x3 at *;generalize vals 4=x4 at *;generalize vals 7=x7 at *;generalize vals 8=x8 at *;generalize vals 9=x9 at *;obtain ⟨A2,c2,rfl,hown2,hn2⟩:=f9;clear f3 f7 f8 HI0 HC0;go_wp2_with fail;obtain ⟨L3,hL3⟩:=eX (L2++frameB src);obtain ⟨L4,hL4⟩:=eX (L3++frameB dst);obtain ⟨L5,hL5⟩:=eX (L4++beB fields.length 1 1);have hl3:L3.length≤5000:=by rw [hL3,List.length_append,qaJ]; omega
 have hl4:L4.length≤7000:=by rw [hL4,List.length_append,qaJ]; omega
 have hl5:L5.length≤8000:=by rw [hL5,List.length_append,qaI]; omega
 have HL3:=zY hL3;have HL4:=zY hL4;have HL5:=zY hL5;clear hL3 hL4 hL5;have HC0:W0.grownBy w1.drew v.ownBlock:=qcp hC1;have HI0:OwnX w1.drew B 5 1 (.slice A2 L2.length c2) L2.length (bytesV L2):=hown2;clear hC1 hown2
 refine qak (fun u=>W0.grownBy u v.ownBlock) (fun | false=>(fun u=>OwnX u B 5 1 (.slice A2 L2.length c2) L2.length (bytesV L2)) | true=>(fun _=>True)) (fun | false,i=>i == 3 || i == 6 || i == 11 | true,_=>false)
  [fun z _=>z 0=.slice A2 L2.length c2,
   fun z _=>z 1=.pointer (some ⟨w.heap.size,1,none⟩),
   fun z _=>z 2=.string src,
   fun z u=>(Row B W0 v L3) (z 3) u,
   fun z _=>z 4=.pointer (some ⟨w.heap.size,2,none⟩),
   fun z _=>z 5=.string dst,
   fun z u=>(Row B W0 v L4) (z 6) u,
   fun z _=>z 7=.pointer (some ⟨w.heap.size,4,none⟩),
   fun z _=>z 8=.slice A fields.length c,
   fun z _=>z 9=.int .i64 fields.length,
   fun z u=>(One 3 (.int .i64 fields.length)) (z 10) u,
   fun z u=>(Row B W0 v L5) (z 11) u,
   fun z u=>(Row B W0 v L5) (z 12) u]
  [Eq,Eq,Eq,KeepBut 5,Eq,Eq,KeepBut 5,Eq,Eq,Eq,Alloc1,KeepBut 5,Eq]
  (fun i k=>(i == 6 && k == 3) || (i == 11 && k == 3) || (i == 11 && k == 6)) [(0,some 16),(1,some 17),(2,some 18),(3,some 19),(4,some 20),(5,some 21),(6,some 22),(7,some 23),(8,some 24),(9,some 25),(10,some 26),(11,some 27),(12,some 0)] (by kernel_rfl) (by kernel_rfl) rfl (fun _=>rfl) ?_ ?_ ?_ ?_ ?_ ?_
 ·exact HC0
 ·intro m; cases m; exact HI0; exact trivial
 ·intro m; cases m
  ·refine ⟨?_,?_,?_,.inl rfl,?_,?_,.inl rfl,?_,?_,?_,.inr (fun _ _ h h0=>qbq h h0),.inl rfl,?_,trivial⟩ <;> exact .inr fun _ _ h h0=>h▸h0
  ·refine ⟨?_,?_,?_,?_,?_,?_,?_,?_,?_,?_,?_,?_,?_,trivial⟩ <;> first | exact .inr fun _ _ h h0=>h▸h0 | exact .inr fun _ _ _ h=>h
 ·refine ⟨⟨.inl rfl,?_,?_,?_,?_,?_,?_,?_,?_,?_,?_,?_,?_,trivial⟩,⟨?_,.inl rfl,?_,?_,?_,?_,?_,?_,?_,?_,?_,?_,?_,trivial⟩,⟨?_,?_,.inl rfl,?_,?_,?_,?_,?_,?_,?_,?_,?_,?_,trivial⟩,⟨?_,?_,?_,.inl rfl,?_,?_,?_,?_,?_,?_,.inr (.inr (.inr (fun _ _ _ _ h h0=>h0.keep h (by decide)))),?_,?_,trivial⟩,⟨?_,?_,?_,?_,.inl rfl,?_,?_,?_,?_,?_,?_,?_,?_,trivial⟩,⟨?_,?_,?_,?_,?_,.inl rfl,?_,?_,?_,?_,?_,?_,?_,trivial⟩,⟨?_,?_,?_,.inr (.inl rfl),?_,?_,.inl rfl,?_,?_,?_,.inr (.inr (.inr (fun _ _ _ _ h h0=>h0.keep h (by decide)))),?_,?_,trivial⟩,⟨?_,?_,?_,?_,?_,?_,?_,.inl rfl,?_,?_,?_,?_,?_,trivial⟩,⟨?_,?_,?_,?_,?_,?_,?_,?_,.inl rfl,?_,?_,?_,?_,trivial⟩,⟨?_,?_,?_,?_,?_,?_,?_,?_,?_,.inl rfl,?_,?_,?_,trivial⟩,⟨?_,?_,?_,.inr (.inr (.inr (fun _ _ _ _ h h0=>h0.alloc1 h))),?_,?_,.inr (.inr (.inr (fun _ _ _ _ h h0=>h0.alloc1 h))),?_,?_,?_,.inl rfl,?_,?_,trivial⟩,⟨?_,?_,?_,.inr (.inl rfl),?_,?_,.inr (.inl rfl),?_,?_,?_,.inr (.inr (.inr (fun _ _ _ _ h h0=>h0.keep h (by decide)))),.inl rfl,?_,trivial⟩,⟨?_,?_,?_,?_,?_,?_,?_,?_,?_,?_,?_,?_,.inl rfl,trivial⟩,trivial⟩ <;> first | exact .inr (.inr (.inl rfl)) | exact .inr (.inr (.inr fun _ _ _ _ _ h=>h)) | exact .inr (.inr (.inr fun _ _ _ _ h h0=>by cases h; exact h0))
 ·refine ⟨?_,?_,?_,?_,?_,?_,?_,?_,?_,?_,?_,?_,?_,trivial⟩
  ·refine qaa [] (fun _=>rfl) rfl ?_;intro w1 vals hC1 hi0 hf E hE;have hI1:(fun u=>OwnX u B 5 1 (.slice A2 L2.length c2) L2.length (bytesV L2)) w1:=hi0 false rfl
   try dsimp only at hI1
   clear hi0;clear hf;simp only [sP] at hE ⊢;go_wp2;exact .mk (hE _ _ rfl hC1 rfl)
  ·refine qaa [] (fun _=>rfl) rfl ?_;intro w1 vals hC1 hi0 hf E hE;clear hi0;clear hf;simp only [sP] at hE ⊢;go_wp2;exact .mk (hE _ _ rfl hC1 rfl)
  ·refine qaa [(1,some 17)] (fun _=>rfl) rfl ?_;intro w1 vals hC1 hi0 hf E hE;have hI1:(fun u=>OwnX u B 5 1 (.slice A2 L2.length c2) L2.length (bytesV L2)) w1:=hi0 false rfl
   try dsimp only at hI1
   clear hi0;have f1:vals 1=_:=hf 1 rfl
   try dsimp only at f1
   clear hf;have hc0:=HC.out w1 hC1 1;simp at hc0;simp only [sP,f1] at hE ⊢;clear f1;go_wp2;exact .mk (hE _ _ rfl hC1 rfl)
  ·refine qaa [(0,some 16),(2,some 18)] (fun _=>rfl) rfl ?_;intro w1 vals hC1 hi0 hf E hE;have hI1:(fun u=>OwnX u B 5 1 (.slice A2 L2.length c2) L2.length (bytesV L2)) w1:=hi0 false rfl
   try dsimp only at hI1
   clear hi0;have f0:vals 0=_:=hf 0 rfl;have f2:vals 2=_:=hf 2 rfl
   try dsimp only at f0 f2
   clear hf;simp only [sP,f0,f2] at hE ⊢;clear f0 f2;go_wp2_with fail;refine (qc4 B _ L2 src _ (by have:=hC1.size; omega) hI1 (by omega) (by omega) HL3.out).mono ?_;rintro e w2 ⟨A1,c1,rfl,hown1,hgr1,hn1⟩;go_wp2_with fail;exact .mk (hE _ _ ⟨A1,c1,rfl,hown1,hn2.trans (hn1.back hC1.size) (Nat.le_refl _)⟩ (qa3 hC1 hn2 hgr1) (qau hI1 hgr1))
  ·refine qaa [] (fun _=>rfl) rfl ?_;intro w1 vals hC1 hi0 hf E hE;clear hi0;clear hf;simp only [sP] at hE ⊢;go_wp2;exact .mk (hE _ _ rfl hC1 rfl)
  ·refine qaa [(4,some 20)] (fun _=>rfl) rfl ?_;intro w1 vals hC1 hi0 hf E hE;clear hi0;have f4:vals 4=_:=hf 4 rfl
   try dsimp only at f4
   clear hf;have hc0:=HC.out w1 hC1 2;simp at hc0;simp only [sP,f4] at hE ⊢;clear f4;go_wp2;exact .mk (hE _ _ rfl hC1 rfl)
  ·refine qaa [(3,some 19),(5,some 21),(3,some 19)] (fun _=>rfl) rfl ?_;intro w1 vals hC1 hi0 hf E hE;clear hi0;have f3:(Row B W0 v L3) (vals 3) w1:=hf 3 rfl;have f5:vals 5=_:=hf 5 rfl
   try dsimp only at f3 f5
   clear hf;obtain ⟨A1,c1,hx1,hown1,hn1⟩:=f3;simp only [sP,f5,hx1] at hE ⊢;clear f5;clear hx1;go_wp2_with fail;refine (qc4 B _ L3 dst _ (by have:=hC1.size; omega) hown1 (by omega) (by omega) HL4.out).mono ?_;rintro e w2 ⟨A3,c3,rfl,hown3,hgr3,hn3⟩;go_wp2_with fail;exact .mk (hE _ _ ⟨A3,c3,rfl,hown3,hn1.trans (hn3.back hC1.size) (Nat.le_refl _)⟩ (qa3 hC1 hn1 hgr3) (qau hown1 hgr3))
  ·refine qaa [] (fun _=>rfl) rfl ?_;intro w1 vals hC1 hi0 hf E hE;clear hi0;clear hf;simp only [sP] at hE ⊢;go_wp2;exact .mk (hE _ _ rfl hC1 rfl)
  ·refine qaa [(7,some 23)] (fun _=>rfl) rfl ?_;intro w1 vals hC1 hi0 hf E hE;clear hi0;have f7:vals 7=_:=hf 7 rfl
   try dsimp only at f7
   clear hf;have hc0:=HC.out w1 hC1 4;simp at hc0;simp only [sP,f7] at hE ⊢;clear f7;go_wp2;exact .mk (hE _ _ rfl hC1 rfl)
  ·refine qaa [(8,some 24)] (fun _=>rfl) rfl ?_;intro w1 vals hC1 hi0 hf E hE;clear hi0;have f8:vals 8=_:=hf 8 rfl
   try dsimp only at f8
   clear hf;simp only [sP,f8] at hE ⊢;clear f8;go_wp2;exact .mk (hE _ _ rfl hC1 rfl)
  ·refine qaa [(9,some 25)] (fun _=>rfl) rfl ?_;intro w1 vals hC1 hi0 hf E hE;clear hi0;have f9:vals 9=_:=hf 9 rfl
   try dsimp only at f9
   clear hf;simp only [sP,f9] at hE ⊢;clear f9;go_wp2;exact .mk (hE _ _ (One.new _ _ _) (qb5 hC1 _) ⟨_,rfl⟩)
  ·refine qaa [(6,some 22),(10,some 26),(6,some 22)] (fun _=>rfl) rfl ?_;intro w1 vals hC1 hi0 hf E hE;clear hi0;have f6:(Row B W0 v L4) (vals 6) w1:=hf 6 rfl;have f10:(One 3 (.int .i64 fields.length)) (vals 10) w1:=hf 10 rfl
   try dsimp only at f6 f10
   clear hf;obtain ⟨g,hx,hg⟩:=f10;obtain ⟨A1,c1,hx1,hown1,hn1⟩:=f6;simp only [sP,hx,hx1] at hE ⊢;clear hx hx1;go_wp2_with fail;refine (put1 (B:=B) (l:=L4) (n:=fields.length) (by have:=hC1.size; omega) hown1 hg (by omega) (by omega) (by omega) HL5.out).mono ?_;rintro e w2 ⟨A3,c3,rfl,hown3,hgr3,hn3⟩;go_wp2_with fail;exact .mk (hE _ _ ⟨A3,c3,rfl,hown3,hn1.trans (hn3.back hC1.size) (Nat.le_refl _)⟩ (qa3 hC1 hn1 hgr3) (qau hown1 hgr3))
  ·refine qaa [(11,some 27),(11,some 27),(0,some 16),(1,some 17),(2,some 18),(3,some 19),(4,some 20),(5,some 21),(6,some 22),(7,some 23),(8,some 24),(9,some 25),(10,some 26),(11,some 27)] (fun _=>rfl) rfl ?_;intro w1 vals hC1 hi0 hf E hE;clear hi0;have f0:vals 0=_:=hf 0 rfl;have f1:vals 1=_:=hf 1 rfl;have f2:vals 2=_:=hf 2 rfl;have f4:vals 4=_:=hf 4 rfl;have f5:vals 5=_:=hf 5 rfl;have f7:vals 7=_:=hf 7 rfl;have f8:vals 8=_:=hf 8 rfl;have f9:vals 9=_:=hf 9 rfl;have f10:(One 3 (.int .i64 fields.length)) (vals 10) w1:=hf 10 rfl;have f11:(Row B W0 v L5) (vals 11) w1:=hf 11 rfl
   try dsimp only at f0 f1 f2 f4 f5 f7 f8 f9 f10 f11
   clear hf;simp only [sP,f0,f1,f2,f4,f5,f7,f8,f9] at hE ⊢;clear f0 f1 f2 f4 f5 f7 f8 f9;go_wp2;exact .mk (hE _ _ f11 hC1 rfl)
 intro w1 vals hC1 hf;have f0:vals 0=_:=hf 0 (by decide) rfl;have f1:vals 1=_:=hf 1 (by decide) rfl;have f2:vals 2=_:=hf 2 (by decide) rfl;have f4:vals 4=_:=hf 4 (by decide) rfl;have f5:vals 5=_:=hf 5 (by decide) rfl;have f7:vals 7=_:=hf 7 (by decide) rfl;have f8:vals 8=_:=hf 8 (by decide) rfl;have f9:vals 9=_:=hf 9 (by decide) rfl;have f10:(One 3 (.int .i64 fields.length)) (vals 10) w1:=hf 10 (by decide) rfl;have f11:(Row B W0 v L5) (vals 11) w1:=hf 11 (by decide) rfl;have f12:(Row B W0 v L5) (vals 12) w1:=hf 12 (by decide) rfl
 try dsimp only at f0 f1 f2 f4 f5 f7 f8 f9 f10 f11 f12
 clear hf;simp only [sP,f0,f1,f2,f4,f5,f7,f8,f9];clear f0 f1 f2 f4 f5 f7 f8 f9;generalize vals 3=x3 at *;generalize vals 6=x6 at *;generalize vals 10=x10 at *;generalize vals 11=x11 at *;generalize vals 12=x12 at *;obtain ⟨A5,c5,rfl,hown5,hn5⟩:=f12;clear f10 f11 HI0 HC0;obtain ⟨Lo,hLo⟩:∃ Lo:Nat→List UInt8,Lo=fun k=>L5++(fields.take k).flatMap frameB:=⟨_,rfl⟩
 have hlo:∀ k,k≤fields.length→(Lo k).length≤8000+k*1002:=by
  intro k
  induction k with
  | zero=>intro _; rw [hLo]; simp; omega
  | succ k ih =>
   intro hk;have h1:=ih (by omega)
   have h2:Lo (k+1)=Lo k++frameB (fields[k]'(by omega)):=by
    rw [hLo];simp only [List.take_succ_eq_append_getElem (show k<fields.length by omega),List.flatMap_append,List.flatMap_cons,List.flatMap_nil,List.append_nil,List.append_assoc]
   have h3:=h8 _ (List.getElem_mem (show k<fields.length by omega));rw [h2,List.length_append,qaJ];omega
 have hLs:∀ k,(hk:k<fields.length)→Lo (k+1)=Lo k++frameB fields[k]:=by
  intro k hk;rw [hLo];simp only [List.take_succ_eq_append_getElem hk,List.flatMap_append,List.flatMap_cons,List.flatMap_nil,List.append_nil,List.append_assoc]
 have hL0:Lo 0=L5:=by rw [hLo]; simp
 have hLe:Lo fields.length=l++bodyB ⟨kind,src,dst,seq,fields,sig⟩:=by
  rw [hLo,HL5.out,HL4.out,HL3.out,HL2.out,HL1.out];simp [bodyB]
 have HLO:=zY hlo;have HLS:=zY hLs;have HL0:=zY hL0;have HLE:=zY hLe;clear hLo hlo hLs hL0 hLe;have hc4:=HC.out _ hC1 4;simp at hc4;go_wp2_with fail
 go_loopw [0,31] (fun x i wr=>∃ k:Nat,k≤fields.length∧i=.int .i64 k∧Row B W0 v (Lo k) x wr∧W0.grownBy wr v.ownBlock) (fun _ i _=>fields.length - (intOf i).toNat)
 case atStart =>
  refine ⟨0,Nat.zero_le _,rfl,?_,hC1⟩;rw [HL0.out];exact ⟨A5,c5,rfl,hown5,hn5⟩
 case round =>
  obtain ⟨k,hk,rfl,⟨A6,c6,rfl,hown6,hn6⟩,hC2⟩:=hrel
  by_cases hlt:k<fields.length
  ·obtain ⟨ad,rfl,hadB,hcl⟩:=hr.at_ (k:=k) (by rw [qa2]; exact hlt);simp only [strsV,List.getElem_map] at hcl
   have hcr:wr.cell? (ad.add k)=some (.string fields[k]):=by
    rw [← hcl,World.cell?_of_block (hC2.block _ (by rw [qaC]; have:=HS.out; omega) ?_),HW0.out,World.cell?_alloc_lt _ _ _ (by rw [qaC]; omega)];rw [qaC];intro e;have:=hown.lt _ e.symm;omega
   have hsz:=h8 _ (List.getElem_mem hlt);have hlk:=HLO.out k hk;go_wp2_with fail;refine (qc4 B _ (Lo k) fields[k] _ (by have:=hC2.size; omega) hown6 (by omega) (by omega) (HLS.out k hlt)).mono ?_;rintro e w2 ⟨A7,c7,rfl,hown7,hgr7,hn7⟩;go_wp2_with fail
   go_roundw
   case rel=>exact ⟨k+1,hlt,by go_num,⟨A7,c7,rfl,hown7,hn6.trans (hn7.back hC2.size) (Nat.le_refl _)⟩,qa3 hC2 hn6 hgr7⟩
   case measure=>simp [intOf]; omega
  ·obtain rfl:k=fields.length:=by omega
   go_wp2_with fail;go_ret;have hs:=HS.out;have hg0:w.grownBy W0 v.ownBlock:=by rw [HW0.out]; exact World.grownBy_alloc _ _ _
   rw [← HLE.out];exact PutPost.mk_ (n:=(Lo fields.length).length) hown6 (hg0.trans hC2) (hn6.back (by omega))
theorem long_any (s:ByteArray) (w:World) (hs:s.size≤9223372036854775807) :
  Calls Tryd.prog 56 #[.string s] w fun e w'=>e=.returned (.bool (decide (1000<s.size)))∧w=w':=by
 go_enter Tryd.func56,Tryd.ntmps56;go_wp2;go_ret;exact ⟨by simp; omega,rfl⟩
theorem indexLong_any (A:Option Addr) (c B:Nat) (l:List ByteArray) (w:World) (hr:Rd w B A (strsV l)) (hc:l.length≤c) (hm:l.length≤9223372036854775807) (hs:∀ s ∈ l,s.size≤9223372036854775807) :
  Calls Tryd.prog 70 #[.slice A l.length c,.func (.func 56) #[] #[]] w fun e w'=>e=.returned (.int .i64 (firstLong l))∧w=w':=by
 go_enter Tryd.func70,Tryd.ntmps70;go_wp2_with fail
 go_loop [8] (fun i=>∃ k:Nat,k≤l.length∧i=.int .i64 k∧∀ j,(h:j<l.length)→j<k→¬ 1000<(l[j]).size) (fun i=>l.length - (intOf i).toNat)
 case atStart=>exact ⟨0,Nat.zero_le _,rfl,fun j _ h=>absurd h (by omega)⟩
 case round =>
  obtain ⟨k,hk,rfl,hno⟩:=hrel
  by_cases hlt:k<l.length
  ·obtain ⟨ad,rfl,_,hcell⟩:=hr.at_ (k:=k) (by rw [qa2]; exact hlt);simp only [strsV,List.getElem_map] at hcell;have HN:=zY hno;clear hno;have hsz:=hs l[k] (List.getElem_mem hlt);go_wp2_with (go_at_call 56; refine (long_any _ _ hsz).mono ?_; rintro e w' ⟨rfl,rfl⟩)
   ·go_ret;have h1:1000<l[k].size:=by omega
    exact ⟨ret_int (firstLong_some hlt h1 (fun j h hj=>HN.out j h hj)).symm,rfl⟩
   ·go_round
    case rel =>
     refine ⟨k+1,hlt,by go_num,fun j h hj=>?_⟩
     by_cases e:j=k
     ·subst e; omega
     ·exact HN.out j h (by omega)
    case measure=>simp [intOf]; omega
  ·go_wp2_with fail;go_ret;exact ⟨ret_int (firstLong_none (fun j h=>hno j h (by omega))).symm,rfl⟩
theorem qcy (A:Option Addr) (c B:Nat) (l:List ByteArray) (w:World) (hr:Rd w B A (strsV l)) (hc:l.length≤c) (hm:l.length≤9223372036854775807) (hs:∀ s ∈ l,s.size≤9223372036854775807) :
  Calls Tryd.prog 57 #[.slice A l.length c,.func (.func 56) #[] #[]] w fun e w'=>e=.returned (.bool (anyLong l))∧w=w':=by
 go_enter Tryd.func57,Tryd.ntmps57;go_wp2_with fail;refine (indexLong_any A c B l _ hr hc hm hs).mono ?_;rintro e w' ⟨rfl,rfl⟩;go_wp2_with fail;go_ret;exact ⟨qaY (by rw [Bool.eq_iff_iff,decide_eq_true_iff]; exact firstLong_neg l),rfl⟩
theorem may_any (m:MsgD) (A:Option Addr) (c B:Nat) (w:World) (hr:Rd w B A (strsV m.fields)) (hB:B≤w.heap.size) (hc:m.fields.length≤c) (ok:MsgOk m) :
  Calls Tryd.prog 34 #[.agg (msgCells m A c)] w fun e w'=>e=.returned (.bool (mayB m))∧w'=w.alloc (.cells (msgCells m A c) 25):=by
 obtain ⟨kind,src,dst,seq,fields,sig⟩:=m;obtain ⟨ok1,ok2,ok3,ok4,ok5⟩:=ok;dsimp only [msgCells] at *;have hr2:Rd (w.alloc (.cells #[.int .i64 kind,.string src,.string dst,.int .i64 seq,.slice A fields.length c,.string sig] 25)) B A (strsV fields):=hr.below ((Below.refl _ _).alloc hB _);go_enter Tryd.func34,Tryd.ntmps34
 go_wp2_with (first
  | (go_at_call 56; refine (long_any _ _ (by assumption)).mono ?_; rintro e w' ⟨rfl,rfl⟩)
  | (go_at_call 57; refine (qcy A c B fields _ hr2 hc ok4 ok5).mono ?_; rintro e w' ⟨rfl,rfl⟩))
 all_goals go_ret
 all_goals refine ⟨qaY ?_,rfl⟩
 all_goals first
  | exact may_end _ _ _ _ _ _ ‹_› ‹_› ‹_› ‹_› ‹_› ‹_› ‹_› ‹_› ‹_›
  | exact may_end0 _ _ _ _ _ _ ‹_› ‹_› ‹_› ‹_› ‹_› ‹_› ‹_› ‹_› ‹_›
  | (simp only [mayB]; simp [*]; done) | (simp only [mayB]; simp [*]; omega)
theorem qbd {m:MsgD} (h:mayB m=true):0≤m.kind∧m.kind≤255∧0≤m.seq∧m.seq≤1099511627776∧m.fields.length≤8∧m.src.size≤1000∧m.dst.size≤1000∧(∀ s ∈ m.fields,s.size≤1000)∧m.sig.size≤64:=by
 simp only [mayB,anyLong,Bool.and_eq_true,Bool.or_eq_true,decide_eq_true_eq,Bool.not_eq_true',decide_eq_false_iff_not,List.any_eq_false] at h;obtain ⟨⟨⟨⟨⟨⟨⟨⟨h1,h2⟩,h3⟩,h4⟩,h5⟩,h6⟩,h7⟩,h8⟩,h9⟩:=h;exact ⟨by omega,h2,h3,h4,h5,by omega,by omega,fun s hs=>by have:=h8 s hs; omega,by omega⟩
def prefixB:List UInt8:=[98,114,101,118,101,116,47]
theorem prefix_cells:bytesV prefixB=(#[.int .u8 98,.int .u8 114,.int .u8 101,.int .u8 118,.int .u8 101,.int .u8 116,.int .u8 47]:Array Value).toList:=rfl
def textB (m:MsgD):List UInt8:=prefixB++bodyB m
def TextPost (m:MsgD) (w:World) (e:Ending) (w':World):Prop :=
 Below w.heap.size w w'∧if mayB m then ∃ A c,e=.returned (.tuple #[.slice A (textB m).length c,.int .i64 0])∧OwnX w' w.heap.size 5 1 (.slice A (textB m).length c) (textB m).length (bytesV (textB m))
  else e=.returned (.tuple #[.slice none 0 0,.int .i64 1])
theorem text_any (m:MsgD) (A:Option Addr) (c B:Nat) (w:World) (hr:Rd w B A (strsV m.fields)) (hB:B≤w.heap.size) (hc:m.fields.length≤c) (ok:MsgOk m) :
  Calls Tryd.prog 17 #[.agg (msgCells m A c)] w (TextPost m w):=by
 have hb1:Below w.heap.size w (w.alloc (.cells (msgCells m A c) 25)):=(Below.refl _ _).alloc (Nat.le_refl _) _;have hr1:=hr.below (hb1.mono hB);have hb2:Below w.heap.size w ((w.alloc (.cells (msgCells m A c) 25)).alloc (.cells (msgCells m A c) 25)):=hb1.alloc (by simp) _;have hr2:=hr.below (hb2.mono hB)
 by_cases hm:mayB m=true
 ·obtain ⟨f1,f2,f3,f4,f5,f6,f7,f8,f9⟩:=qbd hm;have HM:=zY hm;obtain ⟨L,hL⟩:=eX (textB m);have HL:=zY hL;clear hL;have hmay:=may_any m A c B (w.alloc (.cells (msgCells m A c) 25)) hr1 (by simp; omega) hc ok;rw [hm] at hmay;clear hm
  have hbody:∀ (W:World) (A1:Option Addr) (c1:Nat),Below w.heap.size w W→w.heap.size≤W.heap.size→OwnX W w.heap.size 5 1 (.slice A1 7 c1) 7 (bytesV prefixB) →
    Calls Tryd.prog 35 #[.slice A1 7 c1,.agg (msgCells m A c)] W (PutPost w.heap.size (.slice A1 7 c1) L W):=fun W A1 c1 hW hsz ho=>by
   rw [HL.out];exact body_any w.heap.size (.slice A1 7 c1) prefixB m A c W hsz ho ((hr.below (hW.mono hB)).mono hB) hc (by decide) f1 f2 f3 f4 f5 f6 f7 f8
  have HMAY:=zY hmay;have HBODY:=zY hbody;have HR:=zY hr;have HB1:=zY hb1;have HB2:=zY hb2;clear hmay hbody hr hr1 hr2 hb1 hb2;obtain ⟨kind,src,dst,seq,fields,sig⟩:=m;dsimp only [msgCells] at *;have hcv:=fun (W:World) (C:Array Value) (n c g:Nat) (hg:g=W.heap.size)=>Joins.run_convert_bytes_const_at (P:=Tryd.prog) W 22 5 C n c g hg Tryd.underlying22 Tryd.underlying5;go_enter Tryd.func17,Tryd.ntmps17;go_wp2_with fail;refine HMAY.out.mono ?_;rintro e w1 ⟨rfl,rfl⟩;go_wp2_with fail;refine qab (HBODY.out _ _ _ ?_ ?_ ?_) ?_
  ·exact HB2.out.alloc (by simp; omega) _
  ·simp; omega
  ·rw [prefix_cells];exact own_const (by simp) rfl (by decide) (by simp; omega)
  rintro e w2 ⟨A2,c2,rfl,hown2,hgr2,hn2⟩;go_wp2_with fail;go_ret2;refine ⟨?_,?_⟩
  ·refine Below.trans (HB2.out.alloc (by simp; omega) _) (qbb hgr2 (by simp; omega) ?_);intro k hk;simp [Value.ownBlock] at hk;omega
  ·rw [if_pos HM.out,← HL.out];exact ⟨_,_,rfl,hown2⟩
 ·have hm':mayB m=false:=by simpa using hm
  have hmay:=may_any m A c B (w.alloc (.cells (msgCells m A c) 25)) hr1 (by simp; omega) hc ok;rw [hm'] at hmay;have HM:=zY hm;have HMAY:=zY hmay;have HB2:=zY hb2;clear hm hm' hmay hr hr1 hr2 hb1 hb2;obtain ⟨kind,src,dst,seq,fields,sig⟩:=m;dsimp only [msgCells] at *;go_enter Tryd.func17,Tryd.ntmps17;go_wp2_with fail;refine HMAY.out.mono ?_;rintro e w1 ⟨rfl,rfl⟩;go_wp2_with fail;go_ret2;refine ⟨HB2.out,?_⟩;rw [if_neg HM.out];rfl
def packB (m:MsgD):List UInt8:=bodyB m++beB m.sig.size 1 1++m.sig.data.toList
theorem frames_le (l:List ByteArray) (h:∀ s ∈ l,s.size≤1000):(l.flatMap frameB).length≤l.length*1002:=by
 induction l with
 | nil=>simp
 | cons a l ih =>
  have h1:=ih fun s hs=>h s (List.mem_cons_of_mem _ hs);have h2:=h a (List.mem_cons_self ..);rw [List.flatMap_cons,List.length_append,qaJ,List.length_cons];omega
theorem qa6 {m:MsgD} (h:mayB m=true):(bodyB m).length≤12000:=by
 obtain ⟨f1,f2,f3,f4,f5,f6,f7,f8,f9⟩:=qbd h;have:=frames_le m.fields f8;simp only [bodyB,List.length_append,qaI,qaJ];omega
def PackPost (m:MsgD) (w:World) (e:Ending) (w':World):Prop :=
 Below w.heap.size w w'∧if mayB m then ∃ A c,e=.returned (.tuple #[.slice A (packB m).length c,.int .i64 0])∧OwnX w' w.heap.size 5 1 (.slice A (packB m).length c) (packB m).length (bytesV (packB m))
  else e=.returned (.tuple #[.slice none 0 0,.int .i64 1])
theorem pack_any (m:MsgD) (A:Option Addr) (c B:Nat) (w:World) (hr:Rd w B A (strsV m.fields)) (hB:B≤w.heap.size) (hc:m.fields.length≤c) (ok:MsgOk m) :
  Calls Tryd.prog 18 #[.agg (msgCells m A c)] w (PackPost m w):=by
 have hb1:Below w.heap.size w (w.alloc (.cells (msgCells m A c) 25)):=(Below.refl _ _).alloc (Nat.le_refl _) _;have hr1:=hr.below (hb1.mono hB);have hb2:Below w.heap.size w ((w.alloc (.cells (msgCells m A c) 25)).alloc (.cells (msgCells m A c) 25)):=hb1.alloc (by simp) _;have hmay:=may_any m A c B (w.alloc (.cells (msgCells m A c) 25)) hr1 (by simp; omega) hc ok
 by_cases hm:mayB m=true
 ·obtain ⟨f1,f2,f3,f4,f5,f6,f7,f8,f9⟩:=qbd hm;rw [hm] at hmay;obtain ⟨L1,hL1⟩:=eX (bodyB m);obtain ⟨L2,hL2⟩:=eX (L1++beB m.sig.size 1 1);obtain ⟨L3,hL3⟩:=eX (packB m);have hl1:L1.length≤12000:=by rw [hL1]; exact qa6 hm
  have hl2:L2.length≤13000:=by rw [hL2,List.length_append,qaI]; omega
  have hl3:L3=L2++m.sig.data.toList:=by rw [hL3,hL2,hL1]; rfl
  have hl4:L3.length=L2.length+m.sig.size:=by rw [hl3,List.length_append,Array.length_toList]; rfl
  have hbody:∀ (W:World),Below w.heap.size w W→w.heap.size≤W.heap.size→Calls Tryd.prog 35 #[.slice none 0 0,.agg (msgCells m A c)] W (PutPost w.heap.size (.slice none 0 0) L1 W):=fun W hW hsz=>by
   rw [hL1];have:=body_any w.heap.size (.slice none 0 0) [] m A c W hsz (OwnX.nil _ _ _ _) ((hr.below (hW.mono hB)).mono hB) hc (by decide) f1 f2 f3 f4 f5 f6 f7 f8
   rwa [List.nil_append] at this
  have HM:=zY hm;have HL1:=zY hL1;have HL2:=zY hL2;have HL3:=zY hL3;have Hl3:=zY hl3;have Hl4:=zY hl4;have HMAY:=zY hmay;have HBODY:=zY hbody;obtain ⟨W0,hW0⟩:=eX (((w.alloc (.cells (msgCells m A c) 25)).alloc (.cells (msgCells m A c) 25)));rw [← hW0] at hb2
  have hbox:W0.heap[w.heap.size]?=some (.cells (msgCells m A c) 25 (0,0)):=by
   rw [hW0,Below.heap_alloc _ _ _ (by simp)]; exact heap_alloc_new w _
  have hsz:W0.heap.size=w.heap.size+2:=by rw [hW0]; simp
  have hcell:∀ (u:World),Below W0.heap.size W0 u→∀ i,u.cell? ⟨w.heap.size,i,none⟩=(msgCells m A c)[i]?:=fun u hu i =>
   cell_of_row _ _ _ _ _ (0,0) ((hu.block _ (by omega)).trans hbox)
  have HC0:Below W0.heap.size W0 W0.drew:=(Below.refl _ _).drew;have HB2:=zY hb2;have HW0:=zY hW0;have HS:=zY hsz;have HC:=zY hcell;clear hm hmay hbody hr hr1 hb1 hb2 hL1 hL2 hL3 hl3 hl4 hbox hsz hcell;obtain ⟨kind,src,dst,seq,fields,sig⟩:=m;dsimp only [msgCells] at *;go_enter Tryd.func18,Tryd.ntmps18;go_wp2_with fail;refine HMAY.out.mono ?_;rintro e w1 ⟨rfl,rfl⟩;go_wp2_with fail;rw [← hW0];clear hW0
  refine qak (fun u=>Below W0.heap.size W0 u) (fun | false=>(fun _=>True) | true=>(fun _=>True)) (fun | false,_=>false | true,_=>false)
   [fun z _=>z 0=.agg #[.int .i64 kind,.string src,.string dst,.int .i64 seq,.slice A fields.length c,.string sig],
    fun z u=>(Row w.heap.size W0 (.slice none 0 0) L1) (z 1) u,
    fun z _=>z 2=.pointer (some ⟨w.heap.size,5,none⟩),
    fun z _=>z 3=.string sig,
    fun z _=>z 4=.int .i64 sig.size,
    fun z u=>(One 3 (.int .i64 sig.size)) (z 5) u,
    fun z u=>(Row w.heap.size W0 (.slice none 0 0) L2) (z 6) u,
    fun z _=>z 7=.pointer (some ⟨w.heap.size,5,none⟩),
    fun z _=>z 8=.string sig,
    fun z u=>(Row w.heap.size W0 (.slice none 0 0) L3) (z 9) u,
    fun z u=>(Row w.heap.size W0 (.slice none 0 0) L3) (z 10) u,
    fun z _=>z 11=.int .i64 0]
   [Eq,KeepBut 5,Eq,Eq,Eq,Alloc1,KeepBut 5,Eq,Eq,KeepBut 5,Eq,Eq]
   (fun i k=>(i == 6 && k == 1) || (i == 9 && k == 1) || (i == 9 && k == 6)) [(0,some 7),(1,some 8),(2,some 9),(3,some 10),(4,some 11),(5,some 12),(6,some 13),(7,some 14),(8,some 15),(9,some 16),(10,some 2),(11,some 3)] (by kernel_rfl) (by kernel_rfl) rfl (fun _=>rfl) ?_ ?_ ?_ ?_ ?_ ?_
  ·exact HC0
  ·intro m; cases m; exact trivial; exact trivial
  ·intro m; cases m
   ·refine ⟨?_,?_,?_,?_,?_,?_,?_,?_,?_,?_,?_,?_,trivial⟩ <;> first | exact .inr fun _ _ h h0=>h▸h0 | exact .inr fun _ _ _ h=>h
   ·refine ⟨?_,?_,?_,?_,?_,?_,?_,?_,?_,?_,?_,?_,trivial⟩ <;> first | exact .inr fun _ _ h h0=>h▸h0 | exact .inr fun _ _ _ h=>h
  ·refine ⟨⟨.inl rfl,?_,?_,?_,?_,?_,?_,?_,?_,?_,?_,?_,trivial⟩,⟨?_,.inl rfl,?_,?_,?_,.inr (.inr (.inr (fun _ _ _ _ h h0=>h0.keep h (by decide)))),?_,?_,?_,?_,?_,?_,trivial⟩,⟨?_,?_,.inl rfl,?_,?_,?_,?_,?_,?_,?_,?_,?_,trivial⟩,⟨?_,?_,?_,.inl rfl,?_,?_,?_,?_,?_,?_,?_,?_,trivial⟩,⟨?_,?_,?_,?_,.inl rfl,?_,?_,?_,?_,?_,?_,?_,trivial⟩,⟨?_,.inr (.inr (.inr (fun _ _ _ _ h h0=>h0.alloc1 h))),?_,?_,?_,.inl rfl,?_,?_,?_,?_,?_,?_,trivial⟩,⟨?_,.inr (.inl rfl),?_,?_,?_,.inr (.inr (.inr (fun _ _ _ _ h h0=>h0.keep h (by decide)))),.inl rfl,?_,?_,?_,?_,?_,trivial⟩,⟨?_,?_,?_,?_,?_,?_,?_,.inl rfl,?_,?_,?_,?_,trivial⟩,⟨?_,?_,?_,?_,?_,?_,?_,?_,.inl rfl,?_,?_,?_,trivial⟩,⟨?_,.inr (.inl rfl),?_,?_,?_,.inr (.inr (.inr (fun _ _ _ _ h h0=>h0.keep h (by decide)))),.inr (.inl rfl),?_,?_,.inl rfl,?_,?_,trivial⟩,⟨?_,?_,?_,?_,?_,?_,?_,?_,?_,?_,.inl rfl,?_,trivial⟩,⟨?_,?_,?_,?_,?_,?_,?_,?_,?_,?_,?_,.inl rfl,trivial⟩,trivial⟩ <;> first | exact .inr (.inr (.inl rfl)) | exact .inr (.inr (.inr fun _ _ _ _ _ h=>h)) | exact .inr (.inr (.inr fun _ _ _ _ h h0=>by cases h; exact h0))
  ·refine ⟨?_,?_,?_,?_,?_,?_,?_,?_,?_,?_,?_,?_,trivial⟩
   ·refine qaa [] (fun _=>rfl) rfl ?_;intro w1 vals hC1 hi0 hf E hE;clear hi0;clear hf;have c0:=HC.out w1 hC1 0;have c1:=HC.out w1 hC1 1;have c2:=HC.out w1 hC1 2;have c3:=HC.out w1 hC1 3;have c4:=HC.out w1 hC1 4;have c5:=HC.out w1 hC1 5;simp at c0 c1 c2 c3 c4 c5;simp only [sP] at hE ⊢;go_wp2;exact .mk (hE _ _ rfl hC1 rfl)
   ·refine qaa [(0,some 7)] (fun _=>rfl) rfl ?_;intro w1 vals hC1 hi0 hf E hE;clear hi0;have f0:vals 0=_:=hf 0 rfl
    try dsimp only at f0
    clear hf;simp only [sP,f0] at hE ⊢;clear f0;go_wp2_with fail;refine qab (HBODY.out _ (HB2.out.trans (hC1.mono HB2.out.size)) (by have:=hC1.size; have:=HS.out; omega)) ?_;rintro e w2 ⟨A1,c1,rfl,hown1,hgr1,hn1⟩;go_wp2_with fail;exact .mk (hE _ _ ⟨A1,c1,rfl,hown1,hn1.back hC1.size⟩ (qda hC1 (.inl rfl) hgr1) (qau (OwnX.nil _ 0 _ 1) hgr1))
   ·refine qaa [] (fun _=>rfl) rfl ?_;intro w1 vals hC1 hi0 hf E hE;clear hi0;clear hf;simp only [sP] at hE ⊢;go_wp2;exact .mk (hE _ _ rfl hC1 rfl)
   ·refine qaa [(2,some 9)] (fun _=>rfl) rfl ?_;intro w1 vals hC1 hi0 hf E hE;clear hi0;have f2:vals 2=_:=hf 2 rfl
    try dsimp only at f2
    clear hf;have hc0:=HC.out w1 hC1 5;simp at hc0;simp only [sP,f2] at hE ⊢;clear f2;go_wp2;exact .mk (hE _ _ rfl hC1 rfl)
   ·refine qaa [(3,some 10)] (fun _=>rfl) rfl ?_;intro w1 vals hC1 hi0 hf E hE;clear hi0;have f3:vals 3=_:=hf 3 rfl
    try dsimp only at f3
    clear hf;simp only [sP,f3] at hE ⊢;clear f3;go_wp2;exact .mk (hE _ _ rfl hC1 rfl)
   ·refine qaa [(4,some 11)] (fun _=>rfl) rfl ?_;intro w1 vals hC1 hi0 hf E hE;clear hi0;have f4:vals 4=_:=hf 4 rfl
    try dsimp only at f4
    clear hf;simp only [sP,f4] at hE ⊢;clear f4;go_wp2;exact .mk (hE _ _ (One.new _ _ _) (hC1.alloc hC1.size _) ⟨_,rfl⟩)
   ·refine qaa [(1,some 8),(5,some 12),(1,some 8)] (fun _=>rfl) rfl ?_;intro w1 vals hC1 hi0 hf E hE;clear hi0;have f1:(Row w.heap.size W0 (.slice none 0 0) L1) (vals 1) w1:=hf 1 rfl;have f5:(One 3 (.int .i64 sig.size)) (vals 5) w1:=hf 5 rfl
    try dsimp only at f1 f5
    clear hf;obtain ⟨g,hx,hg⟩:=f5;obtain ⟨A1,c1,hx1,hown1,hn1⟩:=f1;simp only [sP,hx,hx1] at hE ⊢;clear hx hx1;go_wp2_with fail;refine qab (put1 (B:=w.heap.size) (l:=L1) (n:=sig.size) (by have:=hC1.size; have:=HS.out; omega) hown1 hg (by omega) (by omega) (by omega) HL2.out) ?_;rintro e w2 ⟨A2,c2,rfl,hown2,hgr2,hn2⟩;go_wp2_with fail;exact .mk (hE _ _ ⟨A2,c2,rfl,hown2,hn1.trans (hn2.back hC1.size) (Nat.le_refl _)⟩ (qda hC1 hn1 hgr2) (qau hown1 hgr2))
   ·refine qaa [] (fun _=>rfl) rfl ?_;intro w1 vals hC1 hi0 hf E hE;clear hi0;clear hf;simp only [sP] at hE ⊢;go_wp2;exact .mk (hE _ _ rfl hC1 rfl)
   ·refine qaa [(7,some 14)] (fun _=>rfl) rfl ?_;intro w1 vals hC1 hi0 hf E hE;clear hi0;have f7:vals 7=_:=hf 7 rfl
    try dsimp only at f7
    clear hf;have hc0:=HC.out w1 hC1 5;simp at hc0;simp only [sP,f7] at hE ⊢;clear f7;go_wp2;exact .mk (hE _ _ rfl hC1 rfl)
   ·refine qaa [(6,some 13),(8,some 15),(6,some 13)] (fun _=>rfl) rfl ?_;intro w1 vals hC1 hi0 hf E hE;clear hi0;have f6:(Row w.heap.size W0 (.slice none 0 0) L2) (vals 6) w1:=hf 6 rfl;have f8:vals 8=_:=hf 8 rfl
    try dsimp only at f6 f8
    clear hf;obtain ⟨A1,c1,hx1,hown1,hn1⟩:=f6;simp only [sP,f8,hx1] at hE ⊢;clear f8;clear hx1;go_wp2_with (refine qa7 sl_bytes zero_u8 Tryd.underlying9 rfl rfl hown1 rfl rfl (by omega) (by have:=hC1.size; have:=HS.out; omega) ?_; intro A2 c2 w2 hown2 hgr2 hn2);have e1:bytesV L2++Lib.strCells sig=bytesV L3:=by rw [Hl3.out,qaz]; rfl
    rw [e1,← Hl4.out] at hown2;rw [← Hl4.out] at hn2 ⊢;exact .mk (hE _ _ ⟨A2,c2,rfl,hown2,hn1.trans (hn2.back hC1.size) (Nat.le_refl _)⟩ (qda hC1 hn1 hgr2) (qau hown1 hgr2))
   ·refine qaa [(9,some 16),(9,some 16),(0,some 7),(1,some 8),(2,some 9),(3,some 10),(4,some 11),(5,some 12),(6,some 13),(7,some 14),(8,some 15),(9,some 16)] (fun _=>rfl) rfl ?_;intro w1 vals hC1 hi0 hf E hE;clear hi0;have f0:vals 0=_:=hf 0 rfl;have f2:vals 2=_:=hf 2 rfl;have f3:vals 3=_:=hf 3 rfl;have f4:vals 4=_:=hf 4 rfl;have f5:(One 3 (.int .i64 sig.size)) (vals 5) w1:=hf 5 rfl;have f7:vals 7=_:=hf 7 rfl;have f8:vals 8=_:=hf 8 rfl;have f9:(Row w.heap.size W0 (.slice none 0 0) L3) (vals 9) w1:=hf 9 rfl
    try dsimp only at f0 f2 f3 f4 f5 f7 f8 f9
    clear hf;simp only [sP,f0,f2,f3,f4,f7,f8] at hE ⊢;clear f0 f2 f3 f4 f7 f8;go_wp2;exact .mk (hE _ _ f9 hC1 rfl)
   ·refine qaa [(10,some 2),(0,some 7),(1,some 8),(2,some 9),(3,some 10),(4,some 11),(5,some 12),(6,some 13),(7,some 14),(8,some 15),(9,some 16),(10,some 2)] (fun _=>rfl) rfl ?_;intro w1 vals hC1 hi0 hf E hE;clear hi0;have f0:vals 0=_:=hf 0 rfl;have f2:vals 2=_:=hf 2 rfl;have f3:vals 3=_:=hf 3 rfl;have f4:vals 4=_:=hf 4 rfl;have f5:(One 3 (.int .i64 sig.size)) (vals 5) w1:=hf 5 rfl;have f7:vals 7=_:=hf 7 rfl;have f8:vals 8=_:=hf 8 rfl;have f9:(Row w.heap.size W0 (.slice none 0 0) L3) (vals 9) w1:=hf 9 rfl;have f10:(Row w.heap.size W0 (.slice none 0 0) L3) (vals 10) w1:=hf 10 rfl
    try dsimp only at f0 f2 f3 f4 f5 f7 f8 f9 f10
    clear hf;simp only [sP,f0,f2,f3,f4,f7,f8] at hE ⊢;clear f0 f2 f3 f4 f7 f8;go_wp2;exact .mk (hE _ _ rfl hC1 rfl)
  intro w1 vals hC1 hf;have f0:vals 0=_:=hf 0 (by decide) rfl;have f2:vals 2=_:=hf 2 (by decide) rfl;have f3:vals 3=_:=hf 3 (by decide) rfl;have f4:vals 4=_:=hf 4 (by decide) rfl;have f5:(One 3 (.int .i64 sig.size)) (vals 5) w1:=hf 5 (by decide) rfl;have f7:vals 7=_:=hf 7 (by decide) rfl;have f8:vals 8=_:=hf 8 (by decide) rfl;have f9:(Row w.heap.size W0 (.slice none 0 0) L3) (vals 9) w1:=hf 9 (by decide) rfl;have f10:(Row w.heap.size W0 (.slice none 0 0) L3) (vals 10) w1:=hf 10 (by decide) rfl;have f11:vals 11=_:=hf 11 (by decide) rfl
  try dsimp only at f0 f2 f3 f4 f5 f7 f8 f9 f10 f11
  clear hf;simp only [sP,f0,f2,f3,f4,f7,f8,f11];clear f0 f2 f3 f4 f7 f8 f11;generalize vals 1=x1 at *;generalize vals 5=x5 at *;generalize vals 6=x6 at *;generalize vals 9=x9 at *;generalize vals 10=x10 at *;obtain ⟨A3,c3,rfl,hown3,hn3⟩:=f10;clear f1 f5 f6 f9;go_wp2_with fail;go_ret2;refine ⟨HB2.out.trans (hC1.mono HB2.out.size),?_⟩;rw [if_pos HM.out,← HL3.out];exact ⟨_,_,rfl,hown3⟩
 ·have hm':mayB m=false:=by simpa using hm
  rw [hm'] at hmay;have HM:=zY hm;have HMAY:=zY hmay;have HB2:=zY hb2;clear hm hm' hmay hr hr1 hb1 hb2;obtain ⟨kind,src,dst,seq,fields,sig⟩:=m;dsimp only [msgCells] at *;go_enter Tryd.func18,Tryd.ntmps18;go_wp2_with fail;refine HMAY.out.mono ?_;rintro e w1 ⟨rfl,rfl⟩;go_wp2_with fail;go_ret2;refine ⟨HB2.out,?_⟩;rw [if_neg HM.out];rfl
set_option maxRecDepth 100000
theorem qas:(Tryd.prog.info? 25).map (·.size)=some 6:=by kernel_rfl
theorem be2_cells (n:Nat):bytesV (beB (n:Int) 2 2)=[.int .u8 ((n:Int)/256%256),.int .u8 ((n:Int)%256)]:=by
 simp only [beB,bytesV,List.nil_append,List.cons_append,List.map_cons,List.map_nil];rw [qaF _ (by omega),qaF _ (by omega)];simp
theorem be1_cells (n:Int) (h:0≤n):bytesV (beB n 1 1)=[.int .u8 (n%256)]:=by
 simp only [beB,bytesV,List.nil_append,List.map_cons,List.map_nil];rw [qaF _ (by omega)];simp
theorem qcl (B:Nat) (v:Value) (l:List UInt8) (s:ByteArray) (w:World) (hB:B≤w.heap.size) (hown:OwnX w B 5 1 v l.length (bytesV l))
  (hs:s.size≤1000000) (hl:l.length≤1000000) {L:List UInt8} (hL:L=l++frameB s) :
  Calls Tryd.prog 29 #[v,.string s] w (PutPost B v L w):=by
 have HL:=zY hL;clear hL;have hul:=Tryd.underlying9;go_enter Tryd.func29,Tryd.ntmps29
 go_wp2_with (first
  | (refine qch (m:=2) sl_bytes rfl rfl hown rfl rfl rfl rfl (by intro u hu; simp at hu; rcases hu with rfl | rfl <;> rfl) (by unfold maxLen; omega) (by omega) hB ?_; intro A1 c1 w1 hown1 hgr1 hn1)
  | (refine qa7 sl_bytes zero_u8 hul rfl rfl hown1 rfl rfl (by omega) (by have:=hgr1.size; omega) ?_; intro A2 c2 w2 hown2 hgr2 hn2))
 go_ret;have hL:=HL.out;subst hL;refine PutPost.mk_ (n:=l.length+2+s.size) ?_ (qa3 hgr1 hn1 hgr2) (hn1.trans hn2 hgr1.size);rw [frameB,← List.append_assoc,qaz _ s.data.toList,qaz,be2_cells];have e1:(s.size:Int)%256%256=(s.size:Int)%256:=by omega
 exact hown2
def eight (n:Int):Nat→List Value
 | 0=>[.int .u8 0,.int .u8 0,.int .u8 0,.int .u8 0,.int .u8 0,.int .u8 0,.int .u8 0,.int .u8 0]
 | k+1=>(eight n k).set (7 - k) (.int .u8 (n/256^k%256))
theorem qcu (n:Int):∀ k,(eight n k).length=8
 | 0=>rfl
 | k+1=>by rw [eight,List.length_set,qcu n k]
theorem eight_done (n:Int) (h:0≤n):eight n 8=bytesV (beB n 8 8):=by
 have hd:∀ k:Nat,(0:Int)≤n/256^k:=fun k=>Int.ediv_nonneg h (by exact_mod_cast Nat.zero_le _);simp only [eight,beB,bytesV,List.nil_append,List.cons_append,List.map_cons,List.map_nil];rw [qaF _ (by omega),qaF _ (by omega),qaF _ (by omega),qaF _ (by omega),qaF _ (by omega),qaF _ (by omega),qaF _ (by omega),qaF _ (by omega)];simp
theorem rbody_any (m:MsgD) (A:Option Addr) (c B:Nat) (w:World) (hr:Rd w B A (strsV m.fields)) (hB:B≤w.heap.size) (hc:m.fields.length≤c) (hm:mayB m=true) :
  Calls Tryd.prog 10 #[.agg (msgCells m A c)] w (PutPost w.heap.size (.slice none 0 0) (bodyB m) w):=by
 obtain ⟨f1,f2,f3,f4,f5,f6,f7,f8,f9⟩:=qbd hm;clear hm;obtain ⟨L1,hL1⟩:=eX (beB m.kind 1 1++beB m.seq 8 8);obtain ⟨L2,hL2⟩:=eX (L1++frameB m.src);obtain ⟨L3,hL3⟩:=eX (L2++frameB m.dst);obtain ⟨L4,hL4⟩:=eX (L3++beB m.fields.length 1 1);have hl1:L1.length=9:=by rw [hL1,List.length_append,qaI,qaI]
 have hl2:L2.length≤2000:=by rw [hL2,List.length_append,qaJ]; omega
 have hl3:L3.length≤4000:=by rw [hL3,List.length_append,qaJ]; omega
 have hl4:L4.length=L3.length+1:=by rw [hL4,List.length_append,qaI]
 obtain ⟨Lo,hLo⟩:∃ Lo:Nat→List UInt8,Lo=fun k=>L4++(m.fields.take k).flatMap frameB:=⟨_,rfl⟩
 have hLs:∀ k,(hk:k<m.fields.length)→Lo (k+1)=Lo k++frameB m.fields[k]:=by
  intro k hk;rw [hLo];simp only [List.take_succ_eq_append_getElem hk,List.flatMap_append,List.flatMap_cons,List.flatMap_nil,List.append_nil,List.append_assoc]
 have hL0:Lo 0=L4:=by rw [hLo]; simp
 have hlo:∀ k,k≤m.fields.length→(Lo k).length≤8000+k*1002:=by
  intro k
  induction k with
  | zero=>intro _; rw [hL0]; omega
  | succ k ih =>
   intro hk;have h1:=ih (by omega);have h3:=f8 _ (List.getElem_mem (show k<m.fields.length by omega));rw [hLs k (by omega),List.length_append,qaJ];omega
 have hLe:Lo m.fields.length=bodyB m:=by
  rw [hLo,hL4,hL3,hL2,hL1];simp [bodyB]
 obtain ⟨W0,hW0⟩:=eX (w.alloc (.cells (msgCells m A c) 25));have hb0:Below w.heap.size w W0:=by rw [hW0]; exact (Below.refl _ _).alloc (Nat.le_refl _) _
 have hbox:Blk W0 w.heap.size 25 (msgCells m A c):=by rw [hW0]; exact Blk.new _ _ _
 have hsz:W0.heap.size=w.heap.size+1:=by rw [hW0]; simp
 have hcell:∀ (u:World),Below W0.heap.size W0 u→∀ i,u.cell? ⟨w.heap.size,i,none⟩=(msgCells m A c)[i]?:=fun u hu i=>(hbox.below hu (by omega)).cell i;have HL1:=zY hL1;have HL2:=zY hL2;have HL3:=zY hL3;have HL4:=zY hL4;have Hl1:=zY hl1;have Hl4:=zY hl4;have HLS:=zY hLs;have HL0:=zY hL0;have HLO:=zY hlo;have HLE:=zY hLe;have HB0:=zY hb0;have HS:=zY hsz;have HC:=zY hcell;have HW0:=zY hW0;have HR:=zY hr;clear hL1 hL2 hL3 hL4 hl1 hl4 hLs hL0 hlo hLe hLo hb0 hbox hsz hcell hW0 hr;obtain ⟨kind,src,dst,seq,fields,sig⟩:=m;dsimp only [msgCells] at *;have hul:=Tryd.underlying9;have hmk:∀ u:World,(Instr.makeSlice 22 (.int .i64 8) (.int .i64 8)).run Tryd.prog u=.ok (.slice (some ⟨u.heap.size,0,none⟩) 8 8) (u.alloc (.cells #[.int .u8 0,.int .u8 0,.int .u8 0,.int .u8 0,.int .u8 0,.int .u8 0,.int .u8 0,.int .u8 0] 5)):=fun _=>by kernel_rfl
 go_enter Tryd.func10,Tryd.ntmps10;go_wp2_with fail;rw [← HW0.out];obtain ⟨W1,hW1⟩:=eX ((W0.alloc (.cells #[.int .u8 kind] 5)).alloc (.cells #[.int .u8 0,.int .u8 0,.int .u8 0,.int .u8 0,.int .u8 0,.int .u8 0,.int .u8 0,.int .u8 0] 5));rw [← hW1];have hz:=HS.out;have hb1:Below W0.heap.size W0 W1:=by rw [hW1]; exact ((Below.refl _ _).alloc (Nat.le_refl _) _).alloc (by simp) _
 have ho1:OwnX W1 W0.heap.size 5 1 (.slice (some ⟨w.heap.size+1,0,none⟩) 1 1) 1 (bytesV (beB kind 1 1)):=by
  rw [be1_cells _ f1,Int.emod_eq_of_lt f1 (by omega),hW1];exact (own_const (C:=#[.int .u8 kind]) hz.symm rfl (by simp [maxLen]) (Nat.le_refl _)).alloc _
 have hk1:Blk W1 (w.heap.size+2) 5 (eight seq 0).toArray:=by
  have:=Blk.new (W0.alloc (.cells #[.int .u8 kind] 5)) 5 (eight seq 0).toArray;have e:(W0.alloc (.cells #[.int .u8 kind] 5)).heap.size=w.heap.size+2:=by simp [hz]
  rw [e] at this;rw [hW1];exact this
 obtain ⟨N,hN⟩:∃ N:Nat→Int,N=fun k=>seq/256^k:=⟨_,rfl⟩;have hN0:N 0=seq:=by rw [hN]; simp
 have hNs:∀ k,N k/256=N (k+1):=fun k=>by rw [hN]; simp only; rw [Int.pow_succ,Int.ediv_ediv_of_nonneg (Int.pow_nonneg (by decide))]
 have hNb:∀ k,0≤N k∧N k≤1099511627776:=fun k=>by
  rw [hN];exact ⟨Int.ediv_nonneg f3 (Int.pow_nonneg (by decide)),Int.le_trans (Int.ediv_le_self _ f3) f4⟩
 have hNe:∀ k,eight seq (k+1)=(eight seq k).set (7 - k) (.int .u8 (N k%256)):=fun k=>by rw [hN]; rfl
 have HN0:=zY hN0;have HNS:=zY hNs;have HNB:=zY hNb;have HNE:=zY hNe;clear hN hN0 hNs hNb hNe hW1
 go_loopw [5,6] (fun n i wr=>∃ k:Nat,k≤8∧i=.int .i64 (7 - (k:Int))∧n=.int .i64 (N k)∧Blk wr (w.heap.size+2) 5 (eight seq k).toArray∧OwnX wr W0.heap.size 5 1 (.slice (some ⟨w.heap.size+1,0,none⟩) 1 1) 1 (bytesV (beB kind 1 1))∧Below W0.heap.size W0 wr) (fun _ i _=>(intOf i+1).toNat)
 case atStart=>exact ⟨0,by omega,by go_num,by rw [HN0.out],hk1,ho1,hb1⟩
 case round =>
  obtain ⟨k,hk,rfl,rfl,hbk,ho2,hb2⟩:=hrel;obtain ⟨hn1,hn2⟩:=HNB.out k
  by_cases hlt:k<8
  ·have hks:(eight seq k).length=8:=qcu seq k;have HKS:=zY hks;clear hks hk1 ho1 hb1;go_wp2_with (refine qao (v:=.int .u8 (N k%256)) (x:=.tmp 24) hbk rfl rfl rfl rfl (by kernel_rfl) (by have:=HKS.out; simp only [List.size_toArray]; omega) rfl ?_; intro w2 hb3 hw3)
   go_roundw
   case rel =>
    have h3:=hw3.own ho2 (by simp [Value.ownBlock]);refine ⟨k+1,hlt,by go_num,by rw [HNS.out],?_,h3,hw3.below hb2 (by omega) hb2.size⟩;rw [HNE.out]
    simpa using hb3
   case measure=>simp [intOf]; omega
  ·obtain rfl:k=8:=by omega
   clear hk1 ho1 hb1;have e8:=eight_done seq f3;rw [e8] at hbk;clear e8;obtain ⟨Z8,hZ8⟩:=eX (bytesV (beB seq 8 8));rw [← hZ8] at hbk;have HZ8:=zY hZ8;clear hZ8;have hz3:w.heap.size+2<wr.heap.size:=hbk.lt;have hrd8:Rd wr wr.heap.size (some ⟨w.heap.size+2,0,none⟩) Z8:=Rd.of_blk hbk hz3;have hl8:Z8.length=8*1:=by rw [HZ8.out,qam,qaI]
   have ho8:∀ u ∈ Z8,u.oneCell'=true:=by rw [HZ8.out]; intro u hu; obtain ⟨x,_,rfl⟩:=List.mem_map.1 hu; rfl
   have HL8:=zY hl8;have HO8:=zY ho8;have HRD8:=zY hrd8;clear hl8 ho8 hrd8 hbk;go_wp2_with (refine qaX (x:=.tmp 28) sl_bytes rfl rfl ho2 rfl rfl HL8.out HRD8.out HO8.out (by unfold maxLen; omega) (by omega) hb2.size ?_; intro A2 c2 w2 ho3 hg3 hn3; have hb3:Below W0.heap.size W0 w2:=hb2.grown hg3 hb2.size (fun j hj=>(ho2.lt j hj).1); have hc1:=HC.out w2 hb3 1; simp at hc1)
   have ho4:OwnX w2 W0.heap.size 5 1 (.slice A2 9 c2) L1.length (bytesV L1):=by
    rw [Hl1.out,HL1.out,qaz,← HZ8.out]; exact ho3
   have hl1:L1.length≤9:=by have:=Hl1.out; omega
   clear hc1;refine qab (qcl W0.heap.size _ L1 src w2 hb3.size ho4 (by omega) (by omega) HL2.out) ?_;rintro e w3 ⟨A3,c3,rfl,ho5,hg5,hn5⟩;have hb5:Below W0.heap.size W0 w3:=hb3.grown hg5 hb3.size (fun j hj=>(ho4.lt j hj).1);have hc2:=HC.out w3 hb5 2;simp at hc2;go_wp2_with fail;clear hc2;refine qab (qcl W0.heap.size _ L2 dst w3 hb5.size ho5 (by omega) (by omega) HL3.out) ?_;rintro e w4 ⟨A4,c4,rfl,ho6,hg6,hn6⟩;have hb6:Below W0.heap.size W0 w4:=hb5.grown hg6 hb5.size (fun j hj=>(ho5.lt j hj).1);have hc4:=HC.out w4 hb6 4;simp at hc4;go_wp2_with (refine qaL sl_bytes rfl rfl ho6 rfl rfl rfl rfl (by unfold maxLen; omega) (by omega) hb6.size ?_; intro A5 c5 w5 ho7 hg7 hn7);have hb7:Below W0.heap.size W0 w5:=hb6.grown hg7 hb6.size (fun j hj=>(ho6.lt j hj).1)
   have ho8:OwnX w5 W0.heap.size 5 1 (.slice A5 (L3.length+1) c5) (L3.length+1) (bytesV L4):=by
    rw [HL4.out,qaz,be1_cells _ (by omega),Int.emod_eq_of_lt (by omega) (by omega)]; exact ho7
   clear ho4 ho5 ho6 ho7 hg3 hg5 hg6 hg7 hn3 hn5 hn6 hn7 hb3 hb5 hb6 hc4 ho2 hb2
   go_loopw [3,7] (fun x i wr=>∃ (k:Nat) (A6:Option Addr) (c6:Nat),k≤fields.length∧i=.int .i64 k∧x=.slice A6 (Lo k).length c6∧OwnX wr W0.heap.size 5 1 (.slice A6 (Lo k).length c6) (Lo k).length (bytesV (Lo k))∧Below W0.heap.size W0 wr) (fun _ i _=>fields.length - (intOf i).toNat)
   case atStart =>
    refine ⟨0,A5,c5,Nat.zero_le _,rfl,?_,?_,hb7⟩
    ·rw [HL0.out,Hl4.out]
    ·rw [HL0.out,Hl4.out]; exact ho8
   case round =>
    rename_i wr0 _
    obtain ⟨k,A6,c6,hk2,rfl,rfl,ho9,hb9⟩:=hrel;have hc5:=HC.out wr hb9 4;simp at hc5
    by_cases hlt2:k<fields.length
    ·obtain ⟨ad,rfl,hadB,hcl⟩:=HR.out.at_ (k:=k) (by rw [qa2]; exact hlt2);simp only [strsV,List.getElem_map] at hcl
     have hcr:wr.cell? (ad.add k)=some (.string fields[k]):=by
      rw [← hcl];have h1:=(hb9.cell (p:=ad.add k) (by rw [qaC]; omega));rw [h1];exact HB0.out.cell (p:=ad.add k) (by rw [qaC]; omega)
     have hsz:=f8 _ (List.getElem_mem hlt2);have hlk:=HLO.out k hk2;go_wp2_with fail;refine qab (qcl W0.heap.size _ (Lo k) fields[k] wr hb9.size ho9 (by omega) (by omega) (HLS.out k hlt2)) ?_;rintro e w6 ⟨A7,c7,rfl,hown7,hgr7,hn7⟩;go_wp2_with fail
     go_roundw
     case rel=>exact ⟨k+1,A7,c7,hlt2,by go_num,rfl,hown7,below_own hb9 ho9 (Nat.le_refl _) hgr7⟩
     case measure=>simp [intOf]; omega
    ·obtain rfl:k=fields.length:=by omega
     go_wp2_with fail;go_ret;rw [← HLE.out];have hB9:Below w.heap.size w wr:=HB0.out.trans (hb9.mono HB0.out.size);exact PutPost.mk_ (n:=(Lo fields.length).length) (ho9.mono HB0.out.size) (grown_of_below hB9 _) (next_nil ho9 HB0.out.size)
def chkS (p:List UInt8) (m:MsgD):Nat:=if mayB m=true then verS p (textB m) m.sig.data.toList else 1
theorem qcA {m:MsgD} (h:mayB m=true):(textB m).length≤20000:=by
 have:=qa6 h;rw [textB,List.length_append,show prefixB.length=7 from rfl];omega
theorem qci (p:List UInt8) (m:MsgD) (lp:p.length≤200) (A C:Option Addr) (ca c:Nat) (w:World) (rp:Rd w w.heap.size A (bytesV p)) (hca:p.length≤ca) (hr:Rd w w.heap.size C (strsV m.fields)) (hc:m.fields.length≤c) (ok:MsgOk m) (hG:Sh.TabG w) :
  Calls Tryd.prog 7 #[.slice A p.length ca,.agg (msgCells m C c)] w (fun e w'=>e=.returned (.int .i64 (chkS p m:Int))∧Below w.heap.size w w'):=by
 have hu:=Tryd.underlying25;have hus:=Tryd.underlying9;have hub:=Tryd.underlying22;have hu8:=Tryd.underlying5;obtain ⟨W0,hW0⟩:=eX (w.alloc (.cells (msgCells m C c) 25));have hb0:Below w.heap.size w W0:=by rw [hW0]; exact below_new _ _
 have hbm:Blk W0 w.heap.size 25 (msgCells m C c):=by rw [hW0]; exact Blk.new _ _ _
 have hbm0:=hbm;rw [hW0] at hbm0;obtain ⟨np,hnp⟩:=eX (p.length);have CT:=zY (text_any m C c w.heap.size W0 (hr.below hb0) hb0.size hc ok);have HST:=zY (show Cs [.box w.heap.size 25 (msgCells m C c),.rd A (bytesV p)] w W0 from ⟨⟨hbm,qan rp hb0,trivial⟩,hb0⟩);have HG:=zY (hG.below hb0 hG.size);have HW0:=zY hW0;obtain ⟨V,hV⟩:=eX (chkS p m);rw [← hV,← hnp]
 by_cases hm:mayB m=true
 ·obtain ⟨f1,f2,f3,f4,f5,f6,f7,f8,f9⟩:=qbd hm;have lt:=qcA hm;obtain ⟨T,hT⟩:=eX (textB m);obtain ⟨S,hS⟩:=eX (m.sig.data.toList);have lS:S.length=m.sig.size:=by rw [hS,Array.length_toList]; rfl
  have hVV:V=verS p T S:=by rw [hV,chkS,if_pos hm,hT,hS]
  obtain ⟨nt,hnt⟩:=eX (T.length);obtain ⟨sg,hsg⟩:=eX (m.sig)
  have CV:=zY (show ∀ u A1 c1 A2 c2,Rd u u.heap.size A (bytesV p)→Rd u u.heap.size A1 (bytesV T)→Rd u u.heap.size A2 (bytesV S)→sg.size≤c2→Sh.TabG u→Calls Tryd.prog 9 #[.slice A np ca,.slice A1 nt c1,.slice A2 sg.size c2] u (fun e w'=>e=.returned (.int .i64 (V:Int))∧Below u.heap.size u w') from fun u A1 c1 A2 c2 h1 h2 h3 h4 g=>by
   have h:=qcO p T S lp (by rw [hT]; exact lt) (by rw [lS]; omega) A A1 A2 ca c1 c2 u h1 h2 h3 hca (by rw [lS,← hsg]; exact h4) g;rw [← hnp,← hnt,lS,← hsg,← hVV] at h;exact h)
  have ct:=CT.out;unfold TextPost at ct;rw [hm,← hT,← hnt] at ct;have CT2:=zY ct;have hcell:(msgCells m C c)[5]?=some (.string sg):=by rw [hsg]; rfl
  have HCE:=zY hcell;have HSD:=zY (show bytesV S=bytesV sg.data.toList by rw [hS,hsg]);clear CT ct hm f1 f2 f3 f4 f5 f6 f7 f8 f9 lt hT hS lS hVV hnt hsg hcell hV hnp hW0 hb0 hbm rp hca hr hc ok hG lp;go_enter Tryd.func7,Tryd.ntmps7;go_wp2_with (refine qac hbm0 rfl rfl rfl hu rfl qas ?_);rw [← HW0.out];clear hbm0;refine qab CT2.out ?_;rintro e w1 ⟨hb,h⟩;rw [if_pos trivial] at h;obtain ⟨A1,c1,rfl,ho⟩:=h;replace HST:=zY (HST.out.next hb);replace HG:=zY (HG.out.below hb HG.out.size);have RT:=zY (Rd.of_own ho (Nat.le_refl _));have d0:w1.cell? ⟨w.heap.size,5,none⟩=some (.string sg):=by rw [Blk.cell HST.out.1.1 5,HCE.out]
  clear ho hb CT2;go_wp2_with (refine qa5 (s:=sg) hus hub hu8 rfl rfl rfl ?_; intro A2 c2 w2 hr2 hc2 hb2; have R2:=zY hr2; have HB2:=zY hb2; have HC2:=zY hc2; clear hr2 hb2 hc2);have HST2:=zY (HST.out.next HB2.out);refine qab (CV.out _ _ _ _ _ HST2.out.1.2.1 (qan RT.out HB2.out) (by rw [HSD.out]; exact R2.out) HC2.out (HG.out.below HB2.out HG.out.size)) ?_;rintro e w3 ⟨rfl,hb⟩;have HF:=zY (HST2.out.2.trans (hb.mono HST2.out.2.size));clear hb d0;go_wp2_with fail;go_ret;exact ⟨rfl,HF.out⟩
 ·have hmb:mayB m=false:=by simpa using hm
  have hVV:V=1:=by rw [hV,chkS,if_neg hm]
  have ct:=CT.out;unfold TextPost at ct;rw [hmb] at ct;have CT2:=zY ct;have HVV:=zY hVV;clear CT ct hm hmb hVV hV hnp hW0 hb0 hbm rp hca hr hc ok hG lp;go_enter Tryd.func7,Tryd.ntmps7;go_wp2_with (refine qac hbm0 rfl rfl rfl hu rfl qas ?_);rw [← HW0.out];clear hbm0;refine qab CT2.out ?_;rintro e w1 ⟨hb,h⟩;rw [if_neg (by simp)] at h;subst h;have HF:=zY (HST.out.next hb).2;clear hb CT2;go_wp2_with fail;go_ret;exact ⟨by rw [HVV.out]; rfl,HF.out⟩
def fewS (s:ByteArray):ByteArray:=if 1010<s.size then s.extract 0 1010 else if 80<s.size∧s.size<900 then s.extract 0 80 else s
theorem few_any (s:ByteArray) (w:World) (hs:s.size≤9223372036854775807) :
  Calls Tryd.prog 16 #[.string s] w fun e w'=>e=.returned (.string (fewS s))∧w=w':=by
 by_cases h1:(1010:Int)<(s.size:Int)
 ·go_enter Tryd.func16,Tryd.ntmps16;go_wp2;go_ret;exact ⟨ret_str (by rw [fewS,if_pos (by omega)]),rfl⟩
 ·by_cases h2:(80:Int)<(s.size:Int)
  ·by_cases h3:(s.size:Int)<(900:Int)
   ·go_enter Tryd.func16,Tryd.ntmps16;go_wp2;go_ret;exact ⟨ret_str (by rw [fewS,if_neg (by omega),if_pos ⟨by omega,by omega⟩]),rfl⟩
   ·go_enter Tryd.func16,Tryd.ntmps16;go_wp2;go_ret;exact ⟨ret_str (by rw [fewS,if_neg (by omega),if_neg (by omega)]),rfl⟩
  ·go_enter Tryd.func16,Tryd.ntmps16;go_wp2;go_ret;exact ⟨ret_str (by rw [fewS,if_neg (by omega),if_neg (by omega)]),rfl⟩
def sameB (a b:List ByteArray):Bool:=decide (a=b)
theorem same9_any (A1 A2:Option Addr) (c1 c2 B:Nat) (a b:List ByteArray) (w:World) (h1:Rd w B A1 (strsV a)) (h2:Rd w B A2 (strsV b)) (hm1:a.length≤9223372036854775807) (hm2:b.length≤9223372036854775807) :
  Calls Tryd.prog 33 #[.slice A1 a.length c1,.slice A2 b.length c2] w fun e w'=>e=.returned (.bool (sameB a b))∧∃ n,w'=w.drewN n:=by
 by_cases hl:a.length=b.length
 ·have hlb:((a.length:Int) != (b.length:Int))=false:=by simp [hl]
  have HL:=zY hl;clear hl;go_enter Tryd.func33,Tryd.ntmps33;go_wp2_with fail
  go_loopw [5] (fun i wr=>∃ k:Nat,k≤a.length∧i=.int .i64 k∧a.take k=b.take k∧∃ n,wr=w.drewN n) (fun i _=>a.length - (intOf i).toNat)
  case atStart=>exact ⟨0,Nat.zero_le _,rfl,rfl,0,rfl⟩
  case round =>
   obtain ⟨k,hk,rfl,htk,n,rfl⟩:=hrel;have HT:=zY htk;clear htk
   by_cases hlt:k<a.length
   ·have hltb:k<b.length:=by have:=HL.out; omega
    obtain ⟨ad1,rfl,_,hc1⟩:=h1.at_ (k:=k) (by simp [strsV]; omega);obtain ⟨ad2,rfl,_,hc2⟩:=h2.at_ (k:=k) (by simp [strsV]; omega);simp only [strsV,List.getElem_map] at hc1 hc2;have hk1:(0:Int)≤(k:Int):=by omega
    have hk2:(k:Int)<(a.length:Int):=by omega
    have hk3:(k:Int)<(b.length:Int):=by omega
    go_wp2_with fail
    go_quiet (fail)
    go_wp2_with fail
    ·go_ret;have hne:(!a[k].toList == b[k].toList)=true:=by assumption
     have hne':a[k]≠b[k]:=fun e=>by rw [e] at hne; simp at hne
     refine ⟨qaY ?_,_,World.drewN_drewN _ _ _⟩;simp only [sameB];rw [Eq.comm,decide_eq_false_iff_not];intro e;subst e;exact hne' rfl
    ·go_roundw
     case rel =>
      have he:(!a[k].toList == b[k].toList)=false:=by assumption
      have he':a[k]=b[k]:=by
       have:a[k].toList=b[k].toList:=by simpa using he
       rw [qbc,qbc] at this;exact ByteArray.ext (Array.toList_inj.1 this)
      refine ⟨k+1,hlt,by go_num,?_,_,rfl⟩;rw [List.take_succ_eq_append_getElem hlt,List.take_succ_eq_append_getElem hltb,HT.out,he']
     case measure=>simp [intOf]; omega
   ·go_wp2_with fail;go_ret;refine ⟨qaY ?_,_,rfl⟩;have h:=HT.out;rw [List.take_of_length_le (by omega),List.take_of_length_le (by have:=HL.out; omega)] at h;simp [sameB,h]
 ·have hlb:((a.length:Int) != (b.length:Int))=true:=by simp; omega
  have HL:=zY hl;clear hl;go_enter Tryd.func33,Tryd.ntmps33;go_wp2_with fail;go_ret;exact ⟨qaY (by simp only [sameB]; rw [Eq.comm,decide_eq_false_iff_not]; intro e; exact HL.out (by rw [e])),0,rfl⟩
def sameM (a b:MsgD):Bool:=sameB a.fields b.fields && decide (a.kind=b.kind) && decide (a.src=b.src) && decide (a.dst=b.dst) && decide (a.seq=b.seq) && decide (a.sig=b.sig)
theorem toList_inj' (a b:ByteArray):a.toList=b.toList↔a=b:=by
 rw [qbc,qbc];exact ⟨fun h=>ByteArray.ext (Array.toList_inj.1 h),fun h=>by rw [h]⟩
theorem below_drewN' {B:Nat} {a w:World} (h:Below B a w) (n:Nat):Below B a (w.drewN n):=⟨h.os,h.tape,h.output,h.size,h.block⟩
theorem beq_toList (a b:ByteArray):(a.toList == b.toList)=decide (a=b):=by
 rw [Bool.eq_iff_iff,beq_iff_eq,decide_eq_true_iff,qbc,qbc];exact ⟨fun h=>ByteArray.ext (Array.toList_inj.1 h),fun h=>by rw [h]⟩
theorem same12_any (a b:MsgD) (A1 A2:Option Addr) (c1 c2 B:Nat) (w:World) (h1:Rd w B A1 (strsV a.fields)) (h2:Rd w B A2 (strsV b.fields)) (hB:B≤w.heap.size) (hm1:a.fields.length≤9223372036854775807) (hm2:b.fields.length≤9223372036854775807) :
  Calls Tryd.prog 15 #[.agg (msgCells a A1 c1),.agg (msgCells b A2 c2)] w fun e w'=>e=.returned (.bool (sameM a b))∧Below w.heap.size w w':=by
 have hb:Below w.heap.size w ((w.alloc (.cells (msgCells a A1 c1) 25)).alloc (.cells (msgCells b A2 c2) 25)):=((Below.refl _ _).alloc (Nat.le_refl _) _).alloc (by simp) _;have hs:=same9_any A1 A2 c1 c2 B a.fields b.fields _ (h1.below (hb.mono hB)) (h2.below (hb.mono hB)) hm1 hm2;obtain ⟨S,hS⟩:=eX (sameB a.fields b.fields);rw [← hS] at hs;obtain ⟨M,hM⟩:=eX (sameM a b);rw [← hM];have HM:=zY hM;have HSS:=zY hS;have HS:=zY hs;have HB:=zY hb;clear hs hb h1 h2 hS hM;obtain ⟨kind,src,dst,seq,fields,sig⟩:=a;obtain ⟨kind',src',dst',seq',fields',sig'⟩:=b;dsimp only [msgCells] at *;go_enter Tryd.func15,Tryd.ntmps15;go_wp2_with fail;refine HS.out.mono ?_;rintro e w1 ⟨rfl,n,rfl⟩;go_wp2_with fail
 all_goals go_ret
 all_goals refine ⟨qaY ?_,below_drewN' (((Below.refl _ _).alloc (Nat.le_refl _) _).alloc (by simp) _) _⟩
 all_goals rw [HM.out]
 all_goals simp only [sameM,← HSS.out]
 all_goals try simp only [toList_inj'] at *
 all_goals simp [*,beq_toList]
def cutM (m:MsgD):MsgD:=⟨m.kind,fewS m.src,fewS m.dst,m.seq,(m.fields.take 10).map fewS,fewS m.sig⟩
theorem sl_strs:SlT Tryd.prog 23 9 1 16:=SlT.mk1 (z:=.string ⟨#[]⟩) Tryd.underlying23 (by kernel_rfl) rfl (by decide)
def CutPost (m:MsgD) (w:World) (e:Ending) (w':World):Prop :=
 ∃ A c,e=.returned (.agg (msgCells (cutM m) A c))∧(cutM m).fields.length≤c∧OwnX w' w.heap.size 9 1 (.slice A (cutM m).fields.length c) (cutM m).fields.length (strsV (cutM m).fields)∧Below w.heap.size w w'
theorem cut_any (m:MsgD) (A:Option Addr) (c B:Nat) (w:World) (hr:Rd w B A (strsV m.fields)) (hB:B≤w.heap.size) (hc:m.fields.length≤c) (ok:MsgOk m) :
  Calls Tryd.prog 5 #[.agg (msgCells m A c)] w (CutPost m w):=by
 obtain ⟨W0,hW0⟩:∃ W0,W0=((w.alloc (.cells (msgCells m A c) 25)).alloc (.cells #[.int .i64 0,.string ⟨#[]⟩,.string ⟨#[]⟩,.int .i64 0,.slice none 0 0,.string ⟨#[]⟩] 25)):=⟨_,rfl⟩;have hb2:Below w.heap.size w W0:=by rw [hW0]; exact ((Below.refl _ _).alloc (Nat.le_refl _) _).alloc (by simp) _
 have hbox:Blk W0 w.heap.size 25 (msgCells m A c):=by rw [hW0]; exact (Blk.new _ _ _).alloc _
 have hout:Blk W0 (w.heap.size+1) 25 #[.int .i64 0,.string ⟨#[]⟩,.string ⟨#[]⟩,.int .i64 0,.slice none 0 0,.string ⟨#[]⟩]:=by
  have:=Blk.new (w.alloc (.cells (msgCells m A c) 25)) 25 #[.int .i64 0,.string ⟨#[]⟩,.string ⟨#[]⟩,.int .i64 0,.slice none 0 0,.string ⟨#[]⟩];rw [hW0]; simpa using this
 have hsz:W0.heap.size=w.heap.size+2:=by rw [hW0]; simp
 have hcell:∀ (u:World),Below W0.heap.size W0 u→∀ i,u.cell? ⟨w.heap.size,i,none⟩=(msgCells m A c)[i]?:=fun u hu i=>(hbox.below hu (by omega)).cell i;have HC0:Below W0.heap.size W0 W0.drew:=(Below.refl _ _).drew;have HR:=zY hr;have HB2:=zY hb2;have HW0:=zY hW0;have HS:=zY hsz;have HC:=zY hcell;have HO:=zY hout;clear hb2 hbox hsz hcell hout hr;obtain ⟨kind,src,dst,seq,fields,sig⟩:=m;obtain ⟨ok1,ok2,ok3,ok4,ok5⟩:=ok;have HOK5:=zY ok5;clear ok5;dsimp only [msgCells] at *;obtain ⟨S1,hS1⟩:=eX (fewS src);obtain ⟨S2,hS2⟩:=eX (fewS dst);obtain ⟨S3,hS3⟩:=eX (fewS sig);have HS1:=zY hS1;have HS2:=zY hS2;have HS3:=zY hS3;clear hS1 hS2 hS3;go_enter Tryd.func5,Tryd.ntmps5;go_wp2_with fail;rw [show (w.alloc (.cells #[.int .i64 kind,.string src,.string dst,.int .i64 seq,.slice A fields.length c,.string sig] 25)).alloc (.cells #[.int .i64 0,.string ⟨#[]⟩,.string ⟨#[]⟩,.int .i64 0,.slice none 0 0,.string ⟨#[]⟩] 25)=W0 from hW0.symm];clear hW0
 refine qak (fun u=>Below W0.heap.size W0 u) (fun | false=>(fun _=>True) | true=>(fun _=>True)) (fun | false,_=>false | true,_=>false)
  [fun z _=>z 0=.pointer (some ⟨w.heap.size,0,none⟩),
   fun z _=>z 1=.int .i64 kind,
   fun z _=>z 2=.pointer (some ⟨w.heap.size,1,none⟩),
   fun z _=>z 3=.string src,
   fun z _=>z 4=.string S1,
   fun z _=>z 5=.pointer (some ⟨w.heap.size,2,none⟩),
   fun z _=>z 6=.string dst,
   fun z _=>z 7=.string S2,
   fun z _=>z 8=.pointer (some ⟨w.heap.size,3,none⟩),
   fun z _=>z 9=.int .i64 seq,
   fun z _=>z 10=.pointer (some ⟨w.heap.size,5,none⟩),
   fun z _=>z 11=.string sig,
   fun z _=>z 12=.string S3,
   fun z _=>z 13=.agg #[.int .i64 kind,.string S1,.string S2,.int .i64 seq,.slice none 0 0,.string S3],
   fun z u=>∃ g,z 14=.pointer (some ⟨g,0,none⟩)∧W0.heap.size≤g∧Blk u g 25 #[.int .i64 0,.string ⟨#[]⟩,.string ⟨#[]⟩,.int .i64 0,.slice none 0 0,.string ⟨#[]⟩],
   fun z u=>∃ g,z 14=.pointer (some ⟨g,0,none⟩)∧W0.heap.size≤g∧Blk u g 25 #[.int .i64 kind,.string S1,.string S2,.int .i64 seq,.slice none 0 0,.string S3]]
  [Eq,Eq,Eq,Eq,Eq,Eq,Eq,Eq,Eq,Eq,Eq,Eq,Eq,Eq,Alloc1,fun _ _=>True]
  (fun i k=>(i == 15 && k == 14)) [(0,some 5),(1,some 6),(2,some 7),(3,some 8),(4,some 9),(5,some 10),(6,some 11),(7,some 12),(8,some 13),(9,some 14),(10,some 15),(11,some 16),(12,some 17),(13,some 18),(14,some 3),(15,none)] (by kernel_rfl) (by kernel_rfl) rfl (fun _=>rfl) ?_ ?_ ?_ ?_ ?_ ?_
 ·exact HC0
 ·intro m; cases m; exact trivial; exact trivial
 ·intro m; cases m
  ·refine ⟨?_,?_,?_,?_,?_,?_,?_,?_,?_,?_,?_,?_,?_,?_,?_,?_,trivial⟩ <;> first | exact .inr fun _ _ h h0=>h▸h0 | exact .inr fun _ _ _ h=>h
  ·refine ⟨?_,?_,?_,?_,?_,?_,?_,?_,?_,?_,?_,?_,?_,?_,?_,?_,trivial⟩ <;> first | exact .inr fun _ _ h h0=>h▸h0 | exact .inr fun _ _ _ h=>h
 ·refine ⟨⟨.inl rfl,?_,?_,?_,?_,?_,?_,?_,?_,?_,?_,?_,?_,?_,?_,?_,trivial⟩,⟨?_,.inl rfl,?_,?_,?_,?_,?_,?_,?_,?_,?_,?_,?_,?_,?_,?_,trivial⟩,⟨?_,?_,.inl rfl,?_,?_,?_,?_,?_,?_,?_,?_,?_,?_,?_,?_,?_,trivial⟩,⟨?_,?_,?_,.inl rfl,?_,?_,?_,?_,?_,?_,?_,?_,?_,?_,?_,?_,trivial⟩,⟨?_,?_,?_,?_,.inl rfl,?_,?_,?_,?_,?_,?_,?_,?_,?_,?_,?_,trivial⟩,⟨?_,?_,?_,?_,?_,.inl rfl,?_,?_,?_,?_,?_,?_,?_,?_,?_,?_,trivial⟩,⟨?_,?_,?_,?_,?_,?_,.inl rfl,?_,?_,?_,?_,?_,?_,?_,?_,?_,trivial⟩,⟨?_,?_,?_,?_,?_,?_,?_,.inl rfl,?_,?_,?_,?_,?_,?_,?_,?_,trivial⟩,⟨?_,?_,?_,?_,?_,?_,?_,?_,.inl rfl,?_,?_,?_,?_,?_,?_,?_,trivial⟩,⟨?_,?_,?_,?_,?_,?_,?_,?_,?_,.inl rfl,?_,?_,?_,?_,?_,?_,trivial⟩,⟨?_,?_,?_,?_,?_,?_,?_,?_,?_,?_,.inl rfl,?_,?_,?_,?_,?_,trivial⟩,⟨?_,?_,?_,?_,?_,?_,?_,?_,?_,?_,?_,.inl rfl,?_,?_,?_,?_,trivial⟩,⟨?_,?_,?_,?_,?_,?_,?_,?_,?_,?_,?_,?_,.inl rfl,?_,?_,?_,trivial⟩,⟨?_,?_,?_,?_,?_,?_,?_,?_,?_,?_,?_,?_,?_,.inl rfl,?_,?_,trivial⟩,⟨?_,?_,?_,?_,?_,?_,?_,?_,?_,?_,?_,?_,?_,?_,.inl rfl,?_,trivial⟩,⟨?_,?_,?_,?_,?_,?_,?_,?_,?_,?_,?_,?_,?_,?_,.inr (.inl rfl),.inl rfl,trivial⟩,trivial⟩ <;> first | exact .inr (.inr (.inl rfl)) | exact .inr (.inr (.inr fun _ _ _ _ _ h=>h)) | exact .inr (.inr (.inr fun _ _ _ _ h h0=>by cases h; exact h0))
 ·refine ⟨?_,?_,?_,?_,?_,?_,?_,?_,?_,?_,?_,?_,?_,?_,?_,?_,trivial⟩
  ·refine qaa [] (fun _=>rfl) rfl ?_;intro w1 vals hC1 hi0 hf E hE;clear hi0;clear hf;simp only [sP] at hE ⊢;go_wp2;exact .mk (hE _ _ rfl hC1 rfl)
  ·refine qaa [(0,some 5)] (fun _=>rfl) rfl ?_;intro w1 vals hC1 hi0 hf E hE;clear hi0;have f0:vals 0=_:=hf 0 rfl
   try dsimp only at f0
   clear hf;have hc0:=HC.out w1 hC1 0;simp at hc0;simp only [sP,f0] at hE ⊢;clear f0;go_wp2;exact .mk (hE _ _ rfl hC1 rfl)
  ·refine qaa [] (fun _=>rfl) rfl ?_;intro w1 vals hC1 hi0 hf E hE;clear hi0;clear hf;simp only [sP] at hE ⊢;go_wp2;exact .mk (hE _ _ rfl hC1 rfl)
  ·refine qaa [(2,some 7)] (fun _=>rfl) rfl ?_;intro w1 vals hC1 hi0 hf E hE;clear hi0;have f2:vals 2=_:=hf 2 rfl
   try dsimp only at f2
   clear hf;have hc0:=HC.out w1 hC1 1;simp at hc0;simp only [sP,f2] at hE ⊢;clear f2;go_wp2;exact .mk (hE _ _ rfl hC1 rfl)
  ·refine qaa [(3,some 8)] (fun _=>rfl) rfl ?_;intro w1 vals hC1 hi0 hf E hE;clear hi0;have f3:vals 3=_:=hf 3 rfl
   try dsimp only at f3
   clear hf;simp only [sP,f3] at hE ⊢;clear f3;go_wp2_with fail;refine qab (few_any src _ ok1) ?_;rintro e w2 ⟨rfl,rfl⟩;rw [← HS1.out];go_wp2_with fail;exact .mk (hE _ _ rfl hC1 rfl)
  ·refine qaa [] (fun _=>rfl) rfl ?_;intro w1 vals hC1 hi0 hf E hE;clear hi0;clear hf;simp only [sP] at hE ⊢;go_wp2;exact .mk (hE _ _ rfl hC1 rfl)
  ·refine qaa [(5,some 10)] (fun _=>rfl) rfl ?_;intro w1 vals hC1 hi0 hf E hE;clear hi0;have f5:vals 5=_:=hf 5 rfl
   try dsimp only at f5
   clear hf;have hc0:=HC.out w1 hC1 2;simp at hc0;simp only [sP,f5] at hE ⊢;clear f5;go_wp2;exact .mk (hE _ _ rfl hC1 rfl)
  ·refine qaa [(6,some 11),(4,some 9)] (fun _=>rfl) rfl ?_;intro w1 vals hC1 hi0 hf E hE;clear hi0;have f4:vals 4=_:=hf 4 rfl;have f6:vals 6=_:=hf 6 rfl
   try dsimp only at f4 f6
   clear hf;simp only [sP,f4,f6] at hE ⊢;clear f4 f6;go_wp2_with fail;refine qab (few_any dst _ ok2) ?_;rintro e w2 ⟨rfl,rfl⟩;rw [← HS2.out];go_wp2_with fail;exact .mk (hE _ _ rfl hC1 rfl)
  ·refine qaa [] (fun _=>rfl) rfl ?_;intro w1 vals hC1 hi0 hf E hE;clear hi0;clear hf;simp only [sP] at hE ⊢;go_wp2;exact .mk (hE _ _ rfl hC1 rfl)
  ·refine qaa [(8,some 13)] (fun _=>rfl) rfl ?_;intro w1 vals hC1 hi0 hf E hE;clear hi0;have f8:vals 8=_:=hf 8 rfl
   try dsimp only at f8
   clear hf;have hc0:=HC.out w1 hC1 3;simp at hc0;simp only [sP,f8] at hE ⊢;clear f8;go_wp2;exact .mk (hE _ _ rfl hC1 rfl)
  ·refine qaa [] (fun _=>rfl) rfl ?_;intro w1 vals hC1 hi0 hf E hE;clear hi0;clear hf;simp only [sP] at hE ⊢;go_wp2;exact .mk (hE _ _ rfl hC1 rfl)
  ·refine qaa [(10,some 15)] (fun _=>rfl) rfl ?_;intro w1 vals hC1 hi0 hf E hE;clear hi0;have f10:vals 10=_:=hf 10 rfl
   try dsimp only at f10
   clear hf;have hc0:=HC.out w1 hC1 5;simp at hc0;simp only [sP,f10] at hE ⊢;clear f10;go_wp2;exact .mk (hE _ _ rfl hC1 rfl)
  ·refine qaa [(11,some 16),(7,some 12)] (fun _=>rfl) rfl ?_;intro w1 vals hC1 hi0 hf E hE;clear hi0;have f7:vals 7=_:=hf 7 rfl;have f11:vals 11=_:=hf 11 rfl
   try dsimp only at f7 f11
   clear hf;simp only [sP,f7,f11] at hE ⊢;clear f7 f11;go_wp2_with fail;refine qab (few_any sig _ ok3) ?_;rintro e w2 ⟨rfl,rfl⟩;rw [← HS3.out];go_wp2_with fail;exact .mk (hE _ _ rfl hC1 rfl)
  ·refine qaa [(1,some 6),(4,some 9),(7,some 12),(9,some 14),(12,some 17)] (fun _=>rfl) rfl ?_;intro w1 vals hC1 hi0 hf E hE;clear hi0;have f1:vals 1=_:=hf 1 rfl;have f4:vals 4=_:=hf 4 rfl;have f7:vals 7=_:=hf 7 rfl;have f9:vals 9=_:=hf 9 rfl;have f12:vals 12=_:=hf 12 rfl
   try dsimp only at f1 f4 f7 f9 f12
   clear hf;simp only [sP,f1,f4,f7,f9,f12] at hE ⊢;clear f1 f4 f7 f9 f12;go_wp2;exact .mk (hE _ _ rfl hC1 rfl)
  ·refine qaa [] (fun _=>rfl) rfl ?_;intro w1 vals hC1 hi0 hf E hE;clear hi0;clear hf;simp only [sP] at hE ⊢;go_wp2;exact .mk (hE _ _ ⟨_,rfl,hC1.size,heap_alloc_new _ _⟩ (hC1.alloc hC1.size _) ⟨_,rfl⟩)
  ·refine qaa [(14,some 3),(13,some 18),(12,some 17),(0,some 5),(1,some 6),(2,some 7),(3,some 8),(4,some 9),(5,some 10),(6,some 11),(7,some 12),(8,some 13),(9,some 14),(10,some 15),(11,some 16),(12,some 17),(13,some 18),(14,some 3)] (fun _=>rfl) rfl ?_;intro w1 vals hC1 hi0 hf E hE;clear hi0;have f0:vals 0=_:=hf 0 rfl;have f1:vals 1=_:=hf 1 rfl;have f2:vals 2=_:=hf 2 rfl;have f3:vals 3=_:=hf 3 rfl;have f4:vals 4=_:=hf 4 rfl;have f5:vals 5=_:=hf 5 rfl;have f6:vals 6=_:=hf 6 rfl;have f7:vals 7=_:=hf 7 rfl;have f8:vals 8=_:=hf 8 rfl;have f9:vals 9=_:=hf 9 rfl;have f10:vals 10=_:=hf 10 rfl;have f11:vals 11=_:=hf 11 rfl;have f12:vals 12=_:=hf 12 rfl;have f13:vals 13=_:=hf 13 rfl;have f14:(fun z u=>∃ g,z 14=.pointer (some ⟨g,0,none⟩)∧W0.heap.size≤g∧Blk u g 25 #[.int .i64 0,.string ⟨#[]⟩,.string ⟨#[]⟩,.int .i64 0,.slice none 0 0,.string ⟨#[]⟩]) vals w1:=hf 14 rfl
   try dsimp only at f0 f1 f2 f3 f4 f5 f6 f7 f8 f9 f10 f11 f12 f13 f14
   clear hf;obtain ⟨g,hx,hg1,hg2⟩:=f14;have hx':=zY hx;simp only [sP,f0,f1,f2,f3,f4,f5,f6,f7,f8,f9,f10,f11,f12,f13,hx] at hE ⊢;clear f0 f1 f2 f3 f4 f5 f6 f7 f8 f9 f10 f11 f12 f13;clear hx;refine qae hg2 rfl rfl rfl rfl qas rfl (by simp [Value.oneCell']) ?_;intro w2 hb2 hw2;go_wp2_with fail;exact .mk (hE undef _ ⟨g,hx'.out,hg1,hb2⟩ (hw2.below hC1 hg1 hC1.size) trivial)
 intro w1 vals hC1 hf;have f0:vals 0=_:=hf 0 (by decide) rfl;have f1:vals 1=_:=hf 1 (by decide) rfl;have f2:vals 2=_:=hf 2 (by decide) rfl;have f3:vals 3=_:=hf 3 (by decide) rfl;have f4:vals 4=_:=hf 4 (by decide) rfl;have f5:vals 5=_:=hf 5 (by decide) rfl;have f6:vals 6=_:=hf 6 (by decide) rfl;have f7:vals 7=_:=hf 7 (by decide) rfl;have f8:vals 8=_:=hf 8 (by decide) rfl;have f9:vals 9=_:=hf 9 (by decide) rfl;have f10:vals 10=_:=hf 10 (by decide) rfl;have f11:vals 11=_:=hf 11 (by decide) rfl;have f12:vals 12=_:=hf 12 (by decide) rfl;have f13:vals 13=_:=hf 13 (by decide) rfl;have f15:(fun z u=>∃ g,z 14=.pointer (some ⟨g,0,none⟩)∧W0.heap.size≤g∧Blk u g 25 #[.int .i64 kind,.string S1,.string S2,.int .i64 seq,.slice none 0 0,.string S3]) vals w1:=hf 15 (by decide) rfl
 try dsimp only at f0 f1 f2 f3 f4 f5 f6 f7 f8 f9 f10 f11 f12 f13 f15
 clear hf;simp only [sP,f0,f1,f2,f3,f4,f5,f6,f7,f8,f9,f10,f11,f12,f13];clear f0 f1 f2 f3 f4 f5 f6 f7 f8 f9 f10 f11 f12 f13;generalize vals 14=x14 at *;obtain ⟨g,hx,hg1,hb1⟩:=f15;rw [hx] at *;clear hx;go_wp2_with fail
 go_loopw [4] (fun i wr=>∃ (k:Nat) (A1:Option Addr) (c1:Nat),k≤fields.length∧k≤10∧i=.int .i64 k∧k≤c1∧OwnX wr W0.heap.size 9 1 (.slice A1 k c1) k (strsV ((fields.take k).map fewS)) ∧
   Blk wr g 25 #[.int .i64 kind,.string S1,.string S2,.int .i64 seq,.slice A1 k c1,.string S3]∧Below W0.heap.size W0 wr) (fun i _=>10 - (intOf i).toNat)
 case atStart=>exact ⟨0,none,0,by omega,by omega,rfl,by omega,OwnX.nil _ _ _ _,hb1,hC1⟩
 case round =>
  obtain ⟨k,A1,c1,hk,hk10,rfl,hkc,hown1,hbk,hC2⟩:=hrel;have hc4:=HC.out wr hC2 4;simp at hc4
  by_cases hlt:k<fields.length
  ·by_cases hlt10:k<10
   ·obtain ⟨ad,rfl,hadB,hcl⟩:=HR.out.at_ (k:=k) (by rw [qa2]; exact hlt);simp only [strsV,List.getElem_map] at hcl
    have hcr:∀ u:World,Below W0.heap.size W0 u→u.cell? (ad.add k)=some (.string fields[k]):=fun u hu=>by
     rw [← hcl];have h1:=(hu.cell (p:=ad.add k) (by rw [qaC]; have:=HS.out; omega));rw [h1];exact HB2.out.cell (p:=ad.add k) (by rw [qaC]; omega)
    have HCR:=zY hcr;have hsz:=HOK5.out _ (List.getElem_mem hlt);have hi1:(0:Int)≤(k:Int):=by omega
    have hi2:(k:Int)<(fields.length:Int):=by omega
    have hd10:decide ((k:Int)<10)=true:=by simp; omega
    obtain ⟨F,hF⟩:=eX (fields[k]);rw [← hF] at hsz;have HF:=zY hF;obtain ⟨Y,hY⟩:=eX (fewS F);have HY:=zY hY;clear hcr hY hcl hF;go_wp2_with fail;have HC0:Below W0.heap.size W0 wr.drew:=hC2.drew;have HI0:Blk wr.drew g 25 #[.int .i64 kind,.string S1,.string S2,.int .i64 seq,.slice A1 k c1,.string S3]∧OwnX wr.drew W0.heap.size 9 1 (.slice A1 k c1) k (strsV ((fields.take k).map fewS)):=⟨hbk,hown1⟩
    have hsz2:strsV ((fields.take (k+1)).map fewS)=strsV ((fields.take k).map fewS)++[.string Y]:=by
     rw [List.take_succ_eq_append_getElem hlt,HY.out,HF.out,List.map_append];simp only [strsV,List.map_append];rfl
    have HT:=zY hsz2;clear hsz2 hbk hown1 hC2 hb1 hC1 hc4
    refine qak (fun u=>Below W0.heap.size W0 u) (fun | false=>(fun u=>Blk u g 25 #[.int .i64 kind,.string S1,.string S2,.int .i64 seq,.slice A1 k c1,.string S3]∧OwnX u W0.heap.size 9 1 (.slice A1 k c1) k (strsV ((fields.take k).map fewS))) | true=>(fun _=>True)) (fun | false,i=>i == 9 || i == 11 | true,_=>false)
     [fun z u=>z 0=.pointer (some ⟨g,4,none⟩)∧Blk u g 25 #[.int .i64 kind,.string S1,.string S2,.int .i64 seq,.slice A1 k c1,.string S3],
      fun z _=>z 1=.slice A1 k c1,
      fun z _=>z 2=.pointer (some ⟨w.heap.size,4,none⟩),
      fun z _=>z 3=.slice (some ad) fields.length c,
      fun z _=>z 4=.int .i64 k,
      fun z _=>z 5=.pointer (some (ad.add k)),
      fun z _=>z 6=.string F,
      fun z _=>z 7=.string Y,
      fun z u=>(One 9 (.string Y)) (z 8) u,
      fun z u=>∃ A2 c2,z 9=.slice A2 (k+1) c2∧k+1≤c2∧OwnX u W0.heap.size 9 1 (.slice A2 (k+1) c2) (k+1) (strsV ((fields.take (k+1)).map fewS)),
      fun z _=>z 10=.pointer (some ⟨g,4,none⟩),
      fun z u=>∃ A2 c2,k+1≤c2∧OwnX u W0.heap.size 9 1 (.slice A2 (k+1) c2) (k+1) (strsV ((fields.take (k+1)).map fewS))∧Blk u g 25 #[.int .i64 kind,.string S1,.string S2,.int .i64 seq,.slice A2 (k+1) c2,.string S3]]
     [Eq,Eq,Eq,Eq,Eq,Eq,Eq,Eq,Alloc1,KeepBut 9,Eq,fun _ _=>True]
     (fun i k=>(i == 9 && k == 8) || (i == 11 && k == 0) || (i == 11 && k == 8) || (i == 11 && k == 9)) [(0,some 30),(1,some 31),(2,some 32),(3,some 33),(4,some 34),(5,some 35),(6,some 36),(7,some 37),(8,some 38),(9,some 39),(10,some 40),(11,none)] (by kernel_rfl) (by kernel_rfl) rfl (fun _=>rfl) ?_ ?_ ?_ ?_ ?_ ?_
    ·exact HC0
    ·intro m; cases m; exact HI0; exact trivial
    ·intro m; cases m
     ·refine ⟨?_,?_,?_,?_,?_,?_,?_,?_,.inr (fun _ _ h h0=>⟨h0.1.alloc1 h,qbq h h0.2⟩),.inl rfl,?_,.inl rfl,trivial⟩ <;> exact .inr fun _ _ h h0=>h▸h0
     ·refine ⟨?_,?_,?_,?_,?_,?_,?_,?_,?_,?_,?_,?_,trivial⟩ <;> first | exact .inr fun _ _ h h0=>h▸h0 | exact .inr fun _ _ _ h=>h
    ·refine ⟨⟨.inl rfl,?_,?_,?_,?_,?_,?_,?_,?_,?_,?_,?_,trivial⟩,⟨?_,.inl rfl,?_,?_,?_,?_,?_,?_,?_,?_,?_,?_,trivial⟩,⟨?_,?_,.inl rfl,?_,?_,?_,?_,?_,?_,?_,?_,?_,trivial⟩,⟨?_,?_,?_,.inl rfl,?_,?_,?_,?_,?_,?_,?_,?_,trivial⟩,⟨?_,?_,?_,?_,.inl rfl,?_,?_,?_,?_,?_,?_,?_,trivial⟩,⟨?_,?_,?_,?_,?_,.inl rfl,?_,?_,?_,?_,?_,?_,trivial⟩,⟨?_,?_,?_,?_,?_,?_,.inl rfl,?_,?_,?_,?_,?_,trivial⟩,⟨?_,?_,?_,?_,?_,?_,?_,.inl rfl,?_,?_,?_,?_,trivial⟩,⟨.inr (.inr (.inr (fun _ _ _ _ h h0=>⟨h0.1,h0.2.alloc1 h⟩))),?_,?_,?_,?_,?_,?_,?_,.inl rfl,?_,?_,?_,trivial⟩,⟨.inr (.inr (.inr (fun _ _ _ _ h h0=>⟨h0.1,h0.2.keep h (by decide)⟩))),?_,?_,?_,?_,?_,?_,?_,.inr (.inl rfl),.inl rfl,?_,?_,trivial⟩,⟨?_,?_,?_,?_,?_,?_,?_,?_,?_,?_,.inl rfl,?_,trivial⟩,⟨.inr (.inl rfl),?_,?_,?_,?_,?_,?_,?_,.inr (.inl rfl),.inr (.inl rfl),?_,.inl rfl,trivial⟩,trivial⟩ <;> first | exact .inr (.inr (.inl rfl)) | exact .inr (.inr (.inr fun _ _ _ _ _ h=>h)) | exact .inr (.inr (.inr fun _ _ _ _ h h0=>by cases h; exact h0))
    ·refine ⟨?_,?_,?_,?_,?_,?_,?_,?_,?_,?_,?_,?_,trivial⟩
     ·refine qaa [] (fun _=>rfl) rfl ?_;intro w1 vals hC1 hi0 hf E hE;have hI1:(fun u=>Blk u g 25 #[.int .i64 kind,.string S1,.string S2,.int .i64 seq,.slice A1 k c1,.string S3]∧OwnX u W0.heap.size 9 1 (.slice A1 k c1) k (strsV ((fields.take k).map fewS))) w1:=hi0 false rfl
      try dsimp only at hI1
      clear hi0;clear hf;simp only [sP] at hE ⊢;go_wp2;exact .mk (hE _ _ ⟨rfl,hI1.1⟩ hC1 rfl)
     ·refine qaa [(0,some 30)] (fun _=>rfl) rfl ?_;intro w1 vals hC1 hi0 hf E hE;have hI1:(fun u=>Blk u g 25 #[.int .i64 kind,.string S1,.string S2,.int .i64 seq,.slice A1 k c1,.string S3]∧OwnX u W0.heap.size 9 1 (.slice A1 k c1) k (strsV ((fields.take k).map fewS))) w1:=hi0 false rfl
      try dsimp only at hI1
      clear hi0;have f0:(fun z u=>z 0=.pointer (some ⟨g,4,none⟩)∧Blk u g 25 #[.int .i64 kind,.string S1,.string S2,.int .i64 seq,.slice A1 k c1,.string S3]) vals w1:=hf 0 rfl
      try dsimp only at f0
      clear hf;obtain ⟨hx,hb⟩:=f0;have hc0:=hb.cell 4;simp at hc0;simp only [sP,hx] at hE ⊢;clear hx;go_wp2;exact .mk (hE _ _ rfl hC1 rfl)
     ·refine qaa [] (fun _=>rfl) rfl ?_;intro w1 vals hC1 hi0 hf E hE;clear hi0;clear hf;simp only [sP] at hE ⊢;go_wp2;exact .mk (hE _ _ rfl hC1 rfl)
     ·refine qaa [(2,some 32)] (fun _=>rfl) rfl ?_;intro w1 vals hC1 hi0 hf E hE;clear hi0;have f2:vals 2=_:=hf 2 rfl
      try dsimp only at f2
      clear hf;have hc0:=HC.out w1 hC1 4;simp at hc0;simp only [sP,f2] at hE ⊢;clear f2;go_wp2;exact .mk (hE _ _ rfl hC1 rfl)
     ·refine qaa [] (fun _=>rfl) rfl ?_;intro w1 vals hC1 hi0 hf E hE;clear hi0;clear hf;simp only [sP] at hE ⊢;go_wp2;exact .mk (hE _ _ rfl hC1 rfl)
     ·refine qaa [(3,some 33),(4,some 34)] (fun _=>rfl) rfl ?_;intro w1 vals hC1 hi0 hf E hE;have hI1:(fun u=>Blk u g 25 #[.int .i64 kind,.string S1,.string S2,.int .i64 seq,.slice A1 k c1,.string S3]∧OwnX u W0.heap.size 9 1 (.slice A1 k c1) k (strsV ((fields.take k).map fewS))) w1:=hi0 false rfl
      try dsimp only at hI1
      clear hi0;have f3:vals 3=_:=hf 3 rfl;have f4:vals 4=_:=hf 4 rfl
      try dsimp only at f3 f4
      clear hf;simp only [sP,f3,f4] at hE ⊢;clear f3 f4;go_wp2;exact .mk (hE _ _ rfl hC1 rfl)
     ·refine qaa [(5,some 35)] (fun _=>rfl) rfl ?_;intro w1 vals hC1 hi0 hf E hE;have hI1:(fun u=>Blk u g 25 #[.int .i64 kind,.string S1,.string S2,.int .i64 seq,.slice A1 k c1,.string S3]∧OwnX u W0.heap.size 9 1 (.slice A1 k c1) k (strsV ((fields.take k).map fewS))) w1:=hi0 false rfl
      try dsimp only at hI1
      clear hi0;have f5:vals 5=_:=hf 5 rfl
      try dsimp only at f5
      clear hf;have hc0:=HCR.out w1 hC1;rw [← HF.out] at hc0;simp only [sP,f5] at hE ⊢;clear f5;go_wp2;exact .mk (hE _ _ rfl hC1 rfl)
     ·refine qaa [(6,some 36)] (fun _=>rfl) rfl ?_;intro w1 vals hC1 hi0 hf E hE;have hI1:(fun u=>Blk u g 25 #[.int .i64 kind,.string S1,.string S2,.int .i64 seq,.slice A1 k c1,.string S3]∧OwnX u W0.heap.size 9 1 (.slice A1 k c1) k (strsV ((fields.take k).map fewS))) w1:=hi0 false rfl
      try dsimp only at hI1
      clear hi0;have f6:vals 6=_:=hf 6 rfl
      try dsimp only at f6
      clear hf;simp only [sP,f6] at hE ⊢;clear f6;go_wp2_with fail;refine qab (few_any F _ hsz) ?_;rintro e w2 ⟨rfl,rfl⟩;rw [← HY.out];go_wp2_with fail;exact .mk (hE _ _ rfl hC1 rfl)
     ·refine qaa [(7,some 37)] (fun _=>rfl) rfl ?_;intro w1 vals hC1 hi0 hf E hE;have hI1:(fun u=>Blk u g 25 #[.int .i64 kind,.string S1,.string S2,.int .i64 seq,.slice A1 k c1,.string S3]∧OwnX u W0.heap.size 9 1 (.slice A1 k c1) k (strsV ((fields.take k).map fewS))) w1:=hi0 false rfl
      try dsimp only at hI1
      clear hi0;have f7:vals 7=_:=hf 7 rfl
      try dsimp only at f7
      clear hf;simp only [sP,f7] at hE ⊢;clear f7;go_wp2;exact .mk (hE _ _ (One.new _ _ _) (hC1.alloc hC1.size _) ⟨_,rfl⟩)
     ·refine qaa [(1,some 31),(8,some 38),(7,some 37)] (fun _=>rfl) rfl ?_;intro w1 vals hC1 hi0 hf E hE;have hI1:(fun u=>Blk u g 25 #[.int .i64 kind,.string S1,.string S2,.int .i64 seq,.slice A1 k c1,.string S3]∧OwnX u W0.heap.size 9 1 (.slice A1 k c1) k (strsV ((fields.take k).map fewS))) w1:=hi0 false rfl
      try dsimp only at hI1
      clear hi0;have f1:vals 1=_:=hf 1 rfl;have f7:vals 7=_:=hf 7 rfl;have f8:(One 9 (.string Y)) (vals 8) w1:=hf 8 rfl
      try dsimp only at f1 f7 f8
      clear hf;obtain ⟨g8,hx8,hg8⟩:=f8;simp only [sP,f1,f7,hx8] at hE ⊢;clear f1 f7;clear hx8;obtain ⟨A2,c2,w2,hr2,hown2,hgr2,hn2⟩:=qbm (ty:=23) (c:=1) (Ad:=some ⟨g8,0,none⟩) sl_strs hI1.2 (news:=[.string Y]) (m:=1) rfl (fun j u hu=>⟨_,rfl,by match j,hu with | 0,hu=>(simp at hu; subst hu; simpa [Addr.add] using cell_of_one hg8)⟩) (by intro u hu; simp at hu; subst hu; rfl) (by unfold maxLen; omega) (by omega) hC1.size;refine qax (R:=fun v' u'=>v'=.slice A2 (k+1) c2∧u'=w2) rfl rfl rfl rfl ⟨_,_,hr2,rfl,rfl⟩ ?_;rintro v' u' ⟨rfl,rfl⟩;go_wp2_with fail;have hc2:k+1≤c2:=hown2.le_cap;exact .mk (hE _ _ ⟨A2,c2,rfl,hc2,by rw [HT.out]; exact hown2⟩ (hC1.grown hgr2 hC1.size (fun j hj=>(hI1.2.lt j hj).1)) (qau hI1.2 hgr2))
     ·refine qaa [(0,some 30),(1,some 31),(2,some 32),(3,some 33),(4,some 34),(5,some 35),(6,some 36),(7,some 37),(8,some 38),(9,some 39)] (fun _=>rfl) rfl ?_;intro w1 vals hC1 hi0 hf E hE;clear hi0;have f0:(fun z u=>z 0=.pointer (some ⟨g,4,none⟩)∧Blk u g 25 #[.int .i64 kind,.string S1,.string S2,.int .i64 seq,.slice A1 k c1,.string S3]) vals w1:=hf 0 rfl;have f1:vals 1=_:=hf 1 rfl;have f2:vals 2=_:=hf 2 rfl;have f3:vals 3=_:=hf 3 rfl;have f4:vals 4=_:=hf 4 rfl;have f5:vals 5=_:=hf 5 rfl;have f6:vals 6=_:=hf 6 rfl;have f7:vals 7=_:=hf 7 rfl;have f9:(fun z u=>∃ A2 c2,z 9=.slice A2 (k+1) c2∧k+1≤c2∧OwnX u W0.heap.size 9 1 (.slice A2 (k+1) c2) (k+1) (strsV ((fields.take (k+1)).map fewS))) vals w1:=hf 9 rfl
      try dsimp only at f0 f1 f2 f3 f4 f5 f6 f7 f9
      clear hf;simp only [sP,f1,f2,f3,f4,f5,f6,f7] at hE ⊢;clear f1 f2 f3 f4 f5 f6 f7;go_wp2;exact .mk (hE _ _ rfl hC1 rfl)
     ·refine qaa [(10,some 40),(9,some 39),(9,some 39),(0,some 30),(1,some 31),(2,some 32),(3,some 33),(4,some 34),(5,some 35),(6,some 36),(7,some 37),(8,some 38),(9,some 39)] (fun _=>rfl) rfl ?_;intro w1 vals hC1 hi0 hf E hE;clear hi0;have f0:(fun z u=>z 0=.pointer (some ⟨g,4,none⟩)∧Blk u g 25 #[.int .i64 kind,.string S1,.string S2,.int .i64 seq,.slice A1 k c1,.string S3]) vals w1:=hf 0 rfl;have f1:vals 1=_:=hf 1 rfl;have f2:vals 2=_:=hf 2 rfl;have f3:vals 3=_:=hf 3 rfl;have f4:vals 4=_:=hf 4 rfl;have f5:vals 5=_:=hf 5 rfl;have f6:vals 6=_:=hf 6 rfl;have f7:vals 7=_:=hf 7 rfl;have f9:(fun z u=>∃ A2 c2,z 9=.slice A2 (k+1) c2∧k+1≤c2∧OwnX u W0.heap.size 9 1 (.slice A2 (k+1) c2) (k+1) (strsV ((fields.take (k+1)).map fewS))) vals w1:=hf 9 rfl;have f10:vals 10=_:=hf 10 rfl
      try dsimp only at f0 f1 f2 f3 f4 f5 f6 f7 f9 f10
      clear hf;obtain ⟨A2,c2,hx9,hc2,hown2⟩:=f9;obtain ⟨hx0,hb0⟩:=f0;simp only [sP,f1,f2,f3,f4,f5,f6,f7,f10,hx9,hx0] at hE ⊢;clear f1 f2 f3 f4 f5 f6 f7 f10;clear hx9 hx0;refine qao hb0 rfl rfl rfl rfl (by kernel_rfl) (by simp) rfl ?_;intro w2 hb2 hw2;go_wp2_with fail;exact .mk (hE undef _ ⟨A2,c2,hc2,hw2.own hown2 (qaD hown2 hb0 (by decide)),hb2⟩ (hw2.below hC1 hg1 hC1.size) trivial)
    intro w1 vals hC1 hf;have f1:vals 1=_:=hf 1 (by decide) rfl;have f2:vals 2=_:=hf 2 (by decide) rfl;have f3:vals 3=_:=hf 3 (by decide) rfl;have f4:vals 4=_:=hf 4 (by decide) rfl;have f5:vals 5=_:=hf 5 (by decide) rfl;have f6:vals 6=_:=hf 6 (by decide) rfl;have f7:vals 7=_:=hf 7 (by decide) rfl;have f10:vals 10=_:=hf 10 (by decide) rfl;have f11:(fun z u=>∃ A2 c2,k+1≤c2∧OwnX u W0.heap.size 9 1 (.slice A2 (k+1) c2) (k+1) (strsV ((fields.take (k+1)).map fewS))∧Blk u g 25 #[.int .i64 kind,.string S1,.string S2,.int .i64 seq,.slice A2 (k+1) c2,.string S3]) vals w1:=hf 11 (by decide) rfl
    try dsimp only at f1 f2 f3 f4 f5 f6 f7 f10 f11
    clear hf;simp only [sP,f1,f2,f3,f4,f5,f6,f7,f10];clear f1 f2 f3 f4 f5 f6 f7 f10;generalize vals 0=x0 at *;generalize vals 8=x8 at *;generalize vals 9=x9 at *;obtain ⟨A2,c2,hc2,hown2,hb2⟩:=f11;clear HI0 HC0;go_wp2_with fail
    go_roundw
    case rel=>exact ⟨k+1,A2,c2,hlt,hlt10,by go_num,hc2,hown2,hb2,hC1⟩
    case measure=>simp [intOf]; omega
   ·have hd10:decide ((k:Int)<10)=false:=by simp; omega
    obtain rfl:k=10:=by omega
    have hob:=HO.out.below hC2 (by have:=HS.out; omega);go_wp2_with (first | refine qac hbk rfl rfl rfl Tryd.underlying25 rfl qas ?_ | (refine qae hob rfl rfl rfl rfl qas rfl (by simp [Value.oneCell']) ?_; intro w2 hb2 hw2));refine bodyPost_ret (qap rfl rfl hb2 Tryd.underlying25 rfl qas) rfl ?_;have hn:(cutM ⟨kind,src,dst,seq,fields,sig⟩).fields.length=10:=by simp [cutM]; omega
    have hf:(cutM ⟨kind,src,dst,seq,fields,sig⟩).fields=(fields.take 10).map fewS:=by
     simp only [cutM]
    refine ⟨A1,c1,?_,by omega,?_,hw2.below (HB2.out.trans (hC2.mono HB2.out.size)) (by omega) (by have:=hC2.size; have:=HS.out; omega)⟩
    ·rw [HS1.out,HS2.out,HS3.out];simp only [msgCells,hn];rfl
    ·rw [hn,hf];exact (hw2.own hown1 (qaD (t:=25) hown1 hob (by decide))).mono HB2.out.size
  ·obtain rfl:k=fields.length:=by omega
   have hob:=HO.out.below hC2 (by have:=HS.out; omega);go_wp2_with (first | refine qac hbk rfl rfl rfl Tryd.underlying25 rfl qas ?_ | (refine qae hob rfl rfl rfl rfl qas rfl (by simp [Value.oneCell']) ?_; intro w2 hb2 hw2));refine bodyPost_ret (qap rfl rfl hb2 Tryd.underlying25 rfl qas) rfl ?_;have hn:(cutM ⟨kind,src,dst,seq,fields,sig⟩).fields.length=fields.length:=by simp [cutM]; omega
   have hf:(cutM ⟨kind,src,dst,seq,fields,sig⟩).fields=(fields.take fields.length).map fewS:=by
    simp only [cutM]
    congr 1
    rw [List.take_of_length_le (show fields.length≤10 by omega),List.take_length]
   refine ⟨A1,c1,?_,by omega,?_,hw2.below (HB2.out.trans (hC2.mono HB2.out.size)) (by omega) (by have:=hC2.size; have:=HS.out; omega)⟩
   ·rw [HS1.out,HS2.out,HS3.out];simp only [msgCells,hn];rfl
   ·rw [hn,hf];exact (hw2.own hown1 (qaD (t:=25) hown1 hob (by decide))).mono HB2.out.size
set_option maxRecDepth 100000
theorem anyLong_yes {l:List ByteArray} {k:Nat} (hk:k<l.length) (h:1000<(l[k]).size):anyLong l=true :=
 List.any_eq_true.2 ⟨l[k],List.getElem_mem hk,by simpa using h⟩
theorem anyLong_no {l:List ByteArray} (h:∀ j,(h:j<l.length)→¬ 1000<(l[j]).size):anyLong l=false:=by
 rw [Bool.eq_false_iff];intro e;obtain ⟨x,hx,hl⟩:=List.any_eq_true.1 e;obtain ⟨j,hj,rfl⟩:=List.getElem_of_mem hx;exact h j hj (by simpa using hl)
theorem rmay_any (m:MsgD) (A:Option Addr) (c B:Nat) (w:World) (hr:Rd w B A (strsV m.fields)) (hB:B≤w.heap.size) (hc:m.fields.length≤c) (ok:MsgOk m) :
  Calls Tryd.prog 6 #[.agg (msgCells m A c)] w fun e w'=>e=.returned (.bool (mayB m))∧w'=w.alloc (.cells (msgCells m A c) 25):=by
 obtain ⟨kind,src,dst,seq,fields,sig⟩:=m;obtain ⟨ok1,ok2,ok3,ok4,ok5⟩:=ok;dsimp only [msgCells] at *;have hr2:Rd (w.alloc (.cells #[.int .i64 kind,.string src,.string dst,.int .i64 seq,.slice A fields.length c,.string sig] 25)) B A (strsV fields):=hr.below ((Below.refl _ _).alloc hB _);have HR:=zY hr2;have H5:=zY ok5;clear hr hr2 ok5;go_enter Tryd.func6,Tryd.ntmps6;go_wp2_with fail
 all_goals try (go_ret; refine ⟨qaY ?_,rfl⟩; simp only [mayB]; simp [*]; done)
 all_goals try (go_ret; refine ⟨qaY ?_,rfl⟩; simp only [mayB]; simp [*]; omega)
 go_loop [3] (fun i=>∃ k:Nat,k≤fields.length∧i=.int .i64 k∧∀ j,(h:j<fields.length)→j<k→¬ 1000<(fields[j]).size) (fun i=>fields.length - (intOf i).toNat)
 case atStart=>exact ⟨0,Nat.zero_le _,rfl,fun j _ h=>absurd h (by omega)⟩
 case round =>
  obtain ⟨k,hk,rfl,hno⟩:=hrel;have HN:=zY hno;clear hno
  by_cases hlt:k<fields.length
  ·obtain ⟨ad,rfl,_,hcell⟩:=HR.out.at_ (k:=k) (by rw [qa2]; exact hlt);simp only [strsV,List.getElem_map] at hcell;have hsz:=H5.out fields[k] (List.getElem_mem hlt);go_wp2_with fail
   ·go_ret;have h1:1000<fields[k].size:=by omega
    refine ⟨qaY ?_,rfl⟩;simp only [mayB,anyLong_yes hlt h1];simp
   ·go_round
    case rel =>
     refine ⟨k+1,hlt,by go_num,fun j h hj=>?_⟩
     by_cases e:j=k
     ·subst e; omega
     ·exact HN.out j h (by omega)
    case measure=>simp [intOf]; omega
  ·have hal:anyLong fields=false:=anyLong_no (fun j h=>HN.out j h (by omega));go_wp2_with fail
   ·go_ret;refine ⟨qaY ?_,rfl⟩;have e1:1≤kind:=by omega
    have e2:kind≤255:=by omega
    have e3:0≤seq:=by omega
    have e4:seq≤1099511627776:=by omega
    have e5:fields.length≤8:=by omega
    have e6:¬ 1000<src.size:=by omega
    have e7:¬ 1000<dst.size:=by omega
    simp [mayB,hal,e1,e2,e3,e4,e5,e6,e7]
   ·go_ret;refine ⟨qaY ?_,rfl⟩;have e1:1≤kind:=by omega
    have e2:kind≤255:=by omega
    have e3:0≤seq:=by omega
    have e4:seq≤1099511627776:=by omega
    have e5:fields.length≤8:=by omega
    have e6:¬ 1000<src.size:=by omega
    have e7:¬ 1000<dst.size:=by omega
    simp only [mayB,hal,e1,e2,e3,e4,e5,e6,e7];have e8:((sig.size:Int) == 0)=decide (sig.size=0):=by rw [Bool.eq_iff_iff]; simp
    have e9:((sig.size:Int) == 64)=decide (sig.size=64):=by rw [Bool.eq_iff_iff]; simp; omega
    rw [e8,e9];simp
def livM:MsgD:=⟨1,⟨#[97]⟩,⟨#[98]⟩,0,[],⟨#[]⟩⟩
theorem livM_pack:packB livM=[1,0,0,0,0,0,0,0,0,0,1,97,0,1,98,0,0]:=by decide +kernel
theorem lives_any (w:World):Calls Tryd.prog 8 #[] w fun e w'=>e=.returned (.bool true)∧Below w.heap.size w w':=by
 have hp:=pack_any livM none 0 0 w (Rd.nil _ _ _) (Nat.zero_le _) (by decide) ⟨by decide,by decide,by decide,by decide,fun s hs=>by simp [livM] at hs⟩;have HP:=zY hp;clear hp;go_enter Tryd.func8,Tryd.ntmps8;go_wp2_with fail;refine qab HP.out ?_;rintro e w1 ⟨hb,h⟩;rw [if_pos (by decide +kernel)] at h;obtain ⟨A,c,rfl,hown⟩:=h;obtain ⟨L,hL⟩:=eX (packB livM);rw [← hL] at hown ⊢;have hrd:=Rd.of_own hown (Nat.le_refl _)
 have heq:((⟨L.toArray⟩:ByteArray).toList == [1,0,0,0,0,0,0,0,0,0,1,97,0,1,98,0,0])=true:=by
  rw [qbc,hL,livM_pack]; rfl
 have HL:=zY hL;clear hL;go_wp2_with (refine qaw hrd Tryd.underlying22 Tryd.underlying5 Tryd.underlying9 rfl rfl rfl ?_);go_ret;exact ⟨rfl,hb⟩
theorem few_le (s:ByteArray):(fewS s).size≤s.size:=by
 unfold fewS
 split
 ·rw [ByteArray.size_extract]; omega
 ·split
  ·rw [ByteArray.size_extract]; omega
  ·exact Nat.le_refl _
theorem cut_ok {m:MsgD} (ok:MsgOk m):MsgOk (cutM m) :=
 ⟨Nat.le_trans (few_le _) ok.src,Nat.le_trans (few_le _) ok.dst,Nat.le_trans (few_le _) ok.sig,by have:=ok.fields; simp [cutM]; omega,fun s hs=>by
  simp only [cutM,List.mem_map] at hs;obtain ⟨t,ht,rfl⟩:=hs;exact Nat.le_trans (few_le _) (ok.each t (List.mem_of_mem_take ht))⟩
structure Held (w:World) (B:Nat) (g:Nat) (m:MsgD) (A:Option Addr) (c:Nat):Prop where
 box:Blk w g 25 (msgCells m A c)
 cap:m.fields.length≤c
 rd:Rd w B A (strsV m.fields)
theorem Held.below {w w':World} {B B' g:Nat} {m:MsgD} {A:Option Addr} {c:Nat} (h:Held w B g m A c) (hb:Below B' w w') (hg:g<B') (hB:B≤B'):Held w' B g m A c :=
 ⟨h.box.below hb hg,h.cap,h.rd.below (hb.mono hB)⟩
end Go.Proofs.YtjmfkinedhmglaaDoor.Wi
