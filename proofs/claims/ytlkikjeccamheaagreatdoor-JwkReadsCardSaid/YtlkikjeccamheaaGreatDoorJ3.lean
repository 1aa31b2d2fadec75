/-
  Joined texts: Rj8 Trm Dom Jri Jso Jrr Jrt Jtx Jnu Jva Jvl Jwr Jk1 Jkl Jgt Jsm Jok Seq2 Rj9 Rja Re1 Rep2 Jdc Rdp7 Re2 Rdc Jen.
-/
import Derived.Test.YtlkikjeccamheaaGreatDoorProg
import Derived.Shelf.Strings.SlTrimAscii
import Derived.Shelf.Abstract
import Derived.Deep.DeepCutAuto
import Derived.Deep.QuietTactic
import Derived.BigQuiet
import Derived.Laws.Runes
import Derived.Carry
import Derived.Lib.Bytealg
import Derived.Deep.Slices
import Derived.Test.YtlkikjeccamheaaGreatDoorJ2
import Derived.Test.YtlkikjeccamheaaGreatDoorJ1
namespace Go.Proofs.YtlkikjeccamheaaGreatDoor.Js
set_option linter.unusedSimpArgs false
set_option linter.unusedVariables false
set_option maxRecDepth 100000
set_option maxHeartbeats 4000000
open Go.RowKit
def RVl (d:Nat):Prop:=∀ (s:ByteArray) (hs:(s.size:Int)≤1000000) (r a:Nat) (ha:a≤s.size) (w:World) (h:RQ w r s a 0) (D:Int) (hD:D+(d:Int)=7),
 Calls Tryz.prog 47 #[.pointer (some ⟨r,0,none⟩),.int .i64 D] w fun x w'=>∃ v:JV,x=.returned (.agg (jvCells v))∧VPost d s r a w w' v
set_option maxHeartbeats 16000000 in
theorem qdt (d:Nat) (hd6:d≤6) (IH:∀ d',d=d'+1→RVl d'):RVl d:=by
 intro s hs r a ha w h D hD;have hu:=Tryz.underlying44;obtain ⟨W0,hW0⟩:=eX (w.alloc (.cells (jvCells zJV) 44));have hb0:Below w.heap.size w W0:=by rw [hW0]; exact (Below.refl _ w).alloc (Nat.le_refl _) _
 have HM0:=zY (show VM w r s W0 a 0 from ⟨Blk.lt h,by rw [hW0]; exact Blk.new _ _ _,h.grow hb0,.below hb0⟩);have HW0:=zY hW0;have HA:=zY ha;have HS:=zY hs;have HDD:=zY hD;have HD6:=zY hd6;have HIH:=zY IH;obtain ⟨Y,hY⟩:=eX (skip (s.data.toList.drop a));have HYS:=zY hY;have CG:=zY (fun (b:Nat) (hb:b≤s.size) (e:Int) (u:World) (h:RQ u r s b e)=>rgap_any s r b e hb hs u h);have CN:=zY (fun (t:Bs) (ht:t.length≤10) (b:Nat) (hb:b≤s.size) (e:Int) (u:World) (h:RQ u r s b e)=>rnext_any s t ht r b e hb hs u h);have CB:=zY (fun (c:Int) (b:Nat) (e:Int) (u:World) (h:RQ u r s b e)=>qdb c s r b e u h);clear hW0 hb0 h ha hs hD hd6 IH hY;go_enter Tryz.func47,Tryz.ntmps47
 go_upto_region 1 with (fail)
 rw [show (w.alloc (.cells #[.int .i64 0,.int .i64 0,.string ⟨#[]⟩,.slice none 0 0,.slice none 0 0] 44))=W0 from HW0.out.symm];clear HW0;go_wp2_with fail;refine qaa (CG.out a HA.out 0 W0 HM0.out.q) ?_;rintro y w1 ⟨rfl,a0,h1,h2,h3,hq,hg⟩;have HM1:=zY (HM0.out.step hq hg);have HY:=zY (show s.data.toList.drop a0=Y by rw [h3,HYS.out]);have HA0:=zY h2;clear hq hg h1 h2 h3 HM0;go_wp2_with fail;refine qaa (CN.out [110,117,108,108] (by decide) a0 HA0.out 0 _ HM1.out.q) ?_;rintro y w2 ⟨rfl,hq,hg⟩;rw [nextB_z,HY.out] at hq ⊢
 by_cases hp1:[110,117,108,108].isPrefixOf Y=true
 ·rw [hp1] at hq ⊢;rw [if_pos rfl] at hq;have HM2:=zY (HM1.out.step hq hg);have HR:=zY (raw_null (lp:=lpOf d) hp1)
  have HAA:=zY (show a0+4≤s.size by
   have h1:=(List.isPrefixOf_iff_prefix.1 hp1).length_le;rw [← HY.out,List.length_drop] at h1;have h5:s.data.toList.length=s.size:=rfl;simp at h1
   omega)
  clear hq hg hp1;go_wp2_with (refine qac (x:=.tmp 4) (cells:=jvCells zJV) HM2.out.res rfl rfl rfl rfl qag rfl (qae _) ?_; intro w9 hb9 hw9);refine bodyPost_ret (qah (P:=Tryz.prog) rfl rfl hb9 hu rfl qag) rfl ?_;exact ⟨zJV,rfl,HM2.out.ok hw9 HAA.out (by rw [← HYS.out]; exact HR.out) (by rw [← List.drop_drop,HY.out]; rfl) (JRep.flat _ _ 0 0 [])⟩
 have HP1:=zY hp1;rw [Bool.not_eq_true] at hp1;rw [hp1] at hq ⊢;rw [if_neg (by decide)] at hq;have HM2:=zY (HM1.out.step hq hg);clear hq hg hp1 HM1;go_wp2_with fail;refine qaa (CN.out [116,114,117,101] (by decide) a0 HA0.out 0 _ HM2.out.q) ?_;rintro y w3 ⟨rfl,hq,hg⟩;rw [nextB_z,HY.out] at hq ⊢
 by_cases hp1:[116,114,117,101].isPrefixOf Y=true
 ·rw [hp1] at hq ⊢;rw [if_pos rfl] at hq;have HM3:=zY (HM2.out.step hq hg);have HR:=zY (raw_true (lp:=lpOf d) hp1)
  have HAA:=zY (show a0+4≤s.size by
   have h1:=(List.isPrefixOf_iff_prefix.1 hp1).length_le;rw [← HY.out,List.length_drop] at h1;have h5:s.data.toList.length=s.size:=rfl;simp at h1
   omega)
  clear hq hg hp1;go_wp2_with (refine qac (x:=.tmp 4) (cells:=jvCells ⟨1,1,[],none,0,0,none,0,0⟩) HM3.out.res rfl rfl rfl rfl qag rfl (qae _) ?_; intro w9 hb9 hw9);refine bodyPost_ret (qah (P:=Tryz.prog) rfl rfl hb9 hu rfl qag) rfl ?_;exact ⟨_,rfl,HM3.out.ok hw9 HAA.out (by rw [← HYS.out]; exact HR.out) (by rw [← List.drop_drop,HY.out]; rfl) (JRep.flat _ _ 1 1 [])⟩
 have HP2:=zY hp1;rw [Bool.not_eq_true] at hp1;rw [hp1] at hq ⊢;rw [if_neg (by decide)] at hq;have HM3:=zY (HM2.out.step hq hg);clear hq hg hp1 HM2;go_wp2_with fail;refine qaa (CN.out [102,97,108,115,101] (by decide) a0 HA0.out 0 _ HM3.out.q) ?_;rintro y w4 ⟨rfl,hq,hg⟩;rw [nextB_z,HY.out] at hq ⊢
 by_cases hp1:[102,97,108,115,101].isPrefixOf Y=true
 ·rw [hp1] at hq ⊢;rw [if_pos rfl] at hq;have HM4:=zY (HM3.out.step hq hg);have HR:=zY (raw_false (lp:=lpOf d) hp1)
  have HAA:=zY (show a0+5≤s.size by
   have h1:=(List.isPrefixOf_iff_prefix.1 hp1).length_le;rw [← HY.out,List.length_drop] at h1;have h5:s.data.toList.length=s.size:=rfl;simp at h1
   omega)
  clear hq hg hp1;go_wp2_with (refine qac (x:=.tmp 4) (cells:=jvCells ⟨1,0,[],none,0,0,none,0,0⟩) HM4.out.res rfl rfl rfl rfl qag rfl (qae _) ?_; intro w9 hb9 hw9);refine bodyPost_ret (qah (P:=Tryz.prog) rfl rfl hb9 hu rfl qag) rfl ?_;exact ⟨_,rfl,HM4.out.ok hw9 HAA.out (by rw [← HYS.out]; exact HR.out) (by rw [← List.drop_drop,HY.out]; rfl) (JRep.flat _ _ 1 0 [])⟩
 have HP3:=zY hp1;rw [Bool.not_eq_true] at hp1;rw [hp1] at hq ⊢;rw [if_neg (by decide)] at hq;have HM4:=zY (HM3.out.step hq hg);clear hq hg hp1 HM3;go_wp2_with fail;refine qaa (CN.out [34] (by decide) a0 HA0.out 0 _ HM4.out.q) ?_;rintro y w5 ⟨rfl,hq,hg⟩;rw [qa6 (by decide),HY.out] at hq ⊢
 by_cases hp1:look Y=34
 ·have hp2:(look Y == 34)=true:=by simpa using hp1
  rw [hp2] at hq ⊢;rw [if_pos rfl] at hq;have HM5:=zY (HM4.out.step hq hg);have HR:=zY (raw_text (lp:=lpOf d) hp1);obtain ⟨hlt,htx⟩:=txr_text HY.out hp1;obtain ⟨X,hX⟩:=eX (textP Y);rw [← hX] at htx;have HX:=zY hX;have CT:=zY (rtext_any s HS.out r (a0+1) hlt w5 HM5.out.q X htx);clear hq hg hp1 hp2 htx hX hlt;go_wp2_with fail;refine qaa CT.out ?_;rintro y w6 ⟨rfl,a',e',h1,h2,h3,hq,hg⟩;have HM6:=zY (HM5.out.step hq hg);have H1:=zY h1;have H2:=zY h2;have H3:=zY h3;clear hq hg h1 h2 h3;go_wp2_with (refine qac (x:=.tmp 4) (cells:=jvCells ⟨3,0,textS X,none,0,0,none,0,0⟩) HM6.out.res rfl rfl rfl rfl qag rfl (qae _) ?_; intro w9 hb9 hw9);refine bodyPost_ret (qah (P:=Tryz.prog) rfl rfl hb9 hu rfl qag) rfl ?_;refine ⟨_,rfl,?_⟩;have HRX:=HR.out;rw [← HX.out] at HRX
  cases X with
  | none=>exact HM6.out.err hw9 H1.out (H3.out rfl) (by rw [← HYS.out,HRX]; rfl)
  | some p =>
   obtain ⟨g1,g2,g3⟩:=H2.out p.1 p.2 rfl;subst g3;exact HM6.out.ok hw9 H1.out (by rw [← HYS.out,HRX]; rfl) (by rw [g2]) (JRep.flat _ _ 3 0 p.1)
 have HP4:=zY hp1;have hp2:(look Y == 34)=false:=by simpa using hp1
 rw [hp2] at hq ⊢;rw [if_neg (by decide)] at hq;have HM5:=zY (HM4.out.step hq hg);clear hq hg hp1 hp2 HM4;go_wp2_with fail;refine qaa (CN.out [91] (by decide) a0 HA0.out 0 _ HM5.out.q) ?_;rintro y w6 ⟨rfl,hq,hg⟩;rw [qa6 (by decide),HY.out] at hq ⊢;obtain ⟨bl,hbl⟩:=eX ((look Y == 91));rw [← hbl] at hq ⊢;have HBL:=zY hbl;obtain ⟨m,hm⟩:=eX (isMap Y);have HM:=zY hm;have HM6:=zY (HM5.out.step hq hg);clear hq hg hbl hm HM5
 go_upto_region 16 with (fail)
 go_upto_if 42 with (fail)
 go_cut [10] (fun x wx=>x=.bool m∧VM w r s wx (if (bl || m)=true then a0+1 else a0) 0)
 case first =>
  cases bl with
  | true =>
   have hm0:m=false:=by
    have h1:=HBL.out;rw [HM.out,isMap,beq_iff_eq.1 h1.symm];rfl
   subst hm0;go_wp2_with fail
   go_meet
   exact ⟨rfl,HM6.out⟩
  | false =>
   have HM6':=zY (show VM w r s w6 a0 0 from HM6.out);go_wp2_with fail;refine qaa (CN.out [123] (by decide) a0 HA0.out 0 _ HM6'.out.q) ?_;rintro y w7 ⟨rfl,hq,hg⟩;rw [qa6 (by decide),HY.out] at hq ⊢;rw [show (look Y == 123)=m from HM.out.symm] at hq ⊢;have HM7:=zY (HM6'.out.step hq hg);clear hq hg;go_wp2_with fail
   go_meet
   exact ⟨rfl,by rw [Bool.false_or]; exact HM7.out⟩
 case rest =>
 obtain ⟨rfl,hm7⟩:=hcut;have HM7:=zY hm7;clear hm7 HM6
 go_upto_region 18 with (fail)
 go_cut [50] (fun x wx=>x=.bool (!(bl || m))∧wx=wc)
 case first =>
  cases bl <;> cases m
  all_goals
   go_wp2_with fail
   go_meet
   exact ⟨rfl,rfl⟩
 case rest =>
 obtain ⟨rfl,rfl⟩:=hcut
 cases hlm:(bl || m) with
 | false =>
  rw [hlm] at HM7;obtain ⟨rfl,rfl⟩:bl=false∧m=false:=by simpa using hlm
  have HM8:=zY (show VM w r s wc a0 0 from HM7.out);have HR:=zY (raw_num (lp:=lpOf d) HP1.out HP2.out HP3.out HP4.out (by have:=HBL.out; simpa using this.symm) (by have:=HM.out; rw [isMap] at this; simpa using this.symm));have CU:=zY (rnumber_any s HS.out r a0 HA0.out wc HM8.out.q Y HY.out.symm);clear hlm HM7;go_wp2_with fail;refine qaa CU.out ?_;rintro y w8 ⟨rfl,a',e',h1,h2,h3,hq,hg⟩;have HM9:=zY (HM8.out.step hq hg);have H1:=zY h1;have H2:=zY h2;have H3:=zY h3;clear hq hg h1 h2 h3;obtain ⟨X,hX⟩:=eX (numP Y);rw [← hX] at H2 H3 HR ⊢;clear hX;go_wp2_with (refine qac (x:=.tmp 4) (cells:=jvCells (numV X)) HM9.out.res rfl rfl rfl rfl qag rfl (qae _) ?_; intro w9 hb9 hw9);refine bodyPost_ret (qah (P:=Tryz.prog) rfl rfl hb9 hu rfl qag) rfl ?_;refine ⟨_,rfl,?_⟩
  cases X with
  | none=>exact HM9.out.err hw9 H1.out (H3.out rfl) (by rw [← HYS.out,HR.out]; rfl)
  | some p =>
   obtain ⟨g2,g3⟩:=H2.out p.1 p.2 rfl;subst g3;exact HM9.out.ok hw9 H1.out (by rw [← HYS.out,HR.out]; rfl) g2 (JRep.flat _ _ 2 p.1 [])
 | true =>
 rw [hlm,if_pos rfl] at HM7
 have HR:=zY (raw_list (lp:=lpOf d) (Y:=Y) (by
  have h1:=HBL.out;have h2:=HM.out;rw [isMap] at h2
  rcases Bool.or_eq_true_iff.1 hlm with h | h
  ·rw [h] at h1; exact .inl (beq_iff_eq.1 h1.symm)
  ·rw [h] at h2; exact .inr (beq_iff_eq.1 h2.symm)))
 have HLT:=zY (show a0<s.size from qba (by
  rw [HY.out];have h1:=HBL.out;have h2:=HM.out;rw [isMap] at h2
  rcases Bool.or_eq_true_iff.1 hlm with h | h
  ·rw [h] at h1; rw [beq_iff_eq.1 h1.symm]; decide
  ·rw [h] at h2; rw [beq_iff_eq.1 h2.symm]; decide))
 clear hlm HP1 HP2 HP3 HP4
 go_upto_region 20 with (fail)
 go_upto_region 21 with (refine qac (cells:=jvCells (treeV false none 0 0 none 0 0)) (Blk.new _ _ _) rfl rfl rfl rfl qag rfl (qae _) ?_; intro w2 hb2 hw2)
 obtain ⟨H,hH⟩:=eX (wc.heap.size);have hbw2:Below wc.heap.size wc w2:=qaz hw2;rw [← hH] at hb2 ⊢
 have HQ2:=zY (show QM w w.heap.size H r s (treeV false none 0 0 none 0 0) w2 (a0+1) 0 from
  (HM7.out.step (HM7.out.q.grow hbw2) (.below hbw2)).qm hb2 (by rw [hH]; exact HM7.out.res.lt))
 clear hbw2 hb2 hw2 hH HM7
 go_upto_region 22 with (fail)
 go_upto_if 54 with (fail)
 go_cut [12] (fun c wx=>c=.string (bs [endC m])∧QM w w.heap.size H r s (treeV m none 0 0 none 0 0) wx (a0+1) 0)
 case first =>
  cases m with
  | false =>
   go_wp2_with fail
   go_meet
   exact ⟨rfl,HQ2.out⟩
  | true =>
   go_wp2_with (refine qaf (x:=.tmp 55) (i:=0) HQ2.out.tree rfl rfl rfl rfl (by kernel_rfl) (by simp [jvCells]) rfl ?_; intro w3 hb3 hw3)
   go_meet
   exact ⟨rfl,HQ2.out.put hw3 hb3⟩
 case rest =>
 obtain ⟨rfl,hq3⟩:=hcut;have HQ3:=zY hq3;clear hq3 HQ2
 cases d with
 | zero =>
  obtain rfl:D=7:=by have:=HDD.out; omega
  go_wp2_with fail;refine qaa (CB.out 9 (a0+1) 0 _ HQ3.out.rd) ?_;rintro y w4 ⟨rfl,hq,hg⟩;have HQ4:=zY (HQ3.out.step hg (show RQ w4 r s (a0+1) 9 from hq));clear hq hg
  go_wp2_with (first
   | refine qad (x:=.tmp 11) HQ4.out.tree rfl rfl rfl hu rfl qag ?_
   | (refine qac (x:=.tmp 4) (cells:=jvCells (treeV m none 0 0 none 0 0)) HQ4.out.res rfl rfl rfl rfl qag rfl (qae _) ?_; intro w9 hb9 hw9))
  refine bodyPost_ret (qah (P:=Tryz.prog) rfl rfl hb9 hu rfl qag) rfl ?_;exact ⟨_,rfl,HQ4.out.vm.err hw9 HLT.out (by decide) (by rw [← HYS.out,HR.out]; rfl)⟩
 | succ d =>
  have hD6:¬ 6<D:=by have:=HDD.out; omega
  have hD7:D≤6:=by have:=HD6.out; have:=HDD.out; omega
  have hD8:1≤D:=by have:=HD6.out; have:=HDD.out; omega
  have HV:=zY (HIH.out d rfl);obtain ⟨LL,hLL⟩:=eX (listL (valueP d) m Y.length [] [] (skip Y.tail))
  have HLR:=zY (show rawP (lpOf (d+1)) Y=lres m LL by
   rw [HR.out,hLL,HM.out];show listP (valueP d) Y=_;rw [qbK])
  obtain ⟨n,hn⟩:∃ n,Y.length=n+1:=⟨Y.length - 1,by
   have h1:=HLT.out;have h5:s.data.toList.length=s.size:=rfl;rw [← HY.out,List.length_drop]
   omega⟩
  have HYL:=zY (show Y.length≤s.size by
   have h5:s.data.toList.length=s.size:=rfl;rw [← HY.out,List.length_drop]
   omega)
  have HN:=zY hn;have HLN:=zY (show LL=listL (valueP d) m (n+1) [] [] (skip Y.tail) by rw [hLL,hn]);clear hLL HIH hn HR;go_wp2_with fail;refine qaa (CG.out (a0+1) HLT.out 0 _ HQ3.out.rd) ?_;rintro y w4 ⟨rfl,a1,h1,h2,h3,hq,hg⟩;have HQ4:=zY (HQ3.out.step hg hq);have HX1:=zY (show s.data.toList.drop a1=skip Y.tail by rw [h3,qaK,HY.out]);have HA1:=zY h2;clear hq hg h1 h2 h3 HQ3;go_wp2_with fail;refine qaa (CN.out [endC m] (by simp) a1 HA1.out 0 _ HQ4.out.rd) ?_;rintro y w5 ⟨rfl,hq,hg⟩;rw [qa6 (by cases m <;> decide),HX1.out] at hq ⊢;obtain ⟨o,ho⟩:=eX ((look (skip Y.tail) == endC m));rw [← ho] at hq ⊢;have HO:=zY ho;have HQ5:=zY (HQ4.out.step hg hq);clear hq hg ho HQ4;go_wp2_with fail
  go_loopg [13] (n+1) (fun gk ov wr=>∃ (b:Nat) (e:Int) (o:Bool) (T:JV),ov=.bool o∧b≤s.size∧QM w w.heap.size H r s T wr b e∧LSt w H r s d m (n+1) LL gk wr b e o T)
  case atStart =>
   refine ⟨_,0,o,_,rfl,?_,HQ5.out,.inl ⟨rfl,[],[],none,none,0,0,rfl,HQ5.out.start,Nat.le_refl _,by simp,?_⟩⟩
   ·cases o with
    | false=>exact HA1.out
    | true =>
     have h1:look (s.data.toList.drop a1)≠0:=by
      rw [HX1.out,beq_iff_eq.1 HO.out.symm]
      cases m <;> decide
     exact qba h1
   ·have hs1:signP (endC m) (skip Y.tail)=if look (skip Y.tail)=endC m then (true,skip (skip Y.tail).tail) else (false,skip Y.tail):=by
     unfold signP;rw [qbg]
    cases o with
    | true =>
     have h1:=beq_iff_eq.1 HO.out.symm;rw [if_pos h1] at hs1;refine .inl ⟨rfl,?_⟩;rw [HLN.out,qbL hs1];show some _=some _;rw [if_pos rfl,show a1+[endC m].length=a1+1 from rfl,qaK,HX1.out]
    | false =>
     have h1:¬ look (skip Y.tail)=endC m:=fun h=>by have:=HO.out; rw [h] at this; simp at this
     rw [if_neg h1] at hs1;refine .inr ⟨rfl,n,rfl,?_,?_⟩
     ·rw [if_neg (by decide),HX1.out,qbg];have h2:=qaG Y.tail;have h3:=HN.out;rw [List.length_tail] at h2;omega
     ·rw [HLN.out,qbj hs1,if_neg (by decide),HX1.out,qbg];rfl
  case round =>
   obtain ⟨b,e,o,T,rfl,hb,hqm,hst⟩:=hrel;have HB:=zY hb;have HQM:=zY hqm;obtain ⟨e0,e1,e2⟩:=hqm.rd.cells;clear hb hqm e0 e1 HQ5
   rcases hst with ⟨rfl,ns,ks,A1,A2,c1,c2,rfl,hql,hnk,hkg,hst⟩ | ⟨he,rfl,hll⟩
   case inr =>
    have HE:=zY he;have HLL:=zY hll;have he1:(e == 0)=false:=by simpa using he
    clear he hll
    go_wp2_with (first
     | refine qad (x:=.tmp 11) HQM.out.tree rfl rfl rfl hu rfl qag ?_
     | (refine qac (x:=.tmp 4) (cells:=jvCells T) HQM.out.res rfl rfl rfl rfl qag rfl (qae _) ?_; intro w9 hb9 hw9))
    refine bodyPost_ret (qah (P:=Tryz.prog) rfl rfl hb9 hu rfl qag) rfl ?_;refine ⟨_,rfl,HQM.out.vm.err hw9 HB.out HE.out ?_⟩;rw [← HYS.out,HLR.out];obtain ⟨e1,h1⟩:=qcf HLL.out;rw [h1];rfl
   have HQL:=zY hql;have HNK:=zY hnk;have HKG:=zY hkg;clear hql hnk hkg
   rcases hst with ⟨rfl,hll⟩ | ⟨rfl,k,hgk,hlen,hll⟩
   case inl =>
    have HLL:=zY hll;clear hll
    go_wp2_with (first
     | refine qad (x:=.tmp 11) HQM.out.tree rfl rfl rfl hu rfl qag ?_
     | (refine qac (x:=.tmp 4) (cells:=jvCells (treeV m A1 ns.length c1 A2 ks.length c2)) HQM.out.res rfl rfl rfl rfl qag rfl (qae _) ?_; intro w9 hb9 hw9))
    refine bodyPost_ret (qah (P:=Tryz.prog) rfl rfl hb9 hu rfl qag) rfl ?_;refine ⟨_,rfl,HQM.out.vm.ok (j:=.mk (kindV m) 0 [] ns ks) (r':=skip (s.data.toList.drop b)) hw9 HB.out ?_ (by rw [qbg]) ?_⟩
    ·rw [← HYS.out,HLR.out,qbF HLL.out];rfl
    ·have hgh:=HQM.out.gh;exact ((HQL.out.rep (kk:=kindV m)).heap fun b hb1 hb=>hw9.grown.block b hb1 (by intro h; injection h with h; omega)).imp fun b _ hb=>by omega
   have HGK:=zY hgk;have HLEN:=zY hlen;have HLL:=zY hll;clear hgk hlen hll;obtain ⟨R,hR⟩:=eX (skip (s.data.toList.drop b));rw [← hR] at HLEN HLL;have HR:=zY hR;clear hR
   have HFIN:=zY (fun (hn:okO LL=none)=>show okO (rawP (lpOf (d+1)) (skip (s.data.toList.drop a)))=none by
    rw [← HYS.out,HLR.out];obtain ⟨e1,h1⟩:=qcf hn;rw [h1]
    rfl)
   have hnl:(ns.length:Int)≤1000001:=by have:=HNK.out; have:=HKG.out; have:=HYL.out; have:=HS.out; have:=HN.out; omega
   have hkl:(ks.length:Int)≤1000001:=by have:=HNK.out; have:=HKG.out; have:=HYL.out; have:=HS.out; have:=HN.out; omega
   go_upto_region 31 with (fail)
   go_upto_if 75 with (fail)
   go_cut [] (fun wx=>NmSt w H r s m ns A2 c2 ks R wx)
   case first =>
    cases m with
    | false =>
     go_wp2_with fail
     go_meet
     exact ⟨ns,A1,c1,b,R,HB.out,HQL.out,by have:=HNK.out; omega,rfl,by rw [HR.out,qbg]⟩
    | true =>
     go_wp2_with fail;refine qaa (CG.out b HB.out 0 _ HQM.out.rd) ?_;rintro y w1 ⟨rfl,b1,h1,h2,h3,hq,hg⟩;have HQL1:=zY (HQL.out.step hg hq);have HRB:=zY (show s.data.toList.drop b1=R by rw [h3,HR.out]);have HB1:=zY h2;clear hq hg h1 h2 h3;go_wp2_with fail;refine qaa (CN.out [34] (by decide) b1 HB1.out 0 _ HQL1.out.m.rd) ?_;rintro y w2 ⟨rfl,hq,hg⟩;rw [qa6 (by decide),HRB.out] at hq ⊢
     by_cases h34:look R=34
     case neg =>
      have hf:(look R == 34)=false:=by simpa using h34
      rw [hf] at hq ⊢;rw [if_neg (by decide)] at hq;have HQL2:=zY (HQL1.out.step hg hq);have HNO:=zY (show okO LL=none by rw [← HLL.out]; exact more_none (name_none (by unfold textP; rw [if_neg h34])));clear hq hg hf h34;go_wp2_with fail;refine qaa (CB.out 13 b1 0 _ HQL2.out.m.rd) ?_;rintro y w3 ⟨rfl,hq,hg⟩;have HQM3:=zY (HQL2.out.m.step hg (show RQ w3 r s b1 13 from hq));clear hq hg
      go_wp2_with (first
       | refine qad (x:=.tmp 11) HQM3.out.tree rfl rfl rfl hu rfl qag ?_
       | (refine qac (x:=.tmp 4) (cells:=jvCells (treeV true A1 ns.length c1 A2 ks.length c2)) HQM3.out.res rfl rfl rfl rfl qag rfl (qae _) ?_; intro w9 hb9 hw9))
      refine bodyPost_ret (qah (P:=Tryz.prog) rfl rfl hb9 hu rfl qag) rfl ?_;exact ⟨_,rfl,HQM3.out.vm.err hw9 HB1.out (by decide) (HFIN.out HNO.out)⟩
     have hf:(look R == 34)=true:=by simpa using h34
     rw [hf] at hq ⊢;rw [if_pos rfl] at hq;have HQL2:=zY (HQL1.out.step hg hq);obtain ⟨hlt,htx⟩:=txr_text HRB.out h34;obtain ⟨X,hX⟩:=eX (textP R);rw [← hX] at htx;have HX:=zY hX;have CT:=zY (rtext_any s HS.out r (b1+1) hlt w2 HQL2.out.m.rd X htx);clear hq hg hf h34 htx hX hlt;go_wp2_with fail;refine qaa CT.out ?_;rintro y w3 ⟨rfl,b3,e3,h1,h2,h3,hq,hg⟩;have HQL3:=zY (HQL2.out.step hg hq);have HB3:=zY h1;have HX2:=zY h2;have HX3:=zY h3;obtain ⟨t,ht⟩:=eX (textS X);rw [← ht];have HT:=zY ht;clear hq hg h1 h2 h3 ht CT;go_wp2_with fail
     go_loopw [16] (fun i wx=>∃ q:Nat,i=.int .i64 (q:Int)∧q≤ns.length∧QL w w.heap.size H r s (treeV true A1 ns.length c1 A2 ks.length c2) A1 c1 ns A2 c2 ks wx b3 (errK e3 t ns q)) (fun i _=>ns.length - (intOf i).toNat)
     case atStart=>exact ⟨0,rfl,Nat.zero_le _,by rw [errK_zero]; exact HQL3.out⟩
     case round =>
      obtain ⟨q,rfl,hqn,hql⟩:=hrel;have HQL4:=zY hql;have d3:wr.cell? ⟨H,3,none⟩=some (.slice A1 ns.length c1):=hql.m.tree.cell 3;obtain ⟨-,-,d2⟩:=hql.m.rd.cells;clear hql;obtain ⟨ek,hek⟩:=eX (errK e3 t ns q);rw [← hek] at d2 HQL4;have HEK:=zY hek;clear hek
      by_cases hlt:q<ns.length
      ·have hlt':(q:Int)<(ns.length:Int):=by omega
       obtain ⟨ad,hA,hadb,hcell⟩:=qaO (f:=sCell) (m:=1) (fun _=>rfl) (by decide) (Rd.of_own HQL4.out.names.x (Nat.le_refl _)) hlt;subst hA
       have dx:wr.cell? (ad.add q)=some (.string (bs ns[q])):=by
        have h:=hcell 0 _ rfl;rw [Nat.mul_one] at h;exact h
       obtain ⟨x,hx⟩:=eX (ns[q]);rw [← hx] at dx;have HLT:=zY hlt
       by_cases hxt:x=t
       ·have hqq:((bs x).toList == (bs t).toList)=true:=by rw [hxt]; simp
        by_cases hk0:ek=0
        ·subst hk0;have HNX:=zY (errK_hit hlt (hx.symm.trans hxt) HEK.out.symm);clear hx hxt hcell hadb hlt;go_wp2_with fail;refine qaa (CB.out 8 b3 0 _ HQL4.out.m.rd) ?_;rintro y w5 ⟨rfl,hq,hg⟩;have HQL5:=zY (HQL4.out.step hg (show RQ w5 r s b3 8 from hq));clear hq hg;go_wp2_with fail
         go_roundw
         case measure=>simp [intOf]; have:=HLT.out; omega
         case rel=>exact ⟨q+1,rfl,HLT.out,by rw [HNX.out]; exact HQL5.out⟩
        ·have HNX:=zY (errK_past hlt (by rw [← HEK.out]; exact hk0));have hk1:(ek == 0)=false:=by simpa using hk0
         clear hx hxt hcell hadb hlt hk0;go_wp2_with fail
         go_roundw
         case measure=>simp [intOf]; have:=HLT.out; omega
         case rel=>exact ⟨q+1,rfl,HLT.out,by rw [HNX.out,← HEK.out]; exact HQL4.out⟩
       ·have hqq:((bs x).toList == (bs t).toList)=false:=by
         rw [qbl,qbl]
         simpa using hxt
        have HNX:=zY (errK_no (e3:=e3) hlt (fun h=>hxt (hx.trans h)));clear hx hxt hcell hadb hlt;go_wp2_with fail
        go_roundw
        case measure=>simp [intOf]; have:=HLT.out; omega
        case rel=>exact ⟨q+1,rfl,HLT.out,by rw [HNX.out,← HEK.out]; exact HQL4.out⟩
      ·have hlt':¬ (q:Int)<(ns.length:Int):=by omega
       have HEK2:=zY (show ek=errK e3 t ns ns.length by rw [HEK.out,show q=ns.length by omega]);go_wp2_with fail;refine qaa (CG.out b3 HB3.out ek _ HQL4.out.m.rd) ?_;rintro y w4 ⟨rfl,b4,h1,h2,h3,hq,hg⟩;have HQL5:=zY (HQL4.out.step hg hq);have HB4:=zY h2;have HD4:=zY h3;clear hq hg h1 h2 h3;go_wp2_with fail;refine qaa (CN.out [58] (by decide) b4 HB4.out ek _ HQL5.out.m.rd) ?_;rintro y w5 ⟨rfl,hq,hg⟩;rw [HD4.out] at hq ⊢
       by_cases hgo:ek=0∧look (skip (s.data.toList.drop b3))=58
       case pos =>
        obtain ⟨hek0,h58⟩:=hgo;subst hek0;rw [qa6 (by decide),show (look (skip (s.data.toList.drop b3)) == 58)=true by simpa using h58] at hq ⊢;rw [if_pos rfl] at hq;have HQL6:=zY (show QL w w.heap.size H r s (treeV true A1 ns.length c1 A2 ks.length c2) A1 c1 ns A2 c2 ks w5 (b4+1) 0 from HQL5.out.step hg hq)
        have h3:e3=0∧t ∉ ns:=by
         have h:=HEK2.out;unfold errK at h;rw [List.take_length] at h
         split at h
         ·rename_i h0
          split at h
          ·exact absurd h (by decide)
          ·rename_i hm; exact ⟨h0,hm⟩
         ·rename_i h0
          exact absurd h.symm h0
        have HB5:=zY (show b4+1≤s.size from qba (by rw [HD4.out,h58]; decide))
        have HKY:∃ r',X=some (t,r')∧s.data.toList.drop b3=r':=by
         cases hXc:X with
         | none=>exact absurd h3.1 (HX3.out hXc)
         | some p =>
          refine ⟨p.2,?_,(HX2.out p.1 p.2 hXc).2.1⟩;rw [HT.out,hXc];rfl
        obtain ⟨r',hX1,hr'⟩:=HKY;have HKEY:=zY (show okO (keyP true ns R)=some (ns++[t],skip (skip r').tail) from name_yes (by rw [← HX.out]; exact hX1) h3.2 (by rw [← hr']; exact h58));have HPOS:=zY (show skip (s.data.toList.drop (b4+1))=skip (skip (skip r').tail) by rw [qaK,HD4.out,hr',qbg]);obtain ⟨W7,hW7⟩:=eX (w5.alloc (.cells #[.string (bs t)] 9));have hb7:Below w5.heap.size w5 W7:=by rw [hW7]; exact (Below.refl _ _).alloc (Nat.le_refl _) _
        have HQL7:=zY (HQL6.out.new hb7);have HBK7:=zY (show Blk W7 w5.heap.size 9 #[.string (bs t)] by rw [hW7]; exact Blk.new _ _ _);have d3:w5.cell? ⟨H,3,none⟩=some (.slice A1 ns.length c1):=HQL6.out.m.tree.cell 3;have HW7:=zY hW7;clear hq hg h3 hX1 hr' h58 d2 hb7 hW7
        go_wp2_with (first
         | (rw [show w5.alloc (.cells #[.string (bs t)] 9)=W7 from HW7.out.symm]; refine qaM (news:=[.string (bs t)]) (m:=1) sl_strz rfl rfl HQL7.out.names rfl rfl rfl (Rd.of_blk (l:=[.string (bs t)]) HBK7.out (HBK7.out.lt)) (by simp [Value.oneCell']) (by unfold maxLen; omega) (by omega) (HQL7.out.m.size) ?_; intro A' c' w8 ho hg hn; have HQL8:=zY (HQL7.out.name ho hg hn))
         | (refine qaf (x:=.tmp 124) (i:=3) HQL8.out.m.tree rfl rfl rfl rfl (by kernel_rfl) (by simp [jvCells]) rfl ?_; intro w9 hb9 hw9))
        go_meet
        exact ⟨ns++[t],A',c',b4+1,_,HB5.out,HQL8.out.put hw9 (by rw [List.length_append]; exact hb9),by have:=HNK.out; rw [List.length_append]; simp; omega,HKEY.out,HPOS.out⟩
       case neg =>
        have hnb:nextB [58] ek (skip (s.data.toList.drop b3))=false:=by
         by_cases hk0:ek=0
         ·rw [hk0,qa6 (by decide)];have:¬ look (skip (s.data.toList.drop b3))=58:=fun h=>hgo ⟨hk0,h⟩
          simpa using this
         ·exact nextB_e hk0
        rw [hnb] at hq ⊢;rw [if_neg (by decide)] at hq;have HQL6:=zY (HQL5.out.step hg hq)
        have HNO:=zY (show okO LL=none by
         rw [← HLL.out];apply more_none
         cases hXc:X with
         | none=>exact name_none (by rw [← HX.out]; exact hXc)
         | some p =>
          have h1:=HX2.out p.1 p.2 hXc;have htp:t=p.1:=by rw [HT.out,hXc]; rfl
          have hXt:textP R=some (t,p.2):=by rw [← HX.out,hXc,htp]
          by_cases hd:t ∈ ns
          ·exact name_dup hXt hd
          ·refine name_no hXt fun h=>hgo ⟨?_,by rw [h1.2.1]; exact h⟩;rw [HEK2.out,errK,if_pos h1.2.2,List.take_length,if_neg hd])
        have HE13:=zY (show (if ek=0 then (13:Int) else ek)≠0 by
         split
         ·decide
         ·assumption)
        clear hq hg hnb hgo d2;go_wp2_with fail;refine qaa (CB.out 13 b4 ek _ HQL6.out.m.rd) ?_;rintro y w6 ⟨rfl,hq,hg⟩;have HQM3:=zY (HQL6.out.m.step hg hq);clear hq hg
        go_wp2_with (first
         | refine qad (x:=.tmp 11) HQM3.out.tree rfl rfl rfl hu rfl qag ?_
         | (refine qac (x:=.tmp 4) (cells:=jvCells (treeV true A1 ns.length c1 A2 ks.length c2)) HQM3.out.res rfl rfl rfl rfl qag rfl (qae _) ?_; intro w9 hb9 hw9))
        refine bodyPost_ret (qah (P:=Tryz.prog) rfl rfl hb9 hu rfl qag) rfl ?_;exact ⟨_,rfl,HQM3.out.vm.err hw9 HB4.out HE13.out (HFIN.out HNO.out)⟩
   case rest =>
   obtain ⟨ns',A1',c1',b',R',hb',hql',hnl',hkey,hpos⟩:=hcut;have HB':=zY hb';have HQL':=zY hql';have HNL':=zY hnl';have HKEY:=zY hkey;have HPOS:=zY hpos;have d4:wc.cell? ⟨H,4,none⟩=some (.slice A2 ks.length c2):=hql'.m.tree.cell 4
   have CV:=zY (fun (u:World) (h:QL w w.heap.size H r s (treeV m A1' ns'.length c1' A2 ks.length c2) A1' c1' ns' A2 c2 ks u b' 0) =>
    show Calls Tryz.prog 47 #[.pointer (some ⟨r,0,none⟩),.int .i64 (D+1)] u fun x w'=>∃ (v:JV) (b6:Nat) (e6:Int),x=.returned (.agg (jvCells v)) ∧
     QL w w.heap.size H r s (treeV m A1' ns'.length c1' A2 ks.length c2) A1' c1' ns' A2 c2 ks w' b6 e6∧KidF d s b' b6 e6 (fun j=>JRep w' (Krq H (.slice A1' ns'.length c1') (.slice A2 ks.length c2)) j v)∧RG r u w' from by
    refine (HV.out s HS.out r b' HB'.out u h.m.rd (D+1) (by have:=HDD.out; omega)).mono ?_;rintro x w' ⟨v,rfl,b6,e6,h6,hq,hg,hv⟩;exact ⟨v,b6,e6,rfl,h.step hg hq,⟨h6,hv.imp (fun ⟨g1,j,r',g2,g3,g4⟩=>⟨g1,j,r',g2,g3,h.fresh g4⟩) id⟩,hg⟩)
   have HLOW:=zY hql'.m.low;have HGH:=zY hql'.m.gh;clear hb' hql' hnl' hkey hpos HQM HQL e2;go_wp2_with fail;have HI0:wc.drew.cell? ⟨H,4,none⟩=some (.slice A2 ks.length c2):=d4;have HJ0:QL w w.heap.size H r s (treeV m A1' ns'.length c1' A2 ks.length c2) A1' c1' ns' A2 c2 ks wc.drew b' 0:=HQL'.out.drew;clear d4
   refine qas (fun _=>True) (fun | false=>(fun u=>u.cell? ⟨H,4,none⟩=some (.slice A2 ks.length c2)) | true=>(fun u=>QL w w.heap.size H r s (treeV m A1' ns'.length c1' A2 ks.length c2) A1' c1' ns' A2 c2 ks u b' 0)) (fun | false,i=>i == 9 | true,i=>i == 5 || i == 6 || i == 7 || i == 9)
    [fun z _=>z 0=.pointer (some ⟨H,4,none⟩),
     fun z _=>z 1=.slice A2 ks.length c2,
     fun z _=>z 2=.pointer (some ⟨r,0,none⟩),
     fun z _=>z 3=.int .i64 D,
     fun z _=>z 4=.int .i64 (D+1),
     fun z u=>∃ (v:JV) (b6:Nat) (e6:Int),z 5=.agg (jvCells v)∧QL w w.heap.size H r s (treeV m A1' ns'.length c1' A2 ks.length c2) A1' c1' ns' A2 c2 ks u b6 e6∧KidF d s b' b6 e6 (fun j=>JRep u (Krq H (.slice A1' ns'.length c1') (.slice A2 ks.length c2)) j v),
     fun z u=>∃ (v:JV) (b6:Nat) (e6:Int) (ad:Nat),z 6=.slice (some ⟨ad,0,none⟩) 1 1∧Blk u ad 44 (jvCells v)∧QL w w.heap.size H r s (treeV m A1' ns'.length c1' A2 ks.length c2) A1' c1' ns' A2 c2 ks u b6 e6∧KidF d s b' b6 e6 (fun j=>JRep u (Krq H (.slice A1' ns'.length c1') (.slice A2 ks.length c2)) j v),
     fun z u=>∃ (b6:Nat) (e6:Int) (A':Option Addr) (c':Nat),z 7=.slice A' (ks.length+1) c'∧QM w w.heap.size H r s (treeV m A1' ns'.length c1' A2 ks.length c2) u b6 e6∧KidF d s b' b6 e6 (fun j=>QL w w.heap.size H r s (treeV m A1' ns'.length c1' A2 ks.length c2) A1' c1' ns' A' c' (ks++[j]) u b6 e6),
     fun z _=>z 8=.pointer (some ⟨H,4,none⟩),
     fun z u=>∃ (b6:Nat) (e6:Int) (A':Option Addr) (c':Nat),QM w w.heap.size H r s (treeV m A1' ns'.length c1' A' (ks.length+1) c') u b6 e6∧KidF d s b' b6 e6 (fun j=>QL w w.heap.size H r s (treeV m A1' ns'.length c1' A' (ks++[j]).length c') A1' c1' ns' A' c' (ks++[j]) u b6 e6)]
    [Eq,Eq,Eq,Eq,Eq,fun u u'=>RG r u u',fun u u'=>Below u.heap.size u u',fun u u'=>∃ g:Option Nat,u.grownBy u' g∧∀ k,g=some k→H+1≤k,Eq,fun _ _=>True]
    (fun i k=>(i == 6 && k == 5) || (i == 7 && k == 5) || (i == 7 && k == 6) || (i == 9 && k == 5) || (i == 9 && k == 6) || (i == 9 && k == 7)) [(0,some 125),(1,some 126),(2,some 127),(3,some 128),(4,some 129),(5,some 130),(6,some 131),(7,some 132),(8,some 133),(9,none)] (by kernel_rfl) (by kernel_rfl) rfl (fun _=>rfl) ?_ ?_ ?_ ?_ ?_ ?_
   ·exact (by first | trivial | assumption)
   ·intro m; cases m; exact HI0; exact HJ0
   ·intro m; cases m
    ·refine ⟨?_,?_,?_,?_,?_,.inr (fun _ _ h h0=>World.grownBy.cell h h0 (by have:=HLOW.out; have:=HGH.out; intro e; injection e with e; have e:H=r:=e; omega)),.inr (fun _ _ h h0=>(qaZ h none).cell h0 (by simp)),.inr (fun _ _ h h0=>by obtain ⟨g,hg,hk⟩:=h; exact hg.cell h0 (by intro e; have:H+1≤H:=hk _ e.symm; omega)),?_,.inl rfl,trivial⟩ <;> exact .inr fun _ _ h h0=>h▸h0
    ·refine ⟨?_,?_,?_,?_,?_,.inl rfl,.inl rfl,.inl rfl,?_,.inl rfl,trivial⟩ <;> exact .inr fun _ _ h h0=>h▸h0
   ·refine ⟨⟨.inl rfl,?_,?_,?_,?_,?_,?_,?_,?_,?_,trivial⟩,⟨?_,.inl rfl,?_,?_,?_,?_,?_,?_,?_,?_,trivial⟩,⟨?_,?_,.inl rfl,?_,?_,?_,?_,?_,?_,?_,trivial⟩,⟨?_,?_,?_,.inl rfl,?_,?_,?_,?_,?_,?_,trivial⟩,⟨?_,?_,?_,?_,.inl rfl,?_,?_,?_,?_,?_,trivial⟩,⟨?_,?_,?_,?_,?_,.inl rfl,?_,?_,?_,?_,trivial⟩,⟨?_,?_,?_,?_,?_,.inr (.inl rfl),.inl rfl,?_,?_,?_,trivial⟩,⟨?_,?_,?_,?_,?_,.inr (.inl rfl),.inr (.inl rfl),.inl rfl,?_,?_,trivial⟩,⟨?_,?_,?_,?_,?_,?_,?_,?_,.inl rfl,?_,trivial⟩,⟨?_,?_,?_,?_,?_,.inr (.inl rfl),.inr (.inl rfl),.inr (.inl rfl),?_,.inl rfl,trivial⟩,trivial⟩ <;> first | exact .inr (.inr (.inl rfl)) | exact .inr (.inr (.inr fun _ _ _ _ _ h=>h)) | exact .inr (.inr (.inr fun _ _ _ _ h h0=>by cases h; exact h0))
   ·refine ⟨?_,?_,?_,?_,?_,?_,?_,?_,?_,?_,trivial⟩
    ·refine qab [] (fun _=>rfl) rfl ?_;intro w1 vals hC1 hi0 hf E hE;have hI1:(fun u=>u.cell? ⟨H,4,none⟩=some (.slice A2 ks.length c2)) w1:=hi0 false rfl
     try dsimp only at hI1
     clear hi0;clear hf;simp only [sP] at hE ⊢;go_wp2;exact .mk (hE _ _ rfl hC1 rfl)
    ·refine qab [(0,some 125)] (fun _=>rfl) rfl ?_;intro w1 vals hC1 hi0 hf E hE;have hI1:(fun u=>u.cell? ⟨H,4,none⟩=some (.slice A2 ks.length c2)) w1:=hi0 false rfl
     try dsimp only at hI1
     clear hi0;have f0:vals 0=_:=hf 0 rfl
     try dsimp only at f0
     clear hf;have d1:=hI1;simp only [sP,f0] at hE ⊢;clear f0;go_wp2;exact .mk (hE _ _ rfl hC1 rfl)
    ·refine qab [] (fun _=>rfl) rfl ?_;intro w1 vals hC1 hi0 hf E hE;have hI1:(fun u=>u.cell? ⟨H,4,none⟩=some (.slice A2 ks.length c2)) w1:=hi0 false rfl
     try dsimp only at hI1
     have hJ1:(fun u=>QL w w.heap.size H r s (treeV m A1' ns'.length c1' A2 ks.length c2) A1' c1' ns' A2 c2 ks u b' 0) w1:=hi0 true rfl
     try dsimp only at hJ1
     clear hi0;clear hf;simp only [sP] at hE ⊢;go_wp2;exact .mk (hE _ _ rfl hC1 rfl)
    ·refine qab [] (fun _=>rfl) rfl ?_;intro w1 vals hC1 hi0 hf E hE;have hI1:(fun u=>u.cell? ⟨H,4,none⟩=some (.slice A2 ks.length c2)) w1:=hi0 false rfl
     try dsimp only at hI1
     have hJ1:(fun u=>QL w w.heap.size H r s (treeV m A1' ns'.length c1' A2 ks.length c2) A1' c1' ns' A2 c2 ks u b' 0) w1:=hi0 true rfl
     try dsimp only at hJ1
     clear hi0;clear hf;simp only [sP] at hE ⊢;go_wp2;exact .mk (hE _ _ rfl hC1 rfl)
    ·refine qab [(3,some 128)] (fun _=>rfl) rfl ?_;intro w1 vals hC1 hi0 hf E hE;have hI1:(fun u=>u.cell? ⟨H,4,none⟩=some (.slice A2 ks.length c2)) w1:=hi0 false rfl
     try dsimp only at hI1
     have hJ1:(fun u=>QL w w.heap.size H r s (treeV m A1' ns'.length c1' A2 ks.length c2) A1' c1' ns' A2 c2 ks u b' 0) w1:=hi0 true rfl
     try dsimp only at hJ1
     clear hi0;have f3:vals 3=_:=hf 3 rfl
     try dsimp only at f3
     clear hf;simp only [sP,f3] at hE ⊢;clear f3;go_wp2;exact .mk (hE _ _ rfl hC1 rfl)
    ·refine qab [(2,some 127),(4,some 129)] (fun _=>rfl) rfl ?_;intro w1 vals hC1 hi0 hf E hE;have hI1:(fun u=>u.cell? ⟨H,4,none⟩=some (.slice A2 ks.length c2)) w1:=hi0 false rfl
     try dsimp only at hI1
     have hJ1:(fun u=>QL w w.heap.size H r s (treeV m A1' ns'.length c1' A2 ks.length c2) A1' c1' ns' A2 c2 ks u b' 0) w1:=hi0 true rfl
     try dsimp only at hJ1
     clear hi0;have f2:vals 2=_:=hf 2 rfl;have f4:vals 4=_:=hf 4 rfl
     try dsimp only at f2 f4
     clear hf;have HJ1:=zY hJ1;clear hJ1;simp only [sP,f2,f4] at hE ⊢;clear f2 f4;go_wp2_with fail;refine qaa (CV.out _ HJ1.out) ?_;rintro y w5 ⟨v,b6,e6,rfl,hl,hk,hg⟩;have HL:=zY hl;have HK:=zY hk;have HG:=zY hg;clear hl hg hk;go_wp2_with fail;exact .mk (hE _ _ ⟨v,b6,e6,rfl,HL.out,HK.out⟩ hC1 HG.out)
    ·refine qab [(5,some 130)] (fun _=>rfl) rfl ?_;intro w1 vals hC1 hi0 hf E hE;have hI1:(fun u=>u.cell? ⟨H,4,none⟩=some (.slice A2 ks.length c2)) w1:=hi0 false rfl
     try dsimp only at hI1
     clear hi0;have f5:(fun z u=>∃ (v:JV) (b6:Nat) (e6:Int),z 5=.agg (jvCells v)∧QL w w.heap.size H r s (treeV m A1' ns'.length c1' A2 ks.length c2) A1' c1' ns' A2 c2 ks u b6 e6∧KidF d s b' b6 e6 (fun j=>JRep u (Krq H (.slice A1' ns'.length c1') (.slice A2 ks.length c2)) j v)) vals w1:=hf 5 rfl
     try dsimp only at f5
     clear hf;obtain ⟨v,b6,e6,hx,hl,hk⟩:=f5;have HL:=zY hl;have HK:=zY hk;clear hl hk;simp only [sP,hx] at hE ⊢;clear hx;unfold jvCells;go_wp2;exact .mk (hE _ _ ⟨v,b6,e6,_,rfl,Blk.new _ _ _,HL.out.new ((Below.refl _ _).alloc (Nat.le_refl _) _),HK.out.imp fun j h=>h.heap fun b hb _=>Below.heap_alloc _ _ _ hb⟩ hC1 ((Below.refl _ _).alloc (Nat.le_refl _) _))
    ·refine qab [(1,some 126),(6,some 131),(5,some 130)] (fun _=>rfl) rfl ?_;intro w1 vals hC1 hi0 hf E hE;have hI1:(fun u=>u.cell? ⟨H,4,none⟩=some (.slice A2 ks.length c2)) w1:=hi0 false rfl
     try dsimp only at hI1
     clear hi0;have f1:vals 1=_:=hf 1 rfl;have f6:(fun z u=>∃ (v:JV) (b6:Nat) (e6:Int) (ad:Nat),z 6=.slice (some ⟨ad,0,none⟩) 1 1∧Blk u ad 44 (jvCells v)∧QL w w.heap.size H r s (treeV m A1' ns'.length c1' A2 ks.length c2) A1' c1' ns' A2 c2 ks u b6 e6∧KidF d s b' b6 e6 (fun j=>JRep u (Krq H (.slice A1' ns'.length c1') (.slice A2 ks.length c2)) j v)) vals w1:=hf 6 rfl
     try dsimp only at f1 f6
     clear hf;obtain ⟨v,b6,e6,ad,hx,hk,hl,hj⟩:=f6;have HL:=zY hl;have HK:=zY hk;have HJ:=zY hj;obtain ⟨kv,hv1,hv2,hv3⟩:=HL.out.kids;have HO:=zY hv2;have HV1:=zY hv1;have HV3:=zY hv3;clear hl hk hj hv1 hv2 hv3;simp only [sP,f1,hx] at hE ⊢;clear f1;clear hx;go_wp2_with (refine qaM (news:=(jvCells v).toList) (m:=1) sl_jsons rfl rfl HO.out rfl rfl rfl (Rd.of_blk (l:=(jvCells v).toList) HK.out (HK.out.lt)) (by simp [jvCells,Value.oneCell']) (by unfold maxLen; omega) (by omega) (HL.out.m.size) ?_; intro A' c' w5 ho hg hn);exact .mk (hE _ _ ⟨b6,e6,A',c',rfl,HL.out.m.grown hg (fun k hk=>(HO.out.lt k hk).1),HJ.out.imp fun j h=>HL.out.kid h HV1.out HO.out HV3.out ho hg hn⟩ hC1 ⟨_,hg,fun k hk=>(HO.out.lt k hk).1⟩)
    ·refine qab [(0,some 125),(1,some 126),(2,some 127),(3,some 128),(4,some 129),(5,some 130),(6,some 131),(7,some 132)] (fun _=>rfl) rfl ?_;intro w1 vals hC1 hi0 hf E hE;have hI1:(fun u=>u.cell? ⟨H,4,none⟩=some (.slice A2 ks.length c2)) w1:=hi0 false rfl
     try dsimp only at hI1
     clear hi0;have f0:vals 0=_:=hf 0 rfl;have f1:vals 1=_:=hf 1 rfl;have f2:vals 2=_:=hf 2 rfl;have f3:vals 3=_:=hf 3 rfl;have f4:vals 4=_:=hf 4 rfl;have f7:(fun z u=>∃ (b6:Nat) (e6:Int) (A':Option Addr) (c':Nat),z 7=.slice A' (ks.length+1) c'∧QM w w.heap.size H r s (treeV m A1' ns'.length c1' A2 ks.length c2) u b6 e6∧KidF d s b' b6 e6 (fun j=>QL w w.heap.size H r s (treeV m A1' ns'.length c1' A2 ks.length c2) A1' c1' ns' A' c' (ks++[j]) u b6 e6)) vals w1:=hf 7 rfl
     try dsimp only at f0 f1 f2 f3 f4 f7
     clear hf;simp only [sP,f0,f1,f2,f3,f4] at hE ⊢;clear f0 f1 f2 f3 f4;go_wp2;exact .mk (hE _ _ rfl hC1 rfl)
    ·refine qab [(8,some 133),(7,some 132),(7,some 132),(0,some 125),(1,some 126),(2,some 127),(3,some 128),(4,some 129),(5,some 130),(6,some 131),(7,some 132)] (fun _=>rfl) rfl ?_;intro w1 vals hC1 hi0 hf E hE;have hI1:(fun u=>u.cell? ⟨H,4,none⟩=some (.slice A2 ks.length c2)) w1:=hi0 false rfl
     try dsimp only at hI1
     clear hi0;have f0:vals 0=_:=hf 0 rfl;have f1:vals 1=_:=hf 1 rfl;have f2:vals 2=_:=hf 2 rfl;have f3:vals 3=_:=hf 3 rfl;have f4:vals 4=_:=hf 4 rfl;have f7:(fun z u=>∃ (b6:Nat) (e6:Int) (A':Option Addr) (c':Nat),z 7=.slice A' (ks.length+1) c'∧QM w w.heap.size H r s (treeV m A1' ns'.length c1' A2 ks.length c2) u b6 e6∧KidF d s b' b6 e6 (fun j=>QL w w.heap.size H r s (treeV m A1' ns'.length c1' A2 ks.length c2) A1' c1' ns' A' c' (ks++[j]) u b6 e6)) vals w1:=hf 7 rfl;have f8:vals 8=_:=hf 8 rfl
     try dsimp only at f0 f1 f2 f3 f4 f7 f8
     clear hf;obtain ⟨b6,e6,A',c',hx,hm,hl⟩:=f7;have HL:=zY hl;have HM7:=zY hm;clear hl hm;simp only [sP,f0,f1,f2,f3,f4,f8,hx] at hE ⊢;clear f0 f1 f2 f3 f4 f8;clear hx;go_wp2_with (refine qaf (x:=.tmp 133) (i:=4) HM7.out.tree rfl rfl rfl rfl (by kernel_rfl) (by simp [jvCells]) rfl ?_; intro w5 hb5 hw5);exact .mk (hE undef _ ⟨b6,e6,A',c',HM7.out.put hw5 hb5,HL.out.imp fun j h=>h.put hw5 (by rw [List.length_append]; exact hb5)⟩ hC1 trivial)
   intro w1 vals hC1 hf;have f0:vals 0=_:=hf 0 (by decide) rfl;have f1:vals 1=_:=hf 1 (by decide) rfl;have f2:vals 2=_:=hf 2 (by decide) rfl;have f3:vals 3=_:=hf 3 (by decide) rfl;have f4:vals 4=_:=hf 4 (by decide) rfl;have f8:vals 8=_:=hf 8 (by decide) rfl;have f9:(fun z u=>∃ (b6:Nat) (e6:Int) (A':Option Addr) (c':Nat),QM w w.heap.size H r s (treeV m A1' ns'.length c1' A' (ks.length+1) c') u b6 e6∧KidF d s b' b6 e6 (fun j=>QL w w.heap.size H r s (treeV m A1' ns'.length c1' A' (ks++[j]).length c') A1' c1' ns' A' c' (ks++[j]) u b6 e6)) vals w1:=hf 9 (by decide) rfl
   try dsimp only at f0 f1 f2 f3 f4 f8 f9
   clear hf;simp only [sP,f0,f1,f2,f3,f4,f8];clear f0 f1 f2 f3 f4 f8;generalize vals 5=x5 at *;generalize vals 6=x6 at *;generalize vals 7=x7 at *;obtain ⟨b6,e6,A',c',hqm,hkf⟩:=f9;have HQM9:=zY hqm;have HKF:=zY hkf;clear hqm hkf HI0 HJ0 hC1 CV;go_wp2_with fail;refine qaa (CG.out b6 HKF.out.1 e6 _ HQM9.out.rd) ?_;rintro y w7 ⟨rfl,b7,h1,h2,h3,hq,hg⟩;have HQM10:=zY (HQM9.out.step hg hq);have HKF10:=zY (HKF.out.imp (P':=fun j=>QL w w.heap.size H r s (treeV m A1' ns'.length c1' A' (ks++[j]).length c') A1' c1' ns' A' c' (ks++[j]) w7 b7 e6) fun j h=>h.step hg hq);have HB7:=zY h2;have HD7:=zY h3;clear hq hg h1 h2 h3;go_wp2_with fail;refine qaa (CN.out [endC m] (by simp) b7 HB7.out e6 _ HQM10.out.rd) ?_;rintro y w8 ⟨rfl,hq,hg⟩;rw [HD7.out] at hq ⊢
   rcases HKF10.out.2 with ⟨rfl,j,r',hv,hr,hP⟩ | ⟨he,hn⟩
   case inr =>
    rw [nextB_e he] at hq ⊢;rw [if_neg (by decide)] at hq;have HQM11:=zY (HQM10.out.step hg hq)
    have HNO:=zY (show okO LL=none by
     rw [← HLL.out];exact more_kid_none HKEY.out (by rw [← qbP,← HPOS.out,qbP]; exact hn))
    have HE:=zY he;clear hq hg he hn;go_wp2_with fail;refine qaa (CN.out [44] (by decide) b7 HB7.out e6 _ HQM11.out.rd) ?_;rintro y w9 ⟨rfl,hq,hg⟩;rw [nextB_e HE.out] at hq ⊢;rw [if_neg (by decide)] at hq;have HQM12:=zY (HQM11.out.step hg hq);clear hq hg;go_wp2_with fail;refine qaa (CB.out 13 b7 e6 _ HQM12.out.rd) ?_;rintro y w10 ⟨rfl,hq,hg⟩;rw [if_neg HE.out] at hq;have HQM13:=zY (HQM12.out.step hg hq);clear hq hg;go_wp2_with fail
    go_roundg k
    case measure=>have:=HGK.out; omega
    case rel=>exact ⟨b7,e6,false,_,rfl,HB7.out,HQM13.out,.inr ⟨HE.out,rfl,HNO.out⟩⟩
   have HVK:=zY (show okO (valueP d R')=some (j,r') by rw [← qbP,← HPOS.out,qbP]; exact hv);obtain ⟨k',hk',hl',hll'⟩:=next_kid HKEY.out HVK.out HLL.out HLEN.out;have HK':=zY hk';have HL':=zY hl';have HLL':=zY hll';have HSR:=zY (show skip r'=r' by rw [← hr,qbg]);have HP:=zY hP;have HD8:=zY (show s.data.toList.drop b7=r' by rw [HD7.out,hr]);rw [hr,qa6 (by cases m <;> decide)] at hq ⊢;clear hv hr hP hk' hl' hll' HKF HKF10 HQM9
   by_cases hend:look r'=endC m
   ·rw [show (look r' == endC m)=true by simpa using hend] at hq ⊢;rw [if_pos rfl] at hq;have HQL11:=zY (HP.out.step hg hq);have HB8:=zY (show b7+1≤s.size from qba (by rw [HD8.out,hend]; cases m <;> decide));have HEND:=zY (kid_end HLL'.out HSR.out hend);clear hq hg hend;go_wp2_with fail
    go_roundg k
    case measure=>have:=HGK.out; omega
    case rel=>exact ⟨b7+1,0,true,_,rfl,HB8.out,HQL11.out.m,.inl ⟨rfl,ns',ks++[j],A1',A',c1',c',rfl,HQL11.out,by have:=HNL'.out; rw [List.length_append]; simp; omega,by have:=HKG.out; have:=HGK.out; rw [List.length_append]; simp; omega,.inl ⟨rfl,by rw [HEND.out,qaK,HD8.out]⟩⟩⟩
   ·rw [show (look r' == endC m)=false by simpa using hend] at hq ⊢;rw [if_neg (by decide)] at hq;have HQL11:=zY (HP.out.step hg hq);have HEND:=zY hend;clear hq hg hend;go_wp2_with fail;refine qaa (CN.out [44] (by decide) b7 HB7.out 0 _ HQL11.out.m.rd) ?_;rintro y w9 ⟨rfl,hq,hg⟩;rw [HD8.out,qa6 (by decide)] at hq ⊢
    by_cases hcm:look r'=44
    ·rw [show (look r' == 44)=true by simpa using hcm] at hq ⊢;rw [if_pos rfl] at hq;have HQL12:=zY (HQL11.out.step hg hq);have HB8:=zY (show b7+1≤s.size from qba (by rw [HD8.out,hcm]; decide));have HCM:=zY (kid_comma HLL'.out HSR.out HEND.out (by simp) hcm);clear hq hg hcm;go_wp2_with fail
     have HLN2:=zY (show (skip (s.data.toList.drop (b7+1))).length≤k' by
      rw [qaK,HD8.out];have h1:=qaG r'.tail;have h2:=HL'.out;rw [List.length_tail] at h1
      omega)
     have HCM2:=zY (show okO (moreK (valueP d) m k' (ks++[j]) (kidK (valueP d) (keyP m ns' (skip (s.data.toList.drop (b7+1))))))=okO LL by rw [qaK,HD8.out]; exact HCM.out)
     go_roundg k
     case measure=>have:=HGK.out; omega
     case rel=>exact ⟨b7+1,0,false,_,rfl,HB8.out,HQL12.out.m,.inl ⟨rfl,ns',ks++[j],A1',A',c1',c',rfl,HQL12.out,by have:=HNL'.out; rw [List.length_append]; simp; omega,by have:=HKG.out; have:=HGK.out; rw [List.length_append]; simp; omega,.inr ⟨rfl,k',HK'.out,HLN2.out,HCM2.out⟩⟩⟩
    ·rw [show (look r' == 44)=false by simpa using hcm] at hq ⊢;rw [if_neg (by decide)] at hq;have HQL12:=zY (HQL11.out.step hg hq);have HNO:=zY (kid_stop HLL'.out HSR.out HEND.out (by simp) hcm);clear hq hg hcm;go_wp2_with fail;refine qaa (CB.out 13 b7 0 _ HQL12.out.m.rd) ?_;rintro y w10 ⟨rfl,hq,hg⟩;have HQM13:=zY (HQL12.out.m.step hg (show RQ w10 r s b7 13 from hq));clear hq hg;go_wp2_with fail
     go_roundg k
     case measure=>have:=HGK.out; omega
     case rel=>exact ⟨b7,13,false,_,rfl,HB7.out,HQM13.out,.inr ⟨by decide,rfl,HNO.out⟩⟩
theorem rvalue_any:∀ d,d≤6→RVl d
 | 0,h=>qdt 0 h fun d' e=>by cases e
 | d+1,h=>qdt (d+1) h fun d' e=>by
  injection e with e
  subst e;exact rvalue_any d (by omega)
end Go.Proofs.YtlkikjeccamheaaGreatDoor.Js
namespace Go.Proofs.YtlkikjeccamheaaGreatDoor
set_option linter.unusedSimpArgs false
set_option linter.unusedVariables false
set_option maxRecDepth 100000
set_option maxHeartbeats 4000000
open Go.Shelf Go.Proofs
def trimL_ren:Go.Shelf.Ren:=⟨fun | 160=>55 | 232=>86 | 231=>85 | 227=>87 | 234=>89 | 233=>88 | 236=>91 | 235=>90 | 228=>111 | 271=>114 | 151=>113 | 197=>112 | 120=>129 | 152=>128 | 260=>127 | 137=>43 | 119=>135 | 224=>136 | 225=>137 | 217=>74 | 266=>105 | n=>n,fun | 9=>9 | 4=>4 | 3=>3 | 5=>5 | 117=>126 | 116=>125 | 0=>0 | 124=>129 | 21=>21 | 105=>146 | 46=>81 | 119=>170 | 139=>173 | 138=>172 | n=>n,fun | 3=>2 | 4=>3 | n=>n⟩
theorem trimL:Go.Proofs.Lays.n160 Tryz.prog trimL_ren:={
 mixed:=by kernel_rfl
 f119:=Tryz.func135.trans (congrArg some (by kernel_rfl))
 f120:=Tryz.func129.trans (congrArg some (by kernel_rfl))
 f137:=Tryz.func43.trans (congrArg some (by kernel_rfl))
 f151:=Tryz.func113.trans (congrArg some (by kernel_rfl))
 f152:=Tryz.func128.trans (congrArg some (by kernel_rfl))
 f160:=Tryz.func55.trans (congrArg some (by kernel_rfl))
 f197:=Tryz.func112.trans (congrArg some (by kernel_rfl))
 f217:=Tryz.func74.trans (congrArg some (by kernel_rfl))
 f224:=Tryz.func136.trans (congrArg some (by kernel_rfl))
 f225:=Tryz.func137.trans (congrArg some (by kernel_rfl))
 f227:=Tryz.func87.trans (congrArg some (by kernel_rfl))
 f228:=Tryz.func111.trans (congrArg some (by kernel_rfl))
 f231:=Tryz.func85.trans (congrArg some (by kernel_rfl))
 f232:=Tryz.func86.trans (congrArg some (by kernel_rfl))
 f233:=Tryz.func88.trans (congrArg some (by kernel_rfl))
 f234:=Tryz.func89.trans (congrArg some (by kernel_rfl))
 f235:=Tryz.func90.trans (congrArg some (by kernel_rfl))
 f236:=Tryz.func91.trans (congrArg some (by kernel_rfl))
 f260:=Tryz.func127.trans (congrArg some (by kernel_rfl))
 f266:=Tryz.func105.trans (congrArg some (by kernel_rfl))
 f271:=Tryz.func114.trans (congrArg some (by kernel_rfl))
 t0:=Tryz.underlying0
 a0:=Tryz.isAgg0
 z0:=Tryz.sizeOf0
 v0:=Tryz.zeroValue0
 t3:=Tryz.underlying3
 a3:=Tryz.isAgg3
 z3:=Tryz.sizeOf3
 v3:=Tryz.zeroValue3
 t4:=Tryz.underlying4
 a4:=Tryz.isAgg4
 z4:=Tryz.sizeOf4
 v4:=Tryz.zeroValue4
 t5:=Tryz.underlying5
 a5:=Tryz.isAgg5
 z5:=Tryz.sizeOf5
 v5:=Tryz.zeroValue5
 t9:=Tryz.underlying9
 a9:=Tryz.isAgg9
 z9:=Tryz.sizeOf9
 v9:=Tryz.zeroValue9
 t21:=Tryz.underlying21
 a21:=Tryz.isAgg21
 z21:=Tryz.sizeOf21
 v21:=Tryz.zeroValue21
 t46:=Tryz.underlying81
 a46:=Tryz.isAgg81
 z46:=Tryz.sizeOf81
 v46:=Tryz.zeroValue81
 t105:=Tryz.underlying146
 a105:=Tryz.isAgg146
 z105:=Tryz.sizeOf146
 v105:=Tryz.zeroValue146
 t116:=Tryz.underlying125
 a116:=Tryz.isAgg125
 z116:=Tryz.sizeOf125
 t117:=Tryz.underlying126
 a117:=Tryz.isAgg126
 z117:=Tryz.sizeOf126
 v117:=Tryz.zeroValue126
 t119:=Tryz.underlying170
 a119:=Tryz.isAgg170
 z119:=Tryz.sizeOf170
 t124:=Tryz.underlying129
 a124:=Tryz.isAgg129
 z124:=Tryz.sizeOf129
 v124:=Tryz.zeroValue129
 t138:=Tryz.underlying172
 a138:=Tryz.isAgg172
 z138:=Tryz.sizeOf172
 v138:=Tryz.zeroValue172
 t139:=Tryz.underlying173
 a139:=Tryz.isAgg173
 z139:=Tryz.sizeOf173
 v139:=Tryz.zeroValue173
 g3:=by kernel_rfl
 g4:=by kernel_rfl }
end Go.Proofs.YtlkikjeccamheaaGreatDoor
namespace Go.Proofs.YtlkikjeccamheaaGreatDoor.Js
set_option linter.unusedSimpArgs false
set_option linter.unusedVariables false
set_option maxRecDepth 100000
set_option maxHeartbeats 4000000
open Go.RowKit
def smallZ (z:Int):Bool:=decide (97≤z) && decide (z≤122)
def digitZ (z:Int):Bool:=decide (48≤z) && decide (z≤57)
def innerZ (z:Int):Bool:=smallZ z || digitZ z || z == 46 || z == 45
theorem small_any (z:Int) (w:World):Calls Tryz.prog 83 #[.int .u8 z] w fun e w'=>e=.returned (.bool (smallZ z))∧w'=w:=by
 go_enter Tryz.func83,Tryz.ntmps83;unfold smallZ
 by_cases h1:97≤z
 ·go_wp2_with fail;go_ret;simp [h1]
 ·go_wp2_with fail;go_ret;refine ⟨?_,rfl⟩;simp [h1]
  try omega
theorem digit_any (z:Int) (w:World):Calls Tryz.prog 84 #[.int .u8 z] w fun e w'=>e=.returned (.bool (digitZ z))∧w'=w:=by
 go_enter Tryz.func84,Tryz.ntmps84;unfold digitZ
 by_cases h1:48≤z
 ·go_wp2_with fail;go_ret;simp [h1]
 ·go_wp2_with fail;go_ret;refine ⟨?_,rfl⟩;simp [h1]
  try omega
theorem inner_any (z:Int) (w:World):Calls Tryz.prog 54 #[.int .u8 z] w fun e w'=>e=.returned (.bool (innerZ z))∧w'=w:=by
 have C1:=zY (small_any z w);have C2:=zY (digit_any z w);unfold innerZ;obtain ⟨a,ha⟩:=eX (smallZ z);obtain ⟨b,hb⟩:=eX (digitZ z);rw [← ha] at C1 ⊢;rw [← hb] at C2 ⊢;clear ha hb;go_enter Tryz.func54,Tryz.ntmps54;go_wp2_with fail;refine qaa C1.out ?_;rintro e u1 ⟨rfl,rfl⟩
 cases a with
 | true =>
  go_wp2_with fail;go_ret;simp
 | false =>
  go_wp2_with fail;refine qaa C2.out ?_;rintro e u2 ⟨rfl,rfl⟩
  cases b with
  | true =>
   go_wp2_with fail;go_ret;simp
  | false =>
   cases h1:z == 46 with
   | true =>
    go_wp2_with fail;go_ret;have h2:=beq_iff_eq.1 h1;simp [h2]
   | false =>
    go_wp2_with fail;go_ret;have h2:¬ z=46:=fun h=>by rw [h] at h1; cases h1
    simp [h2]
def innerC (c:UInt8):Bool:=innerZ ((c.toNat:Nat):Int)
def allD (s:Bs):Bool:=s.all innerC && !s.isEmpty
theorem all_take {s:Bs} {i:Nat} (h:i<s.length):(s.take (i+1)).all innerC=((s.take i).all innerC && innerC s[i]):=by
 rw [List.take_succ_eq_append_getElem h,List.all_append];simp
theorem all_bad {s:Bs} {i:Nat} (h:i<s.length) (hb:innerC s[i]=false):allD s=false:=by
 unfold allD
 cases hq:s.all innerC with
 | false=>rfl
 | true =>
  rw [List.all_eq_true] at hq;have:=hq _ (List.getElem_mem h);rw [hb] at this
  cases this
theorem all_any (s:ByteArray) (hs:(s.size:Int)≤100000000) (w:World) :
  Calls Tryz.prog 53 #[.string s,.func (.func 54) #[] #[]] w fun x w'=>x=.returned (.bool (allD s.data.toList))∧w'=w:=by
 have eg:∀ args w,(callFunc 54 args).run Tryz.prog w=.ok (.enter 54 args) w:=enters_of Tryz.func54 (by kernel_rfl) rfl;have C:=zY inner_any;have h5:s.data.toList.length=s.size:=rfl;have HS:=zY hs;go_enter Tryz.func53,Tryz.ntmps53;go_wp2_with fail
 go_loopw [8] (fun x wr=>∃ i:Nat,i≤s.size∧x=.int .i64 (i:Int)∧(s.data.toList.take i).all innerC=true∧wr=w) (fun x _=>s.size - (intOf x).toNat)
 case atStart=>exact ⟨0,Nat.zero_le _,rfl,by simp,rfl⟩
 case round =>
  obtain ⟨i,hi,rfl,hok,rfl⟩:=hrel;have HOK:=zY hok;clear hok
  by_cases hlt:i<s.size
  ·have hlt':(i:Int)<(s.size:Int):=by omega
   have HLT:=zY hlt;have HAT:=zY (show s.data.toList[i]'(by rw [h5]; exact hlt)=s[i] from rfl);have HC:=zY (C.out ((s[i].toNat:Nat):Int))
   cases hb:innerC s[i] with
   | true =>
    have HT:=zY (show (s.data.toList.take (i+1)).all innerC=true by rw [all_take (by rw [h5]; exact hlt),HOK.out,HAT.out,hb]; rfl);have hb':innerZ ((s[i].toNat:Nat):Int)=true:=hb;rw [hb'] at HC;clear HAT h5 hb hb' C;go_wp2_with (go_at_call 54; refine qaa (HC.out _) ?_; rintro e W' ⟨rfl,rfl⟩)
    go_roundw
    case rel=>exact ⟨i+1,HLT.out,by go_num,HT.out,by first | rfl | trivial⟩
    case measure=>have:=HLT.out; simp [intOf]; omega
   | false =>
    have HF:=zY (all_bad (s:=s.data.toList) (i:=i) (by rw [h5]; exact hlt) (by rw [HAT.out]; exact hb));have hb':innerZ ((s[i].toNat:Nat):Int)=false:=hb;rw [hb'] at HC;clear HAT h5 hb hb' C;go_wp2_with (go_at_call 54; refine qaa (HC.out _) ?_; rintro e W' ⟨rfl,rfl⟩);go_ret;exact ⟨by rw [HF.out]; rfl,rfl⟩
  ·have HF:=zY (show s.data.toList.all innerC=true by
    have:=HOK.out;rw [List.take_of_length_le (by rw [h5]; omega)] at this;exact this)
   clear h5;have hlt':¬ (i:Int)<(s.size:Int):=by omega
   go_wp2_with fail;go_ret;refine ⟨?_,rfl⟩;rw [allD,HF.out,← Lib.toList_data];rfl
def trimD (s:Bs):Bs:=Lib.trimS s [46,45]
def domB (s:Bs):Bool:=decide (s.length≤16) && (allD s && decide (trimD s=s))
theorem domain_any (s:ByteArray) (hs:(s.size:Int)≤100000000) (w:World) :
  Calls Tryz.prog 31 #[.string s] w fun x w'=>x=.returned (.bool (domB s.data.toList))∧Below w.heap.size w w':=by
 have C1:=zY (all_any s hs w);have C2:=zY (fun w=>Any.strings_Trim_laid trimL (by kernel_rfl) s ⟨#[46,45]⟩ w (by omega) (by decide) (ascii_of_all (by decide)));have HB:=zY (Below.refl w.heap.size w);have h5:s.data.toList.length=s.size:=rfl;obtain ⟨a,ha⟩:=eX (allD s.data.toList);unfold domB;rw [← ha] at C1 ⊢;rw [h5];have HN:=zY h5;clear ha h5;go_enter Tryz.func31,Tryz.ntmps31
 by_cases hl:s.size≤16
 ·have hl':(s.size:Int)≤16:=by omega
  go_wp2_with fail;refine qaa C1.out ?_;rintro e u1 ⟨rfl,rfl⟩
  cases a with
  | false =>
   go_wp2_with fail;go_ret;exact ⟨by simp,HB.out⟩
  | true =>
   go_wp2_with fail;refine qaa (C2.out _) ?_;rintro e u2 ⟨rfl,hb2⟩;have HB2:=zY hb2;clear hb2;go_wp2_with fail;go_ret;refine ⟨?_,HB2.out⟩
   by_cases ht:trimD s.data.toList=s.data.toList
   ·have ht2:=ht;unfold trimD at ht2;simp [hl,ht,ht2,Lib.toList_data]
   ·have ht2:=ht;unfold trimD at ht2;simp [hl,ht,ht2,Lib.toList_data]
 ·have hl':¬ (s.size:Int)≤16:=by omega
  go_wp2_with fail;go_ret;exact ⟨by simp [hl],HB.out⟩
theorem qcH:(Tryz.prog.info? 44).map (·.size)=some 5:=by kernel_rfl
theorem plain_any (v:JV) (ns:List Bs) (ks:List JT) (hn:v.nn=ns.length) (hk:v.kn=ks.length) (w:World) :
  Calls Tryz.prog 58 #[.agg (jvCells v)] w fun e w'=>e=.returned (.bool (plainJ v.k v.n v.t ns ks))∧Below w.heap.size w w':=by
 obtain ⟨W0,hW0⟩:=eX (w.alloc (.cells (jvCells v) 44));have HB0:=zY (show Below w.heap.size w W0 by rw [hW0]; exact (Below.refl _ w).alloc (Nat.le_refl _) _);have hkb:Blk W0 w.heap.size 44 (jvCells v):=by rw [hW0]; exact Blk.new _ _ _
 have HW0:=zY hW0;obtain ⟨vk,vn,vt,nA,nn,nc,kA,kn,kc⟩:=v;dsimp only at *;have a0:W0.cell? ⟨w.heap.size,0,none⟩=some (.int .i64 vk):=hkb.cell 0;have a1:W0.cell? ⟨w.heap.size,1,none⟩=some (.int .i64 vn):=hkb.cell 1;have a2:W0.cell? ⟨w.heap.size,2,none⟩=some (.string (bs vt)):=hkb.cell 2;have a3:W0.cell? ⟨w.heap.size,3,none⟩=some (.slice nA nn nc):=hkb.cell 3;have a4:W0.cell? ⟨w.heap.size,4,none⟩=some (.slice kA kn kc):=hkb.cell 4;have HN:=zY (show ns.isEmpty=decide ((nn:Int)=0) by rw [hn]; cases ns <;> simp; omega);have HK:=zY (show ks.isEmpty=decide ((kn:Int)=0) by rw [hk]; cases ks <;> simp; omega);have HT:=zY (show vt.isEmpty=((bs vt).toList == []) by rw [qat]; cases vt <;> rfl);clear hW0 hkb hn hk;go_enter Tryz.func58,Tryz.ntmps58
 go_upto_region 1 with (fail)
 rw [← HW0.out];generalize Value.agg (jvCells ⟨vk,vn,vt,nA,nn,nc,kA,kn,kc⟩)=AV at *
 go_cut [3] (fun x wx=>x=.bool (vn == 0 || vk == 2 || (vk == 1 && vn == 1))∧wx=W0)
 case first =>
  go_wp2_with fail
  all_goals (go_meet; exact ⟨by first | rfl | (simp; done) | (simp_all; done) | grind,rfl⟩)
 case rest =>
 obtain ⟨rfl,rfl⟩:=hcut;generalize hb1:(vn == 0 || vk == 2 || (vk == 1 && vn == 1))=b1 at *;have HB1:=zY hb1;clear hb1 a1
 go_upto_region 2 with (fail)
 go_cut [4] (fun x wx=>x=.bool (decide ((kn:Int)=0) || vk == 4 || vk == 5)∧wx=wc)
 case first =>
  go_wp2_with fail
  all_goals (go_meet; exact ⟨by first | rfl | (simp; done) | (simp_all; done) | grind,rfl⟩)
 case rest =>
 obtain ⟨rfl,rfl⟩:=hcut;generalize hb2:(decide ((kn:Int)=0) || vk == 4 || vk == 5)=b2 at *;have HB2:=zY hb2;clear hb2 a4
 go_upto_region 3 with (fail)
 go_cut [5] (fun x wx=>x=.bool (decide ((nn:Int)=0) || vk == 5)∧wx=wc)
 case first =>
  go_wp2_with fail
  all_goals (go_meet; exact ⟨by first | rfl | (simp; done) | (simp_all; done) | grind,rfl⟩)
 case rest =>
 obtain ⟨rfl,rfl⟩:=hcut;generalize hb3:(decide ((nn:Int)=0) || vk == 5)=b3 at *
 have HP:=zY (show plainJ vk vn vt ns ks=(b1 && b2 && b3 && (vt.isEmpty || vk == 3)) by
  rw [plainJ,HB1.out,HK.out,HB2.out,HN.out,hb3])
 rw [HT.out] at HP;clear hb3 a3
 cases b1
 ·go_wp2_with fail
  all_goals (go_ret; exact ⟨by rw [HP.out]; first | rfl | (simp; done),HB0.out⟩)
 cases b2
 ·go_wp2_with fail
  all_goals (go_ret; exact ⟨by rw [HP.out]; first | rfl | (simp; done),HB0.out⟩)
 cases b3
 ·go_wp2_with fail
  all_goals (go_ret; exact ⟨by rw [HP.out]; first | rfl | (simp; done),HB0.out⟩)
 have hp:plainJ vk vn vt ns ks=((bs vt).toList == [] || vk == 3):=by rw [HP.out]; simp
 have HP2:=zY hp;clear HP hp;go_wp2_with fail
 all_goals (go_ret; exact ⟨by rw [HP2.out]; first | rfl | (simp; done) | (simp_all; done) | grind,HB0.out⟩)
end Go.Proofs.YtlkikjeccamheaaGreatDoor.Js
namespace Go.Proofs.YtlkikjeccamheaaGreatDoor.Js
set_option linter.unusedSimpArgs false
set_option linter.unusedVariables false
set_option maxRecDepth 100000
set_option maxHeartbeats 4000000
def Out (c x c':Bs):Prop:=c.length≤c'.length∧c'.length≤c.length+x.length∧(c'=c++x∨(2000<c'.length∧2000<(c++x).length))
theorem Out.refl (c:Bs):Out c [] c:=⟨Nat.le_refl _,by simp,.inl (by simp)⟩
theorem Out.all (c x:Bs):Out c x (c++x):=⟨by simp,by simp,.inl rfl⟩
theorem Out.stop {c:Bs} (x:Bs) (h:2000<c.length):Out c x c:=⟨Nat.le_refl _,by omega,.inr ⟨h,by simp; omega⟩⟩
theorem Out.trans {c x c' y c'':Bs} (h:Out c x c') (h':Out c' y c''):Out c (x++y) c'':=by
 obtain ⟨l1,m1,h1⟩:=h;obtain ⟨l2,m2,h2⟩:=h';refine ⟨Nat.le_trans l1 l2,by simp; omega,?_⟩
 rcases h1 with rfl | ⟨a,b⟩
 ·rcases h2 with rfl | ⟨a2,b2⟩
  ·exact .inl (by simp)
  ·exact .inr ⟨a2,by simpa [Nat.add_assoc] using b2⟩
 ·exact .inr ⟨by omega,by simp at b ⊢; omega⟩
theorem Out.end_ {x c':Bs} (h:Out [] x c'):(c'.length≤2000→c'=x∧x.length≤2000)∧(2000<c'.length→2000<x.length):=by
 rcases h.2.2 with h | ⟨a,b⟩
 ·simp at h;subst h;exact ⟨fun h=>⟨rfl,h⟩,fun h=>h⟩
 ·exact ⟨fun h=>by omega,fun _=>by simpa using b⟩
end Go.Proofs.YtlkikjeccamheaaGreatDoor.Js
namespace Go.Proofs.YtlkikjeccamheaaGreatDoor.Js
set_option linter.unusedSimpArgs false
set_option linter.unusedVariables false
set_option maxRecDepth 100000
set_option maxHeartbeats 4000000
open Go.RowKit
mutual
def smallJ:JT→Bool
 | .mk _ _ _ ns ks=>decide (ns.length≤4096) && decide (ks.length≤4096) && smallsJ ks
def smallsJ:List JT→Bool
 | []=>true
 | k :: r=>smallJ k && smallsJ r
end
theorem qbx:∀ ks:List JT,smallsJ ks=true↔∀ k ∈ ks,smallJ k=true
 | []=>by simp [smallsJ]
 | k :: r=>by simp [smallsJ,qbx r]
def RVal (d:Nat):Prop:=∀ (j:JT) (v:JV) (B:Nat) (w:World),smallJ j=true→JRep w (fun b=>b<B) j v→B≤w.heap.size →
 Calls Tryz.prog 34 #[.agg (jvCells v),.int .i64 (d:Int)] w fun e w'=>e=.returned (.bool (rightV d j))∧Below w.heap.size w w'
theorem right2_any (d:Nat) (hd9:(d:Int)≤1000) (IH:RVal d) (j:JT) (v:JV) (B g:Nat) (w:World) (hs:smallJ j=true) (hj:JRep w (fun b=>b<B) j v) (hB:B≤w.heap.size) (hg:w.cell? ⟨g,0,none⟩=some (.int .i64 (d+1:Int))) :
  Calls Tryz.prog 65 #[.agg (jvCells v),.pointer (some ⟨g,0,none⟩)] w fun e w'=>e=.returned (.bool (!rightV d j))∧Below w.heap.size w w':=by
 have hu:=Tryz.underlying44;obtain ⟨W0,hW0⟩:=eX (w.alloc (.cells (jvCells v) 44));have hb0:Below w.heap.size w W0:=by rw [hW0]; exact (Below.refl _ w).alloc (Nat.le_refl _) _
 have HB0:=zY hb0;have HKB:=zY (show Blk W0 w.heap.size 44 (jvCells v) by rw [hW0]; exact Blk.new _ _ _)
 have a1:W0.cell? ⟨g,0,none⟩=some (.int .i64 (d+1:Int)):=by
  rw [hb0.cell (p:=⟨g,0,none⟩) (by exact World.block_lt_of_cell? w _ hg)];exact hg
 have C:=zY (IH j v B W0 hs (hj.under (hb0.mono hB)) (Nat.le_trans hB hb0.size));have HW0:=zY hW0;clear hW0 hb0 hg hs hj hB IH;go_enter Tryz.func65,Tryz.ntmps65
 go_upto_region 1 with (fail)
 rw [← HW0.out];go_wp2_with (refine qad (x:=.tmp 2) HKB.out rfl rfl rfl hu rfl qcH ?_);refine qaa C.out ?_;rintro e w1 ⟨rfl,hb1⟩;have HB1:=zY (HB0.out.trans (hb1.mono HB0.out.size));clear hb1;go_wp2_with fail;go_ret;exact ⟨rfl,HB1.out⟩
theorem idxj_any (d:Nat) (hd9:(d:Int)≤1000) (IH:RVal d) (ks:List JT) (kv:List JV) (A:Option Addr) (c B g:Nat) (w:World) (hs:smallsJ ks=true) (hkl:ks.length≤4096) (hkv:kv.length=ks.length) (hkr:Rd w B A (rowsV jvCells kv))
  (hkids:∀ i (h:i<ks.length) (h':i<kv.length),JRep w (fun b=>b<B) ks[i] kv[i]) (hB:B≤w.heap.size) (hg:w.cell? ⟨g,0,none⟩=some (.int .i64 (d+1:Int))) :
  Calls Tryz.prog 96 #[.slice A ks.length c,.func (.func 65) #[] #[.pointer (some ⟨g,0,none⟩)]] w fun e w' =>
   (∃ k:Int,e=.returned (.int .i64 k)∧decide (0≤k)=!rightsV d ks)∧Below w.heap.size w w':=by
 have hu:=Tryz.underlying44;have eg:∀ args w,(callFunc 65 args).run Tryz.prog w=.ok (.enter 65 args) w:=enters_of Tryz.func65 (by kernel_rfl) rfl;obtain ⟨n,hn⟩:=eX (ks.length);have HN:=zY hn;have HKV:=zY hkv;have HR:=zY hkr;have HKD:=zY hkids;have HS:=zY ((qbx ks).1 hs);have HB:=zY hB;have HG:=zY hg;have hns:(n:Int)≤4096:=by omega
 have HD9:=zY hd9;have HIH:=zY IH;rw [← hn];clear hs hkl hkv hkr hkids hB hg hn hd9 IH;go_enter Tryz.func96,Tryz.ntmps96;go_wp2_with fail
 go_loopw [8] (fun x wr=>∃ i:Nat,i≤n∧x=.int .i64 (i:Int)∧(∀ k ∈ ks.take i,rightV d k=true)∧Below w.heap.size w wr) (fun x _=>n - (intOf x).toNat)
 case atStart=>exact ⟨0,by omega,rfl,by simp,Below.refl _ _⟩
 case round =>
  obtain ⟨i,hi,rfl,hok,hb⟩:=hrel;have HBE:=zY hb;have HOK:=zY hok;clear hb hok
  by_cases hlt:i<n
  ·have hil:i<ks.length:=by rw [← HN.out]; exact hlt
   have hiv:i<kv.length:=by rw [HKV.out]; exact hil
   have hlt':(i:Int)<(n:Int):=by omega
   have HLT:=zY hlt;obtain ⟨ad,hA,hadb,hcell⟩:=qaO (f:=jvCells) (m:=5) (fun _=>rfl) (by decide) (HR.out.below (HBE.out.mono HB.out)) hiv;subst hA;obtain ⟨X,hX⟩:=eX (kv[i]);obtain ⟨J,hJ⟩:=eX (ks[i])
   have C:=zY (right2_any d HD9.out HIH.out J X B g wr (by rw [hJ]; exact HS.out _ (List.getElem_mem hil)) (by rw [hX,hJ]; exact (HKD.out i hil hiv).under (HBE.out.mono HB.out)) (Nat.le_trans HB.out HBE.out.size)
    (by rw [HBE.out.cell (p:=⟨g,0,none⟩) (by exact World.block_lt_of_cell? w _ HG.out)]; exact HG.out))
   have HST:=zY (show rightV d J=true→∀ k ∈ ks.take (i+1),rightV d k=true from fun h k hk=>by
    rw [List.take_succ_eq_append_getElem hil,← hJ] at hk
    rcases List.mem_append.1 hk with h1 | h1
    ·exact HOK.out k h1
    ·rw [List.mem_singleton.1 h1]; exact h)
   have HNO:=zY (show rightV d J=false→rightsV d ks=false from fun h=>by
    cases hq:rightsV d ks with
    | false=>rfl
    | true =>
     have:=(qa0 d ks).1 hq J (by rw [hJ]; exact List.getElem_mem hil);rw [h] at this
     cases this)
   rw [← hX] at hcell;have HCE:=zY (show ∀ j x,(jvCells X).toList[j]?=some x→wr.cell? ((ad.add (i*5)).add j)=some x from fun j x hx=>hcell j x (by simpa using hx));clear hX hJ hcell hadb hil hiv;go_wp2_with (refine qaA (r:=(jvCells X).toList) HCE.out rfl rfl rfl hu rfl qcH ?_);refine qaa C.out ?_;rintro e w1 ⟨rfl,hb1⟩;have HB1:=zY (HBE.out.trans (hb1.mono HBE.out.size));clear hb1
   cases hq:rightV d J with
   | true =>
    have HQ:=zY (HST.out hq);clear hq;go_wp2_with fail
    go_roundw
    case rel=>exact ⟨i+1,HLT.out,by go_num,HQ.out,HB1.out⟩
    case measure=>have:=HLT.out; simp [intOf]; omega
   | false =>
    have HQ:=zY (HNO.out hq);clear hq;go_wp2_with fail;go_ret;exact ⟨⟨_,rfl,by rw [HQ.out]; simp⟩,HB1.out⟩
  ·obtain rfl:i=n:=by omega
   have HALL:=zY (show rightsV d ks=true by
    have:=HOK.out;rw [HN.out,List.take_length] at this;exact (qa0 d ks).2 this)
   go_wp2_with fail;go_ret;exact ⟨⟨_,rfl,by rw [HALL.out]; simp⟩,HBE.out⟩
theorem conj_any (d:Nat) (hd9:(d:Int)≤1000) (IH:RVal d) (ks:List JT) (kv:List JV) (A:Option Addr) (c B g:Nat) (w:World) (hs:smallsJ ks=true) (hkl:ks.length≤4096) (hkv:kv.length=ks.length) (hkr:Rd w B A (rowsV jvCells kv))
  (hkids:∀ i (h:i<ks.length) (h':i<kv.length),JRep w (fun b=>b<B) ks[i] kv[i]) (hB:B≤w.heap.size) (hg:w.cell? ⟨g,0,none⟩=some (.int .i64 (d+1:Int))) :
  Calls Tryz.prog 64 #[.slice A ks.length c,.func (.func 65) #[] #[.pointer (some ⟨g,0,none⟩)]] w fun e w' =>
   e=.returned (.bool (!rightsV d ks))∧Below w.heap.size w w':=by
 have C:=zY (idxj_any d hd9 IH ks kv A c B g w hs hkl hkv hkr hkids hB hg);clear hs hkv hkr hkids hB hg;generalize rightsV d ks=b at *;generalize ks.length=n at *;go_enter Tryz.func64,Tryz.ntmps64;go_wp2_with fail;refine qaa C.out ?_;rintro e w1 ⟨⟨k,rfl,hk⟩,hb⟩;have HB:=zY hb;have HK:=zY hk;clear hb hk;go_wp2_with fail;go_ret;exact ⟨by rw [← HK.out]; rfl,HB.out⟩
theorem conj_nil (A:Option Addr) (c:Nat) (F:Value) (w:World) :
  Calls Tryz.prog 64 #[.slice A 0 c,F] w fun e w'=>e=.returned (.bool false)∧w'=w:=by
 have C:=zY (show Calls Tryz.prog 96 #[.slice A 0 c,F] w fun e w'=>e=.returned (.int .i64 (-1))∧w'=w by
  go_enter Tryz.func96,Tryz.ntmps96;go_wp2_with fail
  go_loop [8] (fun x=>x=.int .i64 0) (fun _=>0)
  case atStart=>rfl
  case round =>
   obtain rfl:=hrel;go_wp2_with fail;go_ret;exact ⟨rfl,rfl⟩)
 go_enter Tryz.func64,Tryz.ntmps64;go_wp2_with fail;refine qaa C.out ?_;rintro e w1 ⟨rfl,rfl⟩;go_wp2_with fail;go_ret;exact ⟨rfl,rfl⟩
structure RightQ (d:Nat) (k n:Int) (t:Bs) (ns:List Bs) (ks:List JT) (P:Bool):Prop where
 eq:rightV d (.mk k n t ns ks)=(P && !(d == 0 && decide (4≤k)) && (decide (0≤k) && decide (k≤5)) && (k != 5 || ns.length == ks.length) && okT t && ns.all okT
   && (k != 2 || (decide (-1000000000000000≤n) && decide (n≤1000000000000000))) && distinct ns && rightsV (d - 1) ks)
theorem distinct_take {l:List Bs} {i:Nat} (hi:i<l.length) (h:distinct (l.take i)=true):(l[i] ∈ l.take i→distinct l=false)∧(l[i] ∉ l.take i→distinct (l.take (i+1))=true):=by
 constructor
 ·intro hm
  cases hq:distinct l with
  | false=>rfl
  | true =>
   have e:l=l.take i++l[i] :: l.drop (i+1):=by
    rw [← List.drop_eq_getElem_cons hi,List.take_append_drop]
   rw [e] at hq;exact absurd hm (distinct_not hq)
 ·intro hm;rw [List.take_succ_eq_append_getElem hi];exact qbS h hm
theorem right_step (d:Nat) (hd9:(d:Int)≤1000) (IH:∀ d',d=d'+1→RVal d'):RVal d:=by
 intro j v B w hs hj hB;have hu:=Tryz.underlying44;obtain ⟨ns,ks,kv,rfl,hn,hnc,hnr,hkn,_,hkv,hkr,hkids⟩:=hj.inv;rw [smallJ] at hs;simp only [Bool.and_eq_true,decide_eq_true_eq] at hs;obtain ⟨⟨hsn,hsk⟩,hsm⟩:=hs;obtain ⟨G,hG⟩:=eX (w.heap.size);obtain ⟨W0,hW0⟩:=eX ((w.alloc (.cells (jvCells v) 44)).alloc (.cells #[.int .i64 (d:Int)] 3));have hb0:Below w.heap.size w W0:=by rw [hW0]; exact ((Below.refl _ w).alloc (Nat.le_refl _) _).alloc (by simp) _
 have HB0:=zY hb0;have hkb:Blk W0 G 44 (jvCells v):=by rw [hW0,hG]; exact (Blk.new _ _ _).alloc _
 have hkd:Blk W0 (G+1) 3 #[.int .i64 (d:Int)]:=by
  have:=Blk.new (w.alloc (.cells (jvCells v) 44)) 3 #[.int .i64 (d:Int)];rw [hW0,hG]
  simpa using this
 have HKB:=zY hkb;have HKD:=zY hkd;have HNR:=zY (show Rd W0 B v.nA (rowsV sCell ns) from (hnr.rd (fun _ _ h=>h)).below (hb0.mono hB));have HKR:=zY (show Rd W0 B v.kA (rowsV jvCells kv) from (hkr.rd (fun _ _ h=>h)).below (hb0.mono hB));have HKI:=zY (show ∀ i (h:i<ks.length) (h':i<kv.length),JRep W0 (fun b=>b<B) ks[i] kv[i] from fun i h h'=>(hkids i h h').under (hb0.mono hB));have HBB:=zY (show B≤W0.heap.size from Nat.le_trans hB hb0.size);have HW0:=zY hW0;have HSN:=zY hsn;have HSK:=zY hsk;have HSM:=zY hsm;have HKV:=zY hkv;have HIH:=zY IH;have HD9:=zY hd9;have HNC:=zY hnc;have HP:=zY (plain_any v ns ks hn hkn W0);obtain ⟨vk,vn,vt,nA,nn,nc,kA,kn,kc⟩:=v;dsimp only at *;obtain ⟨P,hP⟩:=eX (plainJ vk vn vt ns ks);rw [← hP] at HP;have HPL:=zY hP;have HQ:RightQ d vk vn vt ns ks P:=⟨by rw [rightV,hP]⟩;have HN:=zY hn;have HKN:=zY hkn;have HE:=zY (show (ns.length == ks.length)=!((nn:Int) != (kn:Int)) by rw [hn,hkn,Bool.eq_iff_iff,beq_iff_eq]; simp; omega);have a0:W0.cell? ⟨G,0,none⟩=some (.int .i64 vk):=hkb.cell 0;have a1:W0.cell? ⟨G,1,none⟩=some (.int .i64 vn):=hkb.cell 1;have a2:W0.cell? ⟨G,2,none⟩=some (.string (bs vt)):=hkb.cell 2;have a3:W0.cell? ⟨G,3,none⟩=some (.slice nA nn nc):=hkb.cell 3;have a4:W0.cell? ⟨G,4,none⟩=some (.slice kA kn kc):=hkb.cell 4;have a5:W0.cell? ⟨G+1,0,none⟩=some (.int .i64 (d:Int)):=hkd.cell 0;clear hW0 hb0 hkb hkd hnr hkr hkids hB hsn hsk hsm hkv IH hd9 hn hkn hP hnc hj;rw [hG] at *;clear hG;go_enter Tryz.func34,Tryz.ntmps34
 go_upto_region 1 with (fail)
 rw [← HW0.out];clear HW0;generalize Value.agg (jvCells ⟨vk,vn,vt,nA,nn,nc,kA,kn,kc⟩)=AV;generalize Value.int IntKind.i64 (d:Int)=DV;clear a0 a1 a2 a3 a4 a5
 go_cut [43] (fun x wx=>x=.bool (!P || (decide ((d:Int)=0) && decide (4≤vk)) || decide (vk<0) || decide (5<vk) || (vk == 5 && ((nn:Int) != (kn:Int))))∧Below W0.heap.size W0 wx)
 case first =>
  go_wp2_with (refine qad (x:=.tmp 2) HKB.out rfl rfl rfl hu rfl qcH ?_);refine qaa HP.out ?_;rintro e w1 ⟨rfl,hb1⟩;have HB1:=zY hb1;have hkb:=HKB.out.below hb1 HKB.out.lt;have hkd:=HKD.out.below hb1 HKD.out.lt;have a0:w1.cell? ⟨w.heap.size,0,none⟩=some (.int .i64 vk):=hkb.cell 0;have a3:w1.cell? ⟨w.heap.size,3,none⟩=some (.slice nA nn nc):=hkb.cell 3;have a4:w1.cell? ⟨w.heap.size,4,none⟩=some (.slice kA kn kc):=hkb.cell 4;have a5:w1.cell? ⟨w.heap.size+1,0,none⟩=some (.int .i64 (d:Int)):=hkd.cell 0;clear hb1 hkb hkd;generalize Value.agg (jvCells ⟨vk,vn,vt,nA,nn,nc,kA,kn,kc⟩)=AV2
  cases P with
  | false =>
   go_wp2_with fail
   all_goals (go_meet; exact ⟨by first | rfl | (simp; done),HB1.out⟩)
  | true =>
   go_wp2_with fail
   all_goals (go_meet; exact ⟨by first | rfl | (simp; done) | (simp_all; done),HB1.out⟩)
 case rest =>
 obtain ⟨rfl,hbel⟩:=hcut;have HBE:=zY hbel;clear hbel;obtain ⟨X1,hX1⟩:=eX ((!P || (decide ((d:Int)=0) && decide (4≤vk)) || decide (vk<0) || decide (5<vk) || (vk == 5 && ((nn:Int) != (kn:Int)))));rw [← hX1]
 have HQ1:=zY (show rightV d (.mk vk vn vt ns ks)=(!X1 && okT vt && ns.all okT && (vk != 2 || (decide (-1000000000000000≤vn) && decide (vn≤1000000000000000))) && distinct ns && rightsV (d - 1) ks) by
  have e1:(d == 0)=decide ((d:Int)=0):=by rw [Bool.eq_iff_iff,beq_iff_eq,decide_eq_true_iff]; omega
  have e2:decide (0≤vk)=!decide (vk<0):=by rw [Bool.eq_iff_iff]; simp
  have e3:decide (vk≤5)=!decide (5<vk):=by rw [Bool.eq_iff_iff]; simp
  rw [HQ.eq,HE.out,e1,e2,e3,hX1];unfold bne
  cases P <;> cases decide ((d:Int)=0) <;> cases decide (4≤vk) <;> cases decide (vk<0) <;> cases decide (5<vk) <;> cases (vk == 5) <;> simp)
 have HX1:=zY (show X1=false→d=0→ks=[] from fun h1 h2=>by
  rw [hX1] at h1;simp only [Bool.or_eq_false_iff,Bool.not_eq_false',Bool.and_eq_false_imp,decide_eq_true_eq,decide_eq_false_iff_not] at h1;have hp:=HPL.out;rw [h1.1.1.1.1] at hp;have h4:=h1.1.1.1.2 (by omega);have h5:=hp.symm;unfold plainJ at h5;simp only [Bool.and_eq_true,Bool.or_eq_true,List.isEmpty_iff,beq_iff_eq] at h5
  rcases h5.1.1.2 with (h | h) | h
  ·exact h
  ·omega
  ·omega)
 clear hX1
 cases X1 with
 | true =>
  go_wp2_with fail;go_ret;exact ⟨by rw [HQ1.out]; simp,HB0.out.trans (HBE.out.mono HB0.out.size)⟩
 | false =>
  have HKE:=zY (HX1.out rfl);clear HX1 HP HPL HQ
  have cells:∀ u,Below W0.heap.size W0 u→u.cell? ⟨w.heap.size,0,none⟩=some (.int .i64 vk)∧u.cell? ⟨w.heap.size,1,none⟩=some (.int .i64 vn)∧u.cell? ⟨w.heap.size,2,none⟩=some (.string (bs vt))∧u.cell? ⟨w.heap.size,3,none⟩=some (.slice nA nn nc) ∧
    u.cell? ⟨w.heap.size,4,none⟩=some (.slice kA kn kc)∧u.cell? ⟨w.heap.size+1,0,none⟩=some (.int .i64 (d:Int)):=fun u hu=>by
   have h:=HKB.out.below hu HKB.out.lt;have h':=HKD.out.below hu HKD.out.lt;exact ⟨h.cell 0,h.cell 1,h.cell 2,h.cell 3,h.cell 4,h'.cell 0⟩
  have CE:=zY cells;clear cells
  go_upto_region 4 with (fail)
  go_cut [68] (fun x wx=>x=.bool (!okT vt || !ns.all okT || (vk == 2 && (decide (vn< -1000000000000000) || decide (1000000000000000<vn))))∧Below W0.heap.size W0 wx)
  case first =>
   obtain ⟨a0,a1,a2,a3,_⟩:=CE.out _ HBE.out;have eg:∀ args w,(callFunc 59 args).run Tryz.prog w=.ok (.enter 59 args) w:=enters_of Tryz.func59 (by kernel_rfl) rfl;go_wp2_with fail;refine qaa (odd_any (bs vt) _) ?_;rintro e w2 ⟨rfl,hb2⟩;rw [show (bs vt).data.toList=vt from rfl];have HB2:=zY (HBE.out.trans (hb2.mono HBE.out.size));clear a0 a1 a2 a3 hb2;obtain ⟨a0,a1,a2,a3,_⟩:=CE.out _ HB2.out
   cases hq1:okT vt with
   | false =>
    go_wp2_with fail
    all_goals (go_meet; exact ⟨by first | rfl | (simp; done) | (simp [hq1]; done),HB2.out⟩)
   | true =>
    have HC:=zY (cons_any ns nA nc B w2 (HNR.out.below (HB2.out.mono HBB.out)) (Nat.le_trans HBB.out HB2.out.size) (by have:=HSN.out; omega));rw [← HN.out] at HC;go_wp2_with fail;refine qaa HC.out ?_;rintro e w3 ⟨rfl,hb3⟩;have HB3:=zY (HB2.out.trans (hb3.mono HB2.out.size));clear a0 a1 a2 a3 hb3 HC;obtain ⟨a0,a1,a2,a3,_⟩:=CE.out _ HB3.out
    cases hq2:ns.all okT with
    | false =>
     go_wp2_with fail
     all_goals (go_meet; exact ⟨by first | rfl | (simp; done) | (simp only [hq1,hq2]; rfl),HB3.out⟩)
    | true =>
     go_wp2_with fail
     all_goals (go_meet; exact ⟨by rw [hq1,hq2]; first | rfl | (simp; done) | (simp_all; done) | grind,HB3.out⟩)
  case rest =>
  obtain ⟨rfl,hbel⟩:=hcut;clear HBE;have HBE:=zY hbel;clear hbel;obtain ⟨X2,hX2⟩:=eX ((!okT vt || !ns.all okT || (vk == 2 && (decide (vn< -1000000000000000) || decide (1000000000000000<vn)))));rw [← hX2]
  have HQ2:=zY (show rightV d (.mk vk vn vt ns ks)=(!X2 && distinct ns && rightsV (d - 1) ks) by
   have e1:decide (-1000000000000000≤vn)=!decide (vn< -1000000000000000):=by rw [Bool.eq_iff_iff]; simp
   have e2:decide (vn≤1000000000000000)=!decide (1000000000000000<vn):=by rw [Bool.eq_iff_iff]; simp
   rw [HQ1.out,hX2,e1,e2];unfold bne
   cases okT vt <;> cases ns.all okT <;> cases (vk == 2) <;> cases decide (vn< -1000000000000000) <;> cases decide (1000000000000000<vn) <;> simp)
  clear hX2 HQ1
  cases X2 with
  | true =>
   go_wp2_with fail;go_ret;exact ⟨by rw [HQ2.out]; simp,HB0.out.trans (HBE.out.mono HB0.out.size)⟩
  | false =>
   obtain ⟨_,_,_,a3,_⟩:=CE.out _ HBE.out;go_wp2_with fail;clear a3;have hsn:(nn:Int)≤4096:=by have:=HSN.out; have:=HN.out; omega
   have hnl:nn=ns.length:=by have:=HN.out; omega
   have HNL:=zY hnl;clear hnl
   go_loopw [72] (fun x wr=>∃ i:Nat,i≤nn∧x=.int .i64 (i:Int)∧distinct (ns.take i)=true∧Below W0.heap.size W0 wr) (fun x _=>nn - (intOf x).toNat)
   case atStart=>exact ⟨0,by omega,rfl,by simp [distinct],HBE.out⟩
   case round =>
    obtain ⟨i,hi,rfl,hok,hb⟩:=hrel;have HB3:=zY hb;have HOK:=zY hok;clear hb hok;obtain ⟨_,_,_,a3,a4,_⟩:=CE.out _ HB3.out
    by_cases hlt:i<nn
    ·have hil:i<ns.length:=by rw [← HNL.out]; exact hlt
     have hlt':(i:Int)<(nn:Int):=by omega
     have HLT:=zY hlt;obtain ⟨ad,hA,hadb,hcell⟩:=qaO (f:=sCell) (m:=1) (fun _=>rfl) (by decide) (HNR.out.below (HB3.out.mono HBB.out)) hil;subst hA;obtain ⟨X,hX⟩:=eX (ns[i]);have hdt:=distinct_take hil HOK.out;rw [← hX] at hcell hdt;have HDT:=zY hdt
     have hc0:wr.cell? (ad.add i)=some (.string (bs X)):=by
      have h:=hcell 0 _ rfl;rw [Nat.mul_one] at h;exact h
     have HC:=zY (has_any (ns.take i) X (some ad) nc B wr (fun j u hu=>(HNR.out.below (HB3.out.mono HBB.out)) j u (by
      have h1:rowsV sCell (ns.take i)=(rowsV sCell ns).take (i*1):=rowsV_take (f:=sCell) (m:=1) (fun _=>rfl) ns i;rw [h1,List.getElem?_take] at hu
      split at hu
      ·exact hu
      ·cases hu)) (by rw [List.length_take]; have:=HSN.out; omega))
     have hli:(ns.take i).length=i:=by rw [List.length_take]; omega
     rw [hli] at HC;obtain ⟨b,hb⟩:=eX (decide (X ∈ ns.take i));rw [← hb] at HC;have HBX:=zY hb;have hnc:(i:Int)≤(nc:Int):=by have:=HNC.out; omega
     clear hX hdt hcell hadb hil hli hb;go_wp2_with fail;refine qaa HC.out ?_;rintro e w2 ⟨rfl,rfl⟩
     cases b with
     | true =>
      have HD:=zY (HDT.out.1 (by have:=HBX.out; exact of_decide_eq_true this.symm));go_wp2_with fail;go_ret;exact ⟨by rw [HQ2.out,HD.out]; rfl,HB0.out.trans (HB3.out.mono HB0.out.size)⟩
     | false =>
      have HD:=zY (HDT.out.2 (by have:=HBX.out; exact of_decide_eq_false this.symm));go_wp2_with fail
      go_roundw
      case rel=>exact ⟨i+1,HLT.out,by go_num,HD.out,HB3.out⟩
      case measure=>have:=HLT.out; simp [intOf]; omega
    ·obtain rfl:i=nn:=by omega
     have HD:=zY (show distinct ns=true by
      have:=HOK.out
      rwa [HNL.out,List.take_length] at this)
     have hmf:∀ (fn:Fn) (first cap:Array Value) (u:World),(Instr.makeFunc fn first cap).run Tryz.prog u=.ok (.func fn first cap) u:=fun _ _ _ _=>rfl;clear a3;go_wp2_with fail
     have HFIN:=zY (show Calls Tryz.prog 64 #[.slice kA kn kc,.func (.func 65) #[] #[.pointer (some ⟨w.heap.size+1,0,none⟩)]] wr fun e w'=>e=.returned (.bool (!rightsV (d - 1) ks))∧Below W0.heap.size W0 w' by
      have hkn:kn=ks.length:=by have:=HKN.out; omega
      by_cases h0:d=0
      ·have hk0:=HKE.out h0;subst hk0;subst hkn;refine qaa (conj_nil kA kc _ wr) ?_;rintro e w5 ⟨rfl,rfl⟩;exact ⟨by simp [rightsV],HB3.out⟩
      ·obtain ⟨d',rfl⟩:∃ d',d=d'+1:=⟨d - 1,by omega⟩;have h5:=(CE.out _ HB3.out).2.2.2.2.2;subst hkn;refine qaa (conj_any d' (by have:=HD9.out; omega) (HIH.out d' rfl) ks kv kA kc B _ wr HSM.out HSK.out HKV.out (HKR.out.below (HB3.out.mono HBB.out)) (fun i h h'=>(HKI.out i h h').under (HB3.out.mono HBB.out)) (Nat.le_trans HBB.out HB3.out.size) (by simpa using h5)) ?_;rintro e w5 ⟨rfl,hb5⟩;exact ⟨rfl,HB3.out.trans (hb5.mono HB3.out.size)⟩)
     refine qaa HFIN.out ?_;rintro e w4 ⟨rfl,hb4⟩;have HB4:=zY hb4;clear hb4;go_wp2_with fail;go_ret;exact ⟨by rw [HQ2.out,HD.out]; simp,HB0.out.trans (HB4.out.mono HB0.out.size)⟩
theorem right_any:∀ d:Nat,(d:Int)≤1000→RVal d:=by
 intro d
 induction d with
 | zero=>exact fun h=>right_step 0 h (fun d' h'=>by omega)
 | succ d ih=>exact fun h=>right_step (d+1) h (fun d' h'=>by
   have:d'=d:=by omega
   subst this;exact ih (by omega))
theorem enc_one (n:Nat) (h:n<128):Utf8.encode (n:Int)=⟨#[UInt8.ofNat n]⟩:=by
 have hv:Utf8.valid (n:Int)=true:=by rw [validRune_eq]; simp [validRune]; omega
 simp [Utf8.encode,hv,h]
theorem jwT:BT 68:=⟨by kernel_rfl,by decide⟩
theorem hex_at (n:Nat) (h:n<16) (h2:n<(⟨#[48,49,50,51,52,53,54,55,56,57,97,98,99,100,101,102]⟩:ByteArray).size):((⟨#[48,49,50,51,52,53,54,55,56,57,97,98,99,100,101,102]⟩:ByteArray)[n]'h2)=hexd n:=by
 have:n=0∨n=1∨n=2∨n=3∨n=4∨n=5∨n=6∨n=7∨n=8∨n=9∨n=10∨n=11∨n=12∨n=13∨n=14∨n=15:=by omega
 rcases this with h | h | h | h | h | h | h | h | h | h | h | h | h | h | h | h <;> subst h <;> rfl
theorem cat6 (a b:UInt8):((⟨#[92,117,48,48]⟩:ByteArray)++⟨#[a]⟩++⟨#[b]⟩).data.toList=[92,117,48,48,a,b]:=by
 rw [ByteArray.data_append,ByteArray.data_append];rfl
theorem cat2 (a:UInt8):((⟨#[92]⟩:ByteArray)++⟨#[a]⟩).data.toList=[92,a]:=by
 rw [ByteArray.data_append];rfl
theorem qbX {s:ByteArray} {l:Bs} (h:s.data.toList=l):s.size=l.length:=by rw [← h]; rfl
structure StepQ (c L C1:Bs) (k:Nat) (x:UInt8):Prop where
 eq:C1++quoteC x=c++34 :: (L.take (k+1)).flatMap quoteC
theorem quoteC_len (x:UInt8):1≤(quoteC x).length:=by unfold quoteC; split <;> (try split) <;> simp
theorem quote_len (L:Bs):L.length≤(quote L).length:=by
 have h:∀ L:Bs,L.length≤(L.flatMap quoteC).length:=fun L=>by
  induction L with
  | nil=>simp
  | cons x r ih =>
   have:=quoteC_len x;rw [List.flatMap_cons,List.length_append,List.length_cons];omega
 have:=h L;simp only [quote,List.length_cons,List.length_append];omega
def WB (w0:World) (B p:Nat) (c:Bs) (w:World):Prop:=IsB w B 68 p c∧BK B p w0 w
theorem WB.drew {w0 w:World} {B p:Nat} {c:Bs} (h:WB w0 B p c w):WB w0 B p c w.drew:=⟨h.1,h.2.drew⟩
theorem WB.next {w0 w w':World} {B p:Nat} {c c':Bs} (h:WB w0 B p c w) (h1:IsB w' B 68 p c') (h2:BK B p w w'):WB w0 B p c' w':=⟨h1,h.2.trans h2⟩
theorem qdj (s:ByteArray) (B p:Nat) (c:Bs) (w0 w:World) (hb:WB w0 B p c w) (hl:c.length+(quote s.data.toList).length≤1099511627776) :
  Calls Tryz.prog 68 #[.pointer (some ⟨p,0,none⟩),.string s] w fun e w'=>e=.returned (.tuple #[])∧WB w0 B p (c++quote s.data.toList) w':=by
 obtain ⟨L,hL⟩:=eX (s.data.toList);have hLs:L.length=s.size:=by rw [hL]; rfl
 rw [← hL] at hl ⊢;have hq:(quote L).length=(L.flatMap quoteC).length+2:=by simp [quote]
 have hs:s.size≤1099511627776:=by have:=quote_len L; omega
 have hsz:(s.size:Int)≤1099511627776:=by omega
 have HQ:=zY hl;have HQ2:=zY hq;have HLS:=zY hLs;have CB:=zY (fun (c:Bs) (x:UInt8) (u:World) (h:IsB u B 68 p c) (h2:c.length+1≤140737488355328)=>qcj jwT B p c x u h h2);have CS:=zY (fun (c:Bs) (x:ByteArray) (u:World) (h:IsB u B 68 p c) (h2:c.length+x.size≤140737488355328)=>bld_str jwT B p c x u h h2);have HB:=zY hb;have HL:=zY hL;clear hb hl hq hLs hL hs;unfold byteV at CB;go_enter Tryz.func68,Tryz.ntmps68;go_wp2_with fail;refine qaa (CB.out c 34 _ HB.out.1 (by have:=HQ.out; have:=HQ2.out; omega)) ?_;rintro e w1 ⟨rfl,hb1,hw1⟩;have HB1:=zY (HB.out.next hb1 hw1);clear hb1 hw1;go_wp2_with fail
 go_loopw [12] (fun i wr=>∃ k:Nat,k≤s.size∧i=.int .i64 (k:Int)∧WB w0 B p (c++34 :: (L.take k).flatMap quoteC) wr) (fun i _=>s.size - (intOf i).toNat)
 case atStart=>exact ⟨0,by omega,rfl,by simpa using HB1.out⟩
 case round =>
  obtain ⟨k,hk,rfl,hwr⟩:=hrel;have HWR:=zY hwr;clear hwr
  by_cases hlt:k<s.size
  ·have hlt':(k:Int)<(s.size:Int):=by omega
   have hkL:k<L.length:=by have:=HLS.out; omega
   have hx:L[k]'hkL=s[k]:=by
    have:=HL.out;subst this;rfl
   obtain ⟨x,hxx⟩:=eX (s[k])
   have HST:=StepQ.mk (show (c++34 :: (L.take k).flatMap quoteC)++quoteC x=c++34 :: (L.take (k+1)).flatMap quoteC by
    rw [List.take_succ_eq_append_getElem hkL,List.flatMap_append,hx,hxx]
    simp)
   have HLN:=zY (show (c++34 :: (L.take k).flatMap quoteC).length+6≤140737488355328 by
    have h1:=HQ.out;have h2:=HQ2.out;have h3:L.flatMap quoteC=(L.take k).flatMap quoteC++(L.drop k).flatMap quoteC:=by rw [← List.flatMap_append,List.take_append_drop]
    rw [h3] at h2;simp at h2 ⊢
    omega)
   obtain ⟨C1,hC1⟩:=eX (c++34 :: (L.take k).flatMap quoteC);rw [← hC1] at HST HLN HWR;clear hx hkL hC1;obtain ⟨n,hn⟩:∃ n:Nat,n=x.toNat:=⟨_,rfl⟩;have hn':s[k].toNat=n:=by rw [hn,hxx]
   have hxn:UInt8.ofNat n=x:=by rw [hn]; simp
   have HN:=zY hn;have HXN:=zY hxn;have HNL:=zY (show n<256 by rw [hn]; exact x.toNat_lt);clear hn hxn hxx
   by_cases h32:n<32
   ·have h32':((s[k].toNat:Nat):Int)<32:=by omega
    have HQC:=zY (show quoteC x=[92,117,48,48,hexd (n/16),hexd (n%16)] by
     have:x<32:=by rw [UInt8.lt_iff_toNat_lt,← HN.out]; exact h32
     rw [quoteC,if_pos this,← HN.out])
    have a1:n/16<16:=by omega
    have a2:n%16<16:=by omega
    have HH1:=zY (show (hexd (n/16)).toNat<128 by unfold hexd; split <;> simp <;> omega);have HH2:=zY (show (hexd (n%16)).toNat<128 by unfold hexd; split <;> simp <;> omega);have HC0:=HWR.out.drew;have d32:decide ((n:Int)<32)=true:=by rw [decide_eq_true_iff]; omega
    clear HWR;go_wp2_with fail;clear h32 h32' hn' d32;refine qaj (fun u=>WB w0 B p C1 u) (fun u=>WB w0 B p (C1++quoteC x) u) [(0,some 26),(1,some 27),(2,some 28),(3,some 29),(4,some 30),(5,some 31),(6,some 32),(7,some 33),(8,some 34),(9,some 35),(10,some 36),(11,some 37),(12,some 38),(13,some 39)] (by kernel_rfl) (by kernel_rfl) (by decide) (by kernel_rfl) (fun _=>rfl) HC0 ?_;apply yN_
    ·apply dP [];exact fun _=>rfl;rfl;rintro vals - w1 hC1 E hE;simp only [sP] at hE ⊢;go_wp2;exact .mk (hE _ hC1)
    apply yN_
    ·apply dP [(0,some 26)];exact fun _=>rfl;rfl;intro vals vq w1 hC1 E hE;simp only [sP,vq] at hE ⊢;clear vq;go_wp2;exact .mk (hE _ hC1)
    apply yN_
    ·apply dP [(1,some 27)];exact fun _=>rfl;rfl;intro vals vq w1 hC1 E hE;simp only [sP,vq] at hE ⊢;clear vq;go_wp2;exact .mk (hE _ hC1)
    apply yN_
    ·apply dP [];exact fun _=>rfl;rfl;intro vals vq w1 hC1 E hE;clear vq;simp only [sP] at hE ⊢;go_wp2;exact .mk (hE _ hC1)
    apply yN_ (v:=.int .u8 ((n/16:Nat):Int))
    ·apply dP [(3,some 29)];exact fun _=>rfl;rfl;intro vals vq w1 hC1 E hE;simp only [sP,vq] at hE ⊢;clear vq;go_wp2;exact .mk (hE _ hC1)
    apply yN_
    ·apply dP [(4,some 30)];exact fun _=>rfl;rfl;intro vals vq w1 hC1 E hE;simp only [sP,vq] at hE ⊢;clear vq;go_wp2;rw [hex_at (n/16) a1];exact .mk (hE _ hC1)
    apply yN_
    ·apply dP [(5,some 31)];exact fun _=>rfl;rfl;intro vals vq w1 hC1 E hE;simp only [sP,vq] at hE ⊢;clear vq;go_wp2;rw [enc_one _ HH1.out];exact .mk (hE _ hC1)
    apply yN_
    ·apply dP [(6,some 32)];exact fun _=>rfl;rfl;intro vals vq w1 hC1 E hE;simp only [sP,vq] at hE ⊢;clear vq;go_wp2;exact .mk (hE _ hC1)
    apply yN_
    ·apply dP [];exact fun _=>rfl;rfl;intro vals vq w1 hC1 E hE;clear vq;simp only [sP] at hE ⊢;go_wp2;exact .mk (hE _ hC1)
    apply yN_ (v:=.int .u8 ((n%16:Nat):Int))
    ·apply dP [(8,some 34)];exact fun _=>rfl;rfl;intro vals vq w1 hC1 E hE;simp only [sP,vq] at hE ⊢;clear vq;go_wp2;exact .mk (hE _ hC1)
    apply yN_
    ·apply dP [(9,some 35)];exact fun _=>rfl;rfl;intro vals vq w1 hC1 E hE;simp only [sP,vq] at hE ⊢;clear vq;go_wp2;rw [hex_at (n%16) a2];exact .mk (hE _ hC1)
    apply yN_
    ·apply dP [(10,some 36)];exact fun _=>rfl;rfl;intro vals vq w1 hC1 E hE;simp only [sP,vq] at hE ⊢;clear vq;go_wp2;rw [enc_one _ HH2.out];exact .mk (hE _ hC1)
    apply yN_
    ·apply dP [(7,some 33),(11,some 37)];exact fun _=>rfl;rfl;intro vals vq w1 hC1 E hE;simp only [sP,vq] at hE ⊢;clear vq;go_wp2;exact .mk (hE _ hC1)
    apply yL_
    ·apply dP [(2,some 28),(12,some 38)];exact fun _=>rfl;rfl;intro vals vq w1 hC1 E hE;simp only [sP,vq] at hE ⊢;clear vq;go_wp2_with fail;refine qaa (CS.out _ _ _ hC1.1 (by rw [qbX (cat6 _ _)]; exact HLN.out)) ?_;rintro e w2 ⟨rfl,hb2,hw2⟩;go_wp2_with fail;exact .mk (hE _ (by have h:=hC1.next hb2 hw2; rw [cat6] at h; rw [HQC.out]; exact h))
    intro vals vq w1 hC1;simp only [sP,vq];clear vq;have HR:=zY hC1;clear hC1 HC0;go_wp2_with fail
    go_roundw
    case rel=>exact ⟨k+1,by omega,by go_num,by rw [← HST.eq]; exact HR.out⟩
    case measure=>simp [intOf]; omega
   ·obtain ⟨z,hz⟩:∃ z:Int,((s[k].toNat:Nat):Int)=z:=⟨_,rfl⟩;have HZ:=zY (show z=(n:Int) by rw [← hz,hn']);have hz32:¬ z<32:=by have:=HZ.out; omega
    by_cases hq:z=34∨z=92
    ·have HX:=zY (show z=((x.toNat:Nat):Int) by rw [HZ.out,HN.out])
     have HQC:∃ y:UInt8,y.toNat<128∧z=((y.toNat:Nat):Int)∧quoteC x=[92,y]:=by
      have h2:=HX.out;refine ⟨x,by omega,h2,?_⟩;have h3:¬ x<32:=by rw [UInt8.lt_iff_toNat_lt]; show ¬ x.toNat<32; omega
      have h4:x=34∨x=92:=by
       rcases hq with h | h
       ·exact .inl (UInt8.toNat.inj (by show x.toNat=34; omega))
       ·exact .inr (UInt8.toNat.inj (by show x.toNat=92; omega))
      rw [quoteC,if_neg h3,if_pos h4]
     obtain ⟨y,hy1,hy2,hy3⟩:=HQC;have HE:=zY (show Utf8.encode z=⟨#[y]⟩ by rw [hy2,enc_one _ hy1]; simp);have HY:=zY hy3;have e3:(z == 34 || z == 92)=true:=by rcases hq with h | h <;> simp [h]
     clear hn' h32 hy1 hy2 hy3
     rcases hq with rfl | rfl
     ·clear hz32 e3;go_wp2_with fail;rw [HE.out];refine qaa (CS.out C1 _ _ HWR.out.1 (by rw [qbX (cat2 _)]; have:=HLN.out; simp; omega)) ?_;rintro e w2 ⟨rfl,hb2,hw2⟩;have HB2:=zY (HWR.out.next hb2 hw2);clear hb2 hw2;go_wp2_with fail
      go_roundw
      case rel=>exact ⟨k+1,by omega,by go_num,by rw [← HST.eq,HY.out]; have h:=HB2.out; rw [cat2] at h; exact h⟩
      case measure=>simp [intOf]; omega
     ·clear hz32 e3;go_wp2_with fail;rw [HE.out];refine qaa (CS.out C1 _ _ HWR.out.1 (by rw [qbX (cat2 _)]; have:=HLN.out; simp; omega)) ?_;rintro e w2 ⟨rfl,hb2,hw2⟩;have HB2:=zY (HWR.out.next hb2 hw2);clear hb2 hw2;go_wp2_with fail
      go_roundw
      case rel=>exact ⟨k+1,by omega,by go_num,by rw [← HST.eq,HY.out]; have h:=HB2.out; rw [cat2] at h; exact h⟩
      case measure=>simp [intOf]; omega
    ·have e34:(z == 34)=false:=by simpa using fun h=>hq (.inl h)
     have e92:(z == 92)=false:=by simpa using fun h=>hq (.inr h)
     have HQC:=zY (show quoteC x=[x] by
      have h1:=HN.out;have h2:=HZ.out;have h3:¬ x<32:=by rw [UInt8.lt_iff_toNat_lt]; show ¬ x.toNat<32; omega
      have h4:¬ (x=34∨x=92):=by
       rintro (rfl | rfl)
       ·exact hq (.inl (by rw [h2,h1]; rfl))
       ·exact hq (.inr (by rw [h2,h1]; rfl))
      rw [quoteC,if_neg h3,if_neg h4])
     clear hq hn' h32;go_wp2_with fail;rw [show z=((x.toNat:Nat):Int) by rw [HZ.out,HN.out]];refine qaa (CB.out C1 x _ HWR.out.1 (by have:=HLN.out; omega)) ?_;rintro e w2 ⟨rfl,hb2,hw2⟩;have HB2:=zY (HWR.out.next hb2 hw2);clear hb2 hw2;go_wp2_with fail
     go_roundw
     case rel=>exact ⟨k+1,by omega,by go_num,by rw [← HST.eq,HQC.out]; exact HB2.out⟩
     case measure=>simp [intOf]; omega
  ·obtain rfl:k=s.size:=by omega
   have HE:=zY (show L.take s.size=L by rw [← HLS.out,List.take_length])
   have HLN:=zY (show (c++34 :: (L.take s.size).flatMap quoteC).length+1≤140737488355328 by
    have h1:=HQ.out;have h2:=HQ2.out;rw [HE.out];simp at h2 ⊢
    omega)
   go_wp2_with fail;refine qaa (CB.out _ 34 _ HWR.out.1 HLN.out) ?_;rintro e w2 ⟨rfl,hb2,hw2⟩;have HB2:=zY (HWR.out.next hb2 hw2);clear hb2 hw2;go_wp2_with fail
   go_end0
   refine ⟨rfl,?_⟩;have h:=HB2.out;rw [HE.out] at h
   simpa [quote] using h
theorem isB_kept {w w':World} {B g p:Nat} {T:TypeId} {l:Bs} (h:IsB w B T p l) (hg:w.grownBy w' (some g)) (hlt:w.heap.size≤g):IsB w' B T p l:=by
 obtain ⟨h1,self,A,c,h2,h3,h4⟩:=h;exact ⟨h1,self,A,c,h2,h3.grown hg (by intro e; injection e with e; have:=h3.lt; omega),h4.kept hg (.inr (fun e=>by have:=(h4.lt g e).2; omega))⟩
structure DigS (N j m:Nat) (suf:Bs):Prop where
 eq:digB 16 N=digB (16 - j) m++suf
 len:suf.length=j
 lt:m<10^(16 - j)
 j16:j<16
theorem DigS.start {N:Nat} (h:N<10^16):DigS N 0 N []:=⟨by simp,rfl,h,by decide⟩
theorem DigS.last {N j m:Nat} {suf:Bs} (h:DigS N j m suf) (hm:m<10):digB 16 N=dg m :: suf:=by
 obtain ⟨k,hk⟩:∃ k,16 - j=k+1:=⟨15 - j,by have:=h.j16; omega⟩;have e0:digB (k+1) m=[dg m]:=by rw [digB,if_pos hm]
 rw [h.eq,hk,e0];rfl
theorem DigS.next {N j m:Nat} {suf:Bs} (h:DigS N j m suf) (hm:¬ m<10):DigS N (j+1) (m/10) (dg (m%10) :: suf):=by
 obtain ⟨k,hk⟩:∃ k,16 - j=k+1:=⟨15 - j,by have:=h.j16; omega⟩;have h1:=h.eq;have h2:=h.lt;rw [hk] at h1 h2;rw [show digB (k+1) m=digB k (m/10)++[dg (m%10)] by rw [digB,if_neg hm]] at h1;rw [Nat.pow_succ] at h2;have e:16 - (j+1)=k:=by omega
 have h3:m/10<10^k:=Nat.div_lt_of_lt_mul (by omega);refine ⟨by rw [e,h1]; simp,by simp [h.len],by rw [e]; exact h3,?_⟩
 rcases Nat.eq_zero_or_pos k with rfl | h4
 ·simp at h3; omega
 ·omega
theorem rd_tail {w:World} {g a:Nat} {t:TypeId} {cs:List Value} {l:Bs} (h:Blk w g t cs.toArray) (hd:cs.drop a=bytesV l):Rd w (g+1) (some ⟨g,a,none⟩) (bytesV l):=fun i u hu=>by
 refine ⟨_,rfl,Nat.lt_succ_self g,?_⟩;rw [← hd,List.getElem?_drop] at hu
 have e:(⟨g,a,none⟩:Addr).add i=⟨g,a+i,none⟩:=by
  unfold Addr.add
  by_cases h2:i=0 <;> simp [h2]
 rw [e,h.cell]
 simpa using hu
theorem slice16 (g a:Nat) (h:a<16) (w:World):(Instr.sliceAt 140 (.pointer (some ⟨g,0,none⟩)) (some (.int .i64 a)) none none).run Tryz.prog w=.ok (.slice (some ((⟨g,0,none⟩:Addr).add a)) (16 - a) (16 - a)) w:=by
 have e1:Tryz.prog.arrayLen 140=16:=by kernel_rfl
 have e2:Tryz.prog.elem 140=5:=by kernel_rfl
 have hs:(Tryz.prog.info? 5).map (·.size)=some 1:=by kernel_rfl
 rw [run_sliceAt_array_l w 140 ⟨g,0,none⟩ (by rw [e1,e2]; exact Tryz.underlying140) .i64 a (by omega) (by rw [e1]; omega),e1,e2]
 cases hq:Tryz.prog.info? 5 with
 | none=>simp [hq] at hs
 | some j =>
  have hj:j.size=1:=by simpa [hq] using hs
  have:¬ 16=a:=by omega
  simp [sizeOf,typeInfo,hq,hj,slicedAt,this,Result.andThen]
theorem wnum_any (n:Int) (hn1:-1000000000000000≤n) (hn2:n≤1000000000000000) (B p:Nat) (c:Bs) (w0 w:World) (hb:WB w0 B p c w) (hl:c.length+(intB n).length≤1099511627776) :
  Calls Tryz.prog 67 #[.pointer (some ⟨p,0,none⟩),.int .i64 n] w fun e w'=>e=.returned (.tuple #[])∧WB w0 B p (c++intB n) w':=by
 obtain ⟨N,hN⟩:=eX (n.natAbs);obtain ⟨c1,hc1⟩:=eX (c++(if n<0 then [45] else []))
 have hall:c++intB n=c1++digB 16 N:=by
  rw [hc1,hN,intB]
  split <;> simp
 have hdl:(digB 16 N).length≤16:=(digB_ok 16 N (by omega)).2.2.1
 have hcl:c1.length+16≤140737488355328:=by
  have:(c++intB n).length≤1099511627776:=by simpa using hl
  rw [hc1];simp at this ⊢
  split <;> simp <;> omega
 rw [hall];have CB:=zY (fun (c:Bs) (x:UInt8) (u:World) (h:IsB u B 68 p c) (h2:c.length+1≤140737488355328)=>qcj jwT B p c x u h h2);have HB:=zY hb;have HN:=zY hN;have HCL:=zY hcl;have HDL:=zY hdl;have HC1:=zY hc1;have HNB:=zY (show N<10^16 by omega);have HCC:=zY (show c.length+1≤140737488355328 by omega);have HR1:=zY hn1;have HR2:=zY hn2;unfold byteV at CB;clear hb hN hc1 hall hdl hcl hl hn1 hn2;go_enter Tryz.func67,Tryz.ntmps67
 go_upto_if 7 with (fail)
 go_cut [1] (fun x wr=>x=.int .i64 (N:Int)∧WB w0 B p c1 wr)
 case first =>
  by_cases h0:n<0
  ·have d0:decide (n<0)=true:=by simpa using h0
   go_wp2_with fail;refine qaa (CB.out c 45 _ HB.out.1 HCC.out) ?_;rintro e w1 ⟨rfl,hb1,hw1⟩;have HB1:=zY (HB.out.next hb1 hw1);clear hb1 hw1;have hr:-n<9223372036854775808:=by have:=HR1.out; omega
   go_wp2_with fail
   go_meet
   exact ⟨by rw [HN.out]; congr 1; omega,by rw [HC1.out,if_pos h0]; exact HB1.out⟩
  ·have d0:decide (n<0)=false:=by simpa using h0
   go_wp2_with fail
   go_meet
   exact ⟨by rw [HN.out]; congr 1; omega,by rw [HC1.out,if_neg (by omega),List.append_nil]; exact HB.out⟩
 case rest =>
 obtain ⟨rfl,hwx⟩:=hcut;have HWC:=zY hwx;clear hwx;go_wp2_with fail
 go_loopw [1,5] (fun x a wr=>∃ (j m:Nat) (suf:Bs) (cs:List Value),DigS N j m suf∧x=.int .i64 (m:Int)∧a=.int .i64 ((16 - j:Nat):Int)∧Blk wr wc.heap.size 140 cs.toArray∧cs.length=16∧cs.drop (16 - j)=bytesV suf∧wc.grownBy wr (some wc.heap.size)) (fun _ a _=>(intOf a).toNat)
 case atStart=>exact ⟨0,N,[],List.replicate 16 (.int .u8 0),DigS.start HNB.out,rfl,rfl,Blk.new _ _ _,rfl,rfl,grown_alloc (World.grownBy.refl _ _) _⟩
 case round =>
  obtain ⟨j,m,suf,cs,hd,rfl,rfl,hk,hcs,hsuf,hgr⟩:=hrel;have hj:=hd.j16;obtain ⟨a,ha⟩:=eX (15 - j);have e1:(16 - j:Nat)=a+1:=by omega
  rw [e1];have ha':(a:Int)<16:=by omega
  have hm0:(0:Int)≤(m:Int):=by omega
  have hr0:(0:Int)≤(m:Int)%10:=by omega
  have hr1:(m:Int)%10<10:=by omega
  have HK:=zY hk;have HD:=zY hd;have HCS:=zY hcs;have HSUF:=zY hsuf;have HGR:=zY hgr;have HA:=zY ha;obtain ⟨q,hq⟩:=eX (m/10)
  have hwq:wrap64 ((m:Int)/10)=(q:Int):=by
   have h1:=hd.lt;have h2:10^(16 - j)≤10^16:=Nat.pow_le_pow_right (by decide) (by omega);rw [show wrap64 ((m:Int)/10)=(m:Int)/10 by unfold wrap64; omega,hq];omega
  have HQ:=zY hq;obtain ⟨y,hy⟩:=eX (dg (m%10));have HY:=zY hy
  have HYV:=zY (show Value.int IntKind.u8 (48+(m:Int)%10)=byteV y by
   have h1:m%10<10:=by omega
   have h2:=(dig_of h1).2
   have h3:(dg (m%10)).toNat=48+m%10:=by
    unfold dg;rw [UInt8.toNat_ofNat'];omega
   unfold byteV;rw [hy,h3]
   congr 1)
  have HCU:=zY (show ∀ v,(cs.set a v).drop a=v :: cs.drop (a+1) from fun v=>by
   rw [List.set_eq_take_append_cons_drop,if_pos (by omega),List.drop_left' (by rw [List.length_take]; omega)])
  clear hk hd hcs hsuf hgr ha e1 hq hy
  by_cases hz:q=0
  ·have hz':((q:Int) == 0)=true:=by simp [hz]
   have HZ:=zY hz;clear hz;go_wp2_with (refine qaf (x:=.tmp 21) (i:=a) HK.out rfl rfl rfl rfl (by kernel_rfl) (by rw [List.size_toArray,HCS.out]; omega) rfl ?_; intro w5 hb5 hw5);have hg5:=HGR.out.trans hw5.grown;have hwb:=HWC.out;have HW5:=zY (show WB w0 B p c1 w5 from ⟨isB_kept hwb.1 hg5 (Nat.le_refl _),hwb.2.trans (.fresh hg5 (Nat.le_refl _) (by have:=hwb.1.lt; omega))⟩);have HB5:=zY (show Blk w5 wc.heap.size 140 (cs.set a (byteV y)).toArray by rw [← HYV.out,← List.setIfInBounds_toArray]; exact hb5)
   have HDR:=zY (show (cs.set a (byteV y)).drop a=bytesV (y :: suf) by
    have h1:=HA.out;have h2:=HD.out.j16;rw [HCU.out,show a+1=16 - j by omega,HSUF.out]
    rfl)
   have HEND:=zY (show digB 16 N=y :: suf by
    have h1:=HQ.out;have h2:=HZ.out;have h3:m<10:=by omega
    rw [HD.out.last h3,HY.out,Nat.mod_eq_of_lt h3])
   have HLN:=zY (show (y :: suf).length=16 - a by
    have h1:=HA.out;have h2:=HD.out.j16;have h3:=HD.out.len;simp
    omega)
   have HGP:=zY (show wc.heap.size≠p by have:=hwb.1.lt; omega);have HAL:=zY (show a<16 by omega);clear hb5 hw5 hg5 hwb;have HC0:WB w0 B p c1 w5.drew∧Blk w5.drew wc.heap.size 140 (cs.set a (byteV y)).toArray:=⟨HW5.out.drew,HB5.out⟩;clear hwq hz';refine qaj (fun u=>WB w0 B p c1 u∧Blk u wc.heap.size 140 (cs.set a (byteV y)).toArray) (fun u=>WB w0 B p (c1++(y :: suf)) u) [(0,some 26),(1,some 27),(2,some 28),(3,some 29),(4,some 30),(5,some 31)] (by kernel_rfl) (by kernel_rfl) (by decide) (by kernel_rfl) (fun _=>rfl) HC0 ?_;apply yN_
   ·apply dP [];exact fun _=>rfl;rfl;rintro vals - w1 hC1 E hE;simp only [sP] at hE ⊢;go_wp2;exact .mk (hE _ hC1)
   apply yN_
   ·apply dP [(0,some 26)];exact fun _=>rfl;rfl;intro vals vq w1 hC1 E hE;simp only [sP,vq] at hE ⊢;clear vq;go_wp2;exact .mk (hE _ hC1)
   apply yN_
   ·apply dP [(1,some 27)];exact fun _=>rfl;rfl;intro vals vq w1 hC1 E hE;simp only [sP,vq] at hE ⊢;clear vq;go_wp2;exact .mk (hE _ hC1)
   apply yN_
   ·apply dP [];exact fun _=>rfl;rfl;intro vals vq w1 hC1 E hE;clear vq;simp only [sP] at hE ⊢;go_wp2;exact .mk (hE _ hC1)
   apply yN_
   ·apply dP [(3,some 29)];exact fun _=>rfl;rfl;intro vals vq w1 hC1 E hE;simp only [sP,vq] at hE ⊢;clear vq;have hsl:=slice16 wc.heap.size a HAL.out w1;go_wp2;exact .mk (hE _ hC1)
   apply yL_
   ·apply dP [(2,some 28),(4,some 30)];exact fun _=>rfl;rfl;intro vals vq w1 hC1 E hE;simp only [sP,vq] at hE ⊢;clear vq;go_wp2_with fail;refine qaa (bld_write jwT B p (wc.heap.size+1) (16 - a) (16 - a) _ c1 (y :: suf) _ hC1.1.1 (rd_tail hC1.2 HDR.out) (fun ad h=>by injection h with h; rw [← h]; exact HGP.out) HLN.out (by have:=HCL.out; omega)) ?_;rintro e w2 ⟨rfl,hb2,hw2⟩;go_wp2_with fail;exact .mk (hE _ (hC1.1.next hb2 hw2))
   intro vals vq w1 hC1;simp only [sP,vq];clear vq;have HR:=zY hC1;clear hC1 HC0;go_wp2_with fail
   go_end0
   exact ⟨rfl,by rw [HEND.out]; exact HR.out⟩
  ·have hz':((q:Int) == 0)=false:=by simpa using hz
   have HZ:=zY hz;clear hz;go_wp2_with (refine qaf (x:=.tmp 21) (i:=a) HK.out rfl rfl rfl rfl (by kernel_rfl) (by rw [List.size_toArray,HCS.out]; omega) rfl ?_; intro w5 hb5 hw5);refine ⟨⟨j+1,q,y :: suf,cs.set a (byteV y),?_,by rw [hwq],?_,?_,by rw [List.length_set]; exact HCS.out,?_,HGR.out.trans hw5.grown⟩,by simp [intOf]⟩
   ·have h1:=HQ.out;have h2:=HZ.out;rw [HQ.out,HY.out];exact HD.out.next (by omega)
   ·have h1:=HA.out
    congr 2
    omega
   ·rw [← HYV.out,← List.setIfInBounds_toArray];exact hb5
   ·have h1:=HA.out;have h2:=HD.out.j16;rw [show 16 - (j+1)=a by omega,HCU.out,show a+1=16 - j by omega,HSUF.out];rfl
theorem qb3:(Tryz.prog.info? 44).map (·.size)=some 5:=by kernel_rfl
def WVal (d:Nat):Prop:=∀ (j:JT) (v:JV) (B p:Nat) (c:Bs) (w0 w:World),rightV d j=true→JRep w (fun b=>b<B) j v→WB w0 B p c w→c.length+(writeV j).length≤1099511627776 →
 Calls Tryz.prog 35 #[.pointer (some ⟨p,0,none⟩),.agg (jvCells v)] w fun e w'=>e=.returned (.tuple #[])∧∃ c',Out c (writeV j) c'∧WB w0 B p c' w'
def kidsB (m:Bool) (ns:List Bs) (ks:List JT) (k:Nat):Bs:=itemsV m (ns.take k) (ks.take k) true
theorem _root_.Go.Proofs.YtlkikjeccamheaaGreatDoor.Blk.keep9 {w:World} {g:Nat} {t:TypeId} {cs:Array Value} (h:Blk w g t cs):Blk w g t cs:=h
theorem app_len (a b:Bs):(a++b).length=a.length+b.length:=List.length_append
structure StepK (a b:Bs):Prop where
 eq:a=b
theorem qbk (m:Bool):∀ (ks:List JT) (ns:List Bs) (k:JT) (s:Bs) (f:Bool),(m=true→ns.length=ks.length) →
  itemsV m (if m then ns++[s] else []) (ks++[k]) f=itemsV m (if m then ns else []) ks f++((if (f && ks.isEmpty) then [] else [44])++((if m then quote s++[58] else [])++writeV k))
 | [],ns,k,s,f,h=>by
  cases m with
  | true =>
   have:ns=[]:=by simpa using h rfl
   subst this
   cases f <;> simp [itemsV]
  | false=>cases f <;> simp [itemsV]
 | k1 :: ks,ns,k,s,f,h=>by
  cases m with
  | true =>
   cases ns with
   | nil=>simp at h
   | cons s1 ns =>
    have ih:=qbk true ks ns k s false (fun _=>by simpa using h rfl);simp only [if_true,Bool.false_and,Bool.false_eq_true,if_false] at ih
    cases f <;> simp [itemsV,ih]
  | false =>
   have ih:=qbk false ks [] k s false (by simp);simp at ih
   cases f <;> simp [itemsV,ih]
theorem qdT (m:Bool):∀ (ks:List JT) (ns:List Bs) (f:Bool) (k:Nat),∃ r,itemsV m ns ks f=itemsV m (ns.take k) (ks.take k) f++r
 | [],ns,f,k=>⟨[],by simp [itemsV]⟩
 | x :: ks,ns,f,0=>⟨_,by simp [itemsV]; rfl⟩
 | x :: ks,ns,f,k+1=>by
  obtain ⟨r,hr⟩:=qdT m ks ns.tail false k;refine ⟨r,?_⟩
  cases ns with
  | nil=>simp at hr; simp [itemsV,hr]
  | cons s ns=>simp at hr; simp [itemsV,hr]
theorem qcG (m:Bool) (ns:List Bs) (ks:List JT) (k:Nat):(kidsB m ns ks k).length≤(itemsV m ns ks true).length:=by
 obtain ⟨r,hr⟩:=qdT m ks ns true k;rw [hr,kidsB];simp
theorem kidsB_map {ns:List Bs} {ks:List JT} {k:Nat} (h:ns.length=ks.length) (hk:k<ks.length) :
  kidsB true ns ks (k+1)=kidsB true ns ks k++((if k=0 then [] else [44])++((quote (ns[k]'(by omega))++[58])++writeV ks[k])):=by
 have e:=qbk true (ks.take k) (ns.take k) ks[k] (ns[k]'(by omega)) true (fun _=>by simp [h]);simp only [if_true,Bool.true_and] at e;rw [kidsB,List.take_succ_eq_append_getElem hk,List.take_succ_eq_append_getElem (by omega),e]
 cases k with
 | zero=>simp [kidsB]
 | succ k =>
  have:(ks.take (k+1)).isEmpty=false:=by
   cases ks with
   | nil=>simp at hk
   | cons a r=>rfl
  rw [this];simp [kidsB]
theorem kidsB_list {ks:List JT} {k:Nat} (hk:k<ks.length):kidsB false [] ks (k+1)=kidsB false [] ks k++((if k=0 then [] else [44])++writeV ks[k]):=by
 have e:=qbk false (ks.take k) [] ks[k] [] true (fun h=>by cases h);simp only [Bool.false_eq_true,if_false,Bool.true_and,List.nil_append] at e;rw [kidsB,List.take_succ_eq_append_getElem hk,List.take_nil,e]
 cases k with
 | zero=>simp [kidsB]
 | succ k =>
  have:(ks.take (k+1)).isEmpty=false:=by
   cases ks with
   | nil=>simp at hk
   | cons a r=>rfl
  rw [this];simp [kidsB]
theorem itemsV_len (m:Bool):∀ (ks:List JT) (ns:List Bs) (f:Bool),ks.length≤(itemsV m ns ks f).length+1
 | [],_,_=>by simp [itemsV]
 | [k],_,_=>by simp
 | k :: k2 :: r,ns,f=>by
  have:=itemsV_len2 m (k2 :: r) ns.tail;rw [itemsV];simp only [List.length_append,List.length_cons] at this ⊢;omega
where
 itemsV_len2 (m:Bool):∀ (ks:List JT) (ns:List Bs),ks.length≤(itemsV m ns ks false).length
 | [],_=>by simp [itemsV]
 | k :: r,ns=>by
  have:=itemsV_len2 m r ns.tail;rw [itemsV];simp only [Bool.false_eq_true,if_false,List.length_append,List.length_cons,List.length_nil];omega
theorem wmap_any (d:Nat) (IH:WVal d) (v:JV) (hvk:v.k=5) (ns:List Bs) (ks:List JT) (kv:List JV) (B p:Nat) (c:Bs) (w0 w:World)
  (hnr:RdS w (fun b=>b<B) v.nA (rowsV sCell ns)) (hn:v.nn=ns.length) (hkn:v.kn=ks.length) (hkv:kv.length=ks.length) (hkr:RdS w (fun b=>b<B) v.kA (rowsV jvCells kv))
  (hkids:∀ i (h:i<ks.length) (h':i<kv.length),JRep w (fun b=>b<B) ks[i] kv[i]) (hright:∀ x ∈ ks,rightV d x=true) (hlen:ns.length=ks.length)
  (hb:WB w0 B p c w) (hl:c.length+((123 :: (itemsV true ns ks true++[125])):Bs).length≤1099511627776) :
  Calls Tryz.prog 69 #[.pointer (some ⟨p,0,none⟩),.agg (jvCells v)] w fun e w'=>e=.returned (.tuple #[])∧∃ c',Out c (123 :: (itemsV true ns ks true++[125])) c'∧WB w0 B p c' w':=by
 have hu:=Tryz.underlying44;obtain ⟨W0,hW0⟩:=eX (w.alloc (.cells (jvCells v) 44));have hb0:Below w.heap.size w W0:=by rw [hW0]; exact (Below.refl _ w).alloc (Nat.le_refl _) _
 obtain ⟨hBp,hpw⟩:=hb.1.lt;obtain ⟨G,hG⟩:=eX (w.heap.size);have HG:=zY (show p<G by omega);have hG0:W0.heap.size=G+1:=by rw [hW0,hG]; simp
 have HKB:=zY (show Blk W0 G 44 (jvCells v) by rw [hW0,hG]; exact Blk.new _ _ _);have HS:=zY (show BK B p w0 W0 from hb.2.trans (.all hb0 (by omega)));have HB:=zY (show WB W0 B p c W0 from ⟨hb.1.below hb0,BK.refl _ _ _⟩);have HKR:=zY (show Rd W0 B v.kA (rowsV jvCells kv) from (hkr.rd (fun _ _ h=>h)).below (hb0.mono (by omega)));have HNR:=zY (show Rd W0 B v.nA (rowsV sCell ns) from (hnr.rd (fun _ _ h=>h)).below (hb0.mono (by omega)));have HKD:=zY (show ∀ i (h:i<ks.length) (h':i<kv.length),JRep W0 (fun b=>b<B) ks[i] kv[i] from fun i h h'=>(hkids i h h').under (hb0.mono (by omega)));have HRI:=zY hright;have HL:=zY hl;have HLEN:=zY hlen;have HKV:=zY hkv;obtain ⟨n,hnn⟩:=eX (ks.length);have HN:=zY hnn;have HBP:=zY hBp;have HNL:=zY (show (v.nn:Int)=(ns.length:Int) by rw [hn])
 have HNS:=zY (show (n:Int)≤1099511627776 by
  have h1:=itemsV_len true ks ns true;have h2:=hl;simp at h2
  omega)
 have HW0:=zY hW0;have CB:=zY (fun (c:Bs) (x:UInt8) (u:World) (h:IsB u B 68 p c) (h2:c.length+1≤140737488355328)=>qcj jwT B p c x u h h2);have CT:=zY (fun (s:ByteArray) (c:Bs) (u:World) (h:IsB u B 68 p c) (h2:c.length+(quote s.data.toList).length≤1099511627776)=>qdj s B p c u u ⟨h,BK.refl _ _ _⟩ h2);unfold byteV at CB;obtain ⟨vk,vn,vt,nA,nn,nc,kA,kn,kc⟩:=v;dsimp only at *;subst hvk;obtain rfl:kn=n:=by rw [hkn,hnn]
 have a0:W0.cell? ⟨G,0,none⟩=some (.int .i64 5):=HKB.out.cell 0;have a4:W0.cell? ⟨G,4,none⟩=some (.slice kA kn kc):=HKB.out.cell 4;clear hb hb0 hG0 hW0 hnr hkr hkids hright hl hlen hkv hnn hn hkn hBp hpw;rw [hG] at *;clear hG;go_enter Tryz.func69,Tryz.ntmps69
 go_upto_region 1 with (fail)
 rw [← HW0.out];go_wp2_with fail;have HC0:=HB.out.drew;clear a0 a4;refine qaj (fun u=>WB W0 B p c u) (fun u=>WB W0 B p (c++[123]) u) [(0,some 10),(1,some 11),(2,some 12),(3,some 13),(4,some 14),(5,some 15)] (by kernel_rfl) (by kernel_rfl) (by decide) (by kernel_rfl) (fun _=>rfl) HC0 ?_;apply yN_
 ·apply dP [];exact fun _=>rfl;rfl;rintro vals - w1 hC1 E hE;simp only [sP] at hE ⊢;go_wp2;exact .mk (hE _ hC1)
 apply yN_
 ·apply dP [(0,some 10)];exact fun _=>rfl;rfl;intro vals vq w1 hC1 E hE;simp only [sP,vq] at hE ⊢;clear vq;go_wp2;exact .mk (hE _ hC1)
 apply yN_
 ·apply dP [(1,some 11)];exact fun _=>rfl;rfl;intro vals vq w1 hC1 E hE;simp only [sP,vq] at hE ⊢;clear vq;go_wp2;exact .mk (hE _ hC1)
 apply yN_
 ·apply dP [];exact fun _=>rfl;rfl;intro vals vq w1 hC1 E hE;clear vq;simp only [sP] at hE ⊢;go_wp2;exact .mk (hE _ hC1)
 apply yN_ (v:=.int .u8 123)
 ·apply dP [(3,some 13)];exact fun _=>rfl;rfl;intro vals vq w1 hC1 E hE;simp only [sP,vq] at hE ⊢;clear vq;go_wp2;exact .mk (hE _ hC1)
 apply yL_
 ·apply dP [(2,some 12),(4,some 14)];exact fun _=>rfl;rfl;intro vals vq w1 hC1 E hE;simp only [sP,vq] at hE ⊢;clear vq;go_wp2_with fail;refine qaa (CB.out c 123 _ hC1.1 (by have:=HL.out; simp at this; omega)) ?_;rintro e w2 ⟨rfl,hb2,hw2⟩;go_wp2_with fail;exact .mk (hE _ (hC1.next hb2 hw2))
 intro vals vq w1 hC1;simp only [sP,vq];clear vq;have HB1:=zY hC1;have hkb1:=hC1.2.blk HKB.out (by have:=HG.out; omega) (by decide);have a4:w1.cell? ⟨w.heap.size,4,none⟩=some (.slice kA kn kc):=hkb1.cell 4;clear HC0 hC1 hkb1;go_wp2_with fail
 go_loopw [19] (fun x wr=>∃ (i:Nat) (c':Bs),i≤kn∧x=.int .i64 (i:Int)∧Out (c++[123]) (kidsB true ns ks i) c'∧WB W0 B p c' wr) (fun x _=>kn - (intOf x).toNat)
 case atStart=>exact ⟨0,_,by omega,rfl,by simp [kidsB,itemsV]; exact Out.refl _,HB1.out⟩
 case round =>
  obtain ⟨i,c',hi,rfl,hout,hwr⟩:=hrel;have HO:=zY hout;have HWR:=zY hwr;clear hout hwr
  by_cases hlt:i<kn
  ·have hik:i<ks.length:=by rw [← HN.out]; exact hlt
   have hiv:i<kv.length:=by rw [HKV.out]; exact hik
   have hlt':(i:Int)<(kn:Int):=by omega
   have HLT:=zY hlt;obtain ⟨ad,hA,hadb,hcell⟩:=qaO (f:=jvCells) (m:=5) (fun _=>rfl) (by decide) HKR.out hiv;subst hA;obtain ⟨X,hX⟩:=eX (kv[i]);obtain ⟨J,hJ⟩:=eX (ks[i]);have HJX:=zY (show JRep W0 (fun b=>b<B) J X by rw [hX,hJ]; exact HKD.out i hik hiv);have HJR:=zY (show rightV d J=true by rw [hJ]; exact HRI.out _ (List.getElem_mem hik));have HST:=StepK.mk (show kidsB true ns ks (i+1)=kidsB true ns ks i++((if i=0 then [] else [44])++((quote (ns[i]'(by rw [HLEN.out]; exact hik))++[58])++writeV J)) by rw [hJ]; exact kidsB_map HLEN.out hik)
   have HLN:=zY (show (c++[123]).length+(kidsB true ns ks (i+1)).length≤1099511627776 by
    have h1:=qcG true ns ks (i+1);have h2:=HL.out;simp at h2 ⊢
    omega)
   rw [← hX] at hcell
   have HCE:=zY (show ∀ u,Below B W0 u→∀ j x,(jvCells X).toList[j]?=some x→u.cell? ((ad.add (i*5)).add j)=some x from fun u hu j x hx=>by
    rw [hu.cell (p:=(ad.add (i*5)).add j) (by rw [qar,qar]; exact hadb)];exact hcell j x (by simpa using hx))
   obtain ⟨ad2,hA2,hadb2,hcell2⟩:=qaO (f:=sCell) (m:=1) (fun _=>rfl) (by decide) HNR.out (show i<ns.length by rw [HLEN.out]; exact hik);subst hA2;obtain ⟨Sx,hSx⟩:=eX (ns[i]'(by rw [HLEN.out]; exact hik));rw [← hSx] at HST hcell2
   have HSC:=zY (show ∀ u,Below B W0 u→u.cell? (ad2.add i)=some (.string (bs Sx)) from fun u hu=>by
    rw [hu.cell (p:=ad2.add i) (by rw [qar]; exact hadb2)];have h:=hcell2 0 _ rfl;rw [Nat.mul_one] at h;exact h)
   clear hSx hcell2;clear hX hJ hcell hik hiv
   go_upto_if 25 with (first
    | (refine qaA (r:=(jvCells X).toList) (HCE.out _ HWR.out.2.below) rfl rfl rfl hu rfl qb3 ?_)
    | (refine qac (x:=.tmp 6) (cells:=jvCells X) (Blk.new _ _ _) rfl rfl rfl rfl qb3 rfl (qae X) ?_; intro w2 hb2 hw2; have hk2:=qaz hw2; have HK2:=zY (Blk.keep9 hb2); have HW2:=zY (show WB W0 B p c' w2 from ⟨HWR.out.1.below hk2,HWR.out.2.trans (.all hk2 (by have:=HWR.out.1.lt; omega))⟩); have HSZ:=zY (show p<wr.heap.size from HWR.out.1.lt.2)))
   generalize hkb:wr.heap.size=kb at *
   go_cut [] (fun wx=>∃ c1:Bs,Out (c++[123]) (kidsB true ns ks i++(if i=0 then [] else [44])) c1∧WB W0 B p c1 wx∧Blk wx kb 44 (jvCells X))
   case first =>
    go_wp2_with fail
    ·have H0:=zY (show ¬ i=0 by omega);refine qaa (CB.out c' 44 _ HW2.out.1 (by have h1:=HO.out.2.1; have h2:=HLN.out; rw [HST.eq] at h2; simp at h1 h2; omega)) ?_;rintro e w3 ⟨rfl,hb3,hw3⟩;have HW3:=zY (HW2.out.next hb3 hw3);have HK3:=zY (hw3.blk HK2.out (by have:=HSZ.out; omega) (by decide));clear hb3 hw3;go_wp2_with fail
     go_meet
     exact ⟨_,by rw [if_neg H0.out]; exact HO.out.trans (Out.all _ _),HW3.out,HK3.out⟩
    ·have H0:=zY (show i=0 by omega)
     go_meet
     exact ⟨c',by rw [if_pos H0.out,List.append_nil]; exact HO.out,HW2.out,HK2.out⟩
   case rest =>
   obtain ⟨c1,hout1,hw3,hk3⟩:=hcut;have HO1:=zY hout1;have HW3:=zY hw3;have HK3:=zY hk3;have hkb3:=hw3.2.blk HKB.out (by have:=HG.out; omega) (by decide);have a0:wc.cell? ⟨w.heap.size,0,none⟩=some (.int .i64 5):=hkb3.cell 0
   have HT:=zY (show (c++[123]).length+((kidsB true ns ks i).length+(if i=0 then [] else [44]:Bs).length)+((quote Sx).length+1+(writeV J).length)≤1099511627776 by
    have h2:=HLN.out;rw [HST.eq] at h2;simp only [List.length_append,List.length_cons,List.length_nil] at h2 ⊢
    omega)
   have HT1:=zY (show c1.length≤(c++[123]).length+((kidsB true ns ks i).length+(if i=0 then [] else [44]:Bs).length) by
    have h1:=HO1.out.2.1;rw [app_len (kidsB true ns ks i)] at h1;exact h1)
   have a3:wc.cell? ⟨w.heap.size,3,none⟩=some (.slice (some ad2) nn nc):=hkb3.cell 3;have hsc:=HSC.out wc hw3.2.below;have hnl:=HNL.out;have hin:(i:Int)<(nn:Int):=by rw [hnl,HLEN.out,← HN.out]; exact hlt'
   clear hnl;go_wp2_with fail;refine qaa (CT.out _ c1 _ HW3.out.1 (by have h1:=HT.out; have h2:=HT1.out; rw [show (bs Sx).data.toList=Sx from rfl]; omega)) ?_;rintro e w4 ⟨rfl,hb4,hw4⟩;have HW4:=zY (show WB W0 B p (c1++quote Sx) w4 from HW3.out.next hb4 hw4);have HK4:=zY (hw4.blk HK3.out (by have:=HSZ.out; omega) (by decide));clear hb4 hw4;go_wp2_with fail;refine qaa (CB.out _ 58 _ HW4.out.1 (by have h1:=HT.out; have h2:=HT1.out; simp only [List.length_append] at h1 h2 ⊢; omega)) ?_;rintro e w5 ⟨rfl,hb5,hw5⟩;have HW5:=zY (HW4.out.next hb5 hw5);have HK5:=zY (hw5.blk HK4.out (by have:=HSZ.out; omega) (by decide));clear hb5 hw5;go_wp2_with (refine qad (x:=.tmp 6) (cs:=jvCells X) HK5.out rfl rfl rfl hu rfl qb3 ?_);clear hout1 hw3 hk3 hkb3;refine qaa (IH J X B p (c1++quote Sx++[58]) W0 _ HJR.out (HJX.out.under HW5.out.2.below) HW5.out (by have h1:=HT.out; have h2:=HT1.out; simp only [List.length_append,List.length_cons,List.length_nil] at h1 h2 ⊢; omega)) ?_;rintro e w6 ⟨rfl,c4,ho4,hw6⟩;have HO4:=zY ho4;have HW6:=zY hw6;clear ho4 hw6;have hns:=HNS.out;have hlt9:=HLT.out;go_wp2_with fail
   go_roundw
   case rel=>exact ⟨i+1,c4,HLT.out,by go_num,by rw [HST.eq]; have h:=((HO1.out.trans (Out.all c1 (quote Sx))).trans (Out.all _ [58])).trans HO4.out; simpa only [List.append_assoc] using h,HW6.out⟩
   case measure=>have:=HLT.out; simp [intOf]; omega
  ·obtain rfl:i=kn:=by omega
   have HCL:=zY (show c'.length+1≤140737488355328 by
    have h1:=HO.out.2.1;have h2:=qcG true ns ks i;have h3:=HL.out;simp at h1 h3
    omega)
   have HC0:=HWR.out.drew;go_wp2_with fail;refine qaj (fun u=>WB W0 B p c' u) (fun u=>WB W0 B p (c'++[125]) u) [(0,some 48),(1,some 49),(2,some 50),(3,some 51),(4,some 52),(5,some 53)] (by kernel_rfl) (by kernel_rfl) (by decide) (by kernel_rfl) (fun _=>rfl) HC0 ?_;apply yN_
   ·apply dP [];exact fun _=>rfl;rfl;rintro vals - w1 hC1 E hE;simp only [sP] at hE ⊢;go_wp2;exact .mk (hE _ hC1)
   apply yN_
   ·apply dP [(0,some 48)];exact fun _=>rfl;rfl;intro vals vq w1 hC1 E hE;simp only [sP,vq] at hE ⊢;clear vq;go_wp2;exact .mk (hE _ hC1)
   apply yN_
   ·apply dP [(1,some 49)];exact fun _=>rfl;rfl;intro vals vq w1 hC1 E hE;simp only [sP,vq] at hE ⊢;clear vq;go_wp2;exact .mk (hE _ hC1)
   apply yN_
   ·apply dP [];exact fun _=>rfl;rfl;intro vals vq w1 hC1 E hE;clear vq;simp only [sP] at hE ⊢;go_wp2;exact .mk (hE _ hC1)
   apply yN_ (v:=.int .u8 125)
   ·apply dP [(3,some 51)];exact fun _=>rfl;rfl;intro vals vq w1 hC1 E hE;simp only [sP,vq] at hE ⊢;clear vq;go_wp2;exact .mk (hE _ hC1)
   apply yL_
   ·apply dP [(2,some 50),(4,some 52)];exact fun _=>rfl;rfl;intro vals vq w1 hC1 E hE;simp only [sP,vq] at hE ⊢;clear vq;go_wp2_with fail;refine qaa (CB.out c' 125 _ hC1.1 HCL.out) ?_;rintro e w2 ⟨rfl,hb2,hw2⟩;go_wp2_with fail;exact .mk (hE _ (hC1.next hb2 hw2))
   intro vals vq w1 hC1;simp only [sP,vq];clear vq;have HR:=zY hC1;clear hC1 HC0;go_wp2_with fail
   go_end0
   refine ⟨rfl,_,?_,⟨HR.out.1,HS.out.trans HR.out.2⟩⟩
   have hall:kidsB true ns ks i=itemsV true ns ks true:=by
    rw [kidsB,HN.out,List.take_length];rw [← HLEN.out,List.take_length]
   have h:=((Out.all c [123]).trans HO.out).trans (Out.all c' [125]);rw [hall] at h
   simpa only [List.append_assoc,List.cons_append,List.nil_append] using h
theorem wlist_any (d:Nat) (IH:WVal d) (v:JV) (hvk:v.k=4) (ns:List Bs) (ks:List JT) (kv:List JV) (B p:Nat) (c:Bs) (w0 w:World)
  (hnr:RdS w (fun b=>b<B) v.nA (rowsV sCell ns)) (hn:v.nn=ns.length) (hkn:v.kn=ks.length) (hkv:kv.length=ks.length) (hkr:RdS w (fun b=>b<B) v.kA (rowsV jvCells kv))
  (hkids:∀ i (h:i<ks.length) (h':i<kv.length),JRep w (fun b=>b<B) ks[i] kv[i]) (hright:∀ x ∈ ks,rightV d x=true) (hlen:ns=[])
  (hb:WB w0 B p c w) (hl:c.length+((91 :: (itemsV false ns ks true++[93])):Bs).length≤1099511627776) :
  Calls Tryz.prog 69 #[.pointer (some ⟨p,0,none⟩),.agg (jvCells v)] w fun e w'=>e=.returned (.tuple #[])∧∃ c',Out c (91 :: (itemsV false ns ks true++[93])) c'∧WB w0 B p c' w':=by
 have hu:=Tryz.underlying44;obtain ⟨W0,hW0⟩:=eX (w.alloc (.cells (jvCells v) 44));have hb0:Below w.heap.size w W0:=by rw [hW0]; exact (Below.refl _ w).alloc (Nat.le_refl _) _
 obtain ⟨hBp,hpw⟩:=hb.1.lt;obtain ⟨G,hG⟩:=eX (w.heap.size);have HG:=zY (show p<G by omega);have hG0:W0.heap.size=G+1:=by rw [hW0,hG]; simp
 have HKB:=zY (show Blk W0 G 44 (jvCells v) by rw [hW0,hG]; exact Blk.new _ _ _);have HS:=zY (show BK B p w0 W0 from hb.2.trans (.all hb0 (by omega)));have HB:=zY (show WB W0 B p c W0 from ⟨hb.1.below hb0,BK.refl _ _ _⟩);have HKR:=zY (show Rd W0 B v.kA (rowsV jvCells kv) from (hkr.rd (fun _ _ h=>h)).below (hb0.mono (by omega)));have HNR:=zY (show Rd W0 B v.nA (rowsV sCell ns) from (hnr.rd (fun _ _ h=>h)).below (hb0.mono (by omega)));have HKD:=zY (show ∀ i (h:i<ks.length) (h':i<kv.length),JRep W0 (fun b=>b<B) ks[i] kv[i] from fun i h h'=>(hkids i h h').under (hb0.mono (by omega)));have HRI:=zY hright;have HL:=zY hl;have HLEN:=zY hlen;have HKV:=zY hkv;obtain ⟨n,hnn⟩:=eX (ks.length);have HN:=zY hnn;have HBP:=zY hBp;have HNL:=zY (show (v.nn:Int)=(ns.length:Int) by rw [hn])
 have HNS:=zY (show (n:Int)≤1099511627776 by
  have h1:=itemsV_len false ks ns true;have h2:=hl;simp at h2
  omega)
 have HW0:=zY hW0;have CB:=zY (fun (c:Bs) (x:UInt8) (u:World) (h:IsB u B 68 p c) (h2:c.length+1≤140737488355328)=>qcj jwT B p c x u h h2);have CT:=zY (fun (s:ByteArray) (c:Bs) (u:World) (h:IsB u B 68 p c) (h2:c.length+(quote s.data.toList).length≤1099511627776)=>qdj s B p c u u ⟨h,BK.refl _ _ _⟩ h2);unfold byteV at CB;obtain ⟨vk,vn,vt,nA,nn,nc,kA,kn,kc⟩:=v;dsimp only at *;subst hvk;obtain rfl:kn=n:=by rw [hkn,hnn]
 have a0:W0.cell? ⟨G,0,none⟩=some (.int .i64 4):=HKB.out.cell 0;have a4:W0.cell? ⟨G,4,none⟩=some (.slice kA kn kc):=HKB.out.cell 4;clear hb hb0 hG0 hW0 hnr hkr hkids hright hl hlen hkv hnn hn hkn hBp hpw;rw [hG] at *;clear hG;go_enter Tryz.func69,Tryz.ntmps69
 go_upto_region 1 with (fail)
 rw [← HW0.out];go_wp2_with fail;have HC0:=HB.out.drew;clear a0 a4;refine qaj (fun u=>WB W0 B p c u) (fun u=>WB W0 B p (c++[91]) u) [(0,some 10),(1,some 11),(2,some 12),(3,some 13),(4,some 14),(5,some 15)] (by kernel_rfl) (by kernel_rfl) (by decide) (by kernel_rfl) (fun _=>rfl) HC0 ?_;apply yN_
 ·apply dP [];exact fun _=>rfl;rfl;rintro vals - w1 hC1 E hE;simp only [sP] at hE ⊢;go_wp2;exact .mk (hE _ hC1)
 apply yN_
 ·apply dP [(0,some 10)];exact fun _=>rfl;rfl;intro vals vq w1 hC1 E hE;simp only [sP,vq] at hE ⊢;clear vq;go_wp2;exact .mk (hE _ hC1)
 apply yN_
 ·apply dP [(1,some 11)];exact fun _=>rfl;rfl;intro vals vq w1 hC1 E hE;simp only [sP,vq] at hE ⊢;clear vq;go_wp2;exact .mk (hE _ hC1)
 apply yN_
 ·apply dP [];exact fun _=>rfl;rfl;intro vals vq w1 hC1 E hE;clear vq;simp only [sP] at hE ⊢;go_wp2;exact .mk (hE _ hC1)
 apply yN_ (v:=.int .u8 91)
 ·apply dP [(3,some 13)];exact fun _=>rfl;rfl;intro vals vq w1 hC1 E hE;simp only [sP,vq] at hE ⊢;clear vq;go_wp2;exact .mk (hE _ hC1)
 apply yL_
 ·apply dP [(2,some 12),(4,some 14)];exact fun _=>rfl;rfl;intro vals vq w1 hC1 E hE;simp only [sP,vq] at hE ⊢;clear vq;go_wp2_with fail;refine qaa (CB.out c 91 _ hC1.1 (by have:=HL.out; simp at this; omega)) ?_;rintro e w2 ⟨rfl,hb2,hw2⟩;go_wp2_with fail;exact .mk (hE _ (hC1.next hb2 hw2))
 intro vals vq w1 hC1;simp only [sP,vq];clear vq;have HB1:=zY hC1;have hkb1:=hC1.2.blk HKB.out (by have:=HG.out; omega) (by decide);have a4:w1.cell? ⟨w.heap.size,4,none⟩=some (.slice kA kn kc):=hkb1.cell 4;clear HC0 hC1 hkb1;go_wp2_with fail
 go_loopw [19] (fun x wr=>∃ (i:Nat) (c':Bs),i≤kn∧x=.int .i64 (i:Int)∧Out (c++[91]) (kidsB false ns ks i) c'∧WB W0 B p c' wr) (fun x _=>kn - (intOf x).toNat)
 case atStart=>exact ⟨0,_,by omega,rfl,by simp [kidsB,itemsV]; exact Out.refl _,HB1.out⟩
 case round =>
  obtain ⟨i,c',hi,rfl,hout,hwr⟩:=hrel;have HO:=zY hout;have HWR:=zY hwr;clear hout hwr
  by_cases hlt:i<kn
  ·have hik:i<ks.length:=by rw [← HN.out]; exact hlt
   have hiv:i<kv.length:=by rw [HKV.out]; exact hik
   have hlt':(i:Int)<(kn:Int):=by omega
   have HLT:=zY hlt;obtain ⟨ad,hA,hadb,hcell⟩:=qaO (f:=jvCells) (m:=5) (fun _=>rfl) (by decide) HKR.out hiv;subst hA;obtain ⟨X,hX⟩:=eX (kv[i]);obtain ⟨J,hJ⟩:=eX (ks[i]);have HJX:=zY (show JRep W0 (fun b=>b<B) J X by rw [hX,hJ]; exact HKD.out i hik hiv);have HJR:=zY (show rightV d J=true by rw [hJ]; exact HRI.out _ (List.getElem_mem hik));have HST:=StepK.mk (show kidsB false ns ks (i+1)=kidsB false ns ks i++((if i=0 then [] else [44])++writeV J) by rw [hJ,HLEN.out]; exact kidsB_list hik)
   have HLN:=zY (show (c++[91]).length+(kidsB false ns ks (i+1)).length≤1099511627776 by
    have h1:=qcG false ns ks (i+1);have h2:=HL.out;simp at h2 ⊢
    omega)
   rw [← hX] at hcell
   have HCE:=zY (show ∀ u,Below B W0 u→∀ j x,(jvCells X).toList[j]?=some x→u.cell? ((ad.add (i*5)).add j)=some x from fun u hu j x hx=>by
    rw [hu.cell (p:=(ad.add (i*5)).add j) (by rw [qar,qar]; exact hadb)];exact hcell j x (by simpa using hx))
   clear hX hJ hcell hik hiv
   go_upto_if 25 with (first
    | (refine qaA (r:=(jvCells X).toList) (HCE.out _ HWR.out.2.below) rfl rfl rfl hu rfl qb3 ?_)
    | (refine qac (x:=.tmp 6) (cells:=jvCells X) (Blk.new _ _ _) rfl rfl rfl rfl qb3 rfl (qae X) ?_; intro w2 hb2 hw2; have hk2:=qaz hw2; have HK2:=zY (Blk.keep9 hb2); have HW2:=zY (show WB W0 B p c' w2 from ⟨HWR.out.1.below hk2,HWR.out.2.trans (.all hk2 (by have:=HWR.out.1.lt; omega))⟩); have HSZ:=zY (show p<wr.heap.size from HWR.out.1.lt.2)))
   generalize hkb:wr.heap.size=kb at *
   go_cut [] (fun wx=>∃ c1:Bs,Out (c++[91]) (kidsB false ns ks i++(if i=0 then [] else [44])) c1∧WB W0 B p c1 wx∧Blk wx kb 44 (jvCells X))
   case first =>
    go_wp2_with fail
    ·have H0:=zY (show ¬ i=0 by omega);refine qaa (CB.out c' 44 _ HW2.out.1 (by have h1:=HO.out.2.1; have h2:=HLN.out; rw [HST.eq] at h2; simp at h1 h2; omega)) ?_;rintro e w3 ⟨rfl,hb3,hw3⟩;have HW3:=zY (HW2.out.next hb3 hw3);have HK3:=zY (hw3.blk HK2.out (by have:=HSZ.out; omega) (by decide));clear hb3 hw3;go_wp2_with fail
     go_meet
     exact ⟨_,by rw [if_neg H0.out]; exact HO.out.trans (Out.all _ _),HW3.out,HK3.out⟩
    ·have H0:=zY (show i=0 by omega)
     go_meet
     exact ⟨c',by rw [if_pos H0.out,List.append_nil]; exact HO.out,HW2.out,HK2.out⟩
   case rest =>
   obtain ⟨c1,hout1,hw3,hk3⟩:=hcut;have HO1:=zY hout1;have HW3:=zY hw3;have HK3:=zY hk3;have hkb3:=hw3.2.blk HKB.out (by have:=HG.out; omega) (by decide);have a0:wc.cell? ⟨w.heap.size,0,none⟩=some (.int .i64 4):=hkb3.cell 0
   have HT:=zY (show (c++[91]).length+((kidsB false ns ks i).length+(if i=0 then [] else [44]:Bs).length)+((writeV J).length)≤1099511627776 by
    have h2:=HLN.out;rw [HST.eq] at h2;simp only [List.length_append,List.length_cons,List.length_nil] at h2 ⊢
    omega)
   have HT1:=zY (show c1.length≤(c++[91]).length+((kidsB false ns ks i).length+(if i=0 then [] else [44]:Bs).length) by
    have h1:=HO1.out.2.1;rw [app_len (kidsB false ns ks i)] at h1;exact h1)
   go_wp2_with (refine qad (x:=.tmp 6) (cs:=jvCells X) HK3.out rfl rfl rfl hu rfl qb3 ?_);have HW5:=zY HW3.out;clear hout1 hw3 hk3 hkb3;refine qaa (IH J X B p c1 W0 _ HJR.out (HJX.out.under HW5.out.2.below) HW5.out (by have h1:=HT.out; have h2:=HT1.out; simp only [List.length_append,List.length_cons,List.length_nil] at h1 h2 ⊢; omega)) ?_;rintro e w6 ⟨rfl,c4,ho4,hw6⟩;have HO4:=zY ho4;have HW6:=zY hw6;clear ho4 hw6;have hns:=HNS.out;have hlt9:=HLT.out;go_wp2_with fail
   go_roundw
   case rel=>exact ⟨i+1,c4,HLT.out,by go_num,by rw [HST.eq]; have h:=HO1.out.trans HO4.out; simpa only [List.append_assoc] using h,HW6.out⟩
   case measure=>have:=HLT.out; simp [intOf]; omega
  ·obtain rfl:i=kn:=by omega
   have HCL:=zY (show c'.length+1≤140737488355328 by
    have h1:=HO.out.2.1;have h2:=qcG false ns ks i;have h3:=HL.out;simp at h1 h3
    omega)
   have HC0:=HWR.out.drew;go_wp2_with fail;refine qaj (fun u=>WB W0 B p c' u) (fun u=>WB W0 B p (c'++[93]) u) [(0,some 48),(1,some 49),(2,some 50),(3,some 51),(4,some 52),(5,some 53)] (by kernel_rfl) (by kernel_rfl) (by decide) (by kernel_rfl) (fun _=>rfl) HC0 ?_;apply yN_
   ·apply dP [];exact fun _=>rfl;rfl;rintro vals - w1 hC1 E hE;simp only [sP] at hE ⊢;go_wp2;exact .mk (hE _ hC1)
   apply yN_
   ·apply dP [(0,some 48)];exact fun _=>rfl;rfl;intro vals vq w1 hC1 E hE;simp only [sP,vq] at hE ⊢;clear vq;go_wp2;exact .mk (hE _ hC1)
   apply yN_
   ·apply dP [(1,some 49)];exact fun _=>rfl;rfl;intro vals vq w1 hC1 E hE;simp only [sP,vq] at hE ⊢;clear vq;go_wp2;exact .mk (hE _ hC1)
   apply yN_
   ·apply dP [];exact fun _=>rfl;rfl;intro vals vq w1 hC1 E hE;clear vq;simp only [sP] at hE ⊢;go_wp2;exact .mk (hE _ hC1)
   apply yN_ (v:=.int .u8 93)
   ·apply dP [(3,some 51)];exact fun _=>rfl;rfl;intro vals vq w1 hC1 E hE;simp only [sP,vq] at hE ⊢;clear vq;go_wp2;exact .mk (hE _ hC1)
   apply yL_
   ·apply dP [(2,some 50),(4,some 52)];exact fun _=>rfl;rfl;intro vals vq w1 hC1 E hE;simp only [sP,vq] at hE ⊢;clear vq;go_wp2_with fail;refine qaa (CB.out c' 93 _ hC1.1 HCL.out) ?_;rintro e w2 ⟨rfl,hb2,hw2⟩;go_wp2_with fail;exact .mk (hE _ (hC1.next hb2 hw2))
   intro vals vq w1 hC1;simp only [sP,vq];clear vq;have HR:=zY hC1;clear hC1 HC0;go_wp2_with fail
   go_end0
   refine ⟨rfl,_,?_,⟨HR.out.1,HS.out.trans HR.out.2⟩⟩
   have hall:kidsB false ns ks i=itemsV false ns ks true:=by
    rw [kidsB,HN.out,List.take_length];rw [HLEN.out,List.take_nil]
   have h:=((Out.all c [91]).trans HO.out).trans (Out.all c' [93]);rw [hall] at h
   simpa only [List.append_assoc,List.cons_append,List.nil_append] using h
theorem wval_step (d:Nat) (IH:∀ d',d'<d→WVal d'):WVal d:=by
 intro j v B p c w0 w hr hj hb hl;have hu:=Tryz.underlying44;obtain ⟨ns,ks,kv,rfl,hn,_,hnr,hkn,_,hkv,hkr,hkids⟩:=hj.inv;obtain ⟨W0,hW0⟩:=eX (w.alloc (.cells (jvCells v) 44));have hb0:Below w.heap.size w W0:=by rw [hW0]; exact (Below.refl _ w).alloc (Nat.le_refl _) _
 obtain ⟨hBp,hpw⟩:=hb.1.lt;obtain ⟨G,hG⟩:=eX (w.heap.size);have HG:=zY (show p<G by omega);have HKB:=zY (show Blk W0 G 44 (jvCells v) by rw [hW0,hG]; exact Blk.new _ _ _);have HS:=zY (show BK B p w0 W0 from hb.2.trans (.all hb0 (by omega)));have HB:=zY (show WB W0 B p c W0 from ⟨hb.1.below hb0,BK.refl _ _ _⟩);have HW0:=zY hW0;have CL:=zY (fun (u:World) (h:IsB u B 68 p c)=>bld_len B p c u h);have CS:=zY (fun (x:ByteArray) (u:World) (h:IsB u B 68 p c) (h2:c.length+x.size≤140737488355328)=>bld_str jwT B p c x u h h2);have HL:=zY hl;have hfin:∀ x (w':World),WB W0 B p x w'→WB w0 B p x w':=fun x w' h=>⟨h.1,HS.out.trans h.2⟩;have HF:=zY hfin;rw [rightV] at hr;simp only [plainJ,Bool.and_eq_true,Bool.or_eq_true,Bool.not_eq_true',beq_iff_eq,decide_eq_true_eq,List.isEmpty_iff,bne_iff_ne] at hr;obtain ⟨⟨⟨⟨⟨⟨⟨⟨⟨⟨⟨hvn,hvk⟩,hvns⟩,hvt⟩,hd⟩,hk0⟩,hlen⟩,hot⟩,_⟩,hint⟩,_⟩,hks⟩:=hr;have HI:=zY hint;clear hint;have HKI:=zY (show ∀ i (h:i<ks.length) (h':i<kv.length),JRep W0 (fun b=>b<B) ks[i] kv[i] from fun i h h'=>(hkids i h h').under (hb0.mono (by omega)));have HNR:=zY (show RdS W0 (fun b=>b<B) v.nA (rowsV sCell ns) from hnr.heap fun b _ hb'=>hb0.block b (by omega));have HKR:=zY (show RdS W0 (fun b=>b<B) v.kA (rowsV jvCells kv) from hkr.heap fun b _ hb'=>hb0.block b (by omega));clear hW0 hb0 hb hl hfin hnr hkr hkids;obtain ⟨vk,vn,vt,nA,nn,nc,kA,kn,kc⟩:=v;dsimp only at *;subst hn hkn;have a0:W0.cell? ⟨G,0,none⟩=some (.int .i64 vk):=HKB.out.cell 0;have a1:W0.cell? ⟨G,1,none⟩=some (.int .i64 vn):=HKB.out.cell 1;have a2:W0.cell? ⟨G,2,none⟩=some (.string (bs vt)):=HKB.out.cell 2;rw [hG] at *;clear hG hBp hpw;go_enter Tryz.func35,Tryz.ntmps35
 go_upto_region 1 with (fail)
 rw [← HW0.out];go_wp2_with fail;refine qaa (CL.out _ HB.out.1) ?_;rintro e W1 ⟨rfl,rfl⟩
 by_cases hlong:2000<c.length
 ·have hc:(2000:Int)<(c.length:Int):=by omega
  go_wp2_with fail;refine bodyPost_ret (results_none rfl _ _ _) rfl ?_;exact ⟨rfl,c,Out.stop _ hlong,HF.out _ _ HB.out⟩
 ·have hc:¬ (2000:Int)<(c.length:Int):=by omega
  have HLG:=zY hlong;clear hlong;have hvk4:vk=0∨vk=1∨vk=2∨vk=3∨vk=4∨vk=5:=by omega
  rcases hvk4 with rfl | rfl | rfl | rfl | rfl | rfl
  ·go_wp2_with fail;refine qaa (CS.out _ _ HB.out.1 (by have:=HLG.out; simp [ByteArray.size]; omega)) ?_;rintro e w2 ⟨rfl,hb2,hw2⟩;have HB2:=zY (HB.out.next hb2 hw2);clear hb2 hw2;go_wp2_with fail
   go_end0
   exact ⟨rfl,_,Out.all _ _,HF.out _ _ HB2.out⟩
  ·have hvn':vn=0∨vn=1:=by
    simp at hvn;exact hvn
   clear hvn
   rcases hvn' with rfl | rfl
   ·clear hvk hvns hvt hd hk0 hlen hot hks hkv;have HGP:=zY (show w.heap.size≠p by have:=HG.out; omega);go_wp2_with fail;have HC0:BK B p W1 W1.drew:=HB.out.2.drew;have HI0:IsB W1.drew B 68 p c:=HB.out.1
    refine qas (fun u=>BK B p W1 u) (fun | false=>(fun u=>IsB u B 68 p c) | true=>(fun _=>True)) (fun | false,i=>i == 8 | true,_=>false)
     [fun z _=>z 0=.pointer (some ⟨p,0,none⟩),
      fun z _=>z 1=.pointer (some ⟨p,0,none⟩),
      fun z _=>z 2=.pointer (some ⟨p,0,none⟩),
      fun z u=>(fun v u=>∃ g,v=.slice (some ⟨g,0,none⟩) 2 2∧Blk u g 9 #[.string ⟨#[102,97,108,115,101]⟩,.string ⟨#[116,114,117,101]⟩]) (z 3) u,
      fun z _=>z 4=.pointer (some ⟨w.heap.size,1,none⟩),
      fun z _=>z 5=.int .i64 0,
      fun z u=>(fun v u=>∃ g,v=.pointer (some ⟨g,0,none⟩)∧Blk u g 9 #[.string ⟨#[102,97,108,115,101]⟩,.string ⟨#[116,114,117,101]⟩]) (z 6) u,
      fun z _=>z 7=.string ⟨#[102,97,108,115,101]⟩,
      fun z u=>IsB u B 68 p (c++[102,97,108,115,101])]
     [Eq,Eq,Eq,fun u u'=>Below u.heap.size u u',Eq,Eq,Eq,Eq,fun _ _=>True]
     (fun i k=>(i == 8 && k == 3) || (i == 8 && k == 6)) [(0,some 22),(1,some 23),(2,some 24),(3,some 25),(4,some 26),(5,some 27),(6,some 28),(7,some 29),(8,some 30)] (by kernel_rfl) (by kernel_rfl) rfl (fun _=>rfl) ?_ ?_ ?_ ?_ ?_ ?_
    ·exact HC0
    ·intro m; cases m; exact HI0; exact trivial
    ·intro m; cases m
     ·refine ⟨?_,?_,?_,.inr (fun _ _ h h0=>h0.below h),?_,?_,?_,?_,.inl rfl,trivial⟩ <;> exact .inr fun _ _ h h0=>h▸h0
     ·refine ⟨?_,?_,?_,?_,?_,?_,?_,?_,?_,trivial⟩ <;> first | exact .inr fun _ _ h h0=>h▸h0 | exact .inr fun _ _ _ h=>h
    ·refine ⟨⟨.inl rfl,?_,?_,?_,?_,?_,?_,?_,?_,trivial⟩,⟨?_,.inl rfl,?_,?_,?_,?_,?_,?_,?_,trivial⟩,⟨?_,?_,.inl rfl,?_,?_,?_,?_,?_,?_,trivial⟩,⟨?_,?_,?_,.inl rfl,?_,?_,?_,?_,?_,trivial⟩,⟨?_,?_,?_,?_,.inl rfl,?_,?_,?_,?_,trivial⟩,⟨?_,?_,?_,?_,?_,.inl rfl,?_,?_,?_,trivial⟩,⟨?_,?_,?_,?_,?_,?_,.inl rfl,?_,?_,trivial⟩,⟨?_,?_,?_,?_,?_,?_,?_,.inl rfl,?_,trivial⟩,⟨?_,?_,?_,.inr (.inl rfl),?_,?_,.inr (.inl rfl),?_,.inl rfl,trivial⟩,trivial⟩ <;> first | exact .inr (.inr (.inl rfl)) | exact .inr (.inr (.inr fun _ _ _ _ _ h=>h)) | exact .inr (.inr (.inr fun _ _ _ _ h h0=>by cases h; exact h0))
    ·refine ⟨?_,?_,?_,?_,?_,?_,?_,?_,?_,trivial⟩
     ·refine qab [] (fun _=>rfl) rfl ?_;intro w1 vals hC1 hi0 hf E hE;have hI1:(fun u=>IsB u B 68 p c) w1:=hi0 false rfl
      try dsimp only at hI1
      clear hi0;clear hf;simp only [sP] at hE ⊢;go_wp2;exact .mk (hE _ _ rfl hC1 rfl)
     ·refine qab [(0,some 22)] (fun _=>rfl) rfl ?_;intro w1 vals hC1 hi0 hf E hE;have hI1:(fun u=>IsB u B 68 p c) w1:=hi0 false rfl
      try dsimp only at hI1
      clear hi0;have f0:vals 0=_:=hf 0 rfl
      try dsimp only at f0
      clear hf;simp only [sP,f0] at hE ⊢;clear f0;go_wp2;exact .mk (hE _ _ rfl hC1 rfl)
     ·refine qab [(1,some 23)] (fun _=>rfl) rfl ?_;intro w1 vals hC1 hi0 hf E hE;have hI1:(fun u=>IsB u B 68 p c) w1:=hi0 false rfl
      try dsimp only at hI1
      clear hi0;have f1:vals 1=_:=hf 1 rfl
      try dsimp only at f1
      clear hf;simp only [sP,f1] at hE ⊢;clear f1;go_wp2;exact .mk (hE _ _ rfl hC1 rfl)
     ·refine qab [] (fun _=>rfl) rfl ?_;intro w1 vals hC1 hi0 hf E hE;have hI1:(fun u=>IsB u B 68 p c) w1:=hi0 false rfl
      try dsimp only at hI1
      clear hi0;clear hf;simp only [sP] at hE ⊢;go_wp2;exact .mk (hE _ _ ⟨_,rfl,Blk.new _ _ _⟩ (hC1.trans (.all ((Below.refl _ _).alloc (Nat.le_refl _) _) (by have:=hI1.lt; omega))) ((Below.refl _ _).alloc (Nat.le_refl _) _))
     ·refine qab [] (fun _=>rfl) rfl ?_;intro w1 vals hC1 hi0 hf E hE;clear hi0;clear hf;simp only [sP] at hE ⊢;go_wp2;exact .mk (hE _ _ rfl hC1 rfl)
     ·refine qab [(4,some 26)] (fun _=>rfl) rfl ?_;intro w1 vals hC1 hi0 hf E hE;have hI1:(fun u=>IsB u B 68 p c) w1:=hi0 false rfl
      try dsimp only at hI1
      clear hi0;have f4:vals 4=_:=hf 4 rfl
      try dsimp only at f4
      clear hf;have a9:w1.cell? ⟨w.heap.size,1,none⟩=some (.int .i64 0):=(hC1.blk HKB.out HGP.out (by decide)).cell 1;simp only [sP,f4] at hE ⊢;clear f4;go_wp2;exact .mk (hE _ _ rfl hC1 rfl)
     ·refine qab [(3,some 25),(5,some 27)] (fun _=>rfl) rfl ?_;intro w1 vals hC1 hi0 hf E hE;have hI1:(fun u=>IsB u B 68 p c) w1:=hi0 false rfl
      try dsimp only at hI1
      clear hi0;have f3:(fun v u=>∃ g,v=.slice (some ⟨g,0,none⟩) 2 2∧Blk u g 9 #[.string ⟨#[102,97,108,115,101]⟩,.string ⟨#[116,114,117,101]⟩]) (vals 3) w1:=hf 3 rfl;have f5:vals 5=_:=hf 5 rfl
      try dsimp only at f3 f5
      clear hf;obtain ⟨g3,hx3,hg3⟩:=f3;simp only [sP,f5,hx3] at hE ⊢;clear f5;clear hx3;go_wp2;exact .mk (hE _ _ ⟨g3,rfl,hg3⟩ hC1 rfl)
     ·refine qab [(6,some 28)] (fun _=>rfl) rfl ?_;intro w1 vals hC1 hi0 hf E hE;have hI1:(fun u=>IsB u B 68 p c) w1:=hi0 false rfl
      try dsimp only at hI1
      clear hi0;have f6:(fun v u=>∃ g,v=.pointer (some ⟨g,0,none⟩)∧Blk u g 9 #[.string ⟨#[102,97,108,115,101]⟩,.string ⟨#[116,114,117,101]⟩]) (vals 6) w1:=hf 6 rfl
      try dsimp only at f6
      clear hf;obtain ⟨g6,hx6,hg6⟩:=f6;have a9:=hg6.cell 0;simp only [sP,hx6] at hE ⊢;clear hx6;go_wp2;exact .mk (hE _ _ rfl hC1 rfl)
     ·refine qab [(2,some 24),(7,some 29)] (fun _=>rfl) rfl ?_;intro w1 vals hC1 hi0 hf E hE;have hI1:(fun u=>IsB u B 68 p c) w1:=hi0 false rfl
      try dsimp only at hI1
      clear hi0;have f2:vals 2=_:=hf 2 rfl;have f7:vals 7=_:=hf 7 rfl
      try dsimp only at f2 f7
      clear hf;simp only [sP,f2,f7] at hE ⊢;clear f2 f7;go_wp2_with fail;refine qaa (CS.out _ _ hI1 (by have:=HLG.out; simp [ByteArray.size]; omega)) ?_;rintro e w2 ⟨rfl,hb2,hw2⟩;go_wp2_with fail;exact .mk (hE _ _ hb2 (hC1.trans hw2) trivial)
    intro w1 vals hC1 hf;have f0:vals 0=_:=hf 0 (by decide) rfl;have f1:vals 1=_:=hf 1 (by decide) rfl;have f2:vals 2=_:=hf 2 (by decide) rfl;have f4:vals 4=_:=hf 4 (by decide) rfl;have f5:vals 5=_:=hf 5 (by decide) rfl;have f7:vals 7=_:=hf 7 (by decide) rfl;have f8:(fun z u=>IsB u B 68 p (c++[102,97,108,115,101])) vals w1:=hf 8 (by decide) rfl
    try dsimp only at f0 f1 f2 f4 f5 f7 f8
    clear hf;simp only [sP,f0,f1,f2,f4,f5,f7];clear f0 f1 f2 f4 f5 f7;generalize vals 3=x3 at *;generalize vals 6=x6 at *;generalize vals 8=x8 at *;have HR:=zY (show WB W1 B p (c++[102,97,108,115,101]) _ from ⟨f8,hC1⟩);clear HC0 HI0 hC1 f8;go_wp2_with fail
    go_end0
    exact ⟨rfl,_,by rw [writeV,if_neg (by decide),if_pos rfl]; exact Out.all _ _,HF.out _ _ HR.out⟩
   ·clear hvk hvns hvt hd hk0 hlen hot hks hkv;have HGP:=zY (show w.heap.size≠p by have:=HG.out; omega);go_wp2_with fail;have HC0:BK B p W1 W1.drew:=HB.out.2.drew;have HI0:IsB W1.drew B 68 p c:=HB.out.1
    refine qas (fun u=>BK B p W1 u) (fun | false=>(fun u=>IsB u B 68 p c) | true=>(fun _=>True)) (fun | false,i=>i == 8 | true,_=>false)
     [fun z _=>z 0=.pointer (some ⟨p,0,none⟩),
      fun z _=>z 1=.pointer (some ⟨p,0,none⟩),
      fun z _=>z 2=.pointer (some ⟨p,0,none⟩),
      fun z u=>(fun v u=>∃ g,v=.slice (some ⟨g,0,none⟩) 2 2∧Blk u g 9 #[.string ⟨#[102,97,108,115,101]⟩,.string ⟨#[116,114,117,101]⟩]) (z 3) u,
      fun z _=>z 4=.pointer (some ⟨w.heap.size,1,none⟩),
      fun z _=>z 5=.int .i64 1,
      fun z u=>(fun v u=>∃ g,v=.pointer (some ⟨g,1,none⟩)∧Blk u g 9 #[.string ⟨#[102,97,108,115,101]⟩,.string ⟨#[116,114,117,101]⟩]) (z 6) u,
      fun z _=>z 7=.string ⟨#[116,114,117,101]⟩,
      fun z u=>IsB u B 68 p (c++[116,114,117,101])]
     [Eq,Eq,Eq,fun u u'=>Below u.heap.size u u',Eq,Eq,Eq,Eq,fun _ _=>True]
     (fun i k=>(i == 8 && k == 3) || (i == 8 && k == 6)) [(0,some 22),(1,some 23),(2,some 24),(3,some 25),(4,some 26),(5,some 27),(6,some 28),(7,some 29),(8,some 30)] (by kernel_rfl) (by kernel_rfl) rfl (fun _=>rfl) ?_ ?_ ?_ ?_ ?_ ?_
    ·exact HC0
    ·intro m; cases m; exact HI0; exact trivial
    ·intro m; cases m
     ·refine ⟨?_,?_,?_,.inr (fun _ _ h h0=>h0.below h),?_,?_,?_,?_,.inl rfl,trivial⟩ <;> exact .inr fun _ _ h h0=>h▸h0
     ·refine ⟨?_,?_,?_,?_,?_,?_,?_,?_,?_,trivial⟩ <;> first | exact .inr fun _ _ h h0=>h▸h0 | exact .inr fun _ _ _ h=>h
    ·refine ⟨⟨.inl rfl,?_,?_,?_,?_,?_,?_,?_,?_,trivial⟩,⟨?_,.inl rfl,?_,?_,?_,?_,?_,?_,?_,trivial⟩,⟨?_,?_,.inl rfl,?_,?_,?_,?_,?_,?_,trivial⟩,⟨?_,?_,?_,.inl rfl,?_,?_,?_,?_,?_,trivial⟩,⟨?_,?_,?_,?_,.inl rfl,?_,?_,?_,?_,trivial⟩,⟨?_,?_,?_,?_,?_,.inl rfl,?_,?_,?_,trivial⟩,⟨?_,?_,?_,?_,?_,?_,.inl rfl,?_,?_,trivial⟩,⟨?_,?_,?_,?_,?_,?_,?_,.inl rfl,?_,trivial⟩,⟨?_,?_,?_,.inr (.inl rfl),?_,?_,.inr (.inl rfl),?_,.inl rfl,trivial⟩,trivial⟩ <;> first | exact .inr (.inr (.inl rfl)) | exact .inr (.inr (.inr fun _ _ _ _ _ h=>h)) | exact .inr (.inr (.inr fun _ _ _ _ h h0=>by cases h; exact h0))
    ·refine ⟨?_,?_,?_,?_,?_,?_,?_,?_,?_,trivial⟩
     ·refine qab [] (fun _=>rfl) rfl ?_;intro w1 vals hC1 hi0 hf E hE;have hI1:(fun u=>IsB u B 68 p c) w1:=hi0 false rfl
      try dsimp only at hI1
      clear hi0;clear hf;simp only [sP] at hE ⊢;go_wp2;exact .mk (hE _ _ rfl hC1 rfl)
     ·refine qab [(0,some 22)] (fun _=>rfl) rfl ?_;intro w1 vals hC1 hi0 hf E hE;have hI1:(fun u=>IsB u B 68 p c) w1:=hi0 false rfl
      try dsimp only at hI1
      clear hi0;have f0:vals 0=_:=hf 0 rfl
      try dsimp only at f0
      clear hf;simp only [sP,f0] at hE ⊢;clear f0;go_wp2;exact .mk (hE _ _ rfl hC1 rfl)
     ·refine qab [(1,some 23)] (fun _=>rfl) rfl ?_;intro w1 vals hC1 hi0 hf E hE;have hI1:(fun u=>IsB u B 68 p c) w1:=hi0 false rfl
      try dsimp only at hI1
      clear hi0;have f1:vals 1=_:=hf 1 rfl
      try dsimp only at f1
      clear hf;simp only [sP,f1] at hE ⊢;clear f1;go_wp2;exact .mk (hE _ _ rfl hC1 rfl)
     ·refine qab [] (fun _=>rfl) rfl ?_;intro w1 vals hC1 hi0 hf E hE;have hI1:(fun u=>IsB u B 68 p c) w1:=hi0 false rfl
      try dsimp only at hI1
      clear hi0;clear hf;simp only [sP] at hE ⊢;go_wp2;exact .mk (hE _ _ ⟨_,rfl,Blk.new _ _ _⟩ (hC1.trans (.all ((Below.refl _ _).alloc (Nat.le_refl _) _) (by have:=hI1.lt; omega))) ((Below.refl _ _).alloc (Nat.le_refl _) _))
     ·refine qab [] (fun _=>rfl) rfl ?_;intro w1 vals hC1 hi0 hf E hE;clear hi0;clear hf;simp only [sP] at hE ⊢;go_wp2;exact .mk (hE _ _ rfl hC1 rfl)
     ·refine qab [(4,some 26)] (fun _=>rfl) rfl ?_;intro w1 vals hC1 hi0 hf E hE;have hI1:(fun u=>IsB u B 68 p c) w1:=hi0 false rfl
      try dsimp only at hI1
      clear hi0;have f4:vals 4=_:=hf 4 rfl
      try dsimp only at f4
      clear hf;have a9:w1.cell? ⟨w.heap.size,1,none⟩=some (.int .i64 1):=(hC1.blk HKB.out HGP.out (by decide)).cell 1;simp only [sP,f4] at hE ⊢;clear f4;go_wp2;exact .mk (hE _ _ rfl hC1 rfl)
     ·refine qab [(3,some 25),(5,some 27)] (fun _=>rfl) rfl ?_;intro w1 vals hC1 hi0 hf E hE;have hI1:(fun u=>IsB u B 68 p c) w1:=hi0 false rfl
      try dsimp only at hI1
      clear hi0;have f3:(fun v u=>∃ g,v=.slice (some ⟨g,0,none⟩) 2 2∧Blk u g 9 #[.string ⟨#[102,97,108,115,101]⟩,.string ⟨#[116,114,117,101]⟩]) (vals 3) w1:=hf 3 rfl;have f5:vals 5=_:=hf 5 rfl
      try dsimp only at f3 f5
      clear hf;obtain ⟨g3,hx3,hg3⟩:=f3;simp only [sP,f5,hx3] at hE ⊢;clear f5;clear hx3;go_wp2;exact .mk (hE _ _ ⟨g3,rfl,hg3⟩ hC1 rfl)
     ·refine qab [(6,some 28)] (fun _=>rfl) rfl ?_;intro w1 vals hC1 hi0 hf E hE;have hI1:(fun u=>IsB u B 68 p c) w1:=hi0 false rfl
      try dsimp only at hI1
      clear hi0;have f6:(fun v u=>∃ g,v=.pointer (some ⟨g,1,none⟩)∧Blk u g 9 #[.string ⟨#[102,97,108,115,101]⟩,.string ⟨#[116,114,117,101]⟩]) (vals 6) w1:=hf 6 rfl
      try dsimp only at f6
      clear hf;obtain ⟨g6,hx6,hg6⟩:=f6;have a9:=hg6.cell 1;simp only [sP,hx6] at hE ⊢;clear hx6;go_wp2;exact .mk (hE _ _ rfl hC1 rfl)
     ·refine qab [(2,some 24),(7,some 29)] (fun _=>rfl) rfl ?_;intro w1 vals hC1 hi0 hf E hE;have hI1:(fun u=>IsB u B 68 p c) w1:=hi0 false rfl
      try dsimp only at hI1
      clear hi0;have f2:vals 2=_:=hf 2 rfl;have f7:vals 7=_:=hf 7 rfl
      try dsimp only at f2 f7
      clear hf;simp only [sP,f2,f7] at hE ⊢;clear f2 f7;go_wp2_with fail;refine qaa (CS.out _ _ hI1 (by have:=HLG.out; simp [ByteArray.size]; omega)) ?_;rintro e w2 ⟨rfl,hb2,hw2⟩;go_wp2_with fail;exact .mk (hE _ _ hb2 (hC1.trans hw2) trivial)
    intro w1 vals hC1 hf;have f0:vals 0=_:=hf 0 (by decide) rfl;have f1:vals 1=_:=hf 1 (by decide) rfl;have f2:vals 2=_:=hf 2 (by decide) rfl;have f4:vals 4=_:=hf 4 (by decide) rfl;have f5:vals 5=_:=hf 5 (by decide) rfl;have f7:vals 7=_:=hf 7 (by decide) rfl;have f8:(fun z u=>IsB u B 68 p (c++[116,114,117,101])) vals w1:=hf 8 (by decide) rfl
    try dsimp only at f0 f1 f2 f4 f5 f7 f8
    clear hf;simp only [sP,f0,f1,f2,f4,f5,f7];clear f0 f1 f2 f4 f5 f7;generalize vals 3=x3 at *;generalize vals 6=x6 at *;generalize vals 8=x8 at *;have HR:=zY (show WB W1 B p (c++[116,114,117,101]) _ from ⟨f8,hC1⟩);clear HC0 HI0 hC1 f8;go_wp2_with fail
    go_end0
    exact ⟨rfl,_,by rw [writeV,if_neg (by decide),if_pos rfl]; exact Out.all _ _,HF.out _ _ HR.out⟩
  ·go_wp2_with fail;refine qaa (wnum_any vn (by have:=HI.out; omega) (by have:=HI.out; omega) B p c W1 _ HB.out (by have h:=HL.out; rw [writeV,if_neg (by decide),if_neg (by decide),if_pos rfl] at h; exact h)) ?_;rintro e w2 ⟨rfl,hw2⟩;have HB2:=zY hw2;clear hw2;go_wp2_with fail
   go_end0
   exact ⟨rfl,_,by rw [writeV,if_neg (by decide),if_neg (by decide),if_pos rfl]; exact Out.all _ _,HF.out _ _ HB2.out⟩
  ·go_wp2_with fail;refine qaa (qdj (bs vt) B p c W1 _ HB.out (by have h:=HL.out; rw [writeV,if_neg (by decide),if_neg (by decide),if_neg (by decide),if_pos rfl] at h; exact h)) ?_;rintro e w2 ⟨rfl,hw2⟩;have HB2:=zY hw2;clear hw2;go_wp2_with fail
   go_end0
   exact ⟨rfl,_,by rw [writeV,if_neg (by decide),if_neg (by decide),if_neg (by decide),if_pos rfl]; exact Out.all _ _,HF.out _ _ HB2.out⟩
  ·have HD:=zY (show 0<d by simp at hd; omega)
   have HW:=zY (show writeV (.mk 4 vn vt ns ks)=91 :: (itemsV false ns ks true++[93]) by
    rw [writeV,if_neg (by decide),if_neg (by decide),if_neg (by decide),if_neg (by decide)]
    rfl)
   have hns:ns=[]:=by simpa using hvns
   have C:=zY (wlist_any (d - 1) (IH _ (by have:=HD.out; omega)) ⟨4,vn,vt,nA,ns.length,nc,kA,ks.length,kc⟩ rfl ns ks kv B p c W1 W1 HNR.out rfl rfl hkv HKR.out HKI.out ((qa0 _ _).1 hks) hns HB.out (by rw [← HW.out]; exact HL.out));clear hvn hvk hvns hvt hd hk0 hlen hot hks hkv hns;go_wp2_with (refine qad (x:=.tmp 3) HKB.out rfl rfl rfl hu rfl qb3 ?_);refine qaa C.out ?_;rintro e w2 ⟨rfl,c',ho,hw2⟩;have HO:=zY ho;have HB2:=zY hw2;clear hw2 ho;go_wp2_with fail
   go_end0
   exact ⟨rfl,_,by rw [HW.out]; exact HO.out,HF.out _ _ HB2.out⟩
  ·have HD:=zY (show 0<d by simp at hd; omega)
   have HW:=zY (show writeV (.mk 5 vn vt ns ks)=123 :: (itemsV true ns ks true++[125]) by
    rw [writeV,if_neg (by decide),if_neg (by decide),if_neg (by decide),if_neg (by decide)]
    rfl)
   have hlen':ns.length=ks.length:=by simpa using hlen
   have C:=zY (wmap_any (d - 1) (IH _ (by have:=HD.out; omega)) ⟨5,vn,vt,nA,ns.length,nc,kA,ks.length,kc⟩ rfl ns ks kv B p c W1 W1 HNR.out rfl rfl hkv HKR.out HKI.out ((qa0 _ _).1 hks) hlen' HB.out (by rw [← HW.out]; exact HL.out));clear hvn hvk hvns hvt hd hk0 hlen hot hks hkv hlen';go_wp2_with (refine qad (x:=.tmp 3) HKB.out rfl rfl rfl hu rfl qb3 ?_);refine qaa C.out ?_;rintro e w2 ⟨rfl,c',ho,hw2⟩;have HO:=zY ho;have HB2:=zY hw2;clear hw2 ho;go_wp2_with fail
   go_end0
   exact ⟨rfl,_,by rw [HW.out]; exact HO.out,HF.out _ _ HB2.out⟩
theorem wval_any:∀ d,WVal d:=fun d=>Nat.strongRecOn d fun d ih=>wval_step d ih
def wrE (j:JT):Bs × Int:=if rightV 6 j=false then ([],1) else if 2000<(writeV j).length then ([],4) else (writeV j,0)
theorem writeV_ne (j:JT) (h:rightV 6 j=true):writeV j≠[]:=by
 obtain ⟨c,l,h1,_⟩:=writeV_first j 6 h;rw [h1];simp
theorem jwrite_any (j:JT) (v:JV) (B:Nat) (w:World) (hs:smallJ j=true) (hj:JRep w (fun b=>b<B) j v) (hB:B≤w.heap.size) (hl:(writeV j).length≤1099511627776) :
  Calls Tryz.prog 17 #[.agg (jvCells v)] w fun e w'=>e=.returned (.tuple #[.string (bs (wrE j).1),.int .i64 (wrE j).2])∧Below w.heap.size w w':=by
 have hu:=Tryz.underlying44;obtain ⟨G,hG⟩:=eX (w.heap.size);obtain ⟨W0,hW0⟩:=eX (w.alloc (.cells (jvCells v) 44));have hb0:Below w.heap.size w W0:=by rw [hW0]; exact (Below.refl _ w).alloc (Nat.le_refl _) _
 have HB0:=zY hb0;have HKB:=zY (show Blk W0 G 44 (jvCells v) by rw [hW0,hG]; exact Blk.new _ _ _);have HJ:=zY (hj.under (hb0.mono hB));have HBB:=zY (show B≤W0.heap.size from Nat.le_trans hB hb0.size);have HL:=zY hl;have C:=zY (right_any 6 (by decide) j v B W0 hs HJ.out HBB.out);have HW0:=zY hW0;obtain ⟨R,hR⟩:=eX (rightV 6 j);rw [← hR] at C;have HR:=zY hR;clear hW0 hb0 hs hj hB hl hR;rw [hG] at *;clear hG;go_enter Tryz.func17,Tryz.ntmps17
 go_upto_region 1 with (fail)
 rw [← HW0.out];clear HW0;generalize Value.agg (jvCells v)=AV;go_wp2_with (refine qad (x:=.tmp 1) (cs:=jvCells v) HKB.out rfl rfl rfl hu rfl qcH ?_);refine qaa C.out ?_;rintro e w1 ⟨rfl,hb1⟩;have HB1:=zY hb1;clear hb1
 cases R with
 | false =>
  have HE:=zY (show wrE j=([],1) by rw [wrE,if_pos HR.out.symm]);go_wp2_with fail;go_ret2;exact ⟨by rw [HE.out]; rfl,HB0.out.trans (HB1.out.mono HB0.out.size)⟩
 | true =>
  have HK1:=zY (HKB.out.below HB1.out HKB.out.lt)
  go_upto_region 4 with (fail)
  obtain ⟨W2,hW2⟩:=eX (w1.alloc (.cells #[.pointer none,.slice none 0 0] 68));rw [← hW2];have hb2:Below w1.heap.size w1 W2:=by rw [hW2]; exact (Below.refl _ w1).alloc (Nat.le_refl _) _
  have HB2:=zY (HB1.out.trans (hb2.mono HB1.out.size));have HK2:=zY (show Blk W2 w.heap.size 44 (jvCells v) from HK1.out.below hb2 HK1.out.lt);have HS:=zY (show w1.heap.size<W2.heap.size by rw [hW2]; simp);have hj2:JRep W2 (fun b=>b<w1.heap.size) j v:=(HJ.out.under ((HB1.out.trans (hb2.mono HB1.out.size)).mono HBB.out)).imp (fun b _ h=>Nat.lt_of_lt_of_le h (Nat.le_trans HBB.out HB1.out.size));have hib:IsB W2 w1.heap.size 68 w1.heap.size []:=by rw [hW2]; exact IsB.new _ _ (Nat.le_refl _)
  have C2:=zY (wval_any 6 j v w1.heap.size w1.heap.size [] W2 W2 HR.out.symm hj2 ⟨hib,BK.refl _ _ _⟩ (by have:=HL.out; simp; omega));clear hW2 hb2 hj2 hib C;have HWP:=zY (show w.heap.size≤w1.heap.size from Nat.le_trans HB0.out.size HB1.out.size);generalize hp:w1.heap.size=p at *;go_wp2_with (refine qad (x:=.tmp 1) (cs:=jvCells v) HK2.out rfl rfl rfl hu rfl qcH ?_);refine qaa C2.out ?_;rintro e w3 ⟨rfl,c',hout,hw3⟩;have HO:=zY (Out.end_ hout);have HB3:=zY hw3.1;have HF:=zY (show Below w.heap.size w w3 from HB0.out.trans ((HB2.out.mono HB0.out.size).trans (hw3.2.below.mono HWP.out)));clear hout hw3;go_wp2_with fail;refine qaa (bld_len _ _ _ _ HB3.out) ?_;rintro e w4 ⟨rfl,rfl⟩
  by_cases hlong:2000<c'.length
  ·have hc:(2000:Int)<(c'.length:Int):=by omega
   have HE:=zY (show wrE j=([],4) by rw [wrE,if_neg (by rw [← HR.out]; decide),if_pos (HO.out.2 hlong)]);clear hlong;go_wp2_with fail;go_ret2;exact ⟨by rw [HE.out]; rfl,HF.out⟩
  ·have hc:¬ (2000:Int)<(c'.length:Int):=by omega
   have h1:=HO.out.1 (by omega);have HE:=zY (show wrE j=(writeV j,0) by rw [wrE,if_neg (by rw [← HR.out]; decide),if_neg (by omega)]);have HC:=zY h1.1;have HNE:=zY (show c'≠[] by rw [h1.1]; exact writeV_ne j HR.out.symm);clear hlong h1;go_wp2_with fail;refine qaa (qcZ _ _ c' _ HB3.out HNE.out) ?_;rintro e w5 ⟨rfl,hb5⟩;have HB5:=zY hb5;clear hb5;go_wp2_with fail;go_ret2;exact ⟨by rw [HE.out,HC.out]; rfl,HF.out.trans (HB5.out.mono HWP.out)⟩
end Go.Proofs.YtlkikjeccamheaaGreatDoor.Js
namespace Go.Proofs.YtlkikjeccamheaaGreatDoor.Js
set_option linter.unusedSimpArgs false
set_option linter.unusedVariables false
set_option maxRecDepth 100000
set_option maxHeartbeats 4000000
def b64A:Bs:=[65,66,67,68,69,70,71,72,73,74,75,76,77,78,79,80,81,82,83,84,85,86,87,88,89,90,97,98,99,100,101,102,103,104,105,106,107,108,109,110,111,112,113,114,115,116,117,118,119,120,121,122,48,49,50,51,52,53,54,55,56,57,45,95]
def ltr (k:Nat):UInt8:=b64A.getD k 0
def plainC (c:UInt8):Bool:=32≤c && c≤126 && c != 34 && c != 92
theorem qcE {a:Nat} (ha:a<64):plainC (ltr a)=true:=by
 have key:∀ x:Fin 64,plainC (ltr x.1)=true:=by decide +kernel
 exact key ⟨a,ha⟩
def encS:Nat→Nat→Bs→Bs
 | n,w,[]=>if n=0 then [] else [ltr (w*2^(6 - n))]
 | n,w,c :: r=>if n+2<6 then ltr ((w*256+c.toNat)/2^(n+2)) :: encS (n+2) ((w*256+c.toNat)%2^(n+2)) r
  else ltr ((w*256+c.toNat)/2^(n+2)) :: ltr ((w*256+c.toNat)%2^(n+2)/2^(n - 4)) :: encS (n - 4) ((w*256+c.toNat)%2^(n+2)%2^(n - 4)) r
def enc (b:Bs):Bs:=encS 0 0 b
theorem qcA {n:Nat} (h:n<6):n=0∨n=1∨n=2∨n=3∨n=4∨n=5:=by omega
theorem ltA {n w:Nat} (hn:n<6) (hw:w<2^n):w*2^(6 - n)<64:=by
 rcases qcA hn with rfl | rfl | rfl | rfl | rfl | rfl <;> simp at hw ⊢ <;> omega
theorem qcX:∀ (l:Bs) (n w:Nat),n<6→w<2^n→(encS n w l).all plainC=true
 | [],n,w,hn,hw=>by
  unfold encS
  split
  ·rfl
  ·have h:w*2^(6 - n)<64:=by
    rcases qcA hn with rfl | rfl | rfl | rfl | rfl | rfl <;> simp at hw ⊢ <;> omega
   simp [qcE h]
 | c :: r,n,w,hn,hw=>by
  have hc:c.toNat<256:=c.toNat_lt
  have h1:(w*256+c.toNat)/2^(n+2)<64:=by
   rcases qcA hn with rfl | rfl | rfl | rfl | rfl | rfl <;> simp at hw ⊢ <;> omega
  unfold encS
  split
  ·rename_i h2
   have h3:=qcX r (n+2) ((w*256+c.toNat)%2^(n+2)) (by omega) (Nat.mod_lt _ (Nat.pow_pos (by omega)));simp [qcE h1,h3]
  ·rename_i h2
   have h4:(w*256+c.toNat)%2^(n+2)/2^(n - 4)<64:=by
    rcases qcA hn with rfl | rfl | rfl | rfl | rfl | rfl <;> simp at hw ⊢ <;> omega
   have h3:=qcX r (n - 4) ((w*256+c.toNat)%2^(n+2)%2^(n - 4)) (by omega) (Nat.mod_lt _ (Nat.pow_pos (by omega)));simp [qcE h1,qcE h4,h3]
theorem enc_plain (b:Bs):(enc b).all plainC=true:=qcX b 0 0 (by omega) (by simp)
theorem qdi:∀ (l:Bs) (n w:Nat),n<6→(encS n w l).length≤2*l.length+1
 | [],n,w,hn=>by unfold encS; split <;> simp
 | c :: r,n,w,hn=>by
  unfold encS
  split
  ·have:=qdi r (n+2) ((w*256+c.toNat)%2^(n+2)) (by omega);simp;omega
  ·have:=qdi r (n - 4) ((w*256+c.toNat)%2^(n+2)%2^(n - 4)) (by omega);simp;omega
structure BD where
 dom:Bs
 num:Int
 keys:List (Bs × Bs)
def keyJ (k:Bs × Bs):JT:=.mk 5 0 [] [[99,114,118],[107,105,100],[107,116,121],[120]] [jtext [69,100,50,53,53,49,57],jtext k.1,jtext [79,75,80],jtext (enc k.2)]
def bundleJ (b:BD):JT:=.mk 5 0 [] [[100,111,109,97,105,110],[107,101,121,115],[110,117,109,98,101,114]] [jtext b.dom,.mk 4 0 [] [] (b.keys.map keyJ),jint b.num]
theorem qcq {s:Bs} (h:s.all plainC=true):quote s=34 :: (s++[34]):=by
 unfold quote
 congr 1
 congr 1
 induction s with
 | nil=>rfl
 | cons c r ih =>
  rw [List.all_cons,Bool.and_eq_true] at h;rw [List.flatMap_cons,ih h.2]
  have hc:quoteC c=[c]:=by
   have h1:=h.1;unfold plainC at h1;simp only [Bool.and_eq_true,decide_eq_true_eq,bne_iff_ne,ne_eq] at h1;unfold quoteC;rw [if_neg (by have:=h1.1.1.1; rw [UInt8.le_iff_toNat_le] at this; rw [UInt8.lt_iff_toNat_lt]; omega),if_neg (fun h=>h.elim h1.1.2 h1.2)]
  rw [hc];rfl
theorem qdF {s:Bs} (h:s.all plainC=true):okT s=true:=by
 unfold okT;rw [List.all_eq_true] at h ⊢;intro c hc;have:=h c hc;unfold plainC at this;simp only [Bool.and_eq_true,decide_eq_true_eq] at this
 simpa using this.1.1.2
structure PlainB (b:BD):Prop where
 dom:b.dom.all plainC=true
 dlen:b.dom.length≤16
 n0:0≤b.num
 n1:b.num≤1099511627776
 kn:b.keys.length≤8
 kid:∀ k ∈ b.keys,k.1.all plainC=true∧k.1.length≤8
 x:∀ k ∈ b.keys,k.2.length≤32
theorem keyJ_right {k:Bs × Bs} (h:k.1.all plainC=true) (d:Nat) (hd:0<d):rightV d (keyJ k)=true:=by
 have h1:=qdF h;have h2:=qdF (enc_plain k.2);obtain ⟨e,rfl⟩:∃ e,d=e+1:=⟨d - 1,by omega⟩;unfold okT at h1 h2;simp [keyJ,jtext,rightV,rightsV,plainJ,okT,distinct];simp at h1 h2;exact ⟨h1,h2⟩
theorem bundleJ_right {b:BD} (h:PlainB b):rightV 6 (bundleJ b)=true:=by
 have h1:=qdF h.dom
 have h2:rightsV 4 (b.keys.map keyJ)=true:=(qa0 _ _).2 fun x hx=>by
  obtain ⟨k,hk,rfl⟩:=List.mem_map.1 hx;exact keyJ_right (h.kid k hk).1 4 (by omega)
 have h3:=h.n0;have h4:=h.n1;simp [bundleJ,jtext,jint,rightV,rightsV,plainJ,h1,h2,okT,distinct];unfold okT at h1;simp at h1;exact ⟨h1,by omega,by omega⟩
theorem bundleJ_small {b:BD} (h:PlainB b):smallJ (bundleJ b)=true:=by
 have h2:smallsJ (b.keys.map keyJ)=true:=(qbx _).2 fun x hx=>by
  obtain ⟨k,hk,rfl⟩:=List.mem_map.1 hx;simp [keyJ,jtext,smallJ,smallsJ]
 have:=h.kn;simp [bundleJ,jtext,jint,smallJ,smallsJ,h2];omega
end Go.Proofs.YtlkikjeccamheaaGreatDoor.Js
namespace Go.Proofs.YtlkikjeccamheaaGreatDoor.Js
set_option linter.unusedSimpArgs false
set_option linter.unusedVariables false
set_option maxRecDepth 100000
set_option maxHeartbeats 4000000
open Go.RowKit
theorem qal:(Tryz.prog.info? 44).map (·.size)=some 5:=by kernel_rfl
def flatV (k n:Int) (t:Bs):JV:=⟨k,n,t,none,0,0,none,0,0⟩
theorem qdS (s:Bs) (w:World):Calls Tryz.prog 18 #[.string (bs s)] w fun e w'=>e=.returned (.agg (jvCells (flatV 3 0 s)))∧Below w.heap.size w w':=by
 have hu:=Tryz.underlying44;obtain ⟨G,hG⟩:=eX (w.heap.size);obtain ⟨W0,hW0⟩:∃ W0,W0=w.alloc (.cells #[.int .i64 0,.int .i64 0,.string ⟨#[]⟩,.slice none 0 0,.slice none 0 0] 44):=⟨_,rfl⟩;have HB0:=zY (show Below w.heap.size w W0 by rw [hW0]; exact (Below.refl _ w).alloc (Nat.le_refl _) _);have HK:=zY (show Blk W0 w.heap.size 44 (jvCells (flatV 0 0 [])) by rw [hW0]; exact Blk.new _ _ _);have HW0:=zY hW0
 have HF:=zY (fun (u:World) (hw:Wrote w.heap.size W0 u)=>show Below w.heap.size w u by
  rw [hW0] at hw;exact qaz hw)
 clear hW0 hG;go_enter Tryz.func18,Tryz.ntmps18
 go_upto_region 1 with (fail)
 rw [← HW0.out];go_wp2_with (refine qac (x:=.tmp 2) (cells:=jvCells (flatV 3 0 s)) HK.out rfl rfl rfl rfl qal rfl (qae _) ?_; intro w9 hb9 hw9);have HB9:=zY hb9;have HF9:=zY (HF.out _ hw9);refine bodyPost_ret (qah (P:=Tryz.prog) rfl rfl HB9.out hu rfl qal) rfl ?_;exact ⟨rfl,HF9.out⟩
def exD:Bs:=[97,46,111,114,103]
def exB:BD:=⟨exD,3,[]⟩
theorem exD_size:((bs exD).size:Int)≤100000000:=by decide +kernel
theorem exD_dom:domB (bs exD).data.toList=true:=by decide +kernel
theorem may0_any (D:ByteArray) (hd:domB D.data.toList=true) (hs:(D.size:Int)≤100000000) (w:World):Calls Tryz.prog 15 #[.agg #[.string D,.int .i64 3,.slice none 0 0]] w fun e w'=>e=.returned (.bool true)∧Below w.heap.size w w':=by
 obtain ⟨W0,hW0⟩:=eX (w.alloc (.cells #[.string D,.int .i64 3,.slice none 0 0] 24));have HB0:=zY (show Below w.heap.size w W0 by rw [hW0]; exact (Below.refl _ w).alloc (Nat.le_refl _) _);have HK:=zY (show Blk W0 w.heap.size 24 #[.string D,.int .i64 3,.slice none 0 0] by rw [hW0]; exact Blk.new _ _ _);have HW0:=zY hW0;have C:=zY (domain_any D hs W0);rw [hd] at C;have a0:W0.cell? ⟨w.heap.size,0,none⟩=some (.string D):=HK.out.cell 0;clear hW0 hd hs;go_enter Tryz.func15,Tryz.ntmps15
 go_upto_region 1 with (fail)
 rw [← HW0.out];go_wp2_with fail;refine qaa C.out ?_;rintro e u1 ⟨rfl,hb1⟩;have HK1:=zY (HK.out.below hb1 HK.out.lt);have HB1:=zY (HB0.out.trans (hb1.mono HB0.out.size));have a1:u1.cell? ⟨w.heap.size,1,none⟩=some (.int .i64 3):=HK1.out.cell 1;have a2:u1.cell? ⟨w.heap.size,2,none⟩=some (.slice none 0 0):=HK1.out.cell 2;clear a0 hb1;have hmm:=@run_makeMap Tryz.prog
 go_upto_region 4 with (fail)
 have HB2:=zY (HB1.out.alloc (by have:=HB0.out.size; have:=HB1.out.size; omega) (.map #[] 0));obtain ⟨W2,hW2⟩:=eX (u1.alloc (.map #[] 0));rw [← hW2] at HB2
 have b2:W2.cell? ⟨w.heap.size,2,none⟩=some (.slice none 0 0):=by
  rw [hW2];exact (HK1.out.alloc _).cell 2
 rw [← hW2];clear hW2 a1 a2 hmm;go_wp2_with fail
 go_loopw [30] (fun x wr=>x=.int .i64 0∧wr=W2) (fun x _=>0)
 case atStart=>exact ⟨rfl,rfl⟩
 case round =>
  obtain ⟨rfl,rfl⟩:=hrel;go_wp2_with fail;go_ret;exact ⟨rfl,HB2.out⟩
theorem exB_small:smallJ (bundleJ exB)=true:=by decide +kernel
theorem exB_len:(writeV (bundleJ exB)).length≤1099511627776:=by decide +kernel
def RowAt (u:World) (t:TypeId) (n:Nat) (xs:List Value) (v:Value):Prop:=∃ g,v=.slice (some ⟨g,0,none⟩) n n∧Blk u g t xs.toArray
theorem RowAt.step {u u':World} {t:TypeId} {n:Nat} {xs:List Value} {v:Value} (h:RowAt u t n xs v) (hb:Below u.heap.size u u'):RowAt u' t n xs v:=by
 obtain ⟨g,h1,h2⟩:=h;exact ⟨g,h1,h2.below hb h2.lt⟩
theorem rep_step {u u':World} {j:JT} {v:Value} (h:∃ jv,v=.agg (jvCells jv)∧JRep u (fun b=>b<u.heap.size) j jv) (hb:Below u.heap.size u u'):∃ jv,v=.agg (jvCells jv)∧JRep u' (fun b=>b<u'.heap.size) j jv:=by
 obtain ⟨jv,h1,h2⟩:=h;exact ⟨jv,h1,(h2.under hb).imp fun b _ h=>Nat.lt_of_lt_of_le h hb.size⟩
theorem bundle_rep {u:World} {gn gk:Nat} {tn tk:TypeId} (b:BD) (kv:JV) (hn:Blk u gn tn [Value.string (bs [100,111,109,97,105,110]),.string (bs [107,101,121,115]),.string (bs [110,117,109,98,101,114])].toArray)
  (hk:Blk u gk tk (rowsV jvCells [flatV 3 0 b.dom,kv,flatV 2 b.num []]).toArray) (hj:JRep u (fun x=>x<u.heap.size) (.mk 4 0 [] [] (b.keys.map keyJ)) kv) :
  JRep u (fun x=>x<u.heap.size) (bundleJ b) ⟨5,0,[],some ⟨gn,0,none⟩,3,3,some ⟨gk,0,none⟩,3,3⟩:=by
 have h1:Rd u u.heap.size (some ⟨gn,0,none⟩) (rowsV sCell [[100,111,109,97,105,110],[107,101,121,115],[110,117,109,98,101,114]]):=Rd.of_blk hn hn.lt;have h2:Rd u u.heap.size (some ⟨gk,0,none⟩) (rowsV jvCells [flatV 3 0 b.dom,kv,flatV 2 b.num []]):=Rd.of_blk hk hk.lt;refine JRep.mk (⟨5,0,[],some ⟨gn,0,none⟩,3,3,some ⟨gk,0,none⟩,3,3⟩:JV) [[100,111,109,97,105,110],[107,101,121,115],[110,117,109,98,101,114]] [jtext b.dom,.mk 4 0 [] [] (b.keys.map keyJ),jint b.num] [flatV 3 0 b.dom,kv,flatV 2 b.num []] rfl (Nat.le_refl _) (RdS.of_rd h1) rfl (Nat.le_refl _) rfl (RdS.of_rd h2) ?_;intro i h h'
 match i,h,h' with
 | 0,_,_=>exact JRep.flat _ _ _ _ _
 | 1,_,_=>exact hj
 | 2,_,_=>exact JRep.flat _ _ _ _ _
 | n+3,h,_=>exact absurd h (by simp)
theorem exB_right:(wrE (bundleJ exB))=([123,34,100,111,109,97,105,110,34,58,34,97,46,111,114,103,34,44,34,107,101,121,115,34,58,91,93,44,34,110,117,109,98,101,114,34,58,51,125],0):=by decide +kernel
theorem write0_any (w:World):Calls Tryz.prog 6 #[.agg #[.string (bs exD),.int .i64 3,.slice none 0 0]] w fun e w'=>e=.returned (.tuple #[.string (bs (wrE (bundleJ exB)).1),.int .i64 0])∧Below w.heap.size w w':=by
 have hu:=Tryz.underlying44;have hub:=Tryz.underlying24;have hbi:(Tryz.prog.info? 24).map (·.size)=some 3:=by kernel_rfl
 obtain ⟨W0,hW0⟩:=eX (w.alloc (.cells #[.string (bs exD),.int .i64 3,.slice none 0 0] 24));have HB0:=zY (show Below w.heap.size w W0 by rw [hW0]; exact (Below.refl _ w).alloc (Nat.le_refl _) _);have HK:=zY (show Blk W0 w.heap.size 24 #[.string (bs exD),.int .i64 3,.slice none 0 0] by rw [hW0]; exact Blk.new _ _ _);have HW0:=zY hW0;have C:=zY (may0_any (bs exD) exD_dom exD_size W0);clear hW0;go_enter Tryz.func6,Tryz.ntmps6
 go_upto_region 1 with (fail)
 rw [← HW0.out];go_wp2_with (refine qad (x:=.tmp 1) (cs:=#[.string (bs exD),.int .i64 3,.slice none 0 0]) HK.out rfl rfl rfl hub rfl hbi ?_);refine qaa C.out ?_;rintro e u1 ⟨rfl,hb1⟩;have HK1:=zY (HK.out.below hb1 HK.out.lt);have HB1:=zY (HB0.out.trans (hb1.mono HB0.out.size));have HS1:=zY (show w.heap.size<u1.heap.size from HK1.out.lt);clear hb1
 go_upto_region 4 with (first | (refine qac (cells:=jvCells (flatV 4 0 [])) (Blk.new _ _ _) rfl rfl rfl rfl qal rfl (qae _) ?_; intro w9 hb9 hw9))
 have HB9:=zY hb9;have HF9:=zY (HB1.out.trans ((qaz hw9).mono HB1.out.size));have HK9:=zY (HK1.out.below (qaz hw9) HK1.out.lt);have hs9:u1.heap.size<w9.heap.size:=hb9.lt;have HS9:=zY hs9;have b2:w9.cell? ⟨w.heap.size,2,none⟩=some (.slice none 0 0):=HK9.out.cell 2;clear hb9 hw9 hs9;go_wp2_with fail
 go_loopw [14] (fun x wr=>x=.int .i64 0∧wr=w9) (fun x _=>0)
 case atStart=>exact ⟨rfl,rfl⟩
 case round =>
  obtain ⟨rfl,rfl⟩:=hrel;have b0:wr.cell? ⟨w.heap.size,0,none⟩=some (.string (bs exD)):=HK9.out.cell 0;have b1:wr.cell? ⟨w.heap.size,1,none⟩=some (.int .i64 3):=HK9.out.cell 1;have HTX:=zY (qdS exD);have HWR:=zY (fun (u:World) (v:JV) (h:JRep u (fun b=>b<u.heap.size) (bundleJ exB) v)=>jwrite_any (bundleJ exB) v u.heap.size u exB_small h (Nat.le_refl _) exB_len);have HR:=zY exB_right;have HKJ:=zY HB9.out;go_wp2_with fail;have HC0:Below wr.heap.size wr wr.drew:=(Below.refl _ _).drew
  refine qas (fun u=>Below wr.heap.size wr u) (fun | false=>(fun _=>True) | true=>(fun _=>True)) (fun | false,_=>false | true,_=>false)
   [fun z u=>(fun v u=>RowAt u 9 3 [.string (bs [100,111,109,97,105,110]),.string (bs [107,101,121,115]),.string (bs [110,117,109,98,101,114])] v) (z 0) u,
    fun z _=>z 1=.pointer (some ⟨w.heap.size,0,none⟩),
    fun z _=>z 2=.string (bs exD),
    fun z _=>z 3=.agg (jvCells (flatV 3 0 exD)),
    fun z _=>z 4=.agg (jvCells (flatV 4 0 [])),
    fun z _=>z 5=.pointer (some ⟨w.heap.size,1,none⟩),
    fun z _=>z 6=.int .i64 3,
    fun z _=>z 7=.agg (jvCells (flatV 2 3 [])),
    fun z u=>(fun v u=>RowAt u 44 3 (rowsV jvCells [flatV 3 0 exD,flatV 4 0 [],flatV 2 3 []]) v) (z 8) u,
    fun z u=>(fun v u=>∃ jv,v=.agg (jvCells jv)∧JRep u (fun b=>b<u.heap.size) (bundleJ exB) jv) (z 9) u,
    fun z _=>z 10=.tuple #[.string (bs (wrE (bundleJ exB)).1),.int .i64 (wrE (bundleJ exB)).2],
    fun z _=>z 11=.string (bs (wrE (bundleJ exB)).1),
    fun z _=>z 12=.int .i64 (wrE (bundleJ exB)).2,
    fun z _=>z 13=.string (bs (wrE (bundleJ exB)).1),
    fun z _=>z 14=.int .i64 (wrE (bundleJ exB)).2]
   [fun u u'=>Below u.heap.size u u',Eq,Eq,fun u u'=>Below u.heap.size u u',Eq,Eq,Eq,Eq,fun u u'=>Below u.heap.size u u',Eq,fun u u'=>Below u.heap.size u u',Eq,Eq,Eq,Eq]
   (fun _ _=>false) [(0,some 26),(1,some 27),(2,some 28),(3,some 29),(4,some 30),(5,some 31),(6,some 32),(7,some 33),(8,some 34),(9,some 35),(10,some 36),(11,some 37),(12,some 38),(13,some 2),(14,some 3)] (by kernel_rfl) (by kernel_rfl) rfl (fun _=>rfl) ?_ ?_ ?_ ?_ ?_ ?_
  ·exact HC0
  ·intro m; cases m; exact trivial; exact trivial
  ·intro m; cases m
   ·refine ⟨?_,?_,?_,?_,?_,?_,?_,?_,?_,?_,?_,?_,?_,?_,?_,trivial⟩ <;> first | exact .inr fun _ _ h h0=>h▸h0 | exact .inr fun _ _ _ h=>h
   ·refine ⟨?_,?_,?_,?_,?_,?_,?_,?_,?_,?_,?_,?_,?_,?_,?_,trivial⟩ <;> first | exact .inr fun _ _ h h0=>h▸h0 | exact .inr fun _ _ _ h=>h
  ·refine ⟨⟨.inl rfl,?_,?_,?_,?_,?_,?_,?_,.inr (.inr (.inr (fun _ _ _ _ h h0=>h0.step h))),?_,?_,?_,?_,?_,?_,trivial⟩,⟨?_,.inl rfl,?_,?_,?_,?_,?_,?_,?_,?_,?_,?_,?_,?_,?_,trivial⟩,⟨?_,?_,.inl rfl,?_,?_,?_,?_,?_,?_,?_,?_,?_,?_,?_,?_,trivial⟩,⟨.inr (.inr (.inr (fun _ _ _ _ h h0=>h0.step h))),?_,?_,.inl rfl,?_,?_,?_,?_,?_,?_,?_,?_,?_,?_,?_,trivial⟩,⟨?_,?_,?_,?_,.inl rfl,?_,?_,?_,?_,?_,?_,?_,?_,?_,?_,trivial⟩,⟨?_,?_,?_,?_,?_,.inl rfl,?_,?_,?_,?_,?_,?_,?_,?_,?_,trivial⟩,⟨?_,?_,?_,?_,?_,?_,.inl rfl,?_,?_,?_,?_,?_,?_,?_,?_,trivial⟩,⟨?_,?_,?_,?_,?_,?_,?_,.inl rfl,?_,?_,?_,?_,?_,?_,?_,trivial⟩,⟨.inr (.inr (.inr (fun _ _ _ _ h h0=>h0.step h))),?_,?_,?_,?_,?_,?_,?_,.inl rfl,?_,?_,?_,?_,?_,?_,trivial⟩,⟨?_,?_,?_,?_,?_,?_,?_,?_,?_,.inl rfl,?_,?_,?_,?_,?_,trivial⟩,⟨.inr (.inr (.inr (fun _ _ _ _ h h0=>h0.step h))),?_,?_,?_,?_,?_,?_,?_,.inr (.inr (.inr (fun _ _ _ _ h h0=>h0.step h))),.inr (.inr (.inr (fun _ _ _ _ h h0=>rep_step h0 h))),.inl rfl,?_,?_,?_,?_,trivial⟩,⟨?_,?_,?_,?_,?_,?_,?_,?_,?_,?_,?_,.inl rfl,?_,?_,?_,trivial⟩,⟨?_,?_,?_,?_,?_,?_,?_,?_,?_,?_,?_,?_,.inl rfl,?_,?_,trivial⟩,⟨?_,?_,?_,?_,?_,?_,?_,?_,?_,?_,?_,?_,?_,.inl rfl,?_,trivial⟩,⟨?_,?_,?_,?_,?_,?_,?_,?_,?_,?_,?_,?_,?_,?_,.inl rfl,trivial⟩,trivial⟩ <;> first | exact .inr (.inr (.inl rfl)) | exact .inr (.inr (.inr fun _ _ _ _ _ h=>h)) | exact .inr (.inr (.inr fun _ _ _ _ h h0=>by cases h; exact h0))
  ·refine ⟨?_,?_,?_,?_,?_,?_,?_,?_,?_,?_,?_,?_,?_,?_,?_,trivial⟩
   ·refine qab [] (fun _=>rfl) rfl ?_;intro w1 vals hC1 hi0 hf E hE;clear hi0;clear hf;simp only [sP] at hE ⊢;go_wp2;exact .mk (hE _ _ ⟨_,rfl,Blk.new _ _ _⟩ (hC1.alloc hC1.size _) ((Below.refl _ _).alloc (Nat.le_refl _) _))
   ·refine qab [] (fun _=>rfl) rfl ?_;intro w1 vals hC1 hi0 hf E hE;clear hi0;clear hf;simp only [sP] at hE ⊢;go_wp2;exact .mk (hE _ _ rfl hC1 rfl)
   ·refine qab [(1,some 27)] (fun _=>rfl) rfl ?_;intro w1 vals hC1 hi0 hf E hE;clear hi0;have f1:vals 1=_:=hf 1 rfl
    try dsimp only at f1
    clear hf;simp only [sP,f1] at hE ⊢;clear f1;have d0:=(HK9.out.below hC1 HK9.out.lt).cell 0;simp only [List.getElem?_toArray,List.getElem?_cons_zero] at d0;go_wp2;exact .mk (hE _ _ rfl hC1 rfl)
   ·refine qab [(2,some 28)] (fun _=>rfl) rfl ?_;intro w1 vals hC1 hi0 hf E hE;clear hi0;have f2:vals 2=_:=hf 2 rfl
    try dsimp only at f2
    clear hf;simp only [sP,f2] at hE ⊢;clear f2;go_wp2_with fail;refine qaa (HTX.out _) ?_;rintro e w2 ⟨rfl,hb2⟩;go_wp2_with fail;exact .mk (hE _ _ rfl (hC1.trans (hb2.mono hC1.size)) hb2)
   ·refine qab [] (fun _=>rfl) rfl ?_;intro w1 vals hC1 hi0 hf E hE;clear hi0;clear hf;simp only [sP] at hE ⊢;refine qad (cs:=jvCells (flatV 4 0 [])) (HKJ.out.below hC1 HKJ.out.lt) rfl rfl rfl hu rfl qal ?_;go_wp2_with fail;exact .mk (hE _ _ rfl hC1 rfl)
   ·refine qab [] (fun _=>rfl) rfl ?_;intro w1 vals hC1 hi0 hf E hE;clear hi0;clear hf;simp only [sP] at hE ⊢;go_wp2;exact .mk (hE _ _ rfl hC1 rfl)
   ·refine qab [(5,some 31)] (fun _=>rfl) rfl ?_;intro w1 vals hC1 hi0 hf E hE;clear hi0;have f5:vals 5=_:=hf 5 rfl
    try dsimp only at f5
    clear hf;simp only [sP,f5] at hE ⊢;clear f5;have d0:=(HK9.out.below hC1 HK9.out.lt).cell 1;simp only [List.getElem?_toArray,List.getElem?_cons_zero,List.getElem?_cons_succ] at d0;go_wp2;exact .mk (hE _ _ rfl hC1 rfl)
   ·refine qab [(6,some 32)] (fun _=>rfl) rfl ?_;intro w1 vals hC1 hi0 hf E hE;clear hi0;have f6:vals 6=_:=hf 6 rfl
    try dsimp only at f6
    clear hf;simp only [sP,f6] at hE ⊢;clear f6;go_wp2;exact .mk (hE _ _ rfl hC1 rfl)
   ·refine qab [(3,some 29),(4,some 30),(7,some 33)] (fun _=>rfl) rfl ?_;intro w1 vals hC1 hi0 hf E hE;clear hi0;have f3:vals 3=_:=hf 3 rfl;have f4:vals 4=_:=hf 4 rfl;have f7:vals 7=_:=hf 7 rfl
    try dsimp only at f3 f4 f7
    clear hf;simp only [sP,f3,f4,f7] at hE ⊢;clear f3 f4 f7;unfold jvCells flatV;go_wp2;exact .mk (hE _ _ ⟨_,rfl,Blk.new _ _ _⟩ (hC1.alloc hC1.size _) ((Below.refl _ _).alloc (Nat.le_refl _) _))
   ·refine qab [(0,some 26),(8,some 34)] (fun _=>rfl) rfl ?_;intro w1 vals hC1 hi0 hf E hE;clear hi0;have f0:(fun v u=>RowAt u 9 3 [.string (bs [100,111,109,97,105,110]),.string (bs [107,101,121,115]),.string (bs [110,117,109,98,101,114])] v) (vals 0) w1:=hf 0 rfl;have f8:(fun v u=>RowAt u 44 3 (rowsV jvCells [flatV 3 0 exD,flatV 4 0 [],flatV 2 3 []]) v) (vals 8) w1:=hf 8 rfl
    try dsimp only at f0 f8
    clear hf;obtain ⟨g0,hx0,hg0⟩:=f0;obtain ⟨g8,hx8,hg8⟩:=f8;simp only [sP,hx0,hx8] at hE ⊢;clear hx0 hx8;go_wp2;exact .mk (hE _ _ ⟨_,rfl,bundle_rep exB (flatV 4 0 []) hg0 hg8 (JRep.flat _ _ _ _ _)⟩ hC1 rfl)
   ·refine qab [(9,some 35),(3,some 29)] (fun _=>rfl) rfl ?_;intro w1 vals hC1 hi0 hf E hE;clear hi0;have f3:vals 3=_:=hf 3 rfl;have f9:(fun v u=>∃ jv,v=.agg (jvCells jv)∧JRep u (fun b=>b<u.heap.size) (bundleJ exB) jv) (vals 9) w1:=hf 9 rfl
    try dsimp only at f3 f9
    clear hf;obtain ⟨jv,hx9,hj9⟩:=f9;simp only [sP,f3,hx9] at hE ⊢;clear f3;clear hx9;go_wp2_with fail;refine qaa (HWR.out _ _ hj9) ?_;rintro e w2 ⟨rfl,hb2⟩;go_wp2_with fail;exact .mk (hE _ _ rfl (hC1.trans (hb2.mono hC1.size)) hb2)
   ·refine qab [(10,some 36)] (fun _=>rfl) rfl ?_;intro w1 vals hC1 hi0 hf E hE;clear hi0;have f10:vals 10=_:=hf 10 rfl
    try dsimp only at f10
    clear hf;simp only [sP,f10] at hE ⊢;clear f10;go_wp2;exact .mk (hE _ _ rfl hC1 rfl)
   ·refine qab [(10,some 36)] (fun _=>rfl) rfl ?_;intro w1 vals hC1 hi0 hf E hE;clear hi0;have f10:vals 10=_:=hf 10 rfl
    try dsimp only at f10
    clear hf;simp only [sP,f10] at hE ⊢;clear f10;go_wp2;exact .mk (hE _ _ rfl hC1 rfl)
   ·refine qab [(11,some 37),(10,some 36),(0,some 26),(1,some 27),(2,some 28),(3,some 29),(4,some 30),(5,some 31),(6,some 32),(7,some 33),(8,some 34),(9,some 35),(10,some 36),(11,some 37),(12,some 38)] (fun _=>rfl) rfl ?_;intro w1 vals hC1 hi0 hf E hE;clear hi0;have f0:(fun v u=>RowAt u 9 3 [.string (bs [100,111,109,97,105,110]),.string (bs [107,101,121,115]),.string (bs [110,117,109,98,101,114])] v) (vals 0) w1:=hf 0 rfl;have f1:vals 1=_:=hf 1 rfl;have f2:vals 2=_:=hf 2 rfl;have f3:vals 3=_:=hf 3 rfl;have f4:vals 4=_:=hf 4 rfl;have f5:vals 5=_:=hf 5 rfl;have f6:vals 6=_:=hf 6 rfl;have f7:vals 7=_:=hf 7 rfl;have f8:(fun v u=>RowAt u 44 3 (rowsV jvCells [flatV 3 0 exD,flatV 4 0 [],flatV 2 3 []]) v) (vals 8) w1:=hf 8 rfl;have f9:(fun v u=>∃ jv,v=.agg (jvCells jv)∧JRep u (fun b=>b<u.heap.size) (bundleJ exB) jv) (vals 9) w1:=hf 9 rfl;have f10:vals 10=_:=hf 10 rfl;have f11:vals 11=_:=hf 11 rfl;have f12:vals 12=_:=hf 12 rfl
    try dsimp only at f0 f1 f2 f3 f4 f5 f6 f7 f8 f9 f10 f11 f12
    clear hf;simp only [sP,f1,f2,f3,f4,f5,f6,f7,f10,f11,f12] at hE ⊢;clear f1 f2 f3 f4 f5 f6 f7 f10 f11 f12;go_wp2;exact .mk (hE _ _ rfl hC1 rfl)
   ·refine qab [(12,some 38),(13,some 2),(0,some 26),(1,some 27),(2,some 28),(3,some 29),(4,some 30),(5,some 31),(6,some 32),(7,some 33),(8,some 34),(9,some 35),(10,some 36),(11,some 37),(12,some 38),(13,some 2)] (fun _=>rfl) rfl ?_;intro w1 vals hC1 hi0 hf E hE;clear hi0;have f0:(fun v u=>RowAt u 9 3 [.string (bs [100,111,109,97,105,110]),.string (bs [107,101,121,115]),.string (bs [110,117,109,98,101,114])] v) (vals 0) w1:=hf 0 rfl;have f1:vals 1=_:=hf 1 rfl;have f2:vals 2=_:=hf 2 rfl;have f3:vals 3=_:=hf 3 rfl;have f4:vals 4=_:=hf 4 rfl;have f5:vals 5=_:=hf 5 rfl;have f6:vals 6=_:=hf 6 rfl;have f7:vals 7=_:=hf 7 rfl;have f8:(fun v u=>RowAt u 44 3 (rowsV jvCells [flatV 3 0 exD,flatV 4 0 [],flatV 2 3 []]) v) (vals 8) w1:=hf 8 rfl;have f9:(fun v u=>∃ jv,v=.agg (jvCells jv)∧JRep u (fun b=>b<u.heap.size) (bundleJ exB) jv) (vals 9) w1:=hf 9 rfl;have f10:vals 10=_:=hf 10 rfl;have f11:vals 11=_:=hf 11 rfl;have f12:vals 12=_:=hf 12 rfl;have f13:vals 13=_:=hf 13 rfl
    try dsimp only at f0 f1 f2 f3 f4 f5 f6 f7 f8 f9 f10 f11 f12 f13
    clear hf;simp only [sP,f1,f2,f3,f4,f5,f6,f7,f10,f11,f12,f13] at hE ⊢;clear f1 f2 f3 f4 f5 f6 f7 f10 f11 f12 f13;go_wp2;exact .mk (hE _ _ rfl hC1 rfl)
  intro w1 vals hC1 hf;have f0:(fun v u=>RowAt u 9 3 [.string (bs [100,111,109,97,105,110]),.string (bs [107,101,121,115]),.string (bs [110,117,109,98,101,114])] v) (vals 0) w1:=hf 0 (by decide) rfl;have f1:vals 1=_:=hf 1 (by decide) rfl;have f2:vals 2=_:=hf 2 (by decide) rfl;have f3:vals 3=_:=hf 3 (by decide) rfl;have f4:vals 4=_:=hf 4 (by decide) rfl;have f5:vals 5=_:=hf 5 (by decide) rfl;have f6:vals 6=_:=hf 6 (by decide) rfl;have f7:vals 7=_:=hf 7 (by decide) rfl;have f8:(fun v u=>RowAt u 44 3 (rowsV jvCells [flatV 3 0 exD,flatV 4 0 [],flatV 2 3 []]) v) (vals 8) w1:=hf 8 (by decide) rfl;have f9:(fun v u=>∃ jv,v=.agg (jvCells jv)∧JRep u (fun b=>b<u.heap.size) (bundleJ exB) jv) (vals 9) w1:=hf 9 (by decide) rfl;have f10:vals 10=_:=hf 10 (by decide) rfl;have f11:vals 11=_:=hf 11 (by decide) rfl;have f12:vals 12=_:=hf 12 (by decide) rfl;have f13:vals 13=_:=hf 13 (by decide) rfl;have f14:vals 14=_:=hf 14 (by decide) rfl
  try dsimp only at f0 f1 f2 f3 f4 f5 f6 f7 f8 f9 f10 f11 f12 f13 f14
  clear hf;simp only [sP,f1,f2,f3,f4,f5,f6,f7,f10,f11,f12,f13,f14];clear f1 f2 f3 f4 f5 f6 f7 f10 f11 f12 f13 f14;generalize vals 0=x0 at *;generalize vals 8=x8 at *;generalize vals 9=x9 at *;have HC9:=zY hC1;rw [HR.out];go_wp2_with fail;go_ret2;exact ⟨rfl,HF9.out.trans (HC9.out.mono HF9.out.size)⟩
theorem jlives_any (w:World):Calls Tryz.prog 8 #[] w fun e w'=>e=.returned (.bool true)∧Below w.heap.size w w':=by
 have C:=zY (show Calls Tryz.prog 6 #[.agg #[.string ⟨#[97,46,111,114,103]⟩,.int .i64 3,.slice none 0 0]] w fun e w'=>e=.returned (.tuple #[.string ⟨#[123,34,100,111,109,97,105,110,34,58,34,97,46,111,114,103,34,44,34,107,101,121,115,34,58,91,93,44,34,110,117,109,98,101,114,34,58,51,125]⟩,.int .i64 0])∧Below w.heap.size w w' from by
  refine (write0_any w).mono ?_;rintro e w' ⟨rfl,hb⟩;rw [exB_right];exact ⟨rfl,hb⟩)
 go_enter Tryz.func8,Tryz.ntmps8;go_wp2_with fail;refine qaa C.out ?_;rintro e w2 ⟨rfl,hb2⟩;have HB:=zY hb2;clear hb2;go_wp2_with fail;go_ret;exact ⟨rfl,HB.out⟩
def posP (l:List Bs) (s:Bs) (z:Int):Prop:=(z=-1∧s ∉ l)∨∃ i:Nat,z=(i:Int)∧∃ h:i<l.length,l[i]=s∧s ∉ l.take i
theorem pos_any (l:List Bs) (s:Bs) (A:Option Addr) (c B:Nat) (w:World) (hr:Rd w B A (rowsV sCell l)) (hl:l.length≤1099511627776) :
  Calls Tryz.prog 42 #[.slice A l.length c,.string (bs s)] w fun e w'=>(∃ k:Int,e=.returned (.int .i64 k)∧posP l s k)∧w'=w:=by
 obtain ⟨n,hn⟩:=eX (l.length);have HN:=zY hn;have HR:=zY hr;have HL:=zY (show (n:Int)≤1099511627776 by omega);rw [← hn];clear hr hl hn;go_enter Tryz.func42,Tryz.ntmps42;go_wp2_with fail
 go_loop [8] (fun x=>∃ i:Nat,i≤n∧x=.int .i64 (i:Int)∧s ∉ l.take i) (fun x=>n - (intOf x).toNat)
 case atStart=>exact ⟨0,by omega,rfl,by simp⟩
 case round =>
  obtain ⟨i,hi,rfl,hok⟩:=hrel;have HOK:=zY hok;clear hok
  by_cases hlt:i<n
  ·have hil:i<l.length:=by rw [← HN.out]; exact hlt
   have hlt':(i:Int)<(n:Int):=by omega
   obtain ⟨ad,hA,hadb,hcell⟩:=qaO (f:=sCell) (m:=1) (fun _=>rfl) (by decide) HR.out hil;subst hA;obtain ⟨X,hX⟩:=eX (l[i]);rw [← hX] at hcell
   have hc0:w.cell? (ad.add i)=some (.string (bs X)):=by
    have h:=hcell 0 _ rfl;rw [Nat.mul_one] at h;exact h
   have HST:=zY (show s≠X→s ∉ l.take (i+1) from fun h=>by
    rw [List.take_succ_eq_append_getElem hil,← hX,List.mem_append];rintro (h1 | h1)
    ·exact HOK.out h1
    ·exact h (by simpa using h1))
   have HPX:=zY (show X=s→posP l s (i:Int) from fun h=>.inr ⟨i,rfl,hil,hX.symm.trans h,HOK.out⟩);have HLT:=zY hlt;clear hX hcell hadb hil;have hns:=HL.out
   by_cases hq:s=X
   ·subst hq;have HP:=zY (HPX.out rfl);clear HST;go_wp2_with fail;go_ret;exact ⟨⟨_,rfl,HP.out⟩,rfl⟩
   ·have hq':((bs s).toList == (bs X).toList)=false:=by rw [qat,qat]; simpa using hq
    have HQ:=zY hq;clear hq;go_wp2_with fail;exact ⟨⟨i+1,HLT.out,by go_num,HST.out HQ.out⟩,by have:=HLT.out; simp [intOf]; omega⟩
  ·obtain rfl:i=n:=by omega
   have HALL:=zY (show s ∉ l by
    have:=HOK.out
    rwa [HN.out,List.take_length] at this)
   go_wp2_with fail;go_ret;exact ⟨⟨_,rfl,.inl ⟨rfl,HALL.out⟩⟩,rfl⟩
def zJT:JT:=.mk 0 0 [] [] []
def atJ:List Bs→List JT→Bs→JT
 | n :: ns,k :: ks,x=>if n=x then k else atJ ns ks x
 | _,_,_=>zJT
def getJ:JT→Bs→JT
 | .mk k _ _ ns ks,x=>if k=5 then atJ ns ks x else zJT
theorem atJ_no:∀ (ns:List Bs) (ks:List JT) (x:Bs),x ∉ ns→atJ ns ks x=zJT
 | [],_,_,_=>by cases ‹List JT› <;> rfl
 | n :: ns,[],x,_=>rfl
 | n :: ns,k :: ks,x,h=>by
  rw [atJ,if_neg (fun e=>h (by rw [← e]; exact List.mem_cons_self)),atJ_no ns ks x (fun e=>h (List.mem_cons_of_mem _ e))]
theorem atJ_hit:∀ (i:Nat) (ns:List Bs) (ks:List JT) (x:Bs) (h:i<ns.length),ns[i]=x→x ∉ ns.take i→atJ ns ks x=if h2:i<ks.length then ks[i] else zJT
 | 0,n :: ns,[],x,h,h1,h2=>rfl
 | 0,n :: ns,k :: ks,x,h,h1,h2=>by
  have e:n=x:=h1;rw [atJ,if_pos e];rfl
 | i+1,n :: ns,[],x,h,h1,h2=>rfl
 | i+1,n :: ns,k :: ks,x,h,h1,h2=>by
  rw [List.take_succ_cons] at h2;rw [atJ,if_neg (fun e=>h2 (by rw [e]; exact List.mem_cons_self)),atJ_hit i ns ks x (by simpa using h) h1 (fun e=>h2 (List.mem_cons_of_mem _ e))];simp
theorem zrep (u:World) (S:Nat→Prop):JRep u S zJT zJV:=JRep.flat u S 0 0 []
theorem get_any (j:JT) (v:JV) (x:Bs) (S:Nat→Prop) (w:World) (hj:JRep w S j v) (hn:v.nn≤1000000) (hk:v.kn≤1000000) :
  Calls Tryz.prog 21 #[.agg (jvCells v),.string (bs x)] w fun e w'=>∃ (v':JV) (b:Bool),e=.returned (.tuple #[.agg (jvCells v'),.bool b])∧JRep w' S (getJ j x) v'∧Below w.heap.size w w':=by
 have hu:=Tryz.underlying44;obtain ⟨ns,ks,kv,rfl,h1,h1c,hrn,h2,h2c,hkv,hrk,hkids⟩:=hj.inv;obtain ⟨W1,hW1⟩:=eX ((w.alloc (.cells (jvCells v) 44)).alloc (.cells (jvCells zJV) 44));have hb1:Below w.heap.size w W1:=by rw [hW1]; exact ((Below.refl _ w).alloc (Nat.le_refl _) _).alloc (by simp) _
 have HB1:=zY hb1;have HK1:=zY (show Blk W1 w.heap.size 44 (jvCells v) by rw [hW1]; exact (Blk.new _ _ _).alloc _);have HZ1:=zY (show Blk W1 (w.heap.size+1) 44 (jvCells zJV) by rw [hW1]; have:=Blk.new (w.alloc (.cells (jvCells v) 44)) 44 (jvCells zJV); simpa using this);have HW1:=zY hW1;have hrd1:Rd W1 W1.heap.size v.nA (rowsV sCell ns):=(hrn.rd (B:=w.heap.size) fun b hb _=>hb).below hb1 |>.mono hb1.size;have CP:=zY (pos_any ns x v.nA v.nc W1.heap.size W1 hrd1 (by omega));have HKN:=zY (fun (u:World) (h:Below w.heap.size w u)=>show ∀ (i:Nat) (hi:i<ks.length) (hi':i<kv.length),JRep u S ks[i] kv[i] from fun i hi hi'=>(hkids i hi hi').heap fun b hb _=>h.block b hb);have HRK:=zY (hrk.heap (w':=W1) fun b hb _=>hb1.block b hb);have HEQ:=zY (show getJ (.mk v.k v.n v.t ns ks) x=if v.k=5 then atJ ns ks x else zJT from rfl);obtain ⟨GJ,hGJ⟩:=eX (getJ (.mk v.k v.n v.t ns ks) x);rw [← hGJ] at HEQ ⊢;have a0:W1.cell? ⟨w.heap.size,0,none⟩=some (.int .i64 v.k):=HK1.out.cell 0;have a3:W1.cell? ⟨w.heap.size,3,none⟩=some (.slice v.nA v.nn v.nc):=HK1.out.cell 3;have a4:W1.cell? ⟨w.heap.size,4,none⟩=some (.slice v.kA v.kn v.kc):=HK1.out.cell 4;rw [← h1] at CP;obtain ⟨kn,hkn⟩:=eX (v.kn);obtain ⟨kk,hkk⟩:=eX (v.k);rw [← hkn] at a4 h2 hk;rw [← hkk] at a0 HEQ;have HKV:=zY hkv;have H2:=zY h2;have hk9:(kn:Int)≤1000000:=by omega
 have HR0:=zY (Below.refl W1.heap.size W1);clear hW1 hb1 hj hrn hrk hkids hGJ hrd1 hkn hkk h1 h1c h2c hn hk h2 hkv;go_enter Tryz.func21,Tryz.ntmps21
 go_upto_region 1 with (fail)
 rw [show ((w.alloc (.cells (jvCells v) 44)).alloc (.cells #[.int .i64 0,.int .i64 0,.string ⟨#[]⟩,.slice none 0 0,.slice none 0 0] 44))=W1 from HW1.out.symm];generalize Value.agg (jvCells v)=AV;go_wp2_with fail;refine qaa CP.out ?_;rintro e W1 ⟨⟨z,rfl,hz⟩,rfl⟩
 by_cases h5:kk=5
 ·have h5':(kk != 5)=false:=by simpa using h5
  have HG5:=zY (show GJ=atJ ns ks x by rw [HEQ.out,if_pos h5]);clear h5
  rcases hz with ⟨rfl,hno⟩ | ⟨i,rfl,hi,hni,hnt⟩
  ·have HGZ:=zY (show GJ=zJT by rw [HG5.out]; exact atJ_no ns ks x hno);clear hno a3 a4;go_wp2_with (refine qac (x:=.tmp 4) (cells:=jvCells zJV) HZ1.out rfl rfl rfl rfl qal rfl (qae _) ?_; intro w5 hb5 hw5);refine bodyPost_ret (qai (P:=Tryz.prog) rfl rfl hb5 hu rfl qal) rfl ?_;exact ⟨zJV,false,rfl,by rw [HGZ.out]; exact zrep _ _,hw5.below HB1.out (by omega) HB1.out.size⟩
  ·have HAT:=zY (atJ_hit i ns ks x hi hni hnt);clear hi hni hnt;have hi0:¬ (i:Int)<0:=by omega
   by_cases hik:i<kn
   ·have hikl:i<ks.length:=by rw [← H2.out]; exact hik
    have hikv:i<kv.length:=by rw [HKV.out]; exact hikl
    have hik':¬ (kn:Int)≤(i:Int):=by omega
    have hik2:(i:Int)<(kn:Int):=by omega
    obtain ⟨ad,hA,-,hcell⟩:=qaO (f:=jvCells) (m:=5) (fun _=>rfl) (by decide) (HRK.out.rd (B:=W1.heap.size) fun b hb _=>hb) hikv;have HGX:=zY (show GJ=ks[i] by rw [HG5.out,HAT.out,dif_pos hikl]);have HJR:=zY (fun (u:World) (h:Below w.heap.size w u)=>show JRep u S ks[i] kv[i] from HKN.out u h i hikl hikv);obtain ⟨Y,hY⟩:=eX (kv[i]);obtain ⟨KX,hKX⟩:=eX (ks[i]);rw [← hY] at hcell HJR;rw [← hKX] at HGX HJR;have HCL:=zY (show ∀ j u,(jvCells Y).toList[j]?=some u→W1.cell? ((ad.add (i*5)).add j)=some u from fun j u hu=>hcell j u (by simpa using hu));rw [hA] at a4;clear hcell hY hKX hikl hikv hik hA
    go_wp2_with (first
     | refine qaA (r:=(jvCells Y).toList) HCL.out rfl rfl rfl hu rfl qal ?_
     | (refine qac (x:=.tmp 4) (cells:=jvCells Y) HZ1.out rfl rfl rfl rfl qal rfl (qae _) ?_; intro w5 hb5 hw5))
    refine bodyPost_ret (qai (P:=Tryz.prog) rfl rfl hb5 hu rfl qal) rfl ?_;exact ⟨Y,true,rfl,by rw [HGX.out]; exact HJR.out w5 (hw5.below HB1.out (by omega) HB1.out.size),hw5.below HB1.out (by omega) HB1.out.size⟩
   ·have hik':(kn:Int)≤(i:Int):=by omega
    have HGZ:=zY (show GJ=zJT by rw [HG5.out,HAT.out,dif_neg (by have:=H2.out; omega)]);clear hik a3;go_wp2_with (refine qac (x:=.tmp 4) (cells:=jvCells zJV) HZ1.out rfl rfl rfl rfl qal rfl (qae _) ?_; intro w5 hb5 hw5);refine bodyPost_ret (qai (P:=Tryz.prog) rfl rfl hb5 hu rfl qal) rfl ?_;exact ⟨zJV,false,rfl,by rw [HGZ.out]; exact zrep _ _,hw5.below HB1.out (by omega) HB1.out.size⟩
 ·have h5':(kk != 5)=true:=by simpa using h5
  have HGZ:=zY (show GJ=zJT by rw [HEQ.out,if_neg h5]);clear h5 hz a3 a4;go_wp2_with (refine qac (x:=.tmp 4) (cells:=jvCells zJV) HZ1.out rfl rfl rfl rfl qal rfl (qae _) ?_; intro w5 hb5 hw5);refine bodyPost_ret (qai (P:=Tryz.prog) rfl rfl hb5 hu rfl qal) rfl ?_;exact ⟨zJV,false,rfl,by rw [HGZ.out]; exact zrep _ _,hw5.below HB1.out (by omega) HB1.out.size⟩
end Go.Proofs.YtlkikjeccamheaaGreatDoor.Js
namespace Go.Proofs.YtlkikjeccamheaaGreatDoor.Js
set_option linter.unusedSimpArgs false
set_option linter.unusedVariables false
set_option maxRecDepth 100000
set_option maxHeartbeats 4000000
theorem qdL {d:Nat} {m:Bool} (hv:∀ {r v r'},valueP d r=.ok (v,r')→r.length≤4096→smallJ v=true):∀ (n:Nat) {ns ns':List Bs} {ks ks':List JT} {r r':Bs},listL (valueP d) m n ns ks r=.ok (ns',ks',r')→r.length≤4096→(∀ k ∈ ks,smallJ k=true) →
  ks'.length+r'.length≤ks.length+r.length∧ns'.length+r'.length≤ns.length+r.length∧∀ k ∈ ks',smallJ k=true
 | 0,ns,ns',ks,ks',r,r',h,hr,hk=>by rw [listL] at h; cases h
 | n+1,ns,ns',ks,ks',r,r',h,hr,hk=>by
  have hl:=qbY (endC m) r
  rcases hs:signP (endC m) r with ⟨b,r1⟩
  rw [hs] at hl;dsimp only at hl
  cases b with
  | true =>
   rw [qbL hs] at h
   injection h with h
   injection h with h1 h
   injection h with h2 h3
   subst h1 h2 h3;exact ⟨by omega,by omega,hk⟩
  | false =>
   rw [qbj hs] at h;unfold moreK at h
   split at h
   ·cases h
   ·rename_i x k r4 hc
    obtain ⟨h1,h2⟩:=kidK_len hc
    have hk4:smallJ k=true:=by
     unfold kidK at hc
     split at hc
     ·cases hc
     ·rename_i y r3 hn
      split at hc
      ·cases hc
      ·rename_i k' r4' hv'
       injection hc with hc
       injection hc with e1 hc
       injection hc with e2 e3
       subst e1 e2 e3;refine hv hv' ?_;unfold nameK at hn
       split at hn
       ·cases hn
       ·rename_i r2 hcm
        have l2:r2.length≤r1.length:=by
         unfold commaP at hcm
         split at hcm
         ·injection hcm with hcm; subst hcm; exact Nat.le_refl _
         ·exact qb1 hcm
        unfold keyP at hn
        split at hn
        ·have:=qcC hn;omega
        ·injection hn with hn
         injection hn with e1 e2
         subst e2;omega
    obtain ⟨h3,h4,h5⟩:=qdL hv n h (by omega) (fun q hq=>by
     rcases List.mem_append.1 hq with hq | hq
     ·exact hk q hq
     ·rw [List.mem_singleton] at hq;subst hq;exact hk4)
    rw [List.length_append] at h3;simp only [List.length_cons,List.length_nil] at h3;exact ⟨by omega,by omega,h5⟩
theorem rawP_small {lp:Bs→Except Int (JT × Bs)} (hl:∀ {r v r'},lp r=.ok (v,r')→r.length≤4096→smallJ v=true) {r:Bs} {v:JT} {r':Bs} (h:rawP lp r=.ok (v,r')) (hr:r.length≤4096):smallJ v=true:=by
 have hf:∀ k n t,smallJ (.mk k n t [] [])=true:=fun k n t=>by simp [smallJ,smallsJ]
 have hw:∀ {w:Bs} {k n t},wordR w r (.mk k n t [] [])=.ok (v,r')→smallJ v=true:=by
  intro w k n t h;unfold wordR at h
  split at h
  ·cases h
  ·injection h with h
   injection h with h1 h2
   subst h1;exact hf _ _ _
 unfold rawP at h
 split at h
 ·exact hw h
 split at h
 ·exact hw h
 split at h
 ·exact hw h
 split at h
 ·unfold optR at h
  split at h
  ·cases h
  ·injection h with h
   injection h with h1 h2
   subst h1;exact hf _ _ _
 split at h
 ·exact hl h hr
 ·unfold optR at h
  split at h
  ·cases h
  ·injection h with h
   injection h with h1 h2
   subst h1;exact hf _ _ _
theorem qc1:∀ (d:Nat) {r:Bs} {v:JT} {r':Bs},valueP d r=.ok (v,r')→r.length≤4096→smallJ v=true
 | 0,r,v,r',h,hr=>by
  obtain ⟨r0,h1,-⟩:=qbD h;exact rawP_small (lp:=fun _=>.error 9) (fun h=>by cases h) h1 (Nat.le_trans (qaG r) hr)
 | d+1,r,v,r',h,hr=>by
  obtain ⟨r0,h1,-⟩:=qbD h;refine rawP_small (lp:=listP (valueP d)) (fun {r v r'} h hr=>?_) h1 (Nat.le_trans (qaG r) hr);rw [qbK] at h;unfold lres at h
  split at h
  ·cases h
  ·rename_i ns ks r2 hc
   injection h with h
   injection h with h1 h2
   subst h1;have hs:=qaG r.tail;simp only [List.length_tail] at hs;obtain ⟨h3,h4,h5⟩:=qdL (fun h hr=>qc1 d h hr) _ hc (by omega) (fun k hk=>by cases hk);simp only [List.length_nil] at h3 h4;rw [smallJ];simp only [Bool.and_eq_true,decide_eq_true_eq];exact ⟨⟨by omega,by omega⟩,(qbx _).2 h5⟩
theorem qco {s:Bs} {j:JT} (h:readP s=.ok j):smallJ j=true:=by
 unfold readP at h
 split at h
 ·cases h
 ·split at h
  ·cases h
  ·rename_i hv
   injection h with h
   subst h;exact qc1 6 hv (by omega)
  ·cases h
def textJ:JT→Bs | .mk _ _ t _ _=>t
def numJ:JT→Int | .mk _ n _ _ _=>n
def kidsJ:JT→List JT | .mk _ _ _ _ ks=>ks
theorem quote_ge (s:Bs):s.length≤(quote s).length:=by
 have h:∀ l:Bs,l.length≤(l.flatMap quoteC).length:=by
  intro l
  induction l with
  | nil=>simp
  | cons c r ih =>
   have h1:1≤(quoteC c).length:=by
    unfold quoteC
    split
    ·simp
    ·split <;> simp
   rw [List.flatMap_cons,List.length_append,List.length_cons];omega
 have:=h s;unfold quote;simp only [List.length_cons,List.length_append,List.length_nil];omega
theorem items_kid (m:Bool):∀ (ks:List JT) (ns:List Bs) (f:Bool) (x:JT),x ∈ ks→(writeV x).length≤(itemsV m ns ks f).length
 | k :: r,ns,f,x,h=>by
  rw [itemsV];simp only [List.length_append]
  rcases List.mem_cons.1 h with rfl | h
  ·omega
  ·have:=items_kid m r ns.tail false x h;omega
structure OkJ (M:Nat) (j:JT):Prop where
 right:∃ d,rightV d j=true
 len:(writeV j).length≤M
 small:smallJ j=true
theorem OkJ.zero {M:Nat} (h:4≤M):OkJ M zJT:=⟨⟨0,by decide⟩,h,by decide⟩
theorem OkJ.kid {M:Nat} {j x:JT} (h:OkJ M j) (hx:x ∈ kidsJ j):OkJ M x:=by
 obtain ⟨k,n,t,ns,ks⟩:=j;obtain ⟨⟨d,hr⟩,hl,hs⟩:=h;unfold rightV at hr;unfold smallJ at hs;simp only [Bool.and_eq_true,decide_eq_true_eq] at hr hs;have hkr:=(qa0 _ _).1 hr.2 x hx;have hks:=(qbx _).1 hs.2 x hx
 have hne:ks.isEmpty=false:=by
  cases hks':ks with
  | nil=>rw [hks'] at hx; cases hx
  | cons a r=>rfl
 have hp:=hr.1.1.1.1.1.1.1.1;unfold plainJ at hp;rw [hne] at hp;simp only [Bool.and_eq_true,Bool.or_eq_true,beq_iff_eq,Bool.false_eq_true,false_or] at hp;have hk:k=4∨k=5:=hp.1.1.2;refine ⟨⟨_,hkr⟩,?_,hks⟩;have:=items_kid (k == 5) ks ns true x hx;unfold writeV at hl
 rcases hk with rfl | rfl <;> simp at hl this <;> omega
theorem OkJ.text {M:Nat} {j:JT} (h:OkJ M j):(textJ j).length≤M:=by
 obtain ⟨k,n,t,ns,ks⟩:=j;obtain ⟨⟨d,hr⟩,hl,hs⟩:=h;unfold rightV at hr;simp only [Bool.and_eq_true,decide_eq_true_eq] at hr;have hp:=hr.1.1.1.1.1.1.1.1;unfold plainJ at hp;simp only [Bool.and_eq_true,Bool.or_eq_true,beq_iff_eq] at hp;show t.length≤M
 rcases hp.2 with h0 | rfl
 ·have:t=[]:=by simpa using h0
  rw [this];exact Nat.zero_le _
 ·have:=quote_ge t;unfold writeV at hl;simp at hl;omega
theorem atJ_mem:∀ (ns:List Bs) (ks:List JT) (x:Bs),atJ ns ks x=zJT∨atJ ns ks x ∈ ks
 | [],_,_=>.inl (by cases ‹List JT› <;> rfl)
 | n :: ns,[],x=>.inl rfl
 | n :: ns,k :: ks,x=>by
  unfold atJ
  split
  ·exact .inr List.mem_cons_self
  ·rcases atJ_mem ns ks x with h | h
   ·exact .inl h
   ·exact .inr (List.mem_cons_of_mem _ h)
theorem OkJ.get {M:Nat} {j:JT} (h:OkJ M j) (h4:4≤M) (x:Bs):OkJ M (getJ j x):=by
 obtain ⟨k,n,t,ns,ks⟩:=j;show OkJ M (if k=5 then atJ ns ks x else zJT)
 by_cases hk:k=5
 ·rw [if_pos hk]
  rcases atJ_mem ns ks x with e | e
  ·rw [e]; exact .zero h4
  ·exact h.kid e
 ·rw [if_neg hk];exact .zero h4
theorem OkJ.counts {M:Nat} {j:JT} (h:OkJ M j):(kidsJ j).length≤4096:=by
 obtain ⟨k,n,t,ns,ks⟩:=j;have hs:=h.small;unfold smallJ at hs;simp only [Bool.and_eq_true,decide_eq_true_eq] at hs;exact hs.1.2
theorem OkJ.num {M:Nat} {j:JT} (h:OkJ M j):-1000000000000000≤numJ j∧numJ j≤1000000000000000:=by
 obtain ⟨k,n,t,ns,ks⟩:=j;obtain ⟨⟨d,hr⟩,hl,hs⟩:=h;unfold rightV at hr;simp only [Bool.and_eq_true,decide_eq_true_eq] at hr;have hp:=hr.1.1.1.1.1.1.1.1;have hq:=hr.1.1.2;unfold plainJ at hp;simp only [Bool.and_eq_true,Bool.or_eq_true,beq_iff_eq,decide_eq_true_eq,bne_iff_ne,ne_eq] at hp hq;show -1000000000000000≤n∧n≤1000000000000000
 rcases hp.1.1.1 with (h0 | h0) | h0
 ·omega
 ·rcases hq with h1 | h1
  ·exact absurd h0 h1
  ·exact h1
 ·omega
theorem qbE {w:World} {S:Nat→Prop} {j:JT} {v:JV} (h:JRep w S j v):textJ j=v.t∧numJ j=v.n:=by
 obtain ⟨ns,ks,kv,rfl,_⟩:=h.inv;exact ⟨rfl,rfl⟩
theorem qbe {w:World} {S:Nat→Prop} {j:JT} {v:JV} {M:Nat} (h:JRep w S j v) (ho:OkJ M j):v.nn≤1000000∧v.kn≤1000000:=by
 obtain ⟨ns,ks,kv,rfl,h1,_,_,h2,_⟩:=h.inv;have hs:=ho.small;unfold smallJ at hs;simp only [Bool.and_eq_true,decide_eq_true_eq] at hs;omega
end Go.Proofs.YtlkikjeccamheaaGreatDoor.Js
namespace Go.Proofs.YtlkikjeccamheaaGreatDoor
set_option linter.unusedSimpArgs false
set_option linter.unusedVariables false
set_option maxRecDepth 100000
set_option maxHeartbeats 4000000
variable {P:Program} {ops:Array Oper} {C:World→Prop} {pu:Nat→Bool} {K:Act→Prop} {i:Nat} {o:Oper} {r:List Oper} {a:Act}
theorem SeqL.store (hp:pu i=false) (hg:o.guard=none) (hd:o.dst=none)
  (h:∀ w,C w→∀ E:Act→World→Prop,(∀ w',C w'→E a w')→wpList P #[] (EndOf E) [o] a w)
  (hr:SeqL P ops C pu K (i+1) r a):SeqL P ops C pu K i (o :: r) a :=
 SeqL.next (v:=undef) hp hg (by rw [hd]; rfl) h hr
theorem SeqT.last {K:Act→World→Prop} {D:World→Prop} {v:Value} {a':Act} (hg:o.guard=none) (ha:a.put o.dst v=a')
  (h:∀ w,C w→∀ E:Act→World→Prop,(∀ w',D w'→E a' w')→wpList P #[] (EndOf E) [o] a w) (hq:∀ w,D w→K a' w):∀ w,C w→SeqT P ops K [o] a w:=by
 subst ha;intro w hc;exact SeqT.step hg fun E hE=>h w hc E fun w' hd=>hE v w' (hq w' hd)
end Go.Proofs.YtlkikjeccamheaaGreatDoor
namespace Go.Proofs.YtlkikjeccamheaaGreatDoor.Js
set_option linter.unusedSimpArgs false
set_option linter.unusedVariables false
set_option maxRecDepth 100000
set_option maxHeartbeats 4000000
open Go.RowKit
def RrPost (s:Bs) (w:World) (e:Ending) (w':World):Prop :=
 ∃ (v:JV) (k:Int),e=.returned (.tuple #[.agg (jvCells v),.int .i64 k])∧Below w.heap.size w w'∧((k=0∧∃ j,readP s=.ok j∧JRep w' (fun b=>w.heap.size≤b) j v)∨(k≠0∧okO (readP s)=none∧v=zJV))
theorem readP_ok {s:Bs} {j:JT} (h:¬ 2000<s.length) (hv:okO (valueP 6 s)=some (j,[])):readP s=.ok j:=by
 unfold readP;rw [if_neg h,qbF hv]
theorem readP_none {s:Bs} (hv:okO (valueP 6 s)=none):okO (readP s)=none:=by
 unfold readP
 split
 ·rfl
 ·obtain ⟨e,he⟩:=qcf hv;rw [he];rfl
theorem readP_more {s:Bs} {j:JT} {r:Bs} (hv:okO (valueP 6 s)=some (j,r)) (hr:r≠[]):okO (readP s)=none:=by
 unfold readP
 split
 ·rfl
 ·rw [qbF hv]
  cases r with
  | nil=>exact absurd rfl hr
  | cons c l=>rfl
theorem qa8:(Tryz.prog.info? 44).bind (·.size)=some 5:=by kernel_rfl
set_option maxHeartbeats 8000000 in
theorem rread_any (s:Bs) (w:World) (hs:(s.length:Int)≤9223372036854775807):Calls Tryz.prog 27 #[.string (bs s)] w (RrPost s w):=by
 have hu:=Tryz.underlying44;obtain ⟨n,hn⟩:=eX (s.length);have hsz:((bs s).size:Int)=(n:Int):=by rw [qay,hn]
 have HN:=zY hn;obtain ⟨W0,hW0⟩:=eX (w.alloc (.cells (jvCells zJV) 44));have HB0:=zY (show Below w.heap.size w W0 by rw [hW0]; exact (Below.refl _ w).alloc (Nat.le_refl _) _);have HZ0:=zY (show Blk W0 w.heap.size 44 (jvCells zJV) by rw [hW0]; exact Blk.new _ _ _);have HW0:=zY hW0;have hn1:(n:Int)≤9223372036854775807:=by omega
 clear hW0 hn hs;go_enter Tryz.func27,Tryz.ntmps27
 go_upto_region 1 with (fail)
 rw [show w.alloc (.cells #[.int .i64 0,.int .i64 0,.string ⟨#[]⟩,.slice none 0 0,.slice none 0 0] 44)=W0 from HW0.out.symm];clear HW0
 by_cases hl:2000<n
 ·have hl':(2000:Int)<(n:Int):=by omega
  have HRK:=zY (show okO (readP s)=none by
   unfold readP;rw [if_pos (by rw [← HN.out]; exact hl)]
   rfl)
  clear hl;go_wp2_with (refine qac (x:=.tmp 2) (cells:=jvCells zJV) HZ0.out rfl rfl rfl rfl qa8 rfl (qae _) ?_; intro w5 hb5 hw5);refine bodyPost_ret (qai (P:=Tryz.prog) rfl rfl hb5 hu rfl qa8) rfl ?_;exact ⟨zJV,4,rfl,hw5.below HB0.out (Nat.le_refl _) HB0.out.size,.inr ⟨by decide,HRK.out,rfl⟩⟩
 ·have hl':¬ (2000:Int)<(n:Int):=by omega
  have HNL:=zY (show ¬ 2000<s.length by rw [← HN.out]; exact hl);have HNS:=zY (show ((bs s).size:Int)≤1000000 by omega);obtain ⟨S,hS⟩:=eX (bs s);rw [← hS] at hsz HNS ⊢;have HSD:=zY (show S.data.toList=s by rw [hS]; rfl);have HSZ:=zY (show S.size=s.length by rw [hS,qay]);obtain ⟨r,hr⟩:=eX (W0.heap.size);obtain ⟨W1,hW1⟩:=eX (W0.alloc (.cells #[.string S,.int .i64 0,.int .i64 0] 88));have hb1:Below W0.heap.size W0 W1:=by rw [hW1]; exact (Below.refl _ _).alloc (Nat.le_refl _) _
  have HQ1:=zY (show RQ W1 r S 0 0 by rw [hW1,hr]; exact Blk.new _ _ _);have HB1:=zY (HB0.out.trans (hb1.mono HB0.out.size));have HZ1:=zY (HZ0.out.below hb1 HZ0.out.lt);have HW1:=zY hW1;have HRG:=zY (show w.heap.size<r by rw [hr]; exact HZ0.out.lt);have CV:=zY (rvalue_any 6 (by decide) S HNS.out r 0 (Nat.zero_le _) W1 HQ1.out 1 (by decide));clear hl hS hb1 hW1
  go_upto_region 4 with (fail)
  rw [← hr,show W0.alloc (.cells #[.string S,.int .i64 0,.int .i64 0] 88)=W1 from HW1.out.symm];clear HW1 hr;go_wp2_with fail;refine qaa CV.out ?_;rintro e w2 ⟨v,rfl,b2,e2,h2,hq2,hg2,hv2⟩;have HQ2:=zY hq2;have HG2:=zY hg2;have HV2:=zY hv2;have HB2:=zY h2;have HZ2:=zY (show Blk w2 w.heap.size 44 (jvCells zJV) from HZ1.out.grown hg2 (by have:=HRG.out; intro h; injection h with h; omega));have HBL2:=zY (show Below w.heap.size w w2 from HB1.out.grown hg2 HB1.out.size (fun k hk=>by injection hk with hk; have:=HRG.out; omega));clear h2 hq2 hg2 hv2 CV
  go_upto_region 5 with (refine qac (cells:=jvCells v) (Blk.new _ _ _) rfl rfl rfl rfl qa8 rfl (qae _) ?_; intro w3 hb3 hw3)
  obtain ⟨H5,hH5⟩:=eX (w2.heap.size);have hbw3:Below w2.heap.size w2 w3:=qaz hw3;rw [← hH5] at hb3 ⊢;have HV3:=zY hb3;have HQ3:=zY (HQ2.out.grow hbw3);have HZ3:=zY (HZ2.out.below hbw3 HZ2.out.lt);have HBL3:=zY (HBL2.out.trans (hbw3.mono HBL2.out.size));have HRL:=zY (show r<H5 by rw [hH5]; exact Blk.lt HQ2.out)
  have HJ3:=zY (fun (j:JT) (h:JRep w2 (fun b=>W1.heap.size≤b) j v)=>show JRep w3 (fun b=>r<b) j v from (h.heap fun b hb _=>hbw3.block b hb).imp fun b _ hb=>by
   have h1:r<W1.heap.size:=Blk.lt HQ1.out
   omega)
  clear hbw3 hb3 hw3 hH5;have CG:=zY (rgap_any S r b2 e2 HB2.out HNS.out w3 HQ3.out);go_wp2_with fail;refine qaa CG.out ?_;rintro y w4 ⟨rfl,b4,h1,h2,h3,hq,hg⟩;have HQ4:=zY hq;have HV4:=zY (HV3.out.grown hg (by have:=HRL.out; intro h; injection h with h; omega));have HZ4:=zY (show Blk w4 w.heap.size 44 (jvCells zJV) from HZ3.out.grown hg (by have:=HRG.out; intro h; injection h with h; omega));have HBL4:=zY (show Below w.heap.size w w4 from HBL3.out.grown hg HBL3.out.size (fun k hk=>by injection hk with hk; have:=HRG.out; omega));have HJ4:=zY (fun (j:JT) (h:JRep w2 (fun b=>W1.heap.size≤b) j v)=>show JRep w4 (fun b=>r<b) j v from (HJ3.out j h).grown hg fun b hb he=>by injection he with he; omega);have HB4:=zY h2;have HD4:=zY h3;clear hq hg h1 h2 h3 CG;obtain ⟨d0,d1,d2⟩:=HQ4.out.cells;have HE13:=zY (qdb 13 S r b4 e2 w4 HQ4.out)
  have HER:=zY (fun (k:Int) (u u5:World) (hk:k≠0) (hno:okO (readP s)=none) (hb:Below w.heap.size w u) (hw5:Wrote w.heap.size u u5)=>show RrPost s w (.returned (.tuple #[.agg (jvCells zJV),.int .i64 k])) u5 from
   ⟨zJV,k,rfl,hw5.below hb (Nat.le_refl _) hb.size,.inr ⟨hk,hno,rfl⟩⟩)
  rcases HV2.out with ⟨rfl,j,r',hv,hsk,hj⟩ | ⟨he,hno⟩
  case inl =>
   rw [show S.data.toList.drop 0=s by rw [HSD.out]; rfl] at hv;have hD:S.data.toList.drop b4=r':=by rw [HD4.out,hsk]
   by_cases hend:b4<S.size
   ·have hr0:r'≠[]:=by
     rw [← hD];intro h;have h1:=congrArg List.length h;rw [List.length_drop] at h1;have h5:S.data.toList.length=S.size:=rfl;simp at h1;omega
    have HNO:=zY (readP_more hv hr0)
    have hend2:b4<n:=by
     have h1:=HSZ.out;have h2:=HN.out;omega
    have hend3:(b4:Int)<(n:Int):=by omega
    clear hv hsk hj hD hr0 hend;go_wp2_with fail;refine qaa HE13.out ?_;rintro y w5 ⟨rfl,hq,hg⟩;have HQ5:=zY (show RQ w5 r S b4 13 from hq);have HZ5:=zY (show Blk w5 w.heap.size 44 (jvCells zJV) from HZ4.out.grown hg (by have:=HRG.out; intro h; injection h with h; omega));have HBL5:=zY (show Below w.heap.size w w5 from HBL4.out.grown hg HBL4.out.size (fun k hk=>by injection hk with hk; have:=HRG.out; omega));clear hq hg d0 d1 d2;obtain ⟨d0,d1,d2⟩:=HQ5.out.cells;go_wp2_with fail;have HC0:RQ w5.drew r S b4 13∧Blk w5.drew w.heap.size 44 (jvCells zJV)∧Below w.heap.size w w5.drew:=⟨HQ5.out,HZ5.out,HBL5.out.drew⟩;refine qam (fun u=>RQ u r S b4 13∧Blk u w.heap.size 44 (jvCells zJV)∧Below w.heap.size w u) (by kernel_rfl) (by kernel_rfl) HC0 ?_
    iterate 7
     first
     | (apply SeqL.store; rfl; rfl; rfl; (intro w1 hC1 E hE; obtain ⟨d0,d1,d2⟩:=hC1.1.cells; first | (go_wp2_with (refine qac (x:=.tmp 2) (cells:=jvCells zJV) hC1.2.1 rfl rfl rfl rfl qa8 rfl (qae _) ?_; intro w6 hb6 hw6); exact .mk (hE w6 ⟨hw6.blk hC1.1 (by have:=HRG.out; omega),hb6,hw6.below hC1.2.2 (Nat.le_refl _) hC1.2.2.size⟩)) | (go_wp2; exact .mk (hE _ hC1))))
     | ((first | (apply SeqL.next; rfl; rfl)); (simp only [sP]; rfl); (intro w1 hC1 E hE; obtain ⟨d0,d1,d2⟩:=hC1.1.cells; first | (go_wp2_with (refine qac (x:=.tmp 2) (cells:=jvCells zJV) hC1.2.1 rfl rfl rfl rfl qa8 rfl (qae _) ?_; intro w6 hb6 hw6); exact .mk (hE w6 ⟨hw6.blk hC1.1 (by have:=HRG.out; omega),hb6,hw6.below hC1.2.2 (Nat.le_refl _) hC1.2.2.size⟩)) | (go_wp2; exact .mk (hE _ hC1))))
    refine SeqL.nil ?_;intro w1 hC1;go_wp2_with fail;refine bodyPost_ret (qai (P:=Tryz.prog) rfl rfl hC1.2.1 hu rfl qa8) rfl ?_;exact ⟨zJV,13,rfl,hC1.2.2,.inr ⟨by decide,HNO.out,rfl⟩⟩
   ·have HNO:=zY (show readP s=.ok j from readP_ok HNL.out (by
     rw [hv]
     have:r'=[]:=by
      rw [← hD];exact List.drop_eq_nil_of_le (by have h5:S.data.toList.length=S.size:=rfl; omega)
     rw [this]))
    have HJ:=zY (HJ4.out j hj)
    have hend2:¬ b4<n:=by
     have h1:=HSZ.out;have h2:=HN.out;omega
    have hend3:¬ (b4:Int)<(n:Int):=by omega
    clear hv hsk hj hD hend
    go_wp2_with (first
     | refine qad (x:=.tmp 5) HV4.out rfl rfl rfl hu rfl qa8 ?_
     | (refine qac (x:=.tmp 2) (cells:=jvCells v) HZ4.out rfl rfl rfl rfl qa8 rfl (qae _) ?_; intro w9 hb9 hw9))
    refine bodyPost_ret (qai (P:=Tryz.prog) rfl rfl hb9 hu rfl qa8) rfl ?_;exact ⟨v,0,rfl,hw9.below HBL4.out (Nat.le_refl _) HBL4.out.size,.inl ⟨rfl,j,HNO.out,(HJ.out.heap fun b hb1 hb=>hw9.grown.block b hb1 (by intro h; injection h with h; have:=HRG.out; omega)).imp fun b _ hb=>by have:=HRG.out; omega⟩⟩
  case inr =>
   have HE:=zY he;have HNO:=zY (readP_none (s:=s) (by rw [show S.data.toList.drop 0=s by rw [HSD.out]; rfl] at hno; exact hno));have he1:(e2 == 0)=false:=by simpa using he
   have he2:(e2 != 0)=true:=by simpa using he
   clear he hno;go_wp2_with fail;have HC0:RQ w4.drew r S b4 e2∧Blk w4.drew w.heap.size 44 (jvCells zJV)∧Below w.heap.size w w4.drew:=⟨HQ4.out,HZ4.out,HBL4.out.drew⟩;refine qam (fun u=>RQ u r S b4 e2∧Blk u w.heap.size 44 (jvCells zJV)∧Below w.heap.size w u) (by kernel_rfl) (by kernel_rfl) HC0 ?_
   iterate 7
    first
    | (apply SeqL.store; rfl; rfl; rfl; (intro w1 hC1 E hE; obtain ⟨d0,d1,d2⟩:=hC1.1.cells; first | (go_wp2_with (refine qac (x:=.tmp 2) (cells:=jvCells zJV) hC1.2.1 rfl rfl rfl rfl qa8 rfl (qae _) ?_; intro w6 hb6 hw6); exact .mk (hE w6 ⟨hw6.blk hC1.1 (by have:=HRG.out; omega),hb6,hw6.below hC1.2.2 (Nat.le_refl _) hC1.2.2.size⟩)) | (go_wp2; exact .mk (hE _ hC1))))
    | ((first | (apply SeqL.next; rfl; rfl)); (simp only [sP]; rfl); (intro w1 hC1 E hE; obtain ⟨d0,d1,d2⟩:=hC1.1.cells; first | (go_wp2_with (refine qac (x:=.tmp 2) (cells:=jvCells zJV) hC1.2.1 rfl rfl rfl rfl qa8 rfl (qae _) ?_; intro w6 hb6 hw6); exact .mk (hE w6 ⟨hw6.blk hC1.1 (by have:=HRG.out; omega),hb6,hw6.below hC1.2.2 (Nat.le_refl _) hC1.2.2.size⟩)) | (go_wp2; exact .mk (hE _ hC1))))
   refine SeqL.nil ?_;intro w1 hC1;go_wp2_with fail;refine bodyPost_ret (qai (P:=Tryz.prog) rfl rfl hC1.2.1 hu rfl qa8) rfl ?_;exact ⟨zJV,e2,rfl,hC1.2.2,.inr ⟨HE.out,HNO.out,rfl⟩⟩
def namK:JT→Prop | .mk k _ _ ns _=>k=5∨ns=[]
theorem OkJ.nam {M:Nat} {j:JT} (h:OkJ M j):namK j:=by
 obtain ⟨k,n,t,ns,ks⟩:=j;obtain ⟨⟨d,hr⟩,_,_⟩:=h;unfold rightV at hr;simp only [Bool.and_eq_true] at hr;have hp:=hr.1.1.1.1.1.1.1.1;unfold plainJ at hp;simp only [Bool.and_eq_true,Bool.or_eq_true,beq_iff_eq,List.isEmpty_iff] at hp;exact hp.1.2.symm
theorem getJ_at {k n:Int} {t x:Bs} {ns:List Bs} {ks:List JT} (h:namK (.mk k n t ns ks)):getJ (.mk k n t ns ks) x=atJ ns ks x:=by
 show (if k=5 then atJ ns ks x else zJT)=atJ ns ks x
 rcases h with h | h
 ·rw [if_pos h]
 ·subst h;rw [show atJ [] ks x=zJT by cases ks <;> rfl]
  split <;> rfl
theorem atJ_past:∀ (ns:List Bs) (ks:List JT) (x:Bs),x ∉ ns.take ks.length→atJ ns ks x=zJT
 | [],ks,x,_=>by cases ks <;> rfl
 | n :: ns,[],x,_=>rfl
 | n :: ns,k :: ks,x,h=>by
  rw [List.length_cons,List.take_succ_cons] at h;rw [atJ,if_neg (fun e=>h (by rw [← e]; exact List.mem_cons_self)),atJ_past ns ks x (fun e=>h (List.mem_cons_of_mem _ e))]
theorem rat_any (j:JT) (v:JV) (x:Bs) (S:Nat→Prop) (w:World) (hj:JRep w S j v) (hn:v.nn≤1000000) (hk:v.kn≤1000000) (hnk:namK j) :
  Calls Tryz.prog 28 #[.agg (jvCells v),.string (bs x)] w fun e w'=>∃ v':JV,e=.returned (.agg (jvCells v'))∧JRep w' S (getJ j x) v'∧Below w.heap.size w w':=by
 have hu:=Tryz.underlying44;obtain ⟨ns,ks,kv,rfl,h1,h1c,hrn,h2,h2c,hkv,hrk,hkids⟩:=hj.inv;obtain ⟨W1,hW1⟩:=eX ((w.alloc (.cells (jvCells v) 44)).alloc (.cells (jvCells zJV) 44));have hb1:Below w.heap.size w W1:=by rw [hW1]; exact ((Below.refl _ w).alloc (Nat.le_refl _) _).alloc (by simp) _
 have HB1:=zY hb1;have HK1:=zY (show Blk W1 w.heap.size 44 (jvCells v) by rw [hW1]; exact (Blk.new _ _ _).alloc _);have HZ1:=zY (show Blk W1 (w.heap.size+1) 44 (jvCells zJV) by rw [hW1]; have:=Blk.new (w.alloc (.cells (jvCells v) 44)) 44 (jvCells zJV); simpa using this);have HW1:=zY hW1;have HRN:=zY ((hrn.rd (B:=w.heap.size) fun b hb _=>hb).below hb1);have HKN:=zY (fun (u:World) (h:Below w.heap.size w u)=>show ∀ (i:Nat) (hi:i<ks.length) (hi':i<kv.length),JRep u S ks[i] kv[i] from fun i hi hi'=>(hkids i hi hi').heap fun b hb _=>h.block b hb);have HRK:=zY (hrk.heap (w':=W1) fun b hb _=>hb1.block b hb);have HG:=zY (getJ_at (x:=x) hnk);have a3:W1.cell? ⟨w.heap.size,3,none⟩=some (.slice v.nA v.nn v.nc):=HK1.out.cell 3;have a4:W1.cell? ⟨w.heap.size,4,none⟩=some (.slice v.kA v.kn v.kc):=HK1.out.cell 4;obtain ⟨nA,hnA⟩:=eX (v.nA);obtain ⟨kA,hkA⟩:=eX (v.kA);obtain ⟨nn,hnn⟩:=eX (v.nn);obtain ⟨kn,hkn⟩:=eX (v.kn);rw [← hnA,← hnn] at a3;rw [← hkA,← hkn] at a4;rw [← hnA] at HRN;rw [← hkA] at HRK;rw [← hnn] at h1 hn;rw [← hkn] at h2 hk;have HKV:=zY hkv;have H1:=zY h1;have H2:=zY h2;have hn9:(nn:Int)≤1000000:=by omega
 have hk9:(kn:Int)≤1000000:=by omega
 clear hW1 hb1 hj hrn hrk hkids hnk hnA hkA hnn hkn h1 h1c h2c hn hk h2 hkv;go_enter Tryz.func28,Tryz.ntmps28
 go_upto_region 1 with (fail)
 rw [show ((w.alloc (.cells (jvCells v) 44)).alloc (.cells #[.int .i64 0,.int .i64 0,.string ⟨#[]⟩,.slice none 0 0,.slice none 0 0] 44))=W1 from HW1.out.symm];generalize Value.agg (jvCells v)=AV;go_wp2_with fail
 go_loopw [5] (fun y wr=>∃ q:Nat,y=.int .i64 (q:Int)∧q≤nn∧q≤kn∧x ∉ ns.take q∧wr=W1) (fun y _=>nn - (intOf y).toNat)
 case atStart=>exact ⟨0,rfl,Nat.zero_le _,Nat.zero_le _,by simp,rfl⟩
 case round =>
  obtain ⟨q,rfl,hqn,hqk,hno,rfl⟩:=hrel;have HNO:=zY hno;have HQN:=zY hqn;have HQK:=zY hqk;clear hno
  by_cases hgo:q<nn∧q<kn
  ·obtain ⟨hg1,hg2⟩:=hgo;have hg3:(q:Int)<(nn:Int):=by omega
   have hg4:(q:Int)<(kn:Int):=by omega
   have hql:q<ns.length:=by rw [← H1.out]; exact hg1
   have hkl:q<ks.length:=by rw [← H2.out]; exact hg2
   have hkvl:q<kv.length:=by rw [HKV.out]; exact hkl
   obtain ⟨ad,hA,-,hcell⟩:=qaO (f:=sCell) (m:=1) (fun _=>rfl) (by decide) HRN.out hql;obtain ⟨ak,hAk,-,hcell2⟩:=qaO (f:=jvCells) (m:=5) (fun _=>rfl) (by decide) (HRK.out.rd (B:=wr.heap.size) fun b hb _=>hb) hkvl;subst hA;subst hAk
   have dx:wr.cell? (ad.add q)=some (.string (bs ns[q])):=by
    have h:=hcell 0 _ rfl;rw [Nat.mul_one] at h;exact h
   obtain ⟨n1,hn1⟩:=eX (ns[q]);rw [← hn1] at dx
   by_cases hx:n1=x
   ·have hqq:((bs n1).toList == (bs x).toList)=true:=by rw [hx]; simp
    have HAT:=zY (show getJ (.mk v.k v.n v.t ns ks) x=ks[q] by rw [HG.out,atJ_hit q ns ks x hql (hn1.symm.trans hx) HNO.out,dif_pos hkl]);have HJR:=zY (fun (u:World) (h:Below w.heap.size w u)=>show JRep u S ks[q] kv[q] from HKN.out u h q hkl hkvl);obtain ⟨Y,hY⟩:=eX (kv[q]);obtain ⟨KX,hKX⟩:=eX (ks[q]);rw [← hY] at hcell2 HJR;rw [← hKX] at HAT HJR;have HCL:=zY (show ∀ j u,(jvCells Y).toList[j]?=some u→wr.cell? ((ak.add (q*5)).add j)=some u from fun j u hu=>hcell2 j u (by simpa using hu));clear hcell hcell2 hn1 hx hY hKX hql hkl hkvl
    go_wp2_with (first
     | refine qaA (r:=(jvCells Y).toList) HCL.out rfl rfl rfl hu rfl qal ?_
     | (refine qac (x:=.tmp 4) (cells:=jvCells Y) HZ1.out rfl rfl rfl rfl qal rfl (qae _) ?_; intro w5 hb5 hw5))
    refine bodyPost_ret (qah (P:=Tryz.prog) rfl rfl hb5 hu rfl qal) rfl ?_;exact ⟨Y,rfl,by rw [HAT.out]; exact HJR.out w5 (hw5.below HB1.out (by omega) HB1.out.size),hw5.below HB1.out (by omega) HB1.out.size⟩
   ·have hqq:((bs n1).toList == (bs x).toList)=false:=by
     rw [qbl,qbl]
     simpa using hx
    have HNX:=zY (show x ∉ ns.take (q+1) by
     rw [List.take_succ_eq_append_getElem hql,← hn1,List.mem_append,List.mem_singleton];rintro (h | h)
     ·exact HNO.out h
     ·exact hx h.symm)
    have HG1:=zY hg1;have HG2:=zY hg2;clear hcell hcell2 hn1 hx hql hkl hkvl hg1 hg2;go_wp2_with fail
    go_roundw
    case measure=>have:=HG1.out; simp [intOf]; omega
    case rel=>exact ⟨q+1,rfl,HG1.out,HG2.out,HNX.out,trivial⟩
  ·have HAT:=zY (show getJ (.mk v.k v.n v.t ns ks) x=zJT by
    rw [HG.out]
    by_cases h:q<nn
    ·refine atJ_past ns ks x ?_;rw [← H2.out,show kn=q by omega];exact HNO.out
    ·refine atJ_no ns ks x ?_;have:=HNO.out
     rwa [show q=nn by omega,H1.out,List.take_length] at this)
   have hcs:¬ q<nn∨(q<nn∧¬ q<kn):=by omega
   clear hgo
   rcases hcs with hg1 | ⟨hg1,hg2⟩
   ·have hg3:¬ (q:Int)<(nn:Int):=by omega
    go_wp2_with (refine qac (x:=.tmp 4) (cells:=jvCells zJV) HZ1.out rfl rfl rfl rfl qal rfl (qae _) ?_; intro w5 hb5 hw5);refine bodyPost_ret (qah (P:=Tryz.prog) rfl rfl hb5 hu rfl qal) rfl ?_;exact ⟨zJV,rfl,by rw [HAT.out]; exact zrep _ _,hw5.below HB1.out (by omega) HB1.out.size⟩
   ·have hg3:(q:Int)<(nn:Int):=by omega
    have hg4:¬ (q:Int)<(kn:Int):=by omega
    go_wp2_with (refine qac (x:=.tmp 4) (cells:=jvCells zJV) HZ1.out rfl rfl rfl rfl qal rfl (qae _) ?_; intro w5 hb5 hw5);refine bodyPost_ret (qah (P:=Tryz.prog) rfl rfl hb5 hu rfl qal) rfl ?_;exact ⟨zJV,rfl,by rw [HAT.out]; exact zrep _ _,hw5.below HB1.out (by omega) HB1.out.size⟩
def valueI (z:Int):Int:=if 65≤z∧z≤90 then z - 65 else if 97≤z∧z≤122 then z - 97+26 else if 48≤z∧z≤57 then z - 48+52 else if z=45 then 62 else if z=95 then 63 else -1
theorem qdm (z:Int) (h0:0≤z) (h1:z≤255) (w:World):Calls Tryz.prog 50 #[.int .u8 z] w fun e w'=>e=.returned (.int .i64 (valueI z))∧w'=w:=by
 have hc:(0≤z∧z≤44)∨(45≤z∧z≤45)∨(46≤z∧z≤47)∨(48≤z∧z≤57)∨(58≤z∧z≤64)∨(65≤z∧z≤90)∨(91≤z∧z≤94)∨(95≤z∧z≤95)∨(96≤z∧z≤96)∨(97≤z∧z≤122)∨(123≤z∧z≤255):=by omega
 rcases hc with ⟨l,h⟩ | ⟨l,h⟩ | ⟨l,h⟩ | ⟨l,h⟩ | ⟨l,h⟩ | ⟨l,h⟩ | ⟨l,h⟩ | ⟨l,h⟩ | ⟨l,h⟩ | ⟨l,h⟩ | ⟨l,h⟩
 ·clear h0 h1;have HV:=zY (show valueI z=-1 by unfold valueI; repeat (first | rw [if_pos (by omega)] | rw [if_neg (by omega)]));have:¬ 65≤z:=by omega
  have:z≤90:=by omega
  have:¬ 97≤z:=by omega
  have:z≤122:=by omega
  have:¬ 48≤z:=by omega
  have:z≤57:=by omega
  have:(z == 45)=false:=by simp; omega
  have:(z == 95)=false:=by simp; omega
  go_enter Tryz.func50,Tryz.ntmps50;go_wp2_with fail;go_ret;exact ⟨by rw [HV.out]; rfl,rfl⟩
 ·clear h0 h1;have HV:=zY (show valueI z=62 by unfold valueI; repeat (first | rw [if_pos (by omega)] | rw [if_neg (by omega)]));obtain rfl:z=45:=by omega
  go_enter Tryz.func50,Tryz.ntmps50;go_wp2_with fail;go_ret;exact ⟨by rw [HV.out]; rfl,rfl⟩
 ·clear h0 h1;have HV:=zY (show valueI z=-1 by unfold valueI; repeat (first | rw [if_pos (by omega)] | rw [if_neg (by omega)]));have:¬ 65≤z:=by omega
  have:z≤90:=by omega
  have:¬ 97≤z:=by omega
  have:z≤122:=by omega
  have:¬ 48≤z:=by omega
  have:z≤57:=by omega
  have:(z == 45)=false:=by simp; omega
  have:(z == 95)=false:=by simp; omega
  go_enter Tryz.func50,Tryz.ntmps50;go_wp2_with fail;go_ret;exact ⟨by rw [HV.out]; rfl,rfl⟩
 ·clear h0 h1;have HV:=zY (show valueI z=z - 48+52 by unfold valueI; repeat (first | rw [if_pos (by omega)] | rw [if_neg (by omega)]));have:¬ 65≤z:=by omega
  have:z≤90:=by omega
  have:¬ 97≤z:=by omega
  have:z≤122:=by omega
  have:48≤z:=by omega
  have:z≤57:=by omega
  have:(z == 45)=false:=by simp; omega
  have:(z == 95)=false:=by simp; omega
  go_enter Tryz.func50,Tryz.ntmps50;go_wp2_with fail;go_ret;exact ⟨by rw [HV.out]; rfl,rfl⟩
 ·clear h0 h1;have HV:=zY (show valueI z=-1 by unfold valueI; repeat (first | rw [if_pos (by omega)] | rw [if_neg (by omega)]));have:¬ 65≤z:=by omega
  have:z≤90:=by omega
  have:¬ 97≤z:=by omega
  have:z≤122:=by omega
  have:48≤z:=by omega
  have:¬ z≤57:=by omega
  have:(z == 45)=false:=by simp; omega
  have:(z == 95)=false:=by simp; omega
  go_enter Tryz.func50,Tryz.ntmps50;go_wp2_with fail;go_ret;exact ⟨by rw [HV.out]; rfl,rfl⟩
 ·clear h0 h1;have HV:=zY (show valueI z=z - 65 by unfold valueI; repeat (first | rw [if_pos (by omega)] | rw [if_neg (by omega)]));have:65≤z:=by omega
  have:z≤90:=by omega
  have:¬ 97≤z:=by omega
  have:z≤122:=by omega
  have:48≤z:=by omega
  have:¬ z≤57:=by omega
  have:(z == 45)=false:=by simp; omega
  have:(z == 95)=false:=by simp; omega
  go_enter Tryz.func50,Tryz.ntmps50;go_wp2_with fail;go_ret;exact ⟨by rw [HV.out]; rfl,rfl⟩
 ·clear h0 h1;have HV:=zY (show valueI z=-1 by unfold valueI; repeat (first | rw [if_pos (by omega)] | rw [if_neg (by omega)]));have:65≤z:=by omega
  have:¬ z≤90:=by omega
  have:¬ 97≤z:=by omega
  have:z≤122:=by omega
  have:48≤z:=by omega
  have:¬ z≤57:=by omega
  have:(z == 45)=false:=by simp; omega
  have:(z == 95)=false:=by simp; omega
  go_enter Tryz.func50,Tryz.ntmps50;go_wp2_with fail;go_ret;exact ⟨by rw [HV.out]; rfl,rfl⟩
 ·clear h0 h1;have HV:=zY (show valueI z=63 by unfold valueI; repeat (first | rw [if_pos (by omega)] | rw [if_neg (by omega)]));obtain rfl:z=95:=by omega
  go_enter Tryz.func50,Tryz.ntmps50;go_wp2_with fail;go_ret;exact ⟨by rw [HV.out]; rfl,rfl⟩
 ·clear h0 h1;have HV:=zY (show valueI z=-1 by unfold valueI; repeat (first | rw [if_pos (by omega)] | rw [if_neg (by omega)]));obtain rfl:z=96:=by omega
  go_enter Tryz.func50,Tryz.ntmps50;go_wp2_with fail;go_ret;exact ⟨by rw [HV.out]; rfl,rfl⟩
 ·clear h0 h1;have HV:=zY (show valueI z=z - 97+26 by unfold valueI; repeat (first | rw [if_pos (by omega)] | rw [if_neg (by omega)]));have:65≤z:=by omega
  have:¬ z≤90:=by omega
  have:97≤z:=by omega
  have:z≤122:=by omega
  have:48≤z:=by omega
  have:¬ z≤57:=by omega
  have:(z == 45)=false:=by simp; omega
  have:(z == 95)=false:=by simp; omega
  go_enter Tryz.func50,Tryz.ntmps50;go_wp2_with fail;go_ret;exact ⟨by rw [HV.out]; rfl,rfl⟩
 ·clear h0 h1;have HV:=zY (show valueI z=-1 by unfold valueI; repeat (first | rw [if_pos (by omega)] | rw [if_neg (by omega)]));have:65≤z:=by omega
  have:¬ z≤90:=by omega
  have:97≤z:=by omega
  have:¬ z≤122:=by omega
  have:48≤z:=by omega
  have:¬ z≤57:=by omega
  have:(z == 45)=false:=by simp; omega
  have:(z == 95)=false:=by simp; omega
  go_enter Tryz.func50,Tryz.ntmps50;go_wp2_with fail;go_ret;exact ⟨by rw [HV.out]; rfl,rfl⟩
def bitL:Nat→Nat→List Nat
 | 0,_=>[]
 | m+1,n=>bitL m (n/2)++[n%2]
def numL (l:List Nat):Nat:=l.foldl (fun n b=>2*n+b) 0
def intsV (l:List Nat):List Value:=l.map fun n=>.int .i64 ((n:Nat):Int)
theorem qbN (l:List Nat):(intsV l).length=l.length:=by simp [intsV]
theorem qb4 (l r:List Nat):intsV (l++r)=intsV l++intsV r:=by simp [intsV]
theorem qa5:∀ m n:Nat,(bitL m n).length=m
 | 0,_=>rfl
 | m+1,n=>by simp [bitL,qa5 m]
theorem bitL_le:∀ m n:Nat,∀ b ∈ bitL m n,b≤1
 | 0,_,b,h=>by cases h
 | m+1,n,b,h=>by
  rcases List.mem_append.1 h with h | h
  ·exact bitL_le m _ b h
  ·have:b=n%2:=by simpa using h
   omega
theorem qdH (l:List Nat) (b:Nat):numL (l++[b])=2*numL l+b:=by simp [numL]
theorem fold_lt:∀ (l:List Nat) (a:Nat),(∀ b ∈ l,b≤1)→l.foldl (fun n b=>2*n+b) a<(a+1)*2^l.length
 | [],a,_=>by simp
 | b :: r,a,h=>by
  have h1:=fold_lt r (2*a+b) (fun x hx=>h x (List.mem_cons_of_mem _ hx));have h2:=h b List.mem_cons_self;rw [List.foldl_cons,List.length_cons,Nat.pow_succ];have h3:(2*a+b+1)*2^r.length≤(2*(a+1))*2^r.length:=Nat.mul_le_mul_right _ (by omega);rw [show (a+1)*(2^r.length*2)=(2*(a+1))*2^r.length by rw [Nat.mul_comm (2^r.length) 2,← Nat.mul_assoc,Nat.mul_comm (a+1) 2]];omega
theorem numL_lt (l:List Nat) (h:∀ b ∈ l,b≤1):numL l<2^l.length:=by
 have:=fold_lt l 0 h
 simpa [numL] using this
theorem qcB:∀ (m n:Nat),n<2^m→numL (bitL m n)=n
 | 0,n,h=>by simp [bitL,numL] at h ⊢; omega
 | m+1,n,h=>by
  rw [bitL,qdH,qcB m (n/2) (by rw [Nat.pow_succ] at h; omega)];omega
theorem letter64_any (n:Nat) (hn:n<64) (w:World):Calls Tryz.prog 45 #[.int .i64 (n:Int)] w fun e w'=>e=.returned (byteV (ltr n))∧w'=w:=by
 have key:∀ (x:Fin 64) (c:Fin 128),(valueI ((c.1:Nat):Int)=((x.1:Nat):Int))↔c.1=(ltr x.1).toNat:=by decide +kernel
 have hlt:(ltr n).toNat<128:=by
  have k2:∀ x:Fin 64,(ltr x.1).toNat<128:=by decide +kernel
  exact k2 ⟨n,hn⟩
 obtain ⟨t,ht⟩:=eX ((ltr n).toNat);have HV:=zY (fun (c:Nat) (hc:c<128)=>show (valueI ((c:Nat):Int)=(n:Int))↔c=t by rw [ht]; exact key ⟨n,hn⟩ ⟨c,hc⟩);have HC:=zY (fun (c:Nat) (hc:c<128)=>qdm ((c:Nat):Int) (by omega) (by omega) w);have hb:byteV (ltr n)=.int .u8 ((t:Nat):Int):=by rw [ht]; rfl
 rw [hb];rw [← ht] at hlt;have HT:=zY hlt;clear ht hb hlt key;go_enter Tryz.func45,Tryz.ntmps45;go_wp2_with fail
 go_loop [3] (fun i=>∃ k:Nat,k≤t∧i=.int .i64 (k:Int)) (fun i=>128 - (intOf i).toNat)
 case atStart=>exact ⟨0,Nat.zero_le _,rfl⟩
 case round =>
  obtain ⟨k,hk,rfl⟩:=hrel;have hk':(k:Int)<128:=by have:=HT.out; omega
  have hkn:k<128:=by omega
  have CK:=zY (HC.out k hkn);have HVK:=zY (HV.out k hkn);obtain ⟨v,hv⟩:=eX (valueI ((k:Nat):Int));rw [← hv] at CK HVK;clear hv hkn
  by_cases he:k=t
  ·have hvn:v=(n:Int):=HVK.out.2 he;have hq:(v == (n:Int))=true:=by simpa using hvn
   subst he;clear hvn;go_wp2_with fail;refine qaa CK.out ?_;rintro e w' ⟨rfl,rfl⟩;go_wp2_with fail;go_ret;exact ⟨rfl,rfl⟩
  ·have hvn:¬ v=(n:Int):=fun h=>he (HVK.out.1 h);have hq:(v == (n:Int))=false:=by simpa using hvn
   have HLT:=zY (show k+1≤t by omega);clear hvn he;go_wp2_with fail;refine qaa CK.out ?_;rintro e w' ⟨rfl,rfl⟩;go_wp2_with fail
   go_round
   case rel=>exact ⟨k+1,HLT.out,by go_num⟩
   case measure=>have:=HLT.out; have:=HT.out; simp [intOf]; omega
theorem qc5 (l:List Nat) (hb:∀ b ∈ l,b≤1) (hl:l.length≤8) (A:Option Addr) (c B:Nat) (w:World) (hr:Rd w B A (intsV l)):Calls Tryz.prog 46 #[.slice A l.length c] w fun e w'=>e=.returned (.int .i64 ((numL l:Nat):Int))∧w'=w:=by
 obtain ⟨n,hn⟩:=eX (l.length);have HN:=zY hn;have HR:=zY hr;have HBT:=zY hb;have hn8:(n:Int)≤8:=by omega
 rw [← hn];clear hr hn hb hl;go_enter Tryz.func46,Tryz.ntmps46;go_wp2_with fail
 go_loop [3,4] (fun x i=>∃ k:Nat,k≤n∧i=.int .i64 (k:Int)∧x=.int .i64 ((numL (l.take k):Nat):Int)) (fun _ i=>n - (intOf i).toNat)
 case atStart=>exact ⟨0,Nat.zero_le _,rfl,by simp [numL]⟩
 case round =>
  obtain ⟨k,hk,rfl,rfl⟩:=hrel
  by_cases hlt:k<n
  ·have hks:k<l.length:=by rw [← HN.out]; exact hlt
   have hlt':(k:Int)<(n:Int):=by omega
   obtain ⟨ad,hA,-,hcell⟩:=HR.out.at_ (k:=k) (by rw [qbN]; exact hks);subst hA;obtain ⟨x,hx⟩:=eX (l[k]);rw [show (intsV l)[k]'(by rw [qbN]; exact hks)=.int .i64 ((x:Nat):Int) by simp [intsV,hx]] at hcell;have hx1:(x:Int)≤1:=by have:=HBT.out l[k] (List.getElem_mem hks); omega
   have hlt2:=numL_lt (l.take k) (fun b h=>HBT.out b (List.mem_of_mem_take h))
   have hp:2^(l.take k).length≤256:=by
    have:(2:Nat)^8=256:=rfl;rw [← this];exact Nat.pow_le_pow_right (by omega) (by rw [List.length_take]; omega)
   obtain ⟨y,hy⟩:=eX (numL (l.take k))
   have HST:=zY (show ((numL (l.take (k+1)):Nat):Int)=2*(y:Int)+(x:Int) by
    rw [List.take_succ_eq_append_getElem hks,qdH,hy,hx]
    omega)
   rw [← hy] at hlt2 ⊢;have hy1:(y:Int)≤256:=by omega
   have HLT:=zY hlt;clear hlt2 hp hy hx hlt;go_wp2_with fail
   go_round
   case rel=>exact ⟨k+1,HLT.out,by go_num,by rw [HST.out]⟩
   case measure=>have:=HLT.out; simp [intOf]; omega
  ·obtain rfl:k=n:=by omega
   have HE:=zY (show numL (l.take k)=numL l by rw [HN.out,List.take_length]);rw [HE.out];go_wp2_with fail;go_ret;exact ⟨rfl,rfl⟩
theorem set_bits (k:Nat) (T:List Nat) (x:Nat):((intsV (List.replicate (k+1) 0++T)).toArray).setIfInBounds k (.int .i64 ((x:Nat):Int))=(intsV (List.replicate k 0++(x :: T))).toArray:=by
 rw [List.setIfInBounds_toArray]
 congr 1
 rw [List.replicate_succ',List.append_assoc,qb4,List.set_append_right _ _ (by simp [intsV]),qb4];simp [intsV]
theorem bits64_any (m n:Nat) (hm:m=8∨m=6) (hn:n<256) (w:World):Calls Tryz.prog 44 #[.int .i64 (n:Int),.int .i64 (m:Int)] w fun e w'=>∃ g,e=.returned (.slice (some ⟨g,0,none⟩) m m)∧w.heap.size≤g∧Blk w' g 3 (intsV (bitL m n)).toArray∧Below w.heap.size w w':=by
 have hm8:(m:Int)≤8:=by omega
 have hmk:∀ u:World,(Instr.makeSlice 82 (.int .i64 (m:Int)) (.int .i64 (m:Int))).run Tryz.prog u=.ok (.slice (some ⟨u.heap.size,0,none⟩) m m) (u.alloc (.cells (intsV (List.replicate m 0)).toArray 3)):=by
  rcases hm with rfl | rfl
  ·intro u;show (Instr.makeSlice 82 (.int .i64 8) (.int .i64 8)).run Tryz.prog u=_
   kernel_rfl
  ·intro u;show (Instr.makeSlice 82 (.int .i64 6) (.int .i64 6)).run Tryz.prog u=_
   kernel_rfl
 have hn1:(n:Int)<256:=by omega
 have HNM:=zY hm;obtain ⟨W1,hW1⟩:=eX (w.alloc (.cells (intsV (List.replicate m 0)).toArray 3));have HB1:=zY (show Below w.heap.size w W1 by rw [hW1]; exact (Below.refl _ w).alloc (Nat.le_refl _) _);have HK1:=zY (show Blk W1 w.heap.size 3 (intsV (List.replicate m 0)).toArray by rw [hW1]; exact Blk.new _ _ _);have HW1:=zY hW1;clear hW1 hm;go_enter Tryz.func44,Tryz.ntmps44
 go_upto_region 2 with (fail)
 rw [← HW1.out];go_wp2_with fail
 go_loopw [6,0] (fun x y wr=>∃ (i q:Nat) (T:List Nat),x=.int .i64 ((i:Int) - 1)∧y=.int .i64 (q:Int)∧bitL m n=bitL i q++T∧T.length+i=m∧q<256∧Blk wr w.heap.size 3 (intsV (List.replicate i 0++T)).toArray∧Below w.heap.size w wr) (fun x _ _=>(intOf x+1).toNat)
 case atStart=>exact ⟨m,n,[],rfl,rfl,by simp,by simp,by omega,by rw [List.append_nil]; exact HK1.out,HB1.out⟩
 case round =>
  obtain ⟨i,q,T,rfl,rfl,hT,hTl,hq,hblk,hbel⟩:=hrel;have HBK:=zY hblk;have HBE:=zY hbel;have HTT:=zY hT;have HTL:=zY hTl;clear hblk hbel hT hTl
  cases i with
  | zero =>
   have h0:¬ (0:Int)≤((0:Nat):Int) - 1:=by omega
   have HE:=zY (show T=bitL m n by rw [HTT.out]; rfl);have hTm:T.length=m:=by have:=HTL.out; omega
   go_wp2_with fail;go_ret;refine ⟨_,rfl,Nat.le_refl _,?_,HBE.out⟩;have h:=HBK.out;rw [HE.out] at h
   simpa using h
  | succ k =>
   have h1:((k+1:Nat):Int) - 1=(k:Int):=by omega
   rw [h1];have hk8:(k:Int)<(m:Int):=by have:=HTL.out; omega
   have hq1:(q:Int)<256:=by omega
   have HQ:=zY hq;clear h1 hq;go_wp2_with (refine qaf (x:=.tmp 19) (i:=k) HBK.out rfl rfl rfl rfl (by kernel_rfl) (by simp [intsV]; omega) rfl ?_; intro w5 hb5 hw5);have HST:=zY (show bitL m n=bitL k (q/2)++(q%2 :: T) by rw [HTT.out,bitL,List.append_assoc]; rfl)
   have hb6:Blk w5 w.heap.size 3 (intsV (List.replicate k 0++(q%2 :: T))).toArray:=by
    rw [← set_bits];exact hb5
   have hqd:q/2<256:=by have:=HQ.out; omega
   exact ⟨⟨k,q/2,q%2 :: T,rfl,by rw [show ((q/2:Nat):Int)=(q:Int)/2 by omega],HST.out,by have:=HTL.out; simp; omega,hqd,hb6,hw5.below HBE.out (Nat.le_refl _) HBE.out.size⟩,by simp only [intOf]; omega⟩
end Go.Proofs.YtlkikjeccamheaaGreatDoor.Js
namespace Go.Proofs.YtlkikjeccamheaaGreatDoor.Js
set_option linter.unusedSimpArgs false
set_option linter.unusedVariables false
set_option maxRecDepth 100000
set_option maxHeartbeats 4000000
theorem bitL_app:∀ (b a x y:Nat),y<2^b→bitL a x++bitL b y=bitL (a+b) (x*2^b+y)
 | 0,a,x,y,h=>by
  have:y=0:=by simp at h; omega
  simp [bitL,this]
 | b+1,a,x,y,h=>by
  rw [Nat.pow_succ] at h;have ih:=bitL_app b a x (y/2) (by omega)
  have e1:(x*2^(b+1)+y)/2=x*2^b+y/2:=by
   rw [Nat.pow_succ,← Nat.mul_assoc];omega
  have e2:(x*2^(b+1)+y)%2=y%2:=by
   rw [Nat.pow_succ,← Nat.mul_assoc];omega
  rw [show a+(b+1)=(a+b)+1 by omega,bitL,bitL,← List.append_assoc,ih,e1,e2]
theorem bitL_split (a b V:Nat):bitL (a+b) V=bitL a (V/2^b)++bitL b (V%2^b):=by
 rw [bitL_app b a _ _ (Nat.mod_lt _ (Nat.pow_pos (by omega)))]
 congr 1
 rw [Nat.mul_comm];exact (Nat.div_add_mod V (2^b)).symm
theorem numL_zeros:∀ (p:Nat) (l:List Nat),numL (l++List.replicate p 0)=numL l*2^p
 | 0,l=>by simp
 | p+1,l=>by
  rw [List.replicate_succ',← List.append_assoc,qdH,numL_zeros p l,Nat.pow_succ,Nat.add_zero,Nat.mul_comm (2^p) 2,← Nat.mul_assoc,← Nat.mul_assoc,Nat.mul_comm 2]
def grpL:Nat→List Nat→Bs
 | 0,_=>[]
 | f+1,l=>ltr (numL (l.take 6)) :: grpL f (l.drop 6)
theorem grpL_succ:∀ (f:Nat) (l:List Nat),grpL (f+1) l=grpL f l++[ltr (numL ((l.drop (6*f)).take 6))]
 | 0,l=>by simp [grpL]
 | f+1,l=>by
  rw [grpL,grpL_succ f (l.drop 6),grpL,List.drop_drop,show 6+6*f=6*(f+1) by omega];rfl
def bitsB (b:Bs):List Nat:=b.flatMap fun c=>bitL 8 c.toNat
theorem qcN:∀ b:Bs,(bitsB b).length=8*b.length
 | []=>rfl
 | c :: r=>by
  rw [bitsB,List.flatMap_cons,List.length_append,qa5,List.length_cons];have:=qcN r;rw [bitsB] at this;omega
theorem grp_six {V f:Nat} {rest:List Nat} (h:V<64):grpL (f+1) (bitL 6 V++rest)=ltr V :: grpL f rest:=by
 rw [grpL,List.take_left' (qa5 6 V),List.drop_left' (qa5 6 V),qcB 6 V (by omega)]
theorem grp_enc:∀ (b:Bs) (m w f p:Nat),(m=0∨m=2∨m=4)→w<2^m→p<6→m+8*b.length+p=6*f→grpL f (bitL m w++(bitsB b++List.replicate p 0))=encS m w b
 | [],m,w,f,p,hm,hw,hp,hf=>by
  rw [encS];simp only [List.length_nil] at hf
  split
  ·rename_i h0
   have:f=0:=by omega
   subst this;rfl
  ·rename_i h0
   have e1:f=1:=by omega
   have e2:p=6 - m:=by omega
   subst e1 e2;have hn:=numL_zeros (6 - m) (bitL m w);rw [qcB m w hw] at hn;show grpL 1 (bitL m w++([]++List.replicate (6 - m) 0))=_;rw [List.nil_append,grpL,List.take_of_length_le (by rw [List.length_append,qa5,List.length_replicate]; omega),hn];rfl
 | c :: r,m,w,f,p,hm,hw,hp,hf=>by
  have hc:=c.toNat_lt;rw [List.length_cons] at hf
  have e0:bitL m w++(bitsB (c :: r)++List.replicate p 0)=bitL (6+(m+2)) (w*256+c.toNat)++(bitsB r++List.replicate p 0):=by
   rw [bitsB,List.flatMap_cons,List.append_assoc,← List.append_assoc,bitL_app 8 m w c.toNat hc,show 6+(m+2)=m+8 by omega];rfl
  obtain ⟨g,rfl⟩:∃ g,f=g+1:=⟨f - 1,by omega⟩;rw [e0,bitL_split 6 (m+2),List.append_assoc,grp_six (by rcases hm with rfl | rfl | rfl <;> simp at hw ⊢ <;> omega),encS]
  split
  ·rename_i h2
   rw [grp_enc r (m+2) _ g p (by omega) (Nat.mod_lt _ (Nat.pow_pos (by omega))) hp (by omega)]
  ·rename_i h2
   have hm4:m=4:=by omega
   subst hm4;obtain ⟨j,rfl⟩:∃ j,g=j+1:=⟨g - 1,by omega⟩;have hV:(w*256+c.toNat)%2^(4+2)<64:=Nat.mod_lt _ (by decide);rw [show 4+2=6 from rfl] at hV ⊢;rw [grp_six hV];have ih:=grp_enc r 0 0 j p (.inl rfl) (by decide) hp (by omega);rw [show bitL 0 0=[] from rfl,List.nil_append] at ih;rw [ih];simp [Nat.mod_one]
theorem grp_all {b:Bs} {f p:Nat} (hp:p<6) (hf:8*b.length+p=6*f):grpL f (bitsB b++List.replicate p 0)=enc b:=by
 have h:=grp_enc b 0 0 f p (.inl rfl) (by decide) hp (by omega);rw [show bitL 0 0=[] from rfl,List.nil_append] at h;exact h
def idx64 (c:UInt8):Int:=Lib.indexByte b64A c
theorem idx_ltr {k:Nat} (h:k<64):idx64 (ltr k)=(k:Int):=by
 have key:∀ x:Fin 64,idx64 (ltr x.1)=(x.1:Int):=by decide +kernel
 exact key ⟨k,h⟩
theorem qcV {c:UInt8} (h:0≤idx64 c):ltr (idx64 c).toNat=c∧(idx64 c).toNat<64:=by
 have key:∀ x:Fin 256,0≤idx64 (UInt8.ofNat x.1)→ltr (idx64 (UInt8.ofNat x.1)).toNat=UInt8.ofNat x.1∧(idx64 (UInt8.ofNat x.1)).toNat<64:=by decide +kernel
 have:=key ⟨c.toNat,c.toNat_lt⟩
 simpa using this (by simpa using h)
def decS:Nat→Nat→Bs→Option Bs
 | n,w,[]=>if 6≤n∨w≠0 then none else some []
 | n,w,c :: r=>if idx64 c<0 then none
  else if n+6<8 then decS (n+6) (w*64+(idx64 c).toNat) r
  else (decS (n - 2) ((w*64+(idx64 c).toNat)%2^(n - 2)) r).map (UInt8.ofNat ((w*64+(idx64 c).toNat)/2^(n - 2)) :: ·)
def dec (s:Bs):Option Bs:=decS 0 0 s
theorem decS_low {n w k:Nat} {r:Bs} (hk:k<64) (hn:n+6<8):decS n w (ltr k :: r)=decS (n+6) (w*64+k) r:=by
 rw [decS,idx_ltr hk,if_neg (by omega),if_pos hn];rfl
theorem qcL {n w k:Nat} {r:Bs} (hk:k<64) (hn:¬ n+6<8):decS n w (ltr k :: r)=(decS (n - 2) ((w*64+k)%2^(n - 2)) r).map (UInt8.ofNat ((w*64+k)/2^(n - 2)) :: ·):=by
 rw [decS,idx_ltr hk,if_neg (by omega),if_neg hn];rfl
theorem ofNat_eq {c:UInt8} {n:Nat} (h:n=c.toNat):UInt8.ofNat n=c:=by
 rw [h];simp
theorem dec_all:∀ l:Bs,decS 0 0 (encS 0 0 l)=some l∧(∀ (c:UInt8) (hi lo:Nat),hi<64→lo<4→c.toNat=hi*4+lo→decS 6 hi (encS 2 lo l)=some (c :: l))∧(∀ (c:UInt8) (hi lo:Nat),hi<16→lo<16→c.toNat=hi*16+lo→decS 4 hi (encS 4 lo l)=some (c :: l))
 | []=>by
  refine ⟨by simp [encS,decS],fun c hi lo h1 h2 h3=>?_,fun c hi lo h1 h2 h3=>?_⟩
  ·rw [encS,if_neg (by omega),qcL (by simp; omega) (by omega)];have e1:(hi*64+lo*2^(6 - 2))%2^(6 - 2)=0:=by simp; omega
   have e2:(hi*64+lo*2^(6 - 2))/2^(6 - 2)=c.toNat:=by simp; omega
   rw [e1,e2];simp [decS]
  ·rw [encS,if_neg (by omega),qcL (by simp; omega) (by omega)];have e1:(hi*64+lo*2^(6 - 4))%2^(4 - 2)=0:=by simp; omega
   have e2:(hi*64+lo*2^(6 - 4))/2^(4 - 2)=c.toNat:=by simp; omega
   rw [e1,e2];simp [decS]
 | d :: r=>by
  obtain ⟨i0,i2,i4⟩:=dec_all r;have hd:=d.toNat_lt;refine ⟨?_,fun c hi lo h1 h2 h3=>?_,fun c hi lo h1 h2 h3=>?_⟩
  ·rw [encS,if_pos (by omega),decS_low (by simp; omega) (by omega)];have e:=i2 d (d.toNat/4) (d.toNat%4) (by omega) (by omega) (by omega);rw [← e];simp
  ·rw [encS,if_pos (by omega),qcL (by simp; omega) (by omega)];have e:=i4 d (d.toNat/16) (d.toNat%16) (by omega) (by omega) (by omega);have e1:(hi*64+(lo*256+d.toNat)/2^(2+2))%2^(6 - 2)=d.toNat/16:=by simp; omega
   have e2:(hi*64+(lo*256+d.toNat)/2^(2+2))/2^(6 - 2)=c.toNat:=by simp; omega
   have e3:(lo*256+d.toNat)%2^(2+2)=d.toNat%16:=by simp; omega
   rw [e1,e2,e3,show 6 - 2=4 from rfl,show 2+2=4 from rfl,e,ofNat_eq rfl];rfl
  ·rw [encS,if_neg (by omega),qcL (by simp; omega) (by omega)];have e1:(hi*64+(lo*256+d.toNat)/2^(4+2))%2^(4 - 2)=d.toNat/64:=by simp; omega
   have e2:(hi*64+(lo*256+d.toNat)/2^(4+2))/2^(4 - 2)=c.toNat:=by simp; omega
   have e3:(lo*256+d.toNat)%2^(4+2)/2^(4 - 4)=d.toNat%64:=by simp; omega
   have e4:(lo*256+d.toNat)%2^(4+2)%2^(4 - 4)=0:=by simp; omega
   have e5:d.toNat/64*64+d.toNat%64=d.toNat:=by omega
   have e6:d.toNat%2^(2 - 2)=0:=by simp [Nat.mod_one]
   have e7:d.toNat/2^(2 - 2)=d.toNat:=by simp
   rw [e1,e2,e3,e4,show 4 - 2=2 from rfl,show 4 - 4=0 from rfl,qcL (by omega) (by omega),e5,e6,e7,show 2 - 2=0 from rfl,i0,ofNat_eq rfl,ofNat_eq rfl];rfl
theorem dec_enc (l:Bs):dec (enc l)=some l:=(dec_all l).1
theorem bits_fold:∀ (l:List Nat) (k a:Nat),(∀ b ∈ l,b≤1)→bitL (k+l.length) (l.foldl (fun n b=>2*n+b) a)=bitL k a++l
 | [],k,a,_=>by simp
 | b :: r,k,a,h=>by
  have hb:b≤1:=h b List.mem_cons_self;have ih:=bits_fold r (k+1) (2*a+b) fun x hx=>h x (List.mem_cons_of_mem _ hx);rw [List.foldl_cons,List.length_cons,show k+(r.length+1)=k+1+r.length by omega,ih,bitL,show (2*a+b)/2=a by omega,show (2*a+b)%2=b by omega,List.append_assoc];rfl
theorem bits_num (l:List Nat) (h:∀ b ∈ l,b≤1):bitL l.length (numL l)=l:=by
 have h1:=bits_fold l 0 0 h;rw [Nat.zero_add] at h1;exact h1
theorem valueI_idx (c:UInt8):valueI ((c.toNat:Nat):Int)=idx64 c:=by
 have key:∀ x:Fin 256,valueI (((UInt8.ofNat x.1).toNat:Nat):Int)=idx64 (UInt8.ofNat x.1):=by decide +kernel
 have:=key ⟨c.toNat,c.toNat_lt⟩
 simpa using this
def bits6 (s:Bs):List Nat:=s.flatMap fun c=>bitL 6 (idx64 c).toNat
theorem qd2:∀ s:Bs,(bits6 s).length=6*s.length
 | []=>rfl
 | c :: r=>by
  rw [bits6,List.flatMap_cons,List.length_append,qa5,List.length_cons];have:=qd2 r;rw [bits6] at this;omega
theorem bits6_le (s:Bs):∀ x ∈ bits6 s,x≤1:=fun x hx=>by
 obtain ⟨c,_,hc⟩:=List.mem_flatMap.1 hx;exact bitL_le _ _ _ hc
theorem bits6_take {s:Bs} {k:Nat} (h:k<s.length):bits6 (s.take (k+1))=bits6 (s.take k)++bitL 6 (idx64 s[k]).toNat:=by
 rw [List.take_succ_eq_append_getElem h,bits6,bits6,List.flatMap_append];simp
theorem bits6_grp:∀ (f:Nat) (l:List Nat),l.length=6*f→(∀ x ∈ l,x≤1)→bits6 (grpL f l)=l
 | 0,l,h,_=>by
  have:l=[]:=List.eq_nil_of_length_eq_zero (by omega);rw [this];rfl
 | f+1,l,h,hl=>by
  have h6:(l.take 6).length=6:=by rw [List.length_take]; omega
  have ih:=bits6_grp f (l.drop 6) (by rw [List.length_drop]; omega) fun x hx=>hl x (List.mem_of_mem_drop hx);have hn:=numL_lt (l.take 6) fun x hx=>hl x (List.mem_of_mem_take hx);rw [h6] at hn;have hb:=bits_num (l.take 6) fun x hx=>hl x (List.mem_of_mem_take hx);rw [h6] at hb;show (grpL (f+1) l).flatMap _=_;rw [grpL,List.flatMap_cons,idx_ltr hn,Int.toNat_natCast,hb];show l.take 6++bits6 (grpL f (l.drop 6))=l;rw [ih,List.take_append_drop]
def grp8:Nat→List Nat→Bs
 | 0,_=>[]
 | f+1,l=>UInt8.ofNat (numL (l.take 8)) :: grp8 f (l.drop 8)
theorem grp8_succ:∀ (f:Nat) (l:List Nat),grp8 (f+1) l=grp8 f l++[UInt8.ofNat (numL ((l.drop (8*f)).take 8))]
 | 0,l=>by simp [grp8]
 | f+1,l=>by
  rw [grp8,grp8_succ f (l.drop 8),grp8,List.drop_drop,show 8+8*f=8*(f+1) by omega];rfl
theorem grp8_bits:∀ (b:Bs) (r:List Nat),grp8 b.length (bitsB b++r)=b
 | [],r=>rfl
 | c :: b,r=>by
  have ih:=grp8_bits b r;rw [List.length_cons,grp8,bitsB,List.flatMap_cons,List.append_assoc,List.take_left' (qa5 8 _),List.drop_left' (qa5 8 _),qcB 8 _ c.toNat_lt];rw [bitsB] at ih;rw [ih];simp
def outB (s:Bs):Bs:=grp8 (6*s.length/8) (bits6 s)
theorem out_enc (b:Bs):outB (enc b)=b:=by
 obtain ⟨p,f,hp,hf⟩:∃ p f,p<6∧8*b.length+p=6*f:=⟨(6 - 8*b.length%6)%6,(8*b.length+(6 - 8*b.length%6)%6)/6,Nat.mod_lt _ (by decide),by omega⟩;have hg:=grp_all (b:=b) hp hf;have hlen:(bitsB b++List.replicate p 0).length=6*f:=by rw [List.length_append,qcN,List.length_replicate]; exact hf
 have hle:∀ x ∈ bitsB b++List.replicate p 0,x≤1:=fun x hx=>by
  rcases List.mem_append.1 hx with h | h
  ·obtain ⟨c,_,hc⟩:=List.mem_flatMap.1 h;exact bitL_le _ _ _ hc
  ·have:=(List.mem_replicate.1 h).2;omega
 have hbits:bits6 (enc b)=bitsB b++List.replicate p 0:=by rw [← hg,bits6_grp f _ hlen hle]
 have hl6:6*(enc b).length=8*b.length+p:=by
  have h:=qd2 (enc b);rw [hbits,hlen] at h;omega
 unfold outB;rw [hbits,hl6,show (8*b.length+p)/8=b.length by omega];exact grp8_bits b _
theorem enc_all:∀ s:Bs,(∀ b,decS 0 0 s=some b→encS 0 0 b=s)∧(∀ (w:Nat) (b:Bs),w<64→decS 6 w s=some b→encS 0 0 b=ltr w :: s) ∧
  (∀ (w h:Nat) (b:Bs),w<16→h<4→decS 4 w s=some b→encS 2 h b=ltr (h*16+w) :: s)∧(∀ (w h:Nat) (b:Bs),w<4→h<16→decS 2 w s=some b→encS 4 h b=ltr (h*4+w) :: s)
 | []=>by
  refine ⟨fun b h=>?_,fun w b hw h=>?_,fun w h b hw hh hd=>?_,fun w h b hw hh hd=>?_⟩
  ·rw [decS,if_neg (by omega)] at h
   injection h with h
   subst h;rfl
  ·rw [decS,if_pos (by omega)] at h
   cases h
  ·rw [decS] at hd
   split at hd
   ·cases hd
   ·rename_i hn
    injection hd with hd
    subst hd;obtain rfl:w=0:=by omega
    rw [encS,if_neg (by decide)];simp
  ·rw [decS] at hd
   split at hd
   ·cases hd
   ·rename_i hn
    injection hd with hd
    subst hd;obtain rfl:w=0:=by omega
    rw [encS,if_neg (by decide)];simp
 | c :: r=>by
  obtain ⟨i0,i6,i4,i2⟩:=enc_all r;refine ⟨fun b h=>?_,fun w b hw h=>?_,fun w h b hw hh hd=>?_,fun w h b hw hh hd=>?_⟩
  ·rw [decS] at h
   split at h
   ·cases h
   ·rename_i hc
    have hl:=qcV (c:=c) (by omega);rw [if_pos (by decide)] at h;have:=i6 _ b (by rw [Nat.zero_mul,Nat.zero_add]; exact hl.2) h;rw [this];simp [hl.1]
  ·rw [decS] at h
   split at h
   ·cases h
   ·rename_i hc
    have hl:=qcV (c:=c) (by omega);obtain ⟨v,hv⟩:=eX ((idx64 c).toNat);rw [← hv] at hl h;rw [if_neg (by decide)] at h;obtain ⟨b',hb,rfl⟩:=Option.map_eq_some_iff.1 h;have e1:(w*64+v)%2^(6 - 2)=v%16:=by simp; omega
    have e2:(w*64+v)/2^(6 - 2)=w*4+v/16:=by simp; omega
    rw [e1] at hb;rw [e2];have h4:=i4 (v%16) (v/16) b' (by omega) (by omega) hb;have e3:(UInt8.ofNat (w*4+v/16)).toNat=w*4+v/16:=by rw [UInt8.toNat_ofNat']; omega
    rw [encS,if_pos (by decide),e3];have e4:(0*256+(w*4+v/16))/2^(0+2)=w:=by simp; omega
    have e5:(0*256+(w*4+v/16))%2^(0+2)=v/16:=by simp; omega
    rw [e4,e5,show 0+2=2 from rfl,h4,show v/16*16+v%16=v by omega,hl.1]
  ·rw [decS] at hd
   split at hd
   ·cases hd
   ·rename_i hc
    have hl:=qcV (c:=c) (by omega);obtain ⟨v,hv⟩:=eX ((idx64 c).toNat);rw [← hv] at hl hd;rw [if_neg (by decide)] at hd;obtain ⟨b',hb,rfl⟩:=Option.map_eq_some_iff.1 hd;have e1:(w*64+v)%2^(4 - 2)=v%4:=by simp; omega
    have e2:(w*64+v)/2^(4 - 2)=w*16+v/4:=by simp; omega
    rw [e1] at hb;rw [e2];have h2:=i2 (v%4) (v/4) b' (by omega) (by omega) hb;have e3:(UInt8.ofNat (w*16+v/4)).toNat=w*16+v/4:=by rw [UInt8.toNat_ofNat']; omega
    rw [encS,if_pos (by decide),e3];have e4:(h*256+(w*16+v/4))/2^(2+2)=h*16+w:=by simp; omega
    have e5:(h*256+(w*16+v/4))%2^(2+2)=v/4:=by simp; omega
    rw [e4,e5,show 2+2=4 from rfl,h2,show v/4*4+v%4=v by omega,hl.1]
  ·rw [decS] at hd
   split at hd
   ·cases hd
   ·rename_i hc
    have hl:=qcV (c:=c) (by omega);obtain ⟨v,hv⟩:=eX ((idx64 c).toNat);rw [← hv] at hl hd;rw [if_neg (by decide)] at hd;obtain ⟨b',hb,rfl⟩:=Option.map_eq_some_iff.1 hd;have e1:(w*64+v)%2^(2 - 2)=0:=by simp [Nat.mod_one]
    have e2:(w*64+v)/2^(2 - 2)=w*64+v:=by simp
    rw [e1] at hb;rw [e2];have h0:=i0 b' hb;have e3:(UInt8.ofNat (w*64+v)).toNat=w*64+v:=by rw [UInt8.toNat_ofNat']; omega
    rw [encS,if_neg (by decide),e3];have e4:(h*256+(w*64+v))/2^(4+2)=h*4+w:=by simp; omega
    have e5:(h*256+(w*64+v))%2^(4+2)/2^(4 - 4)=v:=by simp; omega
    have e6:(h*256+(w*64+v))%2^(4+2)%2^(4 - 4)=0:=by simp [Nat.mod_one]
    rw [e4,e5,e6,show 4 - 4=0 from rfl,h0,hl.1]
theorem enc_dec {s b:Bs} (h:dec s=some b):enc b=s:=(enc_all s).1 b h
theorem dec_bad:∀ (s:Bs) (n w:Nat),(∃ c ∈ s,idx64 c<0)→decS n w s=none
 | [],n,w,h=>by obtain ⟨c,h1,_⟩:=h; cases h1
 | d :: r,n,w,h=>by
  rw [decS]
  by_cases hd:idx64 d<0
  ·rw [if_pos hd]
  ·obtain ⟨c,h1,h2⟩:=h
   have hr:∃ c ∈ r,idx64 c<0:=by
    rcases List.mem_cons.1 h1 with e | e
    ·rw [e] at h2; exact absurd h2 hd
    ·exact ⟨c,e,h2⟩
   rw [if_neg hd]
   split
   ·exact dec_bad r _ _ hr
   ·rw [dec_bad r _ _ hr];rfl
theorem dec_out (s:Bs):dec s=if enc (outB s)=s then some (outB s) else none:=by
 split
 ·rename_i h
  have:=dec_enc (outB s)
  rwa [h] at this
 ·rename_i h
  cases hd:dec s with
  | none=>rfl
  | some b =>
   exfalso
   have h1:=enc_dec hd;apply h;rw [← h1,out_enc]
end Go.Proofs.YtlkikjeccamheaaGreatDoor.Js
namespace Go.Proofs.YtlkikjeccamheaaGreatDoor.Js
set_option linter.unusedSimpArgs false
set_option linter.unusedVariables false
set_option maxRecDepth 100000
set_option maxHeartbeats 4000000
open Go.RowKit
theorem sl_ints7:SlT Tryz.prog 82 3 1 8:=SlT.mk1 (z:=.int .i64 0) Tryz.underlying82 (by kernel_rfl) rfl (by decide)
theorem sl_u87:SlT Tryz.prog 40 5 1 1:=SlT.mk1 (z:=.int .u8 0) Tryz.underlying40 (by kernel_rfl) rfl (by decide)
theorem intsV_one (l:List Nat):∀ u ∈ intsV l,u.oneCell'=true:=fun u hu=>by
 obtain ⟨n,_,rfl⟩:=List.mem_map.1 hu;rfl
theorem bitsB_take {b:Bs} {k:Nat} (h:k<b.length):bitsB (b.take (k+1))=bitsB (b.take k)++bitL 8 b[k].toNat:=by
 rw [List.take_succ_eq_append_getElem h,bitsB,bitsB,List.flatMap_append];simp
theorem bitsB_le (b:Bs) (p:Nat):∀ x ∈ bitsB b++List.replicate p 0,x≤1:=fun x hx=>by
 rcases List.mem_append.1 hx with h | h
 ·obtain ⟨c,_,hc⟩:=List.mem_flatMap.1 h;exact bitL_le _ _ _ hc
 ·have:=(List.mem_replicate.1 h).2;omega
structure En (w0:World) (L:List Nat) (A:Option Addr) (c:Nat) (u:World):Prop where
 low:Below w0.heap.size w0 u
 row:OwnR u w0.heap.size 3 1 A c L.length (intsV L)
theorem En.new {w0 u u':World} {L:List Nat} {A:Option Addr} {c:Nat} (h:En w0 L A c u) (hb:Below u.heap.size u u'):En w0 L A c u':=⟨h.low.trans (hb.mono h.low.size),h.row.below hb⟩
theorem rd_part {w:World} {B:Nat} {ad:Addr} {xs:List Value} (h:Rd w B (some ad) xs) (i m:Nat):Rd w B (some (ad.add i)) ((xs.drop i).take m):=fun j u hu=>by
 rw [List.getElem?_take] at hu
 split at hu
 ·rw [List.getElem?_drop] at hu;obtain ⟨ad',e1,e2,e3⟩:=h (i+j) u hu
  injection e1 with e1
  subst e1;exact ⟨_,rfl,by rw [qar]; exact e2,by rw [Deep.add_add]; exact e3⟩
 ·cases hu
theorem intsV_part (L:List Nat) (i m:Nat):((intsV L).drop i).take m=intsV ((L.drop i).take m):=by
 unfold intsV;rw [← List.map_drop,← List.map_take]
def padN (n:Nat):Nat:=(6 - n%6)%6
theorem padN_lt (n:Nat):padN n<6:=Nat.mod_lt _ (by decide)
theorem padN_ok (n:Nat):(n+padN n)%6=0:=by unfold padN; omega
theorem padN_no {n p:Nat} (h:p<padN n):(n+p)%6≠0:=by unfold padN at h; omega
def lenV:Value→Nat
 | .slice _ l _=>l
 | _=>0
theorem qdy (b:Bs) (hl:b.length≤100000) (A:Option Addr) (c:Nat) (w:World) (hr:Rd w w.heap.size A (bytesV b)) :
  Calls Tryz.prog 25 #[.slice A b.length c] w fun e w'=>e=.returned (.string (bs (enc b)))∧Below w.heap.size w w':=by
 obtain ⟨n,hn⟩:=eX (b.length);have HN:=zY hn;have HR:=zY hr;have hn1:(n:Int)≤100000:=by omega
 have HE0:=zY (show En w [] none 0 w from ⟨Below.refl _ _,OwnR.nil _ _ _ _⟩);have HBT:=zY (fun (x:Nat) (hx:x<256) (u:World)=>bits64_any 8 x (.inl rfl) hx u);rw [← hn];clear hn hr hl;go_enter Tryz.func25,Tryz.ntmps25;go_wp2_with fail
 go_loopw [3,4] (fun x y wr=>∃ (k:Nat) (L:List Nat) (A1:Option Addr) (c1:Nat),k≤n∧y=.int .i64 (k:Int)∧x=.slice A1 L.length c1∧L=bitsB (b.take k)∧En w L A1 c1 wr) (fun _ y _=>n - (intOf y).toNat)
 case atStart=>exact ⟨0,[],none,0,Nat.zero_le _,rfl,rfl,rfl,HE0.out⟩
 case round =>
  obtain ⟨k,L,A1,c1,hk,rfl,rfl,hL,hen⟩:=hrel;have HEN:=zY hen;have HL:=zY hL;have HLL:=zY (show L.length=8*k by rw [hL,qcN,List.length_take,← HN.out]; omega);have hll:(L.length:Int)≤800000:=by have:=HLL.out; omega
  clear hen hL
  by_cases hlt:k<n
  ·have hks:k<b.length:=by rw [← HN.out]; exact hlt
   have hlt':(k:Int)<(n:Int):=by omega
   obtain ⟨ad,hA,-,hcell⟩:=(HR.out.below HEN.out.low).at_ (k:=k) (by rw [qan]; exact hks);subst hA;obtain ⟨x,hx⟩:=eX ((b[k]'hks).toNat)
   have hbv:(bytesV b)[k]'(by rw [qan]; exact hks)=.int .u8 (x:Int):=by
    rw [hx]; simp [bytesV,byteV]
   rw [hbv] at hcell;have hc0:wr.cell? (ad.add k)=some (.int .u8 (x:Int)):=hcell;have hx8:x<256:=by rw [hx]; exact UInt8.toNat_lt _
   have hx1:(x:Int)<256:=by omega
   have HST:=zY (show bitsB (b.take (k+1))=L++bitL 8 x by rw [bitsB_take hks,HL.out,hx]);have CB:=zY (HBT.out x hx8 wr);have HLT:=zY hlt;clear hbv hcell hx hx8 hlt;go_wp2_with fail;refine qaa CB.out ?_;rintro e w2 ⟨g,rfl,hg,hbk,hb2⟩;have HE2:=zY (HEN.out.new hb2);have HBK:=zY hbk;clear hg hbk hb2 hc0;go_wp2_with (refine qaM (news:=intsV (bitL 8 x)) (m:=8) sl_ints7 rfl rfl HE2.out.row rfl rfl (by rw [qbN,qa5]) (Rd.of_blk HBK.out HBK.out.lt) (intsV_one _) (by unfold maxLen; omega) (by omega) HE2.out.low.size ?_; intro A5 c5 w5 ho hg hn5);have HE5:=zY (show En w (L++bitL 8 x) A5 c5 w5 from ⟨HE2.out.low.grown hg (HE2.out.low.size) (fun k hk=>(HE2.out.row.lt k hk).1),by rw [List.length_append,qa5,qb4]; exact ho⟩);clear ho hg hn5;exact ⟨⟨k+1,L++bitL 8 x,A5,c5,HLT.out,by go_num,by rw [List.length_append,qa5],by rw [HST.out],HE5.out⟩,by have:=HLT.out; simp [intOf]; omega⟩
  ·obtain rfl:k=n:=by omega
   have HLB:=zY (show L=bitsB b by rw [HL.out,HN.out,List.take_length]);obtain ⟨P,hP⟩:=eX (padN (8*k));have hP6:P<6:=by rw [hP]; exact padN_lt _
   have HPO:=zY (show (8*k+P)%6=0 by rw [hP]; exact padN_ok _);have HPN:=zY (fun (p:Nat) (h:p<P)=>show (8*k+p)%6≠0 from padN_no (by rw [← hP]; exact h));have HE2:=zY (show En w (bitsB b++List.replicate 0 0) A1 c1 wr by rw [List.replicate_zero,List.append_nil,← HLB.out]; exact HEN.out);have HZL:=zY (fun (p:Nat)=>show (bitsB b++List.replicate p 0).length=8*k+p by rw [List.length_append,qcN,List.length_replicate,← HN.out]);have HL8:=zY (show L.length=8*k+0 from HLL.out);clear hP hll hk;go_wp2_with fail
   go_loopw [3] (fun x wr=>∃ (p:Nat) (A1:Option Addr) (c1:Nat),p≤P∧x=.slice A1 (8*k+p) c1∧En w (bitsB b++List.replicate p 0) A1 c1 wr) (fun x _=>8*k+P - lenV x)
   case atStart=>exact ⟨0,A1,c1,Nat.zero_le _,by rw [HL8.out],HE2.out⟩
   case round =>
    obtain ⟨p,A3,c3,hp,rfl,hen3⟩:=hrel;have HE3:=zY hen3;clear hen3;obtain ⟨z,hz⟩:=eX (8*k+p);have hz9:(z:Int)≤800005:=by omega
    have HZE:=zY hz;rw [← hz]
    by_cases hlt:p<P
    ·have hm6:((z:Int)%6 == 0)=false:=by
      have:=HPN.out p hlt;rw [← hz] at this;simp;omega
     have HLT:=zY hlt;have HSZ:=zY (show (bitsB b++List.replicate p 0).length=z by rw [HZL.out,hz]);have HRW:=zY (show OwnR wr w.heap.size 3 1 A3 c3 z (intsV (bitsB b++List.replicate p 0)) by have h:=HE3.out.row; rwa [HSZ.out] at h);clear hz hlt;go_wp2_with (refine qaP (ys:=[.int .i64 0]) sl_ints7 rfl rfl HRW.out rfl rfl rfl rfl (by simp [Value.oneCell']) (by unfold maxLen; omega) (by omega) HE3.out.low.size ?_; intro A5 c5 w5 ho hg hn5)
     have HE5:=zY (show En w (bitsB b++List.replicate (p+1) 0) A5 c5 w5 from ⟨HE3.out.low.grown hg HE3.out.low.size (fun k hk=>(HRW.out.lt k hk).1),by
      rw [HZL.out,List.replicate_succ',← List.append_assoc,qb4,show 8*k+(p+1)=z+1 by have:=HZE.out; omega]; exact ho⟩)
     clear ho hg hn5;exact ⟨⟨p+1,A5,c5,HLT.out,by rw [show 8*k+(p+1)=z+1 by have:=HZE.out; omega],HE5.out⟩,by have:=HLT.out; have:=HZE.out; simp only [lenV]; omega⟩
    ·obtain rfl:p=P:=by omega
     have hm6:((z:Int)%6 == 0)=true:=by
      have:=HPO.out;rw [← hz] at this;simp;omega
     obtain ⟨F,hF⟩:∃ F,z=6*F:=⟨z/6,by have:=HPO.out; rw [← hz] at this; omega⟩;obtain ⟨Lz,hLz⟩:=eX (bitsB b++List.replicate p 0);have HGA:=zY (show grpL F Lz=enc b by rw [hLz]; exact grp_all hP6 (by have:=HN.out; omega));have HZ1:=zY (show ∀ x ∈ Lz,x≤1 by rw [hLz]; exact bitsB_le b p);have HLZ:=zY (show Lz.length=z by rw [hLz,HZL.out,hz]);rw [← hLz] at HE3;have HFF:=zY hF;clear hz hF hLz hlt;go_wp2_with fail;clear hm6;generalize Value.bool ((z:Int)%6 != 0)=vb;generalize Value.int IntKind.i64 ((z:Int)%6)=vi
     go_loopw [5,6] (fun x y wq=>∃ (j I:Nat) (A2:Option Addr) (c2:Nat),j≤F∧I=6*j∧y=.int .i64 (I:Int)∧x=.slice A2 j c2∧OwnR wq w.heap.size 5 1 A2 c2 j (bytesV (grpL j Lz))∧En w Lz A3 c3 wq) (fun _ y _=>z - (intOf y).toNat)
     case atStart=>exact ⟨0,0,none,0,Nat.zero_le _,rfl,rfl,rfl,OwnR.nil _ _ _ _,HE3.out⟩
     case round =>
      obtain ⟨j,I,A2,c2,hj,hI,rfl,rfl,hob,hen4⟩:=hrel;have HOB:=zY hob;have HE4:=zY hen4;have HIJ:=zY hI;clear hob hen4 hI
      by_cases hlt:j<F
      ·have hIz:(I:Int)<(z:Int):=by have:=HFF.out; have:=HIJ.out; omega
       have hIz6:(I:Int)+6≤(z:Int):=by have:=HFF.out; have:=HIJ.out; omega
       have hzc:(z:Int)≤(c3:Int):=by have:=HE4.out.row.cap; have:=HLZ.out; omega
       have hIc:(I:Int)+6≤(c3:Int):=by omega
       have hrd:Rd wr wr.heap.size A3 (intsV Lz):=HE4.out.row.row.rd;obtain ⟨ad,hA,-,-⟩:=hrd.at_ (k:=I) (by rw [qbN,HLZ.out]; omega);subst hA;have hlp:((Lz.drop I).take 6).length=6:=by rw [List.length_take,List.length_drop,HLZ.out]; omega
       have hle:∀ x ∈ (Lz.drop I).take 6,x≤1:=fun x hx=>HZ1.out x (List.mem_of_mem_drop (List.mem_of_mem_take hx));have CN:=zY (fun (cc:Nat)=>qc5 ((Lz.drop I).take 6) hle (by omega) (some (ad.add I)) cc wr.heap.size wr (by rw [← intsV_part]; exact rd_part hrd I 6));have hnl:=numL_lt _ hle;rw [hlp] at hnl CN;obtain ⟨N,hN⟩:=eX (numL ((Lz.drop I).take 6));have HGS:=zY (show grpL (j+1) Lz=grpL j Lz++[ltr N] by rw [grpL_succ,hN,HIJ.out]);rw [← hN] at CN hnl;obtain ⟨q,hq⟩:∃ q:Int,q=(((ltr N).toNat:Nat):Int):=⟨_,rfl⟩;have CL:=zY (show Calls Tryz.prog 45 #[.int .i64 (N:Int)] wr fun e w'=>e=.returned (.int .u8 q)∧w'=wr by rw [hq]; exact letter64_any N hnl wr);have HQV:=zY (show [Value.int .u8 q]=bytesV [ltr N] by rw [hq]; rfl);have HLT:=zY hlt;have hj9:(j:Int)≤200000:=by have:=HIJ.out; omega
       clear hrd hlp hle hnl hN hlt hq;go_wp2_with fail;refine qaa (CN.out _) ?_;rintro e w_2 ⟨rfl,rfl⟩;go_wp2_with fail;refine qaa CL.out ?_;rintro e w_3 ⟨rfl,rfl⟩;go_wp2_with (refine qaP (ys:=[.int .u8 q]) sl_u87 rfl rfl HOB.out rfl rfl rfl rfl (by simp [Value.oneCell']) (by unfold maxLen; omega) (by omega) HE4.out.low.size ?_; intro A5 c5 w5 ho hg hn5);have HO5:=zY (show OwnR w5 w.heap.size 5 1 A5 c5 (j+1) (bytesV (grpL (j+1) Lz)) by rw [HGS.out,qaD,← HQV.out]; exact ho);have HE5:=zY (show En w Lz (some ad) c3 w5 from ⟨HE4.out.low.grown hg HE4.out.low.size (fun k hk=>(HOB.out.lt k hk).1),HE4.out.row.keep (qbr HOB.out.x hg) (by decide)⟩);clear ho hg hn5;exact ⟨⟨j+1,6*(j+1),A5,c5,HLT.out,rfl,by rw [show ((6*(j+1):Nat):Int)=(I:Int)+6 by have:=HIJ.out; omega],rfl,HO5.out,HE5.out⟩,by have:=HLT.out; have:=HFF.out; have:=HIJ.out; simp [intOf]; omega⟩
      ·obtain rfl:j=F:=by omega
       have hIz:(I:Int)=(z:Int):=by have:=HFF.out; have:=HIJ.out; omega
       have hIz2:¬ (I:Int)<(z:Int):=by omega
       have hus:=Tryz.underlying9;have hub8:=Tryz.underlying40;have hu8:=Tryz.underlying5;have hrd:Rd wr wr.heap.size A2 (bytesV (enc b)):=by rw [← HGA.out]; exact HOB.out.row.rd
       have hjl:j=(enc b).length:=by
        have h:=HOB.out.1;rw [HGA.out,qan] at h;omega
       have HRD:=zY hrd;have HJL:=zY hjl;clear hrd hjl;rw [HJL.out];go_wp2_with (refine qbt (l:=enc b) HRD.out hub8 hu8 hus rfl rfl rfl ?_);go_ret;exact ⟨rfl,HE4.out.low⟩
def DcPost (X:Option Bs) (w:World) (e:Ending) (w':World):Prop :=
 ∃ (A:Option Addr) (c:Nat),e=.returned (.tuple #[.slice A (X.getD []).length c,.bool X.isSome])∧(X.getD []).length≤c∧Rd w' w'.heap.size A (bytesV (X.getD []))∧Below w.heap.size w w'
theorem DcPost.none {X:Option Bs} {w w':World} (h:X=none) (hb:Below w.heap.size w w'):DcPost X w (.returned (.tuple #[.slice none 0 0,.bool false])) w':=by
 subst h;exact ⟨_,0,rfl,Nat.le_refl _,Rd.nil _ _ _,hb⟩
set_option maxHeartbeats 8000000 in
theorem rdecode_any (s:Bs) (hl:s.length≤100000) (w:World):Calls Tryz.prog 29 #[.string (bs s)] w (DcPost (dec s) w):=by
 obtain ⟨n,hn⟩:=eX (s.length);have HN:=zY hn;have hsz:((bs s).size:Int)=(n:Int):=by rw [qay,hn]
 have hszn:(bs s).size=n:=by rw [qay,hn]
 have hn1:(n:Int)≤100000:=by omega
 have HE0:=zY (show En w [] none 0 w from ⟨Below.refl _ _,OwnR.nil _ _ _ _⟩);have HBT:=zY (fun (x:Nat) (hx:x<64) (u:World)=>bits64_any 6 x (.inr rfl) (by omega) u)
 have HVL:=zY (fun (c:UInt8) (u:World)=>show Calls Tryz.prog 50 #[.int .u8 ((c.toNat:Nat):Int)] u fun e w'=>e=.returned (.int .i64 (idx64 c))∧w'=u by
  have h:=qdm ((c.toNat:Nat):Int) (by omega) (by have:=c.toNat_lt; omega) u;rw [valueI_idx] at h;exact h)
 obtain ⟨S,hS⟩:=eX (bs s);rw [← hS] at hsz hszn ⊢;have HCH:=zY (fun (k:Nat) (h:k<s.length) (h':k<S.size)=>show S[k]'h'=s[k]'h from by subst hS; rfl);have HS:=zY hS;clear hn hl hS;go_enter Tryz.func29,Tryz.ntmps29;go_wp2_with fail
 go_loopw [4,5] (fun x y wr=>∃ (k:Nat) (A1:Option Addr) (c1:Nat),k≤n∧y=.int .i64 (k:Int)∧x=.slice A1 (6*k) c1∧(∀ c ∈ s.take k,0≤idx64 c)∧En w (bits6 (s.take k)) A1 c1 wr) (fun _ y _=>n - (intOf y).toNat)
 case atStart=>exact ⟨0,none,0,Nat.zero_le _,rfl,rfl,(fun c h=>by cases h),HE0.out⟩
 case round =>
  obtain ⟨k,A1,c1,hk,rfl,rfl,hgd,hen⟩:=hrel;have HEN:=zY hen;have HGD:=zY hgd;clear hen hgd;have HLL:=zY (show (bits6 (s.take k)).length=6*k by rw [qd2,List.length_take,← HN.out]; omega);obtain ⟨m,hm⟩:=eX (6*k);have HM:=zY hm;have hm9:(m:Int)≤600000:=by omega
  rw [← hm];have HRW:=zY (show OwnR wr w.heap.size 3 1 A1 c1 m (intsV (bits6 (s.take k))) by have h:=HEN.out.row; rwa [HLL.out,← hm] at h)
  by_cases hlt:k<n
  ·have hks:k<s.length:=by rw [← HN.out]; exact hlt
   have hkS:k<S.size:=by rw [hszn]; exact hlt
   have hlt':(k:Int)<(n:Int):=by omega
   obtain ⟨x,hx⟩:=eX (s[k]);obtain ⟨z,hz⟩:∃ z:Int,z=((x.toNat:Nat):Int):=⟨_,rfl⟩;have hx1:((S[k].toNat:Nat):Int)=z:=by rw [HCH.out k hks hkS,← hx,hz]
   obtain ⟨v,hv⟩:=eX (idx64 x);have CV:=zY (fun (u:World)=>show Calls Tryz.prog 50 #[.int .u8 z] u fun e w'=>e=.returned (.int .i64 v)∧w'=u by rw [hz,hv]; exact HVL.out x u);have HV:=zY hv;have HX:=zY hx;have HLT:=zY hlt;have HKS:=zY hks;clear hm hx hz hlt;go_wp2_with fail;refine qaa (CV.out _) ?_;rintro e w2 ⟨rfl,rfl⟩
   by_cases hneg:v<0
   ·have HB:=zY (show dec s=none from dec_bad s 0 0 ⟨x,by rw [HX.out]; exact List.getElem_mem HKS.out,by rw [← HV.out]; exact hneg⟩);clear hv;go_wp2_with fail;go_ret2;exact DcPost.none HB.out HEN.out.low
   ·have hneg2:decide (v<0)=false:=by simpa using hneg
    obtain ⟨j,hj,hj64⟩:∃ j:Nat,v=(j:Int)∧j<64:=⟨v.toNat,by omega,by rw [hv]; exact (qcV (by rw [← hv]; omega)).2⟩;subst hj;have CB:=zY (fun (u:World)=>HBT.out j hj64 u);have HST:=zY (show bits6 (s.take (k+1))=bits6 (s.take k)++bitL 6 j by rw [bits6_take HKS.out,← HX.out,← HV.out,Int.toNat_natCast])
    have HGD2:=zY (show ∀ c ∈ s.take (k+1),0≤idx64 c from fun c hc=>by
     rw [List.take_succ_eq_append_getElem HKS.out] at hc
     rcases List.mem_append.1 hc with h | h
     ·exact HGD.out c h
     ·rw [List.mem_singleton.1 h,← HX.out,← HV.out]
      omega)
    clear hv hneg hj64 hx1;go_wp2_with fail;refine qaa (CB.out _) ?_;rintro e w3 ⟨g,rfl,hg,hbk,hb2⟩;have HE2:=zY (HEN.out.new hb2);have HBK:=zY hbk;have HRW2:=zY (show OwnR w3 w.heap.size 3 1 A1 c1 m (intsV (bits6 (s.take k))) from HRW.out.below hb2);clear hg hbk hb2;go_wp2_with (refine qaM (news:=intsV (bitL 6 j)) (m:=6) sl_ints7 rfl rfl HRW2.out rfl rfl (by rw [qbN,qa5]) (Rd.of_blk HBK.out HBK.out.lt) (intsV_one _) (by unfold maxLen; omega) (by omega) HE2.out.low.size ?_; intro A5 c5 w5 ho hg hn5);have HE5:=zY (show En w (bits6 (s.take (k+1))) A5 c5 w5 from ⟨HE2.out.low.grown hg (HE2.out.low.size) (fun k hk=>(HRW2.out.lt k hk).1),by rw [HST.out,List.length_append,qa5,HLL.out,qb4,← HM.out]; exact ho⟩);clear ho hg hn5;exact ⟨⟨k+1,A5,c5,HLT.out,by go_num,by rw [show 6*(k+1)=m+6 by have:=HM.out; omega],HGD2.out,HE5.out⟩,by have:=HLT.out; simp [intOf]; omega⟩
  ·obtain rfl:k=n:=by omega
   have hkS:¬ k<S.size:=by rw [hszn]; exact hlt
   have HTK:=zY (show s.take k=s by rw [HN.out,List.take_length]);rw [HTK.out] at HEN HLL HRW;obtain ⟨L,hL⟩:=eX (bits6 s);have HL1:=zY (show ∀ x ∈ L,x≤1 by rw [hL]; exact bits6_le s);rw [← hL] at HEN HLL HRW;obtain ⟨F,hF⟩:=eX (m/8);have HF:=zY hF;have HOUT:=zY (show grp8 F L=outB s by rw [hF,hm,hL,outB,← HN.out]);have HLM:=zY (show L.length=m by rw [HLL.out,hm]);clear hm hL hF;go_wp2_with fail
   go_loopw [7,8] (fun x y wq=>∃ (j I:Nat) (A2:Option Addr) (c2:Nat),j≤F∧I=8*j∧y=.int .i64 (I:Int)∧x=.slice A2 j c2∧OwnR wq w.heap.size 5 1 A2 c2 j (bytesV (grp8 j L))∧En w L A1 c1 wq) (fun _ y _=>m - (intOf y).toNat)
   case atStart=>exact ⟨0,0,none,0,Nat.zero_le _,rfl,rfl,rfl,OwnR.nil _ _ _ _,HEN.out⟩
   case round =>
    obtain ⟨j,I,A2,c2,hj,hI,rfl,rfl,hob,hen4⟩:=hrel;have HOB:=zY hob;have HE4:=zY hen4;have HIJ:=zY hI;clear hob hen4 hI
    by_cases hlt2:j<F
    ·have hIz:(I:Int)+8≤(m:Int):=by have:=HF.out; have:=HIJ.out; omega
     have hzc:(m:Int)≤(c1:Int):=by have:=HE4.out.row.cap; have:=HLM.out; omega
     have hIc:(I:Int)+8≤(c1:Int):=by omega
     have hrd:Rd wr wr.heap.size A1 (intsV L):=HE4.out.row.row.rd;obtain ⟨ad,hA,-,-⟩:=hrd.at_ (k:=I) (by rw [qbN,HLM.out]; omega);subst hA;have hlp:((L.drop I).take 8).length=8:=by rw [List.length_take,List.length_drop,HLM.out]; omega
     have hle:∀ x ∈ (L.drop I).take 8,x≤1:=fun x hx=>HL1.out x (List.mem_of_mem_drop (List.mem_of_mem_take hx));have CN:=zY (fun (cc:Nat)=>qc5 ((L.drop I).take 8) hle (by omega) (some (ad.add I)) cc wr.heap.size wr (by rw [← intsV_part]; exact rd_part hrd I 8));have hnl:=numL_lt _ hle;rw [hlp] at hnl CN;obtain ⟨N,hN⟩:=eX (numL ((L.drop I).take 8));have HGS:=zY (show grp8 (j+1) L=grp8 j L++[UInt8.ofNat N] by rw [grp8_succ,hN,HIJ.out]);rw [← hN] at CN hnl;have hN0:(0:Int)≤(N:Int):=by omega
     have hN2:(N:Int)≤255:=by omega
     have hNm:(N:Int)%256=(N:Int):=by omega
     have HQV:=zY (show [Value.int .u8 (N:Int)]=bytesV [UInt8.ofNat N] by
      simp only [bytesV,byteV,List.map_cons,List.map_nil,UInt8.toNat_ofNat'];rw [Nat.mod_eq_of_lt (by omega)])
     have HLT:=zY hlt2;have hj9:(j:Int)≤200000:=by have:=HIJ.out; omega
     clear hrd hlp hle hN hnl hlt2;go_wp2_with fail;refine qaa (CN.out _) ?_;rintro e w_2 ⟨rfl,rfl⟩;go_wp2_with (refine qaP (ys:=[.int .u8 (N:Int)]) sl_u87 rfl rfl HOB.out rfl rfl rfl rfl (by simp [Value.oneCell']) (by unfold maxLen; omega) (by omega) HE4.out.low.size ?_; intro A5 c5 w5 ho hg hn5);have HO5:=zY (show OwnR w5 w.heap.size 5 1 A5 c5 (j+1) (bytesV (grp8 (j+1) L)) by rw [HGS.out,qaD,← HQV.out]; exact ho);have HE5:=zY (show En w L (some ad) c1 w5 from ⟨HE4.out.low.grown hg HE4.out.low.size (fun k hk=>(HOB.out.lt k hk).1),HE4.out.row.keep (qbr HOB.out.x hg) (by decide)⟩);clear ho hg hn5;exact ⟨⟨j+1,8*(j+1),A5,c5,HLT.out,rfl,by rw [show ((8*(j+1):Nat):Int)=(I:Int)+8 by have:=HIJ.out; omega],rfl,HO5.out,HE5.out⟩,by have:=HLT.out; have:=HF.out; have:=HIJ.out; simp [intOf]; omega⟩
    ·obtain rfl:j=F:=by omega
     have hIz:¬ (I:Int)+8≤(m:Int):=by have:=HF.out; have:=HIJ.out; omega
     have hIm:(I:Int)≤600000:=by have:=HF.out; have:=HIJ.out; omega
     have HRO:=zY (show Rd wr wr.heap.size A2 (bytesV (outB s)) by rw [← HOUT.out]; exact HOB.out.row.rd)
     have hjl:j=(outB s).length:=by
      have h:=HOB.out.1;rw [HOUT.out,qan] at h;omega
     have HJL:=zY hjl;have HCP:=zY HOB.out.cap;have CE:=zY (qdy (outB s) (by have:=HF.out; omega) A2 c2 wr HRO.out);rw [← hjl] at CE;clear hjl;go_wp2_with fail;refine qaa CE.out ?_;rintro e w6 ⟨rfl,hb6⟩;have HB6:=zY (HE4.out.low.trans (hb6.mono HE4.out.low.size));have HR6:=zY ((HRO.out.below hb6).mono hb6.size);clear hb6
     by_cases heq:enc (outB s)=s
     ·have hqq:((bs (enc (outB s))).toList == S.toList)=true:=by rw [HS.out,heq]; simp
      have HD:=zY (show dec s=some (outB s) by rw [dec_out,if_pos heq]);clear heq;go_wp2_with fail;go_ret2;rw [HD.out];refine ⟨A2,c2,?_,?_,HR6.out,HB6.out⟩
      ·show Ending.returned (.tuple #[.slice A2 j c2,.bool true])=Ending.returned (.tuple #[.slice A2 (outB s).length c2,.bool true]);rw [← HJL.out]
      ·show (outB s).length≤c2;have:=HCP.out;have:=HJL.out;omega
     ·have hqq:((bs (enc (outB s))).toList == S.toList)=false:=by
       rw [HS.out,qbl,qbl]
       simpa using heq
      have HD:=zY (show dec s=none by rw [dec_out,if_neg heq]);clear heq;go_wp2_with fail;go_ret2;exact DcPost.none HD.out HB6.out
def encT (m V:Nat) (r:Bs):Bs :=
 if 12≤m then ltr (V/2^(m - 6)) :: ltr (V%2^(m - 6)/2^(m - 12)) :: encS (m - 12) (V%2^(m - 6)%2^(m - 12)) r
 else if 6≤m then ltr (V/2^(m - 6)) :: encS (m - 6) (V%2^(m - 6)) r
 else encS m V r
theorem encS_step {m w:Nat} {c:UInt8} {r:Bs} (hm:m=0∨m=2∨m=4):encS m w (c :: r)=encT (m+8) (w*256+c.toNat) r:=by
 rcases hm with rfl | rfl | rfl <;> rfl
theorem bldT_ok:BT 66:=⟨by kernel_rfl,by decide⟩
def b64B:ByteArray:=⟨#[65,66,67,68,69,70,71,72,73,74,75,76,77,78,79,80,81,82,83,84,85,86,87,88,89,90,97,98,99,100,101,102,103,104,105,106,107,108,109,110,111,112,113,114,115,116,117,118,119,120,121,122,48,49,50,51,52,53,54,55,56,57,45,95]⟩
theorem b64B_at:∀ z:Fin 64,b64B[z.1]'(by have:=z.2; exact this)=ltr z.1:=by decide +kernel
theorem ltr_at (z:Nat) (h:z<64):Value.int .u8 (((b64B[z]'h).toNat:Nat):Int)=byteV (ltr z):=by
 rw [b64B_at ⟨z,h⟩];rfl
theorem or_low:∀ (a:Fin 16) (x:Fin 256),bits .or .i64 ((a.1*256:Nat):Int) ((x.1:Nat):Int)=((a.1*256+x.1:Nat):Int):=by decide +kernel
theorem and_63:∀ (a b:Fin 64),bits .and .i64 ((a.1*64+b.1:Nat):Int) 63=((b.1:Nat):Int):=by decide +kernel
theorem and_low2 {m V:Nat} (hm:m=6∨m=8∨m=10∨m=12) (hV:V<2^m):bits .and .i64 (V:Int) (((2^(m - 6):Nat):Int) - 1)=((V%2^(m - 6):Nat):Int):=by
 have k1:∀ a:Fin 64,bits .and .i64 ((a.1:Nat):Int) 0=0:=by decide +kernel
 have k4:∀ (a:Fin 64) (b:Fin 4),bits .and .i64 ((a.1*4+b.1:Nat):Int) 3=((b.1:Nat):Int):=by decide +kernel
 have k16:∀ (a:Fin 64) (b:Fin 16),bits .and .i64 ((a.1*16+b.1:Nat):Int) 15=((b.1:Nat):Int):=by decide +kernel
 rcases hm with rfl | rfl | rfl | rfl
 ·have h:=k1 ⟨V,by simpa using hV⟩
  simpa [Nat.mod_one] using h
 ·have h:=k4 ⟨V/4,by simp at hV; omega⟩ ⟨V%4,Nat.mod_lt _ (by omega)⟩;rw [show V/4*4+V%4=V by omega] at h
  simpa using h
 ·have h:=k16 ⟨V/16,by simp at hV; omega⟩ ⟨V%16,Nat.mod_lt _ (by omega)⟩;rw [show V/16*16+V%16=V by omega] at h
  simpa using h
 ·have h:=and_63 ⟨V/64,by simp at hV; omega⟩ ⟨V%64,Nat.mod_lt _ (by omega)⟩;rw [show V/64*64+V%64=V by omega] at h
  simpa using h
theorem encT_step {m V:Nat} {r:Bs} (hm:m=6∨m=8∨m=10∨m=12):encT m V r=ltr (V/2^(m - 6)) :: encT (m - 6) (V%2^(m - 6)) r:=by
 rcases hm with rfl | rfl | rfl | rfl <;> rfl
theorem encT_low {m V:Nat} {r:Bs} (hm:m<6):encT m V r=encS m V r:=by
 unfold encT;rw [if_neg (by omega),if_neg (by omega)]
theorem enc_ne {b:Bs} (h:0<b.length):enc b≠[]:=by
 cases b with
 | nil=>simp at h
 | cons c r=>unfold enc encS; simp
theorem pow_small {m:Nat} (hm:m=6∨m=8∨m=10∨m=12):2^(m - 6)≤64:=by
 rcases hm with rfl | rfl | rfl | rfl <;> decide
theorem encode_any (b:Bs) (hl:b.length≤1000) (hb0:0<b.length) (A:Option Addr) (c:Nat) (w:World) (hr:Rd w w.heap.size A (bytesV b)) (hc:b.length≤c) :
  Calls Tryz.prog 33 #[.slice A b.length c] w fun e w'=>e=.returned (.string (bs (enc b)))∧Below w.heap.size w w':=by
 obtain ⟨n,hn⟩:=eX (b.length);obtain ⟨W0,hW0⟩:=eX (w.alloc (.cells #[.pointer none,.slice none 0 0] 66));have HB0:=zY (show Below w.heap.size w W0 by rw [hW0]; exact (Below.refl _ w).alloc (Nat.le_refl _) _);have HI0:=zY (show IsB W0 w.heap.size 66 w.heap.size [] by rw [hW0]; exact IsB.new _ _ (Nat.le_refl _));have HK0:=zY (BK.refl w.heap.size w.heap.size W0);have HW0:=zY hW0;have HR:=zY (hr.below HB0.out);have HN:=zY hn;have hn1:(n:Int)≤1000:=by omega
 rw [← hn];have HNE:=zY (enc_ne hb0);clear hW0 hr hn hl hc hb0;go_enter Tryz.func33,Tryz.ntmps33
 go_upto_region 2 with (fail)
 rw [← HW0.out];go_wp2_with fail
 go_loopw [4,5,10] (fun x y z wr=>∃ (k wv m:Nat) (L:Bs),k≤n∧z=.int .i64 (k:Int)∧x=.int .i64 (wv:Int)∧y=.int .i64 (m:Int)∧(m=0∨m=2∨m=4)∧wv<2^m∧L++encS m wv (b.drop k)=enc b∧6*L.length+m=8*k ∧
  IsB wr w.heap.size 66 w.heap.size L∧BK w.heap.size w.heap.size W0 wr) (fun _ _ z _=>n - (intOf z).toNat)
 case atStart=>exact ⟨0,0,0,[],Nat.zero_le _,rfl,rfl,rfl,.inl rfl,by simp,by simp [enc],rfl,HI0.out,HK0.out⟩
 case round =>
  obtain ⟨k,wv,m,L,hk,rfl,rfl,rfl,hm,hwv,henc,hL,hib,hbk⟩:=hrel
  by_cases hlt:k<n
  ·have hlt':(k:Int)<(n:Int):=by omega
   have hkl:k<b.length:=by rw [← HN.out]; exact hlt
   have HIB:=zY hib;have HBK:=zY hbk;have HEN:=zY henc;have HM:=zY hm;have HWV:=zY hwv;have HL:=zY hL;have hbw:Below w.heap.size W0 wr:=hbk.below;obtain ⟨ad,hA,had,hcell⟩:=(HR.out.below hbw).at_ (k:=k) (by rw [qan]; exact hkl);subst hA;obtain ⟨x,hx⟩:=eX ((b[k]'hkl).toNat)
   have hbv:(bytesV b)[k]'(by rw [qan]; exact hkl)=.int .u8 (x:Int):=by
    rw [hx]; simp [bytesV,byteV]
   rw [hbv] at hcell;clear hbv hib hbk henc hm hwv hbw;have hm4:(m:Int)≤4:=by rcases HM.out with h | h | h <;> omega
   have hw16:wv<16:=Nat.lt_of_lt_of_le HWV.out (by rcases HM.out with h | h | h <;> subst h <;> decide);have hxl:x<256:=by rw [hx]; exact UInt8.toNat_lt _
   have hor:bits .or .i64 ((wv:Int)*256) (x:Int)=((wv*256+x:Nat):Int):=by have:=or_low ⟨wv,hw16⟩ ⟨x,hxl⟩; simpa using this
   have hwz:(wv:Int)<16:=by omega
   have hxz:(x:Int)<256:=by omega
   obtain ⟨V,hV⟩:=eX (wv*256+x);rw [← hV] at hor
   have HT:=zY (show L++encT (m+8) V (b.drop (k+1))=enc b by
    have h:=HEN.out;rw [List.drop_eq_getElem_cons hkl,encS_step HM.out,← hx,← hV] at h;exact h)
   have HVL:=zY (show V<2^(m+8) by
    have h1:=HWV.out;rw [hV,Nat.pow_add];have:(2:Nat)^8=256:=rfl;rw [this];have:(wv+1)*256≤2^m*256:=Nat.mul_le_mul_right _ h1
    omega)
   clear hx hV;have hcell':wr.cell? (ad.add k)=some (.int .u8 (x:Int)):=hcell;clear hcell
   go_upto_region 7 with (fail)
   go_loopw [4,5] (fun x y wr2=>∃ (V2 m2:Nat) (L2:Bs),x=.int .i64 (V2:Int)∧y=.int .i64 (m2:Int)∧(m2=0∨m2=2∨m2=4∨m2=6∨m2=8∨m2=10∨m2=12)∧V2<2^m2∧L2++encT m2 V2 (b.drop (k+1))=enc b∧6*L2.length+m2=8*(k+1) ∧
    IsB wr2 w.heap.size 66 w.heap.size L2∧BK w.heap.size w.heap.size W0 wr2) (fun _ y _=>(intOf y).toNat)
   case atStart=>exact ⟨V,m+8,L,rfl,by go_num,by rcases HM.out with h | h | h <;> omega,HVL.out,HT.out,by have:=HL.out; omega,HIB.out,HBK.out⟩
   case round =>
    obtain ⟨V2,m2,L2,rfl,rfl,hm2,hV2,hT2,hL2,hib2,hbk2⟩:=hrel
    by_cases h6:6≤m2
    ·have h6':(6:Int)≤(m2:Int):=by omega
     have hm2':m2=6∨m2=8∨m2=10∨m2=12:=by omega
     obtain ⟨P,hP⟩:=eX (2^(m2 - 6));have hPi:(2:Int)^(m2 - 6)=(P:Int):=by rw [hP]; simp
     have hP1:1≤P:=by rw [hP]; exact Nat.pow_pos (by omega)
     have hP64:P≤64:=by rw [hP]; exact pow_small hm2'
     have hst:=encT_step (V:=V2) (r:=b.drop (k+1)) hm2';have hlow:=and_low2 hm2' hV2;obtain ⟨z,hz⟩:=eX (V2/2^(m2 - 6));obtain ⟨y,hy⟩:=eX (V2%2^(m2 - 6));have hyl:y<2^(m2 - 6):=by rw [hy]; exact Nat.mod_lt _ (Nat.pow_pos (by omega))
     have hz64:z<64:=by
      rw [hz,Nat.div_lt_iff_lt_mul (Nat.pow_pos (by omega))];have:(2:Nat)^6*2^(m2 - 6)=2^m2:=by rw [← Nat.pow_add]; congr 1; omega
      have h64:(2:Nat)^6=64:=rfl;omega
     rw [← hz,← hy] at hst;rw [← hy,← hP] at hlow;have hzi:((V2:Int)/(P:Int))=(z:Int):=by rw [hz,hP]; simp
     have hand:bits .and .i64 (z:Int) 63=(z:Int):=by
      have:=and_63 0 ⟨z,hz64⟩
      simpa using this
     have hz1:(z:Int)<64:=by omega
     have hpl:(P:Int)≤64:=by omega
     have hp1:1≤(P:Int):=by omega
     have hm12:(m2:Int)≤12:=by omega
     have HT2:=zY (show (L2++[ltr z])++encT (m2 - 6) y (b.drop (k+1))=enc b by rw [List.append_assoc]; rw [hst] at hT2; exact hT2);have HYL:=zY hyl;have HM6:=zY hm2';have HL2:=zY hL2;clear hst hy hyl hP hm2 hm2' hT2 hL2 hV2 hP1 hP64;have HZ:=zY hz;clear hz;have HIB2:=zY hib2;have HBK2:=zY hbk2;go_wp2_with fail;have hls:L2.length+1≤140737488355328:=by have:=HL2.out; omega
     have hq:=qcj bldT_ok _ _ L2 (ltr z) _ HIB2.out hls;rw [← ltr_at z hz64] at hq;refine qaa hq ?_;rintro e w3 ⟨rfl,hib3,hbk3⟩;have HIB3:=zY hib3;have HBK3:=zY (HBK2.out.trans hbk3);clear hib3 hbk3 hq
     go_upto_region 10 with (fail)
     go_wp2_with fail;have h6n:=HM6.out;have hlen:=HL2.out;exact ⟨⟨y,m2 - 6,L2++[ltr z],rfl,by rw [show ((m2 - 6:Nat):Int)=(m2:Int) - 6 by omega],by omega,HYL.out,HT2.out,by rw [List.length_append]; simp; omega,HIB3.out,HBK3.out⟩,by simp only [intOf]; omega⟩
    ·have h6':¬ (6:Int)≤(m2:Int):=by omega
     have HM6:=zY (show m2=0∨m2=2∨m2=4 by omega);have HT2:=zY (show L2++encS m2 V2 (b.drop (k+1))=enc b by rw [← encT_low (by omega)]; exact hT2);have HL2:=zY hL2;have HV2:=zY hV2;have HIB2:=zY hib2;have HBK2:=zY hbk2;have HLT:=zY hlt;clear hm2 hV2 hT2 hL2 hib2 hbk2 h6;go_wp2_with fail;exact ⟨⟨k+1,V2,m2,L2,HLT.out,by go_num,rfl,rfl,HM6.out,HV2.out,HT2.out,HL2.out,HIB2.out,HBK2.out⟩,by have:=HLT.out; simp [intOf]; omega⟩
  ·obtain rfl:k=n:=by omega
   rw [List.drop_of_length_le (by rw [← HN.out]; exact Nat.le_refl _)] at henc
   by_cases h0:m=0
   ·subst h0;have HE:=zY (show L=enc b by rw [← henc]; simp [encS]);have hLne:L≠[]:=by rw [HE.out]; exact HNE.out
    have HS:=zY (qcZ _ _ L wr hib hLne);have HBK:=zY hbk;clear hib hbk henc hm hwv hL hLne;go_wp2_with fail;refine qaa HS.out ?_;rintro e w4 ⟨rfl,hb4⟩;have HB4:=zY hb4;clear hb4;go_wp2_with fail;go_ret;exact ⟨by rw [HE.out]; rfl,HB0.out.trans ((HBK.out.below).trans HB4.out)⟩
   ·have hm':m=2∨m=4:=by omega
    obtain ⟨z,hz⟩:=eX (wv*2^(6 - m));have hz64:z<64:=by rw [hz]; exact ltA (by omega) hwv
    have HE:=zY (show L++[ltr z]=enc b by rw [← henc,encS,if_neg h0,hz]);have hzi:(wv:Int)*2^(6 - m)=(z:Int):=by rw [hz]; simp
    have hz1:(z:Int)<64:=by omega
    have hm0:0<(m:Int):=by omega
    have hm6:(m:Int)≤4:=by omega
    have HIB:=zY hib;have HBK:=zY hbk;have HL:=zY hL;clear hib hbk henc hm hm' hwv hL hz
    go_upto_region 13 with (fail)
    go_wp2_with fail;have hq:=qcj bldT_ok _ _ L (ltr z) _ HIB.out (by have:=HL.out; omega);rw [← ltr_at z hz64] at hq;refine qaa hq ?_;rintro e w3 ⟨rfl,hib3,hbk3⟩;have HBK3:=zY (HBK.out.trans hbk3);have hLne:L++[ltr z]≠[]:=by simp
    have HS:=zY (qcZ _ _ (L++[ltr z]) w3 hib3 hLne);clear hib3 hbk3 hq hLne
    go_upto_region 14 with (fail)
    go_wp2_with fail;refine qaa HS.out ?_;rintro e w4 ⟨rfl,hb4⟩;have HB4:=zY hb4;clear hb4;go_wp2_with fail;go_ret;exact ⟨by rw [HE.out]; rfl,HB0.out.trans ((HBK3.out.below).trans HB4.out)⟩
end Go.Proofs.YtlkikjeccamheaaGreatDoor.Js
